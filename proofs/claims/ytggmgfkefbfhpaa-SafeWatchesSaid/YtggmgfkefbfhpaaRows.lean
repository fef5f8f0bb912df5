/-
  No cell of these rows narrows 'for every input' (looked for: loops, veiled, ifaces, maps, wideKeys, modest, calm, conditions, laid).
  DERIVED. THE GIVEN ROWS OF THIS SEAT. 7 by the template 'for every input the law returns true; each argument reads behind the call as it read before'; 0 by the template 'total and deterministic' (their statements: YtggmgfkefbfhpaaTotals.lean).
  GIVEN WITH THE SEED: the statements are not yours to turn. If you find one false, say at which input.
  Laid BY PROGRAM, IN A SANDBOX (cutbox-rows.mjs): the forced cells as the released guide's own fill.sh prints them over the translation dc966359a0ecd6ba… (all of the seat's roots in one cut). By AI agents, Wed Nov 11 2026. No macro, syntax, notation, axiom, sorry.
-/
import Derived.Test.YtggmgfkefbfhpaaChecked
import GoSem.Claim
import GoSem.ClaimJoined
import GoSem.ClaimMapViews
import Derived.JoinedTies
import Derived.KernelRfl
namespace Go.Proofs.Ytggmgfkefbfhpaa
/- THE CELL 'sum', in the pinned program and in every row, IS THE sha256 OF THE DUMP (.gsa) THAT YtggmgfkefbfhpaaProg.lean LOADS. Nothing in Lean hashes anything: it is a label: what it is worth is what the hold of that sum in a sandbox is worth. -/
noncomputable def Try.pinned : Pinned := { name := "ytggmgfkefbfhpaa", sum := "dc966359a0ecd6ba2e26d45f3f0dd576de4ffcd8c8f8cce8553ec2cf35fcca29", checked := Try.checked }
namespace Rows
def none {H : Type} : Left H := { results := [], args := [] }

/-- 'chargenetlaw33.SafeValid': WHATEVER THE INPUT: true; the input reads as it did. -/
def safeValidSpec : ChangeSpec := { name := "safeValid", fn := fun _ => fun
  | [d] => { results := [.lit (.bool true)], args := [d] }
  | _ => none }
def safeValidRow : OpenClaim := { program := "ytggmgfkefbfhpaa", sum := "dc966359a0ecd6ba2e26d45f3f0dd576de4ffcd8c8f8cce8553ec2cf35fcca29", func := "chargenet/chargenetlaw33.SafeValid", spec := "safeValid", apart := false }
def SafeValidSaid : Prop := safeValidRow.holds Try.pinned (OpenSpec.ofChange safeValidSpec)

/-- ITS FALSE NEIGHBOUR: 'it returns false'. Refute it at one input. -/
def safeValidWrong : ChangeSpec := { name := "safeValid", fn := fun _ => fun
  | [d] => { results := [.lit (.bool false)], args := [d] }
  | _ => none }
def SafeValidWrongFalsely : Prop := safeValidRow.holds Try.pinned (OpenSpec.ofChange safeValidWrong)

/-- 'chargenetlaw33.SafeNew': WHATEVER THE INPUT: true; the input reads as it did. -/
def safeNewSpec : ChangeSpec := { name := "safeNew", fn := fun _ => fun
  | [d1, d2, d3] => { results := [.lit (.bool true)], args := [d1, d2, d3] }
  | _ => none }
def safeNewRow : OpenClaim := { program := "ytggmgfkefbfhpaa", sum := "dc966359a0ecd6ba2e26d45f3f0dd576de4ffcd8c8f8cce8553ec2cf35fcca29", func := "chargenet/chargenetlaw33.SafeNew", spec := "safeNew", apart := false }
def SafeNewSaid : Prop := safeNewRow.holds Try.pinned (OpenSpec.ofChange safeNewSpec)

/-- ITS FALSE NEIGHBOUR: 'it returns false'. Refute it at one input. -/
def safeNewWrong : ChangeSpec := { name := "safeNew", fn := fun _ => fun
  | [d1, d2, d3] => { results := [.lit (.bool false)], args := [d1, d2, d3] }
  | _ => none }
def SafeNewWrongFalsely : Prop := safeNewRow.holds Try.pinned (OpenSpec.ofChange safeNewWrong)

/-- 'chargenetlaw33.SafeContacts': WHATEVER THE INPUT: true; the input reads as it did. -/
def safeContactsSpec : ChangeSpec := { name := "safeContacts", fn := fun _ => fun
  | [d1, d2] => { results := [.lit (.bool true)], args := [d1, d2] }
  | _ => none }
def safeContactsRow : OpenClaim := { program := "ytggmgfkefbfhpaa", sum := "dc966359a0ecd6ba2e26d45f3f0dd576de4ffcd8c8f8cce8553ec2cf35fcca29", func := "chargenet/chargenetlaw33.SafeContacts", spec := "safeContacts", apart := false }
def SafeContactsSaid : Prop := safeContactsRow.holds Try.pinned (OpenSpec.ofChange safeContactsSpec)

/-- ITS FALSE NEIGHBOUR: 'it returns false'. Refute it at one input. -/
def safeContactsWrong : ChangeSpec := { name := "safeContacts", fn := fun _ => fun
  | [d1, d2] => { results := [.lit (.bool false)], args := [d1, d2] }
  | _ => none }
def SafeContactsWrongFalsely : Prop := safeContactsRow.holds Try.pinned (OpenSpec.ofChange safeContactsWrong)

/-- 'chargenetlaw33.SafeLimits': WHATEVER THE INPUT: true; the input reads as it did. -/
def safeLimitsSpec : ChangeSpec := { name := "safeLimits", fn := fun _ => fun
  | [d1, d2, d3] => { results := [.lit (.bool true)], args := [d1, d2, d3] }
  | _ => none }
def safeLimitsRow : OpenClaim := { program := "ytggmgfkefbfhpaa", sum := "dc966359a0ecd6ba2e26d45f3f0dd576de4ffcd8c8f8cce8553ec2cf35fcca29", func := "chargenet/chargenetlaw33.SafeLimits", spec := "safeLimits", apart := false }
def SafeLimitsSaid : Prop := safeLimitsRow.holds Try.pinned (OpenSpec.ofChange safeLimitsSpec)

/-- ITS FALSE NEIGHBOUR: 'it returns false'. Refute it at one input. -/
def safeLimitsWrong : ChangeSpec := { name := "safeLimits", fn := fun _ => fun
  | [d1, d2, d3] => { results := [.lit (.bool false)], args := [d1, d2, d3] }
  | _ => none }
def SafeLimitsWrongFalsely : Prop := safeLimitsRow.holds Try.pinned (OpenSpec.ofChange safeLimitsWrong)

/-- 'chargenetlaw33.SafeWatches': WHATEVER THE INPUT: true; the input reads as it did. -/
def safeWatchesSpec : ChangeSpec := { name := "safeWatches", fn := fun _ => fun
  | [d1, d2] => { results := [.lit (.bool true)], args := [d1, d2] }
  | _ => none }
def safeWatchesRow : OpenClaim := { program := "ytggmgfkefbfhpaa", sum := "dc966359a0ecd6ba2e26d45f3f0dd576de4ffcd8c8f8cce8553ec2cf35fcca29", func := "chargenet/chargenetlaw33.SafeWatches", spec := "safeWatches", apart := false }
def SafeWatchesSaid : Prop := safeWatchesRow.holds Try.pinned (OpenSpec.ofChange safeWatchesSpec)

/-- ITS FALSE NEIGHBOUR: 'it returns false'. Refute it at one input. -/
def safeWatchesWrong : ChangeSpec := { name := "safeWatches", fn := fun _ => fun
  | [d1, d2] => { results := [.lit (.bool false)], args := [d1, d2] }
  | _ => none }
def SafeWatchesWrongFalsely : Prop := safeWatchesRow.holds Try.pinned (OpenSpec.ofChange safeWatchesWrong)

/-- 'chargenetlaw33.SafeThird': WHATEVER THE INPUT: true; the input reads as it did. -/
def safeThirdSpec : ChangeSpec := { name := "safeThird", fn := fun _ => fun
  | [d] => { results := [.lit (.bool true)], args := [d] }
  | _ => none }
def safeThirdRow : OpenClaim := { program := "ytggmgfkefbfhpaa", sum := "dc966359a0ecd6ba2e26d45f3f0dd576de4ffcd8c8f8cce8553ec2cf35fcca29", func := "chargenet/chargenetlaw33.SafeThird", spec := "safeThird", apart := false }
def SafeThirdSaid : Prop := safeThirdRow.holds Try.pinned (OpenSpec.ofChange safeThirdSpec)

/-- ITS FALSE NEIGHBOUR: 'it returns false'. Refute it at one input. -/
def safeThirdWrong : ChangeSpec := { name := "safeThird", fn := fun _ => fun
  | [d] => { results := [.lit (.bool false)], args := [d] }
  | _ => none }
def SafeThirdWrongFalsely : Prop := safeThirdRow.holds Try.pinned (OpenSpec.ofChange safeThirdWrong)

/-- 'chargenetlaw33.SafeOthers': WHATEVER THE INPUT: true; the input reads as it did. -/
def safeOthersSpec : ChangeSpec := { name := "safeOthers", fn := fun _ => fun
  | [d1, d2, d3] => { results := [.lit (.bool true)], args := [d1, d2, d3] }
  | _ => none }
def safeOthersRow : OpenClaim := { program := "ytggmgfkefbfhpaa", sum := "dc966359a0ecd6ba2e26d45f3f0dd576de4ffcd8c8f8cce8553ec2cf35fcca29", func := "chargenet/chargenetlaw33.SafeOthers", spec := "safeOthers", apart := false }
def SafeOthersSaid : Prop := safeOthersRow.holds Try.pinned (OpenSpec.ofChange safeOthersSpec)

/-- ITS FALSE NEIGHBOUR: 'it returns false'. Refute it at one input. -/
def safeOthersWrong : ChangeSpec := { name := "safeOthers", fn := fun _ => fun
  | [d1, d2, d3] => { results := [.lit (.bool false)], args := [d1, d2, d3] }
  | _ => none }
def SafeOthersWrongFalsely : Prop := safeOthersRow.holds Try.pinned (OpenSpec.ofChange safeOthersWrong)

/- THE SECOND FORM. 'bulk': how many values and letters a reading holds, each counted each time it is reached (what is shared counts as often as it is met; a slice's spare places count too). A statement '..UptoSaid' is the law's where the arguments, and the package variables that the reading takes, are together of bulk at most 1048576: NARROWER than '..Said'. Prove '..Said' where nothing that the law and all that it calls make is longer than what came in: it says more and counts as full. Else prove '..UptoSaid'. A law counts once. -/
mutual
def uptoBulk {H : Type} : DataW H → Nat
  | .lit (.string bytes) => bytes.length + 1
  | .lit _ => 1
  | .nil => 1
  | .ptr d => uptoBulk d + 1
  | .slice elems spare => uptoBulkAll elems + uptoBulkAll spare + 1
  | .agg parts => uptoBulkAll parts + 1
  | .iface _ d => uptoBulk d + 1
  | .map entries => uptoBulkEntries entries + 1
  | .held _ => 1
def uptoBulkAll {H : Type} : List (DataW H) → Nat
  | [] => 0
  | d :: r => uptoBulk d + uptoBulkAll r
def uptoBulkEntries {H : Type} : List (Lit × DataW H) → Nat
  | [] => 0
  | x :: r => uptoBulkEntry x + uptoBulkEntries r
def uptoBulkEntry {H : Type} : Lit × DataW H → Nat
  | (.string bytes, d) => bytes.length + uptoBulk d + 1
  | (_, d) => uptoBulk d + 1
 end
def uptoSmall : (H : Type) → List (DataW H) → Bool := fun _ ds => decide (uptoBulkAll ds ≤ 1048576)
def OpenSpec.upto (s : _root_.Go.ChangeSpec) : _root_.Go.OpenSpec := { _root_.Go.OpenSpec.ofChange s with cond := some uptoSmall }

/-- 'chargenetlaw33.SafeValid', WHERE WHAT IT READS IS OF BULK AT MOST 1048576: true; the input reads as it did. -/
def safeValidUptoRow : OpenClaim := { program := "ytggmgfkefbfhpaa", sum := "dc966359a0ecd6ba2e26d45f3f0dd576de4ffcd8c8f8cce8553ec2cf35fcca29", func := "chargenet/chargenetlaw33.SafeValid", spec := "safeValid", apart := false, narrowed := true }
def SafeValidUptoSaid : Prop := safeValidUptoRow.holds Try.pinned (OpenSpec.upto safeValidSpec)

/-- 'chargenetlaw33.SafeNew', WHERE WHAT IT READS IS OF BULK AT MOST 1048576: true; the input reads as it did. -/
def safeNewUptoRow : OpenClaim := { program := "ytggmgfkefbfhpaa", sum := "dc966359a0ecd6ba2e26d45f3f0dd576de4ffcd8c8f8cce8553ec2cf35fcca29", func := "chargenet/chargenetlaw33.SafeNew", spec := "safeNew", apart := false, narrowed := true }
def SafeNewUptoSaid : Prop := safeNewUptoRow.holds Try.pinned (OpenSpec.upto safeNewSpec)

/-- 'chargenetlaw33.SafeContacts', WHERE WHAT IT READS IS OF BULK AT MOST 1048576: true; the input reads as it did. -/
def safeContactsUptoRow : OpenClaim := { program := "ytggmgfkefbfhpaa", sum := "dc966359a0ecd6ba2e26d45f3f0dd576de4ffcd8c8f8cce8553ec2cf35fcca29", func := "chargenet/chargenetlaw33.SafeContacts", spec := "safeContacts", apart := false, narrowed := true }
def SafeContactsUptoSaid : Prop := safeContactsUptoRow.holds Try.pinned (OpenSpec.upto safeContactsSpec)

/-- 'chargenetlaw33.SafeLimits', WHERE WHAT IT READS IS OF BULK AT MOST 1048576: true; the input reads as it did. -/
def safeLimitsUptoRow : OpenClaim := { program := "ytggmgfkefbfhpaa", sum := "dc966359a0ecd6ba2e26d45f3f0dd576de4ffcd8c8f8cce8553ec2cf35fcca29", func := "chargenet/chargenetlaw33.SafeLimits", spec := "safeLimits", apart := false, narrowed := true }
def SafeLimitsUptoSaid : Prop := safeLimitsUptoRow.holds Try.pinned (OpenSpec.upto safeLimitsSpec)

/-- 'chargenetlaw33.SafeWatches', WHERE WHAT IT READS IS OF BULK AT MOST 1048576: true; the input reads as it did. -/
def safeWatchesUptoRow : OpenClaim := { program := "ytggmgfkefbfhpaa", sum := "dc966359a0ecd6ba2e26d45f3f0dd576de4ffcd8c8f8cce8553ec2cf35fcca29", func := "chargenet/chargenetlaw33.SafeWatches", spec := "safeWatches", apart := false, narrowed := true }
def SafeWatchesUptoSaid : Prop := safeWatchesUptoRow.holds Try.pinned (OpenSpec.upto safeWatchesSpec)

/-- 'chargenetlaw33.SafeThird', WHERE WHAT IT READS IS OF BULK AT MOST 1048576: true; the input reads as it did. -/
def safeThirdUptoRow : OpenClaim := { program := "ytggmgfkefbfhpaa", sum := "dc966359a0ecd6ba2e26d45f3f0dd576de4ffcd8c8f8cce8553ec2cf35fcca29", func := "chargenet/chargenetlaw33.SafeThird", spec := "safeThird", apart := false, narrowed := true }
def SafeThirdUptoSaid : Prop := safeThirdUptoRow.holds Try.pinned (OpenSpec.upto safeThirdSpec)

/-- 'chargenetlaw33.SafeOthers', WHERE WHAT IT READS IS OF BULK AT MOST 1048576: true; the input reads as it did. -/
def safeOthersUptoRow : OpenClaim := { program := "ytggmgfkefbfhpaa", sum := "dc966359a0ecd6ba2e26d45f3f0dd576de4ffcd8c8f8cce8553ec2cf35fcca29", func := "chargenet/chargenetlaw33.SafeOthers", spec := "safeOthers", apart := false, narrowed := true }
def SafeOthersUptoSaid : Prop := safeOthersUptoRow.holds Try.pinned (OpenSpec.upto safeOthersSpec)

end Rows
end Go.Proofs.Ytggmgfkefbfhpaa
