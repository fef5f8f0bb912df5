/-
  No cell of these rows narrows 'for every input' (looked for: loops, veiled, ifaces, maps, wideKeys, modest, calm, conditions, laid).
  DERIVED. THE GIVEN ROWS OF THIS SEAT. 4 by the template 'for every input the law returns true; each argument reads behind the call as it read before'; 0 by the template 'total and deterministic' (their statements: YtfhdgaecclfccaaTotals.lean).
  GIVEN WITH THE SEED: the statements are not yours to turn. If you find one false, say at which input.
  Laid BY PROGRAM, IN A SANDBOX (cutbox-rows.mjs): the forced cells as the released guide's own fill.sh prints them over the translation da92dfc3c575ab49… (all of the seat's roots in one cut). By AI agents, Wed Nov 11 2026. No macro, syntax, notation, axiom, sorry.
-/
import Derived.Test.YtfhdgaecclfccaaChecked
import GoSem.Claim
import GoSem.ClaimJoined
import GoSem.ClaimMapViews
import Derived.JoinedTies
import Derived.KernelRfl
namespace Go.Proofs.Ytfhdgaecclfccaa
/- THE CELL 'sum', in the pinned program and in every row, IS THE sha256 OF THE DUMP (.gsa) THAT YtfhdgaecclfccaaProg.lean LOADS. Nothing in Lean hashes anything: it is a label: what it is worth is what the hold of that sum in a sandbox is worth. -/
noncomputable def Try.pinned : Pinned := { name := "ytfhdgaecclfccaa", sum := "da92dfc3c575ab49f20e47ba8501e8181cf3e2b802a3fa4a7d62003ec02bf98d", checked := Try.checked }
namespace Rows
def none {H : Type} : Left H := { results := [], args := [] }

/-- 'chargenetlaw26.MessageValid': WHATEVER THE INPUT: true; the input reads as it did. -/
def messageValidSpec : ChangeSpec := { name := "messageValid", fn := fun _ => fun
  | [d] => { results := [.lit (.bool true)], args := [d] }
  | _ => none }
def messageValidRow : OpenClaim := { program := "ytfhdgaecclfccaa", sum := "da92dfc3c575ab49f20e47ba8501e8181cf3e2b802a3fa4a7d62003ec02bf98d", func := "chargenet/chargenetlaw26.MessageValid", spec := "messageValid", inPlace := ["internal/bytealg.IndexByte"], unfollowed := true, recurses := true, apart := false }
def MessageValidSaid : Prop := messageValidRow.holds Try.pinned (OpenSpec.ofChange messageValidSpec)

/-- ITS FALSE NEIGHBOUR: 'it returns false'. Refute it at one input. -/
def messageValidWrong : ChangeSpec := { name := "messageValid", fn := fun _ => fun
  | [d] => { results := [.lit (.bool false)], args := [d] }
  | _ => none }
def MessageValidWrongFalsely : Prop := messageValidRow.holds Try.pinned (OpenSpec.ofChange messageValidWrong)

/-- 'chargenetlaw26.MessageResults': WHATEVER THE INPUT: true; the input reads as it did. -/
def messageResultsSpec : ChangeSpec := { name := "messageResults", fn := fun _ => fun
  | [d1, d2] => { results := [.lit (.bool true)], args := [d1, d2] }
  | _ => none }
def messageResultsRow : OpenClaim := { program := "ytfhdgaecclfccaa", sum := "da92dfc3c575ab49f20e47ba8501e8181cf3e2b802a3fa4a7d62003ec02bf98d", func := "chargenet/chargenetlaw26.MessageResults", spec := "messageResults", inPlace := ["internal/bytealg.IndexByte"], unfollowed := true, recurses := true, apart := false }
def MessageResultsSaid : Prop := messageResultsRow.holds Try.pinned (OpenSpec.ofChange messageResultsSpec)

/-- ITS FALSE NEIGHBOUR: 'it returns false'. Refute it at one input. -/
def messageResultsWrong : ChangeSpec := { name := "messageResults", fn := fun _ => fun
  | [d1, d2] => { results := [.lit (.bool false)], args := [d1, d2] }
  | _ => none }
def MessageResultsWrongFalsely : Prop := messageResultsRow.holds Try.pinned (OpenSpec.ofChange messageResultsWrong)

/-- 'chargenetlaw26.MessageSame': WHATEVER THE INPUT: true; the input reads as it did. -/
def messageSameSpec : ChangeSpec := { name := "messageSame", fn := fun _ => fun
  | [d1, d2] => { results := [.lit (.bool true)], args := [d1, d2] }
  | _ => none }
def messageSameRow : OpenClaim := { program := "ytfhdgaecclfccaa", sum := "da92dfc3c575ab49f20e47ba8501e8181cf3e2b802a3fa4a7d62003ec02bf98d", func := "chargenet/chargenetlaw26.MessageSame", spec := "messageSame", inPlace := ["internal/bytealg.IndexByte"], unfollowed := true, recurses := true, apart := false }
def MessageSameSaid : Prop := messageSameRow.holds Try.pinned (OpenSpec.ofChange messageSameSpec)

/-- ITS FALSE NEIGHBOUR: 'it returns false'. Refute it at one input. -/
def messageSameWrong : ChangeSpec := { name := "messageSame", fn := fun _ => fun
  | [d1, d2] => { results := [.lit (.bool false)], args := [d1, d2] }
  | _ => none }
def MessageSameWrongFalsely : Prop := messageSameRow.holds Try.pinned (OpenSpec.ofChange messageSameWrong)

/-- 'chargenetlaw26.MessageApart': WHATEVER THE INPUT: true; the input reads as it did. -/
def messageApartSpec : ChangeSpec := { name := "messageApart", fn := fun _ => fun
  | [d1, d2, d3] => { results := [.lit (.bool true)], args := [d1, d2, d3] }
  | _ => none }
def messageApartRow : OpenClaim := { program := "ytfhdgaecclfccaa", sum := "da92dfc3c575ab49f20e47ba8501e8181cf3e2b802a3fa4a7d62003ec02bf98d", func := "chargenet/chargenetlaw26.MessageApart", spec := "messageApart", inPlace := ["internal/bytealg.IndexByte"], unfollowed := true, recurses := true, apart := false }
def MessageApartSaid : Prop := messageApartRow.holds Try.pinned (OpenSpec.ofChange messageApartSpec)

/-- ITS FALSE NEIGHBOUR: 'it returns false'. Refute it at one input. -/
def messageApartWrong : ChangeSpec := { name := "messageApart", fn := fun _ => fun
  | [d1, d2, d3] => { results := [.lit (.bool false)], args := [d1, d2, d3] }
  | _ => none }
def MessageApartWrongFalsely : Prop := messageApartRow.holds Try.pinned (OpenSpec.ofChange messageApartWrong)

/- THE SECOND FORM. 'bulk': how many values and letters a reading holds, each counted each time it is reached (what is shared counts as often as it is met; a slice's spare places count too). A statement '..UptoSaid' is the law's where the arguments, and the package variables that the reading takes, are together of bulk at most 1048576: NARROWER than '..Said'. Prove '..Said' where nothing that the law and all that it calls make is longer than what came in: it says more and counts as full. Else prove '..UptoSaid'. A law counts once. -/
mutual
def uptoBulk {H : Type} : DataW H → Nat
  | .lit (.string bytes) => bytes.length + 1
  | .lit _ => 1
  | .nil => 1
  | .ptr d => uptoBulk d + 1
  | .slice elems spare => uptoBulkAll elems + uptoBulkAll spare + 1
  | .agg parts => uptoBulkAll parts + 1
  | .iface _ d => uptoBulk d + 1
  | .map entries => uptoBulkEntries entries + 1
  | .held _ => 1
def uptoBulkAll {H : Type} : List (DataW H) → Nat
  | [] => 0
  | d :: r => uptoBulk d + uptoBulkAll r
def uptoBulkEntries {H : Type} : List (Lit × DataW H) → Nat
  | [] => 0
  | x :: r => uptoBulkEntry x + uptoBulkEntries r
def uptoBulkEntry {H : Type} : Lit × DataW H → Nat
  | (.string bytes, d) => bytes.length + uptoBulk d + 1
  | (_, d) => uptoBulk d + 1
 end
def uptoSmall : (H : Type) → List (DataW H) → Bool := fun _ ds => decide (uptoBulkAll ds ≤ 1048576)
def OpenSpec.upto (s : _root_.Go.ChangeSpec) : _root_.Go.OpenSpec := { _root_.Go.OpenSpec.ofChange s with cond := some uptoSmall }

/-- 'chargenetlaw26.MessageValid', WHERE WHAT IT READS IS OF BULK AT MOST 1048576: true; the input reads as it did. -/
def messageValidUptoRow : OpenClaim := { program := "ytfhdgaecclfccaa", sum := "da92dfc3c575ab49f20e47ba8501e8181cf3e2b802a3fa4a7d62003ec02bf98d", func := "chargenet/chargenetlaw26.MessageValid", spec := "messageValid", inPlace := ["internal/bytealg.IndexByte"], unfollowed := true, recurses := true, apart := false, narrowed := true }
def MessageValidUptoSaid : Prop := messageValidUptoRow.holds Try.pinned (OpenSpec.upto messageValidSpec)

/-- 'chargenetlaw26.MessageResults', WHERE WHAT IT READS IS OF BULK AT MOST 1048576: true; the input reads as it did. -/
def messageResultsUptoRow : OpenClaim := { program := "ytfhdgaecclfccaa", sum := "da92dfc3c575ab49f20e47ba8501e8181cf3e2b802a3fa4a7d62003ec02bf98d", func := "chargenet/chargenetlaw26.MessageResults", spec := "messageResults", inPlace := ["internal/bytealg.IndexByte"], unfollowed := true, recurses := true, apart := false, narrowed := true }
def MessageResultsUptoSaid : Prop := messageResultsUptoRow.holds Try.pinned (OpenSpec.upto messageResultsSpec)

/-- 'chargenetlaw26.MessageSame', WHERE WHAT IT READS IS OF BULK AT MOST 1048576: true; the input reads as it did. -/
def messageSameUptoRow : OpenClaim := { program := "ytfhdgaecclfccaa", sum := "da92dfc3c575ab49f20e47ba8501e8181cf3e2b802a3fa4a7d62003ec02bf98d", func := "chargenet/chargenetlaw26.MessageSame", spec := "messageSame", inPlace := ["internal/bytealg.IndexByte"], unfollowed := true, recurses := true, apart := false, narrowed := true }
def MessageSameUptoSaid : Prop := messageSameUptoRow.holds Try.pinned (OpenSpec.upto messageSameSpec)

/-- 'chargenetlaw26.MessageApart', WHERE WHAT IT READS IS OF BULK AT MOST 1048576: true; the input reads as it did. -/
def messageApartUptoRow : OpenClaim := { program := "ytfhdgaecclfccaa", sum := "da92dfc3c575ab49f20e47ba8501e8181cf3e2b802a3fa4a7d62003ec02bf98d", func := "chargenet/chargenetlaw26.MessageApart", spec := "messageApart", inPlace := ["internal/bytealg.IndexByte"], unfollowed := true, recurses := true, apart := false, narrowed := true }
def MessageApartUptoSaid : Prop := messageApartUptoRow.holds Try.pinned (OpenSpec.upto messageApartSpec)

end Rows
end Go.Proofs.Ytfhdgaecclfccaa
