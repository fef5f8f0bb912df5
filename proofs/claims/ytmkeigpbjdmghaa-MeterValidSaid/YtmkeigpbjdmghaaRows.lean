/-
  No cell of these rows narrows 'for every input' (looked for: loops, veiled, ifaces, maps, wideKeys, modest, calm, conditions, laid).
  DERIVED. THE GIVEN ROWS OF THIS SEAT. 8 by the template 'for every input the law returns true; each argument reads behind the call as it read before'; 0 by the template 'total and deterministic' (their statements: YtmkeigpbjdmghaaTotals.lean).
  GIVEN WITH THE SEED: the statements are not yours to turn. If you find one false, say at which input.
  Laid BY PROGRAM, IN A SANDBOX (cutbox-rows.mjs): the forced cells as the released guide's own fill.sh prints them over the translation 2ffba80d9622a173… (all of the seat's roots in one cut). By AI agents, Wed Nov 11 2026. No macro, syntax, notation, axiom, sorry.
-/
import Derived.Test.YtmkeigpbjdmghaaChecked
import GoSem.Claim
import GoSem.ClaimJoined
import GoSem.ClaimMapViews
import Derived.JoinedTies
import Derived.KernelRfl
namespace Go.Proofs.Ytmkeigpbjdmghaa
/- THE CELL 'sum', in the pinned program and in every row, IS THE sha256 OF THE DUMP (.gsa) THAT YtmkeigpbjdmghaaProg.lean LOADS. Nothing in Lean hashes anything: it is a label: what it is worth is what the hold of that sum in a sandbox is worth. -/
noncomputable def Try.pinned : Pinned := { name := "ytmkeigpbjdmghaa", sum := "2ffba80d9622a1730c1424513c9d5605f9402f0f9d2230c7b73c846a65bf6f31", checked := Try.checked }
namespace Rows
def none {H : Type} : Left H := { results := [], args := [] }

/-- 'chargenetlaw19.MeterValid': WHATEVER THE INPUT: true; the input reads as it did. -/
def meterValidSpec : ChangeSpec := { name := "meterValid", fn := fun _ => fun
  | [d] => { results := [.lit (.bool true)], args := [d] }
  | _ => none }
def meterValidRow : OpenClaim := { program := "ytmkeigpbjdmghaa", sum := "2ffba80d9622a1730c1424513c9d5605f9402f0f9d2230c7b73c846a65bf6f31", func := "chargenet/chargenetlaw19.MeterValid", spec := "meterValid", apart := false }
def MeterValidSaid : Prop := meterValidRow.holds Try.pinned (OpenSpec.ofChange meterValidSpec)

/-- ITS FALSE NEIGHBOUR: 'it returns false'. Refute it at one input. -/
def meterValidWrong : ChangeSpec := { name := "meterValid", fn := fun _ => fun
  | [d] => { results := [.lit (.bool false)], args := [d] }
  | _ => none }
def MeterValidWrongFalsely : Prop := meterValidRow.holds Try.pinned (OpenSpec.ofChange meterValidWrong)

/-- 'chargenetlaw19.MeterCounts': WHATEVER THE INPUT: true; the input reads as it did. -/
def meterCountsSpec : ChangeSpec := { name := "meterCounts", fn := fun _ => fun
  | [d1, d2] => { results := [.lit (.bool true)], args := [d1, d2] }
  | _ => none }
def meterCountsRow : OpenClaim := { program := "ytmkeigpbjdmghaa", sum := "2ffba80d9622a1730c1424513c9d5605f9402f0f9d2230c7b73c846a65bf6f31", func := "chargenet/chargenetlaw19.MeterCounts", spec := "meterCounts", apart := false }
def MeterCountsSaid : Prop := meterCountsRow.holds Try.pinned (OpenSpec.ofChange meterCountsSpec)

/-- ITS FALSE NEIGHBOUR: 'it returns false'. Refute it at one input. -/
def meterCountsWrong : ChangeSpec := { name := "meterCounts", fn := fun _ => fun
  | [d1, d2] => { results := [.lit (.bool false)], args := [d1, d2] }
  | _ => none }
def MeterCountsWrongFalsely : Prop := meterCountsRow.holds Try.pinned (OpenSpec.ofChange meterCountsWrong)

/-- 'chargenetlaw19.MeterDeltas': WHATEVER THE INPUT: true; the input reads as it did. -/
def meterDeltasSpec : ChangeSpec := { name := "meterDeltas", fn := fun _ => fun
  | [d1, d2, d3] => { results := [.lit (.bool true)], args := [d1, d2, d3] }
  | _ => none }
def meterDeltasRow : OpenClaim := { program := "ytmkeigpbjdmghaa", sum := "2ffba80d9622a1730c1424513c9d5605f9402f0f9d2230c7b73c846a65bf6f31", func := "chargenet/chargenetlaw19.MeterDeltas", spec := "meterDeltas", apart := false }
def MeterDeltasSaid : Prop := meterDeltasRow.holds Try.pinned (OpenSpec.ofChange meterDeltasSpec)

/-- ITS FALSE NEIGHBOUR: 'it returns false'. Refute it at one input. -/
def meterDeltasWrong : ChangeSpec := { name := "meterDeltas", fn := fun _ => fun
  | [d1, d2, d3] => { results := [.lit (.bool false)], args := [d1, d2, d3] }
  | _ => none }
def MeterDeltasWrongFalsely : Prop := meterDeltasRow.holds Try.pinned (OpenSpec.ofChange meterDeltasWrong)

/-- 'chargenetlaw19.MeterBounds': WHATEVER THE INPUT: true; the input reads as it did. -/
def meterBoundsSpec : ChangeSpec := { name := "meterBounds", fn := fun _ => fun
  | [d1, d2] => { results := [.lit (.bool true)], args := [d1, d2] }
  | _ => none }
def meterBoundsRow : OpenClaim := { program := "ytmkeigpbjdmghaa", sum := "2ffba80d9622a1730c1424513c9d5605f9402f0f9d2230c7b73c846a65bf6f31", func := "chargenet/chargenetlaw19.MeterBounds", spec := "meterBounds", apart := false }
def MeterBoundsSaid : Prop := meterBoundsRow.holds Try.pinned (OpenSpec.ofChange meterBoundsSpec)

/-- ITS FALSE NEIGHBOUR: 'it returns false'. Refute it at one input. -/
def meterBoundsWrong : ChangeSpec := { name := "meterBounds", fn := fun _ => fun
  | [d1, d2] => { results := [.lit (.bool false)], args := [d1, d2] }
  | _ => none }
def MeterBoundsWrongFalsely : Prop := meterBoundsRow.holds Try.pinned (OpenSpec.ofChange meterBoundsWrong)

/-- 'chargenetlaw19.MeterWithin': WHATEVER THE INPUT: true; the input reads as it did. -/
def meterWithinSpec : ChangeSpec := { name := "meterWithin", fn := fun _ => fun
  | [d1, d2] => { results := [.lit (.bool true)], args := [d1, d2] }
  | _ => none }
def meterWithinRow : OpenClaim := { program := "ytmkeigpbjdmghaa", sum := "2ffba80d9622a1730c1424513c9d5605f9402f0f9d2230c7b73c846a65bf6f31", func := "chargenet/chargenetlaw19.MeterWithin", spec := "meterWithin", apart := false }
def MeterWithinSaid : Prop := meterWithinRow.holds Try.pinned (OpenSpec.ofChange meterWithinSpec)

/-- ITS FALSE NEIGHBOUR: 'it returns false'. Refute it at one input. -/
def meterWithinWrong : ChangeSpec := { name := "meterWithin", fn := fun _ => fun
  | [d1, d2] => { results := [.lit (.bool false)], args := [d1, d2] }
  | _ => none }
def MeterWithinWrongFalsely : Prop := meterWithinRow.holds Try.pinned (OpenSpec.ofChange meterWithinWrong)

/-- 'chargenetlaw19.MeterParts': WHATEVER THE INPUT: true; the input reads as it did. -/
def meterPartsSpec : ChangeSpec := { name := "meterParts", fn := fun _ => fun
  | [d1, d2, d3] => { results := [.lit (.bool true)], args := [d1, d2, d3] }
  | _ => none }
def meterPartsRow : OpenClaim := { program := "ytmkeigpbjdmghaa", sum := "2ffba80d9622a1730c1424513c9d5605f9402f0f9d2230c7b73c846a65bf6f31", func := "chargenet/chargenetlaw19.MeterParts", spec := "meterParts", apart := false }
def MeterPartsSaid : Prop := meterPartsRow.holds Try.pinned (OpenSpec.ofChange meterPartsSpec)

/-- ITS FALSE NEIGHBOUR: 'it returns false'. Refute it at one input. -/
def meterPartsWrong : ChangeSpec := { name := "meterParts", fn := fun _ => fun
  | [d1, d2, d3] => { results := [.lit (.bool false)], args := [d1, d2, d3] }
  | _ => none }
def MeterPartsWrongFalsely : Prop := meterPartsRow.holds Try.pinned (OpenSpec.ofChange meterPartsWrong)

/-- 'chargenetlaw19.MeterTurns': WHATEVER THE INPUT: true; the input reads as it did. -/
def meterTurnsSpec : ChangeSpec := { name := "meterTurns", fn := fun _ => fun
  | [d1, d2, d3] => { results := [.lit (.bool true)], args := [d1, d2, d3] }
  | _ => none }
def meterTurnsRow : OpenClaim := { program := "ytmkeigpbjdmghaa", sum := "2ffba80d9622a1730c1424513c9d5605f9402f0f9d2230c7b73c846a65bf6f31", func := "chargenet/chargenetlaw19.MeterTurns", spec := "meterTurns", apart := false }
def MeterTurnsSaid : Prop := meterTurnsRow.holds Try.pinned (OpenSpec.ofChange meterTurnsSpec)

/-- ITS FALSE NEIGHBOUR: 'it returns false'. Refute it at one input. -/
def meterTurnsWrong : ChangeSpec := { name := "meterTurns", fn := fun _ => fun
  | [d1, d2, d3] => { results := [.lit (.bool false)], args := [d1, d2, d3] }
  | _ => none }
def MeterTurnsWrongFalsely : Prop := meterTurnsRow.holds Try.pinned (OpenSpec.ofChange meterTurnsWrong)

/-- 'chargenettop.MetersBound': WHATEVER THE INPUT: true; the input reads as it did. -/
def metersBoundSpec : ChangeSpec := { name := "metersBound", fn := fun _ => fun
  | [d1, d2, d3] => { results := [.lit (.bool true)], args := [d1, d2, d3] }
  | _ => none }
def metersBoundRow : OpenClaim := { program := "ytmkeigpbjdmghaa", sum := "2ffba80d9622a1730c1424513c9d5605f9402f0f9d2230c7b73c846a65bf6f31", func := "chargenet/chargenettop.MetersBound", spec := "metersBound", unfollowed := true, recurses := true, apart := false }
def MetersBoundSaid : Prop := metersBoundRow.holds Try.pinned (OpenSpec.ofChange metersBoundSpec)

/-- ITS FALSE NEIGHBOUR: 'it returns false'. Refute it at one input. -/
def metersBoundWrong : ChangeSpec := { name := "metersBound", fn := fun _ => fun
  | [d1, d2, d3] => { results := [.lit (.bool false)], args := [d1, d2, d3] }
  | _ => none }
def MetersBoundWrongFalsely : Prop := metersBoundRow.holds Try.pinned (OpenSpec.ofChange metersBoundWrong)

/- THE SECOND FORM. 'bulk': how many values and letters a reading holds, each counted each time it is reached (what is shared counts as often as it is met; a slice's spare places count too). A statement '..UptoSaid' is the law's where the arguments, and the package variables that the reading takes, are together of bulk at most 1048576: NARROWER than '..Said'. Prove '..Said' where nothing that the law and all that it calls make is longer than what came in: it says more and counts as full. Else prove '..UptoSaid'. A law counts once. -/
mutual
def uptoBulk {H : Type} : DataW H → Nat
  | .lit (.string bytes) => bytes.length + 1
  | .lit _ => 1
  | .nil => 1
  | .ptr d => uptoBulk d + 1
  | .slice elems spare => uptoBulkAll elems + uptoBulkAll spare + 1
  | .agg parts => uptoBulkAll parts + 1
  | .iface _ d => uptoBulk d + 1
  | .map entries => uptoBulkEntries entries + 1
  | .held _ => 1
def uptoBulkAll {H : Type} : List (DataW H) → Nat
  | [] => 0
  | d :: r => uptoBulk d + uptoBulkAll r
def uptoBulkEntries {H : Type} : List (Lit × DataW H) → Nat
  | [] => 0
  | x :: r => uptoBulkEntry x + uptoBulkEntries r
def uptoBulkEntry {H : Type} : Lit × DataW H → Nat
  | (.string bytes, d) => bytes.length + uptoBulk d + 1
  | (_, d) => uptoBulk d + 1
 end
def uptoSmall : (H : Type) → List (DataW H) → Bool := fun _ ds => decide (uptoBulkAll ds ≤ 1048576)
def OpenSpec.upto (s : _root_.Go.ChangeSpec) : _root_.Go.OpenSpec := { _root_.Go.OpenSpec.ofChange s with cond := some uptoSmall }

/-- 'chargenetlaw19.MeterValid', WHERE WHAT IT READS IS OF BULK AT MOST 1048576: true; the input reads as it did. -/
def meterValidUptoRow : OpenClaim := { program := "ytmkeigpbjdmghaa", sum := "2ffba80d9622a1730c1424513c9d5605f9402f0f9d2230c7b73c846a65bf6f31", func := "chargenet/chargenetlaw19.MeterValid", spec := "meterValid", apart := false, narrowed := true }
def MeterValidUptoSaid : Prop := meterValidUptoRow.holds Try.pinned (OpenSpec.upto meterValidSpec)

/-- 'chargenetlaw19.MeterCounts', WHERE WHAT IT READS IS OF BULK AT MOST 1048576: true; the input reads as it did. -/
def meterCountsUptoRow : OpenClaim := { program := "ytmkeigpbjdmghaa", sum := "2ffba80d9622a1730c1424513c9d5605f9402f0f9d2230c7b73c846a65bf6f31", func := "chargenet/chargenetlaw19.MeterCounts", spec := "meterCounts", apart := false, narrowed := true }
def MeterCountsUptoSaid : Prop := meterCountsUptoRow.holds Try.pinned (OpenSpec.upto meterCountsSpec)

/-- 'chargenetlaw19.MeterDeltas', WHERE WHAT IT READS IS OF BULK AT MOST 1048576: true; the input reads as it did. -/
def meterDeltasUptoRow : OpenClaim := { program := "ytmkeigpbjdmghaa", sum := "2ffba80d9622a1730c1424513c9d5605f9402f0f9d2230c7b73c846a65bf6f31", func := "chargenet/chargenetlaw19.MeterDeltas", spec := "meterDeltas", apart := false, narrowed := true }
def MeterDeltasUptoSaid : Prop := meterDeltasUptoRow.holds Try.pinned (OpenSpec.upto meterDeltasSpec)

/-- 'chargenetlaw19.MeterBounds', WHERE WHAT IT READS IS OF BULK AT MOST 1048576: true; the input reads as it did. -/
def meterBoundsUptoRow : OpenClaim := { program := "ytmkeigpbjdmghaa", sum := "2ffba80d9622a1730c1424513c9d5605f9402f0f9d2230c7b73c846a65bf6f31", func := "chargenet/chargenetlaw19.MeterBounds", spec := "meterBounds", apart := false, narrowed := true }
def MeterBoundsUptoSaid : Prop := meterBoundsUptoRow.holds Try.pinned (OpenSpec.upto meterBoundsSpec)

/-- 'chargenetlaw19.MeterWithin', WHERE WHAT IT READS IS OF BULK AT MOST 1048576: true; the input reads as it did. -/
def meterWithinUptoRow : OpenClaim := { program := "ytmkeigpbjdmghaa", sum := "2ffba80d9622a1730c1424513c9d5605f9402f0f9d2230c7b73c846a65bf6f31", func := "chargenet/chargenetlaw19.MeterWithin", spec := "meterWithin", apart := false, narrowed := true }
def MeterWithinUptoSaid : Prop := meterWithinUptoRow.holds Try.pinned (OpenSpec.upto meterWithinSpec)

/-- 'chargenetlaw19.MeterParts', WHERE WHAT IT READS IS OF BULK AT MOST 1048576: true; the input reads as it did. -/
def meterPartsUptoRow : OpenClaim := { program := "ytmkeigpbjdmghaa", sum := "2ffba80d9622a1730c1424513c9d5605f9402f0f9d2230c7b73c846a65bf6f31", func := "chargenet/chargenetlaw19.MeterParts", spec := "meterParts", apart := false, narrowed := true }
def MeterPartsUptoSaid : Prop := meterPartsUptoRow.holds Try.pinned (OpenSpec.upto meterPartsSpec)

/-- 'chargenetlaw19.MeterTurns', WHERE WHAT IT READS IS OF BULK AT MOST 1048576: true; the input reads as it did. -/
def meterTurnsUptoRow : OpenClaim := { program := "ytmkeigpbjdmghaa", sum := "2ffba80d9622a1730c1424513c9d5605f9402f0f9d2230c7b73c846a65bf6f31", func := "chargenet/chargenetlaw19.MeterTurns", spec := "meterTurns", apart := false, narrowed := true }
def MeterTurnsUptoSaid : Prop := meterTurnsUptoRow.holds Try.pinned (OpenSpec.upto meterTurnsSpec)

/-- 'chargenettop.MetersBound', WHERE WHAT IT READS IS OF BULK AT MOST 1048576: true; the input reads as it did. -/
def metersBoundUptoRow : OpenClaim := { program := "ytmkeigpbjdmghaa", sum := "2ffba80d9622a1730c1424513c9d5605f9402f0f9d2230c7b73c846a65bf6f31", func := "chargenet/chargenettop.MetersBound", spec := "metersBound", unfollowed := true, recurses := true, apart := false, narrowed := true }
def MetersBoundUptoSaid : Prop := metersBoundUptoRow.holds Try.pinned (OpenSpec.upto metersBoundSpec)

end Rows
end Go.Proofs.Ytmkeigpbjdmghaa
