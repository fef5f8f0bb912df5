/-
  No cell of these rows narrows 'for every input' (looked for: loops, veiled, ifaces, maps, wideKeys, modest, calm, conditions, laid).
  DERIVED. THE GIVEN ROWS OF THIS SEAT. 9 by the template 'for every input the law returns true; each argument reads behind the call as it read before'; 0 by the template 'total and deterministic' (their statements: YtfpmdfpnbegnhaaTotals.lean).
  GIVEN WITH THE SEED: the statements are not yours to turn. If you find one false, say at which input.
  Laid BY PROGRAM, IN A SANDBOX (cutbox-rows.mjs): the forced cells as the released guide's own fill.sh prints them over the translation 935d3f262afc6caa… (all of the seat's roots in one cut). By AI agents, Wed Nov 11 2026. No macro, syntax, notation, axiom, sorry.
-/
import Derived.Test.YtfpmdfpnbegnhaaChecked
import GoSem.Claim
import GoSem.ClaimJoined
import GoSem.ClaimMapViews
import Derived.JoinedTies
import Derived.KernelRfl
namespace Go.Proofs.Ytfpmdfpnbegnhaa
/- THE CELL 'sum', in the pinned program and in every row, IS THE sha256 OF THE DUMP (.gsa) THAT YtfpmdfpnbegnhaaProg.lean LOADS. Nothing in Lean hashes anything: it is a label: what it is worth is what the hold of that sum in a sandbox is worth. -/
noncomputable def Try.pinned : Pinned := { name := "ytfpmdfpnbegnhaa", sum := "935d3f262afc6caae8575de68d6a10a2fe0a59206493e8612251dc81f3b433fc", checked := Try.checked }
namespace Rows
def none {H : Type} : Left H := { results := [], args := [] }

/-- 'chargenetlaw06.FrameSums': WHATEVER THE INPUT: true; the input reads as it did. -/
def frameSumsSpec : ChangeSpec := { name := "frameSums", fn := fun _ => fun
  | [d1, d2, d3] => { results := [.lit (.bool true)], args := [d1, d2, d3] }
  | _ => none }
def frameSumsRow : OpenClaim := { program := "ytfpmdfpnbegnhaa", sum := "935d3f262afc6caae8575de68d6a10a2fe0a59206493e8612251dc81f3b433fc", func := "chargenet/chargenetlaw06.FrameSums", spec := "frameSums", inPlace := ["internal/bytealg.IndexByte"], apart := false }
def FrameSumsSaid : Prop := frameSumsRow.holds Try.pinned (OpenSpec.ofChange frameSumsSpec)

/-- ITS FALSE NEIGHBOUR: 'it returns false'. Refute it at one input. -/
def frameSumsWrong : ChangeSpec := { name := "frameSums", fn := fun _ => fun
  | [d1, d2, d3] => { results := [.lit (.bool false)], args := [d1, d2, d3] }
  | _ => none }
def FrameSumsWrongFalsely : Prop := frameSumsRow.holds Try.pinned (OpenSpec.ofChange frameSumsWrong)

/-- 'chargenetlaw06.FramePacks': WHATEVER THE INPUT: true; the input reads as it did. -/
def framePacksSpec : ChangeSpec := { name := "framePacks", fn := fun _ => fun
  | [d] => { results := [.lit (.bool true)], args := [d] }
  | _ => none }
def framePacksRow : OpenClaim := { program := "ytfpmdfpnbegnhaa", sum := "935d3f262afc6caae8575de68d6a10a2fe0a59206493e8612251dc81f3b433fc", func := "chargenet/chargenetlaw06.FramePacks", spec := "framePacks", inPlace := ["internal/bytealg.IndexByte"], apart := false }
def FramePacksSaid : Prop := framePacksRow.holds Try.pinned (OpenSpec.ofChange framePacksSpec)

/-- ITS FALSE NEIGHBOUR: 'it returns false'. Refute it at one input. -/
def framePacksWrong : ChangeSpec := { name := "framePacks", fn := fun _ => fun
  | [d] => { results := [.lit (.bool false)], args := [d] }
  | _ => none }
def FramePacksWrongFalsely : Prop := framePacksRow.holds Try.pinned (OpenSpec.ofChange framePacksWrong)

/-- 'chargenetlaw06.FrameUnpacks': WHATEVER THE INPUT: true; the input reads as it did. -/
def frameUnpacksSpec : ChangeSpec := { name := "frameUnpacks", fn := fun _ => fun
  | [d] => { results := [.lit (.bool true)], args := [d] }
  | _ => none }
def frameUnpacksRow : OpenClaim := { program := "ytfpmdfpnbegnhaa", sum := "935d3f262afc6caae8575de68d6a10a2fe0a59206493e8612251dc81f3b433fc", func := "chargenet/chargenetlaw06.FrameUnpacks", spec := "frameUnpacks", inPlace := ["internal/bytealg.IndexByte"], apart := false }
def FrameUnpacksSaid : Prop := frameUnpacksRow.holds Try.pinned (OpenSpec.ofChange frameUnpacksSpec)

/-- ITS FALSE NEIGHBOUR: 'it returns false'. Refute it at one input. -/
def frameUnpacksWrong : ChangeSpec := { name := "frameUnpacks", fn := fun _ => fun
  | [d] => { results := [.lit (.bool false)], args := [d] }
  | _ => none }
def FrameUnpacksWrongFalsely : Prop := frameUnpacksRow.holds Try.pinned (OpenSpec.ofChange frameUnpacksWrong)

/-- 'chargenetlaw06.FrameFeeds': WHATEVER THE INPUT: true; the input reads as it did. -/
def frameFeedsSpec : ChangeSpec := { name := "frameFeeds", fn := fun _ => fun
  | [d1, d2] => { results := [.lit (.bool true)], args := [d1, d2] }
  | _ => none }
def frameFeedsRow : OpenClaim := { program := "ytfpmdfpnbegnhaa", sum := "935d3f262afc6caae8575de68d6a10a2fe0a59206493e8612251dc81f3b433fc", func := "chargenet/chargenetlaw06.FrameFeeds", spec := "frameFeeds", inPlace := ["internal/bytealg.IndexByte"], apart := false }
def FrameFeedsSaid : Prop := frameFeedsRow.holds Try.pinned (OpenSpec.ofChange frameFeedsSpec)

/-- ITS FALSE NEIGHBOUR: 'it returns false'. Refute it at one input. -/
def frameFeedsWrong : ChangeSpec := { name := "frameFeeds", fn := fun _ => fun
  | [d1, d2] => { results := [.lit (.bool false)], args := [d1, d2] }
  | _ => none }
def FrameFeedsWrongFalsely : Prop := frameFeedsRow.holds Try.pinned (OpenSpec.ofChange frameFeedsWrong)

/-- 'chargenetlaw06.FrameChunks': WHATEVER THE INPUT: true; the input reads as it did. -/
def frameChunksSpec : ChangeSpec := { name := "frameChunks", fn := fun _ => fun
  | [d] => { results := [.lit (.bool true)], args := [d] }
  | _ => none }
def frameChunksRow : OpenClaim := { program := "ytfpmdfpnbegnhaa", sum := "935d3f262afc6caae8575de68d6a10a2fe0a59206493e8612251dc81f3b433fc", func := "chargenet/chargenetlaw06.FrameChunks", spec := "frameChunks", inPlace := ["internal/bytealg.IndexByte"], apart := false }
def FrameChunksSaid : Prop := frameChunksRow.holds Try.pinned (OpenSpec.ofChange frameChunksSpec)

/-- ITS FALSE NEIGHBOUR: 'it returns false'. Refute it at one input. -/
def frameChunksWrong : ChangeSpec := { name := "frameChunks", fn := fun _ => fun
  | [d] => { results := [.lit (.bool false)], args := [d] }
  | _ => none }
def FrameChunksWrongFalsely : Prop := frameChunksRow.holds Try.pinned (OpenSpec.ofChange frameChunksWrong)

/-- 'chargenetlaw06.FrameFinds': WHATEVER THE INPUT: true; the input reads as it did. -/
def frameFindsSpec : ChangeSpec := { name := "frameFinds", fn := fun _ => fun
  | [d1, d2] => { results := [.lit (.bool true)], args := [d1, d2] }
  | _ => none }
def frameFindsRow : OpenClaim := { program := "ytfpmdfpnbegnhaa", sum := "935d3f262afc6caae8575de68d6a10a2fe0a59206493e8612251dc81f3b433fc", func := "chargenet/chargenetlaw06.FrameFinds", spec := "frameFinds", inPlace := ["internal/bytealg.IndexByte"], apart := false }
def FrameFindsSaid : Prop := frameFindsRow.holds Try.pinned (OpenSpec.ofChange frameFindsSpec)

/-- ITS FALSE NEIGHBOUR: 'it returns false'. Refute it at one input. -/
def frameFindsWrong : ChangeSpec := { name := "frameFinds", fn := fun _ => fun
  | [d1, d2] => { results := [.lit (.bool false)], args := [d1, d2] }
  | _ => none }
def FrameFindsWrongFalsely : Prop := frameFindsRow.holds Try.pinned (OpenSpec.ofChange frameFindsWrong)

/-- 'chargenetlaw06.FrameSpoilt': WHATEVER THE INPUT: true; the input reads as it did. -/
def frameSpoiltSpec : ChangeSpec := { name := "frameSpoilt", fn := fun _ => fun
  | [d1, d2, d3] => { results := [.lit (.bool true)], args := [d1, d2, d3] }
  | _ => none }
def frameSpoiltRow : OpenClaim := { program := "ytfpmdfpnbegnhaa", sum := "935d3f262afc6caae8575de68d6a10a2fe0a59206493e8612251dc81f3b433fc", func := "chargenet/chargenetlaw06.FrameSpoilt", spec := "frameSpoilt", inPlace := ["internal/bytealg.IndexByte"], apart := false }
def FrameSpoiltSaid : Prop := frameSpoiltRow.holds Try.pinned (OpenSpec.ofChange frameSpoiltSpec)

/-- ITS FALSE NEIGHBOUR: 'it returns false'. Refute it at one input. -/
def frameSpoiltWrong : ChangeSpec := { name := "frameSpoilt", fn := fun _ => fun
  | [d1, d2, d3] => { results := [.lit (.bool false)], args := [d1, d2, d3] }
  | _ => none }
def FrameSpoiltWrongFalsely : Prop := frameSpoiltRow.holds Try.pinned (OpenSpec.ofChange frameSpoiltWrong)

/-- 'chargenetlaw06.FrameLimits': WHATEVER THE INPUT: true; the input reads as it did. -/
def frameLimitsSpec : ChangeSpec := { name := "frameLimits", fn := fun _ => fun
  | [d1, d2, d3] => { results := [.lit (.bool true)], args := [d1, d2, d3] }
  | _ => none }
def frameLimitsRow : OpenClaim := { program := "ytfpmdfpnbegnhaa", sum := "935d3f262afc6caae8575de68d6a10a2fe0a59206493e8612251dc81f3b433fc", func := "chargenet/chargenetlaw06.FrameLimits", spec := "frameLimits", inPlace := ["internal/bytealg.IndexByte"], apart := false }
def FrameLimitsSaid : Prop := frameLimitsRow.holds Try.pinned (OpenSpec.ofChange frameLimitsSpec)

/-- ITS FALSE NEIGHBOUR: 'it returns false'. Refute it at one input. -/
def frameLimitsWrong : ChangeSpec := { name := "frameLimits", fn := fun _ => fun
  | [d1, d2, d3] => { results := [.lit (.bool false)], args := [d1, d2, d3] }
  | _ => none }
def FrameLimitsWrongFalsely : Prop := frameLimitsRow.holds Try.pinned (OpenSpec.ofChange frameLimitsWrong)

/-- 'chargenettop.FramesCarry': WHATEVER THE INPUT: true; the input reads as it did. -/
def framesCarrySpec : ChangeSpec := { name := "framesCarry", fn := fun _ => fun
  | [d1, d2] => { results := [.lit (.bool true)], args := [d1, d2] }
  | _ => none }
def framesCarryRow : OpenClaim := { program := "ytfpmdfpnbegnhaa", sum := "935d3f262afc6caae8575de68d6a10a2fe0a59206493e8612251dc81f3b433fc", func := "chargenet/chargenettop.FramesCarry", spec := "framesCarry", inPlace := ["internal/bytealg.IndexByte"], unfollowed := true, recurses := true, apart := false }
def FramesCarrySaid : Prop := framesCarryRow.holds Try.pinned (OpenSpec.ofChange framesCarrySpec)

/-- ITS FALSE NEIGHBOUR: 'it returns false'. Refute it at one input. -/
def framesCarryWrong : ChangeSpec := { name := "framesCarry", fn := fun _ => fun
  | [d1, d2] => { results := [.lit (.bool false)], args := [d1, d2] }
  | _ => none }
def FramesCarryWrongFalsely : Prop := framesCarryRow.holds Try.pinned (OpenSpec.ofChange framesCarryWrong)

/- THE SECOND FORM. 'bulk': how many values and letters a reading holds, each counted each time it is reached (what is shared counts as often as it is met; a slice's spare places count too). A statement '..UptoSaid' is the law's where the arguments, and the package variables that the reading takes, are together of bulk at most 1048576: NARROWER than '..Said'. Prove '..Said' where nothing that the law and all that it calls make is longer than what came in: it says more and counts as full. Else prove '..UptoSaid'. A law counts once. -/
mutual
def uptoBulk {H : Type} : DataW H → Nat
  | .lit (.string bytes) => bytes.length + 1
  | .lit _ => 1
  | .nil => 1
  | .ptr d => uptoBulk d + 1
  | .slice elems spare => uptoBulkAll elems + uptoBulkAll spare + 1
  | .agg parts => uptoBulkAll parts + 1
  | .iface _ d => uptoBulk d + 1
  | .map entries => uptoBulkEntries entries + 1
  | .held _ => 1
def uptoBulkAll {H : Type} : List (DataW H) → Nat
  | [] => 0
  | d :: r => uptoBulk d + uptoBulkAll r
def uptoBulkEntries {H : Type} : List (Lit × DataW H) → Nat
  | [] => 0
  | x :: r => uptoBulkEntry x + uptoBulkEntries r
def uptoBulkEntry {H : Type} : Lit × DataW H → Nat
  | (.string bytes, d) => bytes.length + uptoBulk d + 1
  | (_, d) => uptoBulk d + 1
 end
def uptoSmall : (H : Type) → List (DataW H) → Bool := fun _ ds => decide (uptoBulkAll ds ≤ 1048576)
def OpenSpec.upto (s : _root_.Go.ChangeSpec) : _root_.Go.OpenSpec := { _root_.Go.OpenSpec.ofChange s with cond := some uptoSmall }

/-- 'chargenetlaw06.FrameSums', WHERE WHAT IT READS IS OF BULK AT MOST 1048576: true; the input reads as it did. -/
def frameSumsUptoRow : OpenClaim := { program := "ytfpmdfpnbegnhaa", sum := "935d3f262afc6caae8575de68d6a10a2fe0a59206493e8612251dc81f3b433fc", func := "chargenet/chargenetlaw06.FrameSums", spec := "frameSums", inPlace := ["internal/bytealg.IndexByte"], apart := false, narrowed := true }
def FrameSumsUptoSaid : Prop := frameSumsUptoRow.holds Try.pinned (OpenSpec.upto frameSumsSpec)

/-- 'chargenetlaw06.FramePacks', WHERE WHAT IT READS IS OF BULK AT MOST 1048576: true; the input reads as it did. -/
def framePacksUptoRow : OpenClaim := { program := "ytfpmdfpnbegnhaa", sum := "935d3f262afc6caae8575de68d6a10a2fe0a59206493e8612251dc81f3b433fc", func := "chargenet/chargenetlaw06.FramePacks", spec := "framePacks", inPlace := ["internal/bytealg.IndexByte"], apart := false, narrowed := true }
def FramePacksUptoSaid : Prop := framePacksUptoRow.holds Try.pinned (OpenSpec.upto framePacksSpec)

/-- 'chargenetlaw06.FrameUnpacks', WHERE WHAT IT READS IS OF BULK AT MOST 1048576: true; the input reads as it did. -/
def frameUnpacksUptoRow : OpenClaim := { program := "ytfpmdfpnbegnhaa", sum := "935d3f262afc6caae8575de68d6a10a2fe0a59206493e8612251dc81f3b433fc", func := "chargenet/chargenetlaw06.FrameUnpacks", spec := "frameUnpacks", inPlace := ["internal/bytealg.IndexByte"], apart := false, narrowed := true }
def FrameUnpacksUptoSaid : Prop := frameUnpacksUptoRow.holds Try.pinned (OpenSpec.upto frameUnpacksSpec)

/-- 'chargenetlaw06.FrameFeeds', WHERE WHAT IT READS IS OF BULK AT MOST 1048576: true; the input reads as it did. -/
def frameFeedsUptoRow : OpenClaim := { program := "ytfpmdfpnbegnhaa", sum := "935d3f262afc6caae8575de68d6a10a2fe0a59206493e8612251dc81f3b433fc", func := "chargenet/chargenetlaw06.FrameFeeds", spec := "frameFeeds", inPlace := ["internal/bytealg.IndexByte"], apart := false, narrowed := true }
def FrameFeedsUptoSaid : Prop := frameFeedsUptoRow.holds Try.pinned (OpenSpec.upto frameFeedsSpec)

/-- 'chargenetlaw06.FrameChunks', WHERE WHAT IT READS IS OF BULK AT MOST 1048576: true; the input reads as it did. -/
def frameChunksUptoRow : OpenClaim := { program := "ytfpmdfpnbegnhaa", sum := "935d3f262afc6caae8575de68d6a10a2fe0a59206493e8612251dc81f3b433fc", func := "chargenet/chargenetlaw06.FrameChunks", spec := "frameChunks", inPlace := ["internal/bytealg.IndexByte"], apart := false, narrowed := true }
def FrameChunksUptoSaid : Prop := frameChunksUptoRow.holds Try.pinned (OpenSpec.upto frameChunksSpec)

/-- 'chargenetlaw06.FrameFinds', WHERE WHAT IT READS IS OF BULK AT MOST 1048576: true; the input reads as it did. -/
def frameFindsUptoRow : OpenClaim := { program := "ytfpmdfpnbegnhaa", sum := "935d3f262afc6caae8575de68d6a10a2fe0a59206493e8612251dc81f3b433fc", func := "chargenet/chargenetlaw06.FrameFinds", spec := "frameFinds", inPlace := ["internal/bytealg.IndexByte"], apart := false, narrowed := true }
def FrameFindsUptoSaid : Prop := frameFindsUptoRow.holds Try.pinned (OpenSpec.upto frameFindsSpec)

/-- 'chargenetlaw06.FrameSpoilt', WHERE WHAT IT READS IS OF BULK AT MOST 1048576: true; the input reads as it did. -/
def frameSpoiltUptoRow : OpenClaim := { program := "ytfpmdfpnbegnhaa", sum := "935d3f262afc6caae8575de68d6a10a2fe0a59206493e8612251dc81f3b433fc", func := "chargenet/chargenetlaw06.FrameSpoilt", spec := "frameSpoilt", inPlace := ["internal/bytealg.IndexByte"], apart := false, narrowed := true }
def FrameSpoiltUptoSaid : Prop := frameSpoiltUptoRow.holds Try.pinned (OpenSpec.upto frameSpoiltSpec)

/-- 'chargenetlaw06.FrameLimits', WHERE WHAT IT READS IS OF BULK AT MOST 1048576: true; the input reads as it did. -/
def frameLimitsUptoRow : OpenClaim := { program := "ytfpmdfpnbegnhaa", sum := "935d3f262afc6caae8575de68d6a10a2fe0a59206493e8612251dc81f3b433fc", func := "chargenet/chargenetlaw06.FrameLimits", spec := "frameLimits", inPlace := ["internal/bytealg.IndexByte"], apart := false, narrowed := true }
def FrameLimitsUptoSaid : Prop := frameLimitsUptoRow.holds Try.pinned (OpenSpec.upto frameLimitsSpec)

/-- 'chargenettop.FramesCarry', WHERE WHAT IT READS IS OF BULK AT MOST 1048576: true; the input reads as it did. -/
def framesCarryUptoRow : OpenClaim := { program := "ytfpmdfpnbegnhaa", sum := "935d3f262afc6caae8575de68d6a10a2fe0a59206493e8612251dc81f3b433fc", func := "chargenet/chargenettop.FramesCarry", spec := "framesCarry", inPlace := ["internal/bytealg.IndexByte"], unfollowed := true, recurses := true, apart := false, narrowed := true }
def FramesCarryUptoSaid : Prop := framesCarryUptoRow.holds Try.pinned (OpenSpec.upto framesCarrySpec)

end Rows
end Go.Proofs.Ytfpmdfpnbegnhaa
