/-
  No cell of these rows narrows 'for every input' (looked for: loops, veiled, ifaces, maps, wideKeys, modest, calm, conditions, laid).
  DERIVED. THE GIVEN ROWS OF THIS SEAT. 10 by the template 'for every input the law returns true; each argument reads behind the call as it read before'; 0 by the template 'total and deterministic' (their statements: YtogkdcbcmhhhcaaTotals.lean).
  GIVEN WITH THE SEED: the statements are not yours to turn. If you find one false, say at which input.
  Laid BY PROGRAM, IN A SANDBOX (cutbox-rows.mjs): the forced cells as the released guide's own fill.sh prints them over the translation 05928defed2a21cf… (all of the seat's roots in one cut). By AI agents, Wed Nov 11 2026. No macro, syntax, notation, axiom, sorry.
-/
import Derived.Test.YtogkdcbcmhhhcaaChecked
import GoSem.Claim
import GoSem.ClaimJoined
import GoSem.ClaimMapViews
import Derived.JoinedTies
import Derived.KernelRfl
namespace Go.Proofs.Ytogkdcbcmhhhcaa
/- THE CELL 'sum', in the pinned program and in every row, IS THE sha256 OF THE DUMP (.gsa) THAT YtogkdcbcmhhhcaaProg.lean LOADS. Nothing in Lean hashes anything: it is a label: what it is worth is what the hold of that sum in a sandbox is worth. -/
noncomputable def Try.pinned : Pinned := { name := "ytogkdcbcmhhhcaa", sum := "05928defed2a21cfbec9985aab70f6c85ee37885c293c22476861457d2998101", checked := Try.checked }
namespace Rows
def none {H : Type} : Left H := { results := [], args := [] }

/-- 'catwalklaw41.CallsTell': WHATEVER THE INPUT: true; the input reads as it did. -/
def callsTellSpec : ChangeSpec := { name := "callsTell", fn := fun _ => fun
  | [d] => { results := [.lit (.bool true)], args := [d] }
  | _ => none }
def callsTellRow : OpenClaim := { program := "ytogkdcbcmhhhcaa", sum := "05928defed2a21cfbec9985aab70f6c85ee37885c293c22476861457d2998101", func := "catwalk/catwalklaw41.CallsTell", spec := "callsTell", apart := false }
def CallsTellSaid : Prop := callsTellRow.holds Try.pinned (OpenSpec.ofChange callsTellSpec)

/-- ITS FALSE NEIGHBOUR: 'it returns false'. Refute it at one input. -/
def callsTellWrong : ChangeSpec := { name := "callsTell", fn := fun _ => fun
  | [d] => { results := [.lit (.bool false)], args := [d] }
  | _ => none }
def CallsTellWrongFalsely : Prop := callsTellRow.holds Try.pinned (OpenSpec.ofChange callsTellWrong)

/-- 'catwalklaw41.CallsEnd': WHATEVER THE INPUT: true; the input reads as it did. -/
def callsEndSpec : ChangeSpec := { name := "callsEnd", fn := fun _ => fun
  | [d1, d2] => { results := [.lit (.bool true)], args := [d1, d2] }
  | _ => none }
def callsEndRow : OpenClaim := { program := "ytogkdcbcmhhhcaa", sum := "05928defed2a21cfbec9985aab70f6c85ee37885c293c22476861457d2998101", func := "catwalk/catwalklaw41.CallsEnd", spec := "callsEnd", apart := false }
def CallsEndSaid : Prop := callsEndRow.holds Try.pinned (OpenSpec.ofChange callsEndSpec)

/-- ITS FALSE NEIGHBOUR: 'it returns false'. Refute it at one input. -/
def callsEndWrong : ChangeSpec := { name := "callsEnd", fn := fun _ => fun
  | [d1, d2] => { results := [.lit (.bool false)], args := [d1, d2] }
  | _ => none }
def CallsEndWrongFalsely : Prop := callsEndRow.holds Try.pinned (OpenSpec.ofChange callsEndWrong)

/-- 'catwalklaw41.CallsPlay': WHATEVER THE INPUT: true; the input reads as it did. -/
def callsPlaySpec : ChangeSpec := { name := "callsPlay", fn := fun _ => fun
  | [d1, d2] => { results := [.lit (.bool true)], args := [d1, d2] }
  | _ => none }
def callsPlayRow : OpenClaim := { program := "ytogkdcbcmhhhcaa", sum := "05928defed2a21cfbec9985aab70f6c85ee37885c293c22476861457d2998101", func := "catwalk/catwalklaw41.CallsPlay", spec := "callsPlay", apart := false }
def CallsPlaySaid : Prop := callsPlayRow.holds Try.pinned (OpenSpec.ofChange callsPlaySpec)

/-- ITS FALSE NEIGHBOUR: 'it returns false'. Refute it at one input. -/
def callsPlayWrong : ChangeSpec := { name := "callsPlay", fn := fun _ => fun
  | [d1, d2] => { results := [.lit (.bool false)], args := [d1, d2] }
  | _ => none }
def CallsPlayWrongFalsely : Prop := callsPlayRow.holds Try.pinned (OpenSpec.ofChange callsPlayWrong)

/-- 'catwalklaw42.CtrlMeets': WHATEVER THE INPUT: true; the input reads as it did. -/
def ctrlMeetsSpec : ChangeSpec := { name := "ctrlMeets", fn := fun _ => fun
  | [d1, d2, d3] => { results := [.lit (.bool true)], args := [d1, d2, d3] }
  | _ => none }
def ctrlMeetsRow : OpenClaim := { program := "ytogkdcbcmhhhcaa", sum := "05928defed2a21cfbec9985aab70f6c85ee37885c293c22476861457d2998101", func := "catwalk/catwalklaw42.CtrlMeets", spec := "ctrlMeets", apart := false }
def CtrlMeetsSaid : Prop := ctrlMeetsRow.holds Try.pinned (OpenSpec.ofChange ctrlMeetsSpec)

/-- ITS FALSE NEIGHBOUR: 'it returns false'. Refute it at one input. -/
def ctrlMeetsWrong : ChangeSpec := { name := "ctrlMeets", fn := fun _ => fun
  | [d1, d2, d3] => { results := [.lit (.bool false)], args := [d1, d2, d3] }
  | _ => none }
def CtrlMeetsWrongFalsely : Prop := ctrlMeetsRow.holds Try.pinned (OpenSpec.ofChange ctrlMeetsWrong)

/-- 'catwalklaw16.MsgOf': WHATEVER THE INPUT: true; the input reads as it did. -/
def msgOfSpec : ChangeSpec := { name := "msgOf", fn := fun _ => fun
  | [d1, d2] => { results := [.lit (.bool true)], args := [d1, d2] }
  | _ => none }
def msgOfRow : OpenClaim := { program := "ytogkdcbcmhhhcaa", sum := "05928defed2a21cfbec9985aab70f6c85ee37885c293c22476861457d2998101", func := "catwalk/catwalklaw16.MsgOf", spec := "msgOf", recurses := true, apart := false }
def MsgOfSaid : Prop := msgOfRow.holds Try.pinned (OpenSpec.ofChange msgOfSpec)

/-- ITS FALSE NEIGHBOUR: 'it returns false'. Refute it at one input. -/
def msgOfWrong : ChangeSpec := { name := "msgOf", fn := fun _ => fun
  | [d1, d2] => { results := [.lit (.bool false)], args := [d1, d2] }
  | _ => none }
def MsgOfWrongFalsely : Prop := msgOfRow.holds Try.pinned (OpenSpec.ofChange msgOfWrong)

/-- 'catwalklaw42.CtrlFinds': WHATEVER THE INPUT: true; the input reads as it did. -/
def ctrlFindsSpec : ChangeSpec := { name := "ctrlFinds", fn := fun _ => fun
  | [d1, d2, d3] => { results := [.lit (.bool true)], args := [d1, d2, d3] }
  | _ => none }
def ctrlFindsRow : OpenClaim := { program := "ytogkdcbcmhhhcaa", sum := "05928defed2a21cfbec9985aab70f6c85ee37885c293c22476861457d2998101", func := "catwalk/catwalklaw42.CtrlFinds", spec := "ctrlFinds", apart := false }
def CtrlFindsSaid : Prop := ctrlFindsRow.holds Try.pinned (OpenSpec.ofChange ctrlFindsSpec)

/-- ITS FALSE NEIGHBOUR: 'it returns false'. Refute it at one input. -/
def ctrlFindsWrong : ChangeSpec := { name := "ctrlFinds", fn := fun _ => fun
  | [d1, d2, d3] => { results := [.lit (.bool false)], args := [d1, d2, d3] }
  | _ => none }
def CtrlFindsWrongFalsely : Prop := ctrlFindsRow.holds Try.pinned (OpenSpec.ofChange ctrlFindsWrong)

/-- 'catwalklaw27.StreamBuilt': WHATEVER THE INPUT: true; the input reads as it did. -/
def streamBuiltSpec : ChangeSpec := { name := "streamBuilt", fn := fun _ => fun
  | [d1, d2] => { results := [.lit (.bool true)], args := [d1, d2] }
  | _ => none }
def streamBuiltRow : OpenClaim := { program := "ytogkdcbcmhhhcaa", sum := "05928defed2a21cfbec9985aab70f6c85ee37885c293c22476861457d2998101", func := "catwalk/catwalklaw27.StreamBuilt", spec := "streamBuilt", recurses := true, apart := false }
def StreamBuiltSaid : Prop := streamBuiltRow.holds Try.pinned (OpenSpec.ofChange streamBuiltSpec)

/-- ITS FALSE NEIGHBOUR: 'it returns false'. Refute it at one input. -/
def streamBuiltWrong : ChangeSpec := { name := "streamBuilt", fn := fun _ => fun
  | [d1, d2] => { results := [.lit (.bool false)], args := [d1, d2] }
  | _ => none }
def StreamBuiltWrongFalsely : Prop := streamBuiltRow.holds Try.pinned (OpenSpec.ofChange streamBuiltWrong)

/-- 'catwalklaw27.StreamFeeds': WHATEVER THE INPUT: true; the input reads as it did. -/
def streamFeedsSpec : ChangeSpec := { name := "streamFeeds", fn := fun _ => fun
  | [d] => { results := [.lit (.bool true)], args := [d] }
  | _ => none }
def streamFeedsRow : OpenClaim := { program := "ytogkdcbcmhhhcaa", sum := "05928defed2a21cfbec9985aab70f6c85ee37885c293c22476861457d2998101", func := "catwalk/catwalklaw27.StreamFeeds", spec := "streamFeeds", recurses := true, apart := false }
def StreamFeedsSaid : Prop := streamFeedsRow.holds Try.pinned (OpenSpec.ofChange streamFeedsSpec)

/-- ITS FALSE NEIGHBOUR: 'it returns false'. Refute it at one input. -/
def streamFeedsWrong : ChangeSpec := { name := "streamFeeds", fn := fun _ => fun
  | [d] => { results := [.lit (.bool false)], args := [d] }
  | _ => none }
def StreamFeedsWrongFalsely : Prop := streamFeedsRow.holds Try.pinned (OpenSpec.ofChange streamFeedsWrong)

/-- 'catwalklaw16.MsgBuilds': WHATEVER THE INPUT: true; the input reads as it did. -/
def msgBuildsSpec : ChangeSpec := { name := "msgBuilds", fn := fun _ => fun
  | [d] => { results := [.lit (.bool true)], args := [d] }
  | _ => none }
def msgBuildsRow : OpenClaim := { program := "ytogkdcbcmhhhcaa", sum := "05928defed2a21cfbec9985aab70f6c85ee37885c293c22476861457d2998101", func := "catwalk/catwalklaw16.MsgBuilds", spec := "msgBuilds", recurses := true, apart := false }
def MsgBuildsSaid : Prop := msgBuildsRow.holds Try.pinned (OpenSpec.ofChange msgBuildsSpec)

/-- ITS FALSE NEIGHBOUR: 'it returns false'. Refute it at one input. -/
def msgBuildsWrong : ChangeSpec := { name := "msgBuilds", fn := fun _ => fun
  | [d] => { results := [.lit (.bool false)], args := [d] }
  | _ => none }
def MsgBuildsWrongFalsely : Prop := msgBuildsRow.holds Try.pinned (OpenSpec.ofChange msgBuildsWrong)

/-- 'catwalklaw16.MsgParses': WHATEVER THE INPUT: true; the input reads as it did. -/
def msgParsesSpec : ChangeSpec := { name := "msgParses", fn := fun _ => fun
  | [d] => { results := [.lit (.bool true)], args := [d] }
  | _ => none }
def msgParsesRow : OpenClaim := { program := "ytogkdcbcmhhhcaa", sum := "05928defed2a21cfbec9985aab70f6c85ee37885c293c22476861457d2998101", func := "catwalk/catwalklaw16.MsgParses", spec := "msgParses", recurses := true, apart := false }
def MsgParsesSaid : Prop := msgParsesRow.holds Try.pinned (OpenSpec.ofChange msgParsesSpec)

/-- ITS FALSE NEIGHBOUR: 'it returns false'. Refute it at one input. -/
def msgParsesWrong : ChangeSpec := { name := "msgParses", fn := fun _ => fun
  | [d] => { results := [.lit (.bool false)], args := [d] }
  | _ => none }
def MsgParsesWrongFalsely : Prop := msgParsesRow.holds Try.pinned (OpenSpec.ofChange msgParsesWrong)

/- THE SECOND FORM. 'bulk': how many values and letters a reading holds, each counted each time it is reached (what is shared counts as often as it is met; a slice's spare places count too). A statement '..UptoSaid' is the law's where the arguments, and the package variables that the reading takes, are together of bulk at most 1048576: NARROWER than '..Said'. Prove '..Said' where nothing that the law and all that it calls make is longer than what came in: it says more and counts as full. Else prove '..UptoSaid'. A law counts once. -/
mutual
def uptoBulk {H : Type} : DataW H → Nat
  | .lit (.string bytes) => bytes.length + 1
  | .lit _ => 1
  | .nil => 1
  | .ptr d => uptoBulk d + 1
  | .slice elems spare => uptoBulkAll elems + uptoBulkAll spare + 1
  | .agg parts => uptoBulkAll parts + 1
  | .iface _ d => uptoBulk d + 1
  | .map entries => uptoBulkEntries entries + 1
  | .held _ => 1
def uptoBulkAll {H : Type} : List (DataW H) → Nat
  | [] => 0
  | d :: r => uptoBulk d + uptoBulkAll r
def uptoBulkEntries {H : Type} : List (Lit × DataW H) → Nat
  | [] => 0
  | x :: r => uptoBulkEntry x + uptoBulkEntries r
def uptoBulkEntry {H : Type} : Lit × DataW H → Nat
  | (.string bytes, d) => bytes.length + uptoBulk d + 1
  | (_, d) => uptoBulk d + 1
 end
def uptoSmall : (H : Type) → List (DataW H) → Bool := fun _ ds => decide (uptoBulkAll ds ≤ 1048576)
def OpenSpec.upto (s : _root_.Go.ChangeSpec) : _root_.Go.OpenSpec := { _root_.Go.OpenSpec.ofChange s with cond := some uptoSmall }

/-- 'catwalklaw41.CallsTell', WHERE WHAT IT READS IS OF BULK AT MOST 1048576: true; the input reads as it did. -/
def callsTellUptoRow : OpenClaim := { program := "ytogkdcbcmhhhcaa", sum := "05928defed2a21cfbec9985aab70f6c85ee37885c293c22476861457d2998101", func := "catwalk/catwalklaw41.CallsTell", spec := "callsTell", apart := false, narrowed := true }
def CallsTellUptoSaid : Prop := callsTellUptoRow.holds Try.pinned (OpenSpec.upto callsTellSpec)

/-- 'catwalklaw41.CallsEnd', WHERE WHAT IT READS IS OF BULK AT MOST 1048576: true; the input reads as it did. -/
def callsEndUptoRow : OpenClaim := { program := "ytogkdcbcmhhhcaa", sum := "05928defed2a21cfbec9985aab70f6c85ee37885c293c22476861457d2998101", func := "catwalk/catwalklaw41.CallsEnd", spec := "callsEnd", apart := false, narrowed := true }
def CallsEndUptoSaid : Prop := callsEndUptoRow.holds Try.pinned (OpenSpec.upto callsEndSpec)

/-- 'catwalklaw41.CallsPlay', WHERE WHAT IT READS IS OF BULK AT MOST 1048576: true; the input reads as it did. -/
def callsPlayUptoRow : OpenClaim := { program := "ytogkdcbcmhhhcaa", sum := "05928defed2a21cfbec9985aab70f6c85ee37885c293c22476861457d2998101", func := "catwalk/catwalklaw41.CallsPlay", spec := "callsPlay", apart := false, narrowed := true }
def CallsPlayUptoSaid : Prop := callsPlayUptoRow.holds Try.pinned (OpenSpec.upto callsPlaySpec)

/-- 'catwalklaw42.CtrlMeets', WHERE WHAT IT READS IS OF BULK AT MOST 1048576: true; the input reads as it did. -/
def ctrlMeetsUptoRow : OpenClaim := { program := "ytogkdcbcmhhhcaa", sum := "05928defed2a21cfbec9985aab70f6c85ee37885c293c22476861457d2998101", func := "catwalk/catwalklaw42.CtrlMeets", spec := "ctrlMeets", apart := false, narrowed := true }
def CtrlMeetsUptoSaid : Prop := ctrlMeetsUptoRow.holds Try.pinned (OpenSpec.upto ctrlMeetsSpec)

/-- 'catwalklaw16.MsgOf', WHERE WHAT IT READS IS OF BULK AT MOST 1048576: true; the input reads as it did. -/
def msgOfUptoRow : OpenClaim := { program := "ytogkdcbcmhhhcaa", sum := "05928defed2a21cfbec9985aab70f6c85ee37885c293c22476861457d2998101", func := "catwalk/catwalklaw16.MsgOf", spec := "msgOf", recurses := true, apart := false, narrowed := true }
def MsgOfUptoSaid : Prop := msgOfUptoRow.holds Try.pinned (OpenSpec.upto msgOfSpec)

/-- 'catwalklaw42.CtrlFinds', WHERE WHAT IT READS IS OF BULK AT MOST 1048576: true; the input reads as it did. -/
def ctrlFindsUptoRow : OpenClaim := { program := "ytogkdcbcmhhhcaa", sum := "05928defed2a21cfbec9985aab70f6c85ee37885c293c22476861457d2998101", func := "catwalk/catwalklaw42.CtrlFinds", spec := "ctrlFinds", apart := false, narrowed := true }
def CtrlFindsUptoSaid : Prop := ctrlFindsUptoRow.holds Try.pinned (OpenSpec.upto ctrlFindsSpec)

/-- 'catwalklaw27.StreamBuilt', WHERE WHAT IT READS IS OF BULK AT MOST 1048576: true; the input reads as it did. -/
def streamBuiltUptoRow : OpenClaim := { program := "ytogkdcbcmhhhcaa", sum := "05928defed2a21cfbec9985aab70f6c85ee37885c293c22476861457d2998101", func := "catwalk/catwalklaw27.StreamBuilt", spec := "streamBuilt", recurses := true, apart := false, narrowed := true }
def StreamBuiltUptoSaid : Prop := streamBuiltUptoRow.holds Try.pinned (OpenSpec.upto streamBuiltSpec)

/-- 'catwalklaw27.StreamFeeds', WHERE WHAT IT READS IS OF BULK AT MOST 1048576: true; the input reads as it did. -/
def streamFeedsUptoRow : OpenClaim := { program := "ytogkdcbcmhhhcaa", sum := "05928defed2a21cfbec9985aab70f6c85ee37885c293c22476861457d2998101", func := "catwalk/catwalklaw27.StreamFeeds", spec := "streamFeeds", recurses := true, apart := false, narrowed := true }
def StreamFeedsUptoSaid : Prop := streamFeedsUptoRow.holds Try.pinned (OpenSpec.upto streamFeedsSpec)

/-- 'catwalklaw16.MsgBuilds', WHERE WHAT IT READS IS OF BULK AT MOST 1048576: true; the input reads as it did. -/
def msgBuildsUptoRow : OpenClaim := { program := "ytogkdcbcmhhhcaa", sum := "05928defed2a21cfbec9985aab70f6c85ee37885c293c22476861457d2998101", func := "catwalk/catwalklaw16.MsgBuilds", spec := "msgBuilds", recurses := true, apart := false, narrowed := true }
def MsgBuildsUptoSaid : Prop := msgBuildsUptoRow.holds Try.pinned (OpenSpec.upto msgBuildsSpec)

/-- 'catwalklaw16.MsgParses', WHERE WHAT IT READS IS OF BULK AT MOST 1048576: true; the input reads as it did. -/
def msgParsesUptoRow : OpenClaim := { program := "ytogkdcbcmhhhcaa", sum := "05928defed2a21cfbec9985aab70f6c85ee37885c293c22476861457d2998101", func := "catwalk/catwalklaw16.MsgParses", spec := "msgParses", recurses := true, apart := false, narrowed := true }
def MsgParsesUptoSaid : Prop := msgParsesUptoRow.holds Try.pinned (OpenSpec.upto msgParsesSpec)

end Rows
end Go.Proofs.Ytogkdcbcmhhhcaa
