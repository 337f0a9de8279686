/-
  No cell of these rows narrows 'for every input' (looked for: loops, veiled, ifaces, maps, wideKeys, modest, calm, conditions, laid).
  DERIVED. THE GIVEN ROWS OF THIS SEAT. 9 by the template 'for every input the law returns true; each argument reads behind the call as it read before'; 0 by the template 'total and deterministic' (their statements: YtbmkohmhiafphaaTotals.lean).
  GIVEN WITH THE SEED: the statements are not yours to turn. If you find one false, say at which input.
  Laid BY PROGRAM, IN A SANDBOX (cutbox-rows.mjs): the forced cells as the released guide's own fill.sh prints them over the translation 721e66454b5455fb… (all of the seat's roots in one cut). By AI agents, Wed Nov 11 2026. No macro, syntax, notation, axiom, sorry.
-/
import Derived.Test.YtbmkohmhiafphaaChecked
import GoSem.Claim
import GoSem.ClaimJoined
import GoSem.ClaimMapViews
import Derived.JoinedTies
import Derived.KernelRfl
namespace Go.Proofs.Ytbmkohmhiafphaa
/- THE CELL 'sum', in the pinned program and in every row, IS THE sha256 OF THE DUMP (.gsa) THAT YtbmkohmhiafphaaProg.lean LOADS. Nothing in Lean hashes anything: it is a label: what it is worth is what the hold of that sum in a sandbox is worth. -/
noncomputable def Try.pinned : Pinned := { name := "ytbmkohmhiafphaa", sum := "721e66454b5455fb3269c2a8aa94fcfedec006d9c9b1a79bb3e8a29f66bb6ccd", checked := Try.checked }
namespace Rows
def none {H : Type} : Left H := { results := [], args := [] }

/-- 'catwalklaw55.IcmpMsgs': WHATEVER THE INPUT: true; the input reads as it did. -/
def icmpMsgsSpec : ChangeSpec := { name := "icmpMsgs", fn := fun _ => fun
  | [d1, d2] => { results := [.lit (.bool true)], args := [d1, d2] }
  | _ => none }
def icmpMsgsRow : OpenClaim := { program := "ytbmkohmhiafphaa", sum := "721e66454b5455fb3269c2a8aa94fcfedec006d9c9b1a79bb3e8a29f66bb6ccd", func := "catwalk/catwalklaw55.IcmpMsgs", spec := "icmpMsgs", apart := false }
def IcmpMsgsSaid : Prop := icmpMsgsRow.holds Try.pinned (OpenSpec.ofChange icmpMsgsSpec)

/-- ITS FALSE NEIGHBOUR: 'it returns false'. Refute it at one input. -/
def icmpMsgsWrong : ChangeSpec := { name := "icmpMsgs", fn := fun _ => fun
  | [d1, d2] => { results := [.lit (.bool false)], args := [d1, d2] }
  | _ => none }
def IcmpMsgsWrongFalsely : Prop := icmpMsgsRow.holds Try.pinned (OpenSpec.ofChange icmpMsgsWrong)

/-- 'catwalklaw11.GrehBuilds': WHATEVER THE INPUT: true; the input reads as it did. -/
def grehBuildsSpec : ChangeSpec := { name := "grehBuilds", fn := fun _ => fun
  | [d] => { results := [.lit (.bool true)], args := [d] }
  | _ => none }
def grehBuildsRow : OpenClaim := { program := "ytbmkohmhiafphaa", sum := "721e66454b5455fb3269c2a8aa94fcfedec006d9c9b1a79bb3e8a29f66bb6ccd", func := "catwalk/catwalklaw11.GrehBuilds", spec := "grehBuilds", apart := false }
def GrehBuildsSaid : Prop := grehBuildsRow.holds Try.pinned (OpenSpec.ofChange grehBuildsSpec)

/-- ITS FALSE NEIGHBOUR: 'it returns false'. Refute it at one input. -/
def grehBuildsWrong : ChangeSpec := { name := "grehBuilds", fn := fun _ => fun
  | [d] => { results := [.lit (.bool false)], args := [d] }
  | _ => none }
def GrehBuildsWrongFalsely : Prop := grehBuildsRow.holds Try.pinned (OpenSpec.ofChange grehBuildsWrong)

/-- 'catwalklaw11.GrehParses': WHATEVER THE INPUT: true; the input reads as it did. -/
def grehParsesSpec : ChangeSpec := { name := "grehParses", fn := fun _ => fun
  | [d] => { results := [.lit (.bool true)], args := [d] }
  | _ => none }
def grehParsesRow : OpenClaim := { program := "ytbmkohmhiafphaa", sum := "721e66454b5455fb3269c2a8aa94fcfedec006d9c9b1a79bb3e8a29f66bb6ccd", func := "catwalk/catwalklaw11.GrehParses", spec := "grehParses", apart := false }
def GrehParsesSaid : Prop := grehParsesRow.holds Try.pinned (OpenSpec.ofChange grehParsesSpec)

/-- ITS FALSE NEIGHBOUR: 'it returns false'. Refute it at one input. -/
def grehParsesWrong : ChangeSpec := { name := "grehParses", fn := fun _ => fun
  | [d] => { results := [.lit (.bool false)], args := [d] }
  | _ => none }
def GrehParsesWrongFalsely : Prop := grehParsesRow.holds Try.pinned (OpenSpec.ofChange grehParsesWrong)

/-- 'catwalklaw13.Ip4Parses': WHATEVER THE INPUT: true; the input reads as it did. -/
def ip4ParsesSpec : ChangeSpec := { name := "ip4Parses", fn := fun _ => fun
  | [d] => { results := [.lit (.bool true)], args := [d] }
  | _ => none }
def ip4ParsesRow : OpenClaim := { program := "ytbmkohmhiafphaa", sum := "721e66454b5455fb3269c2a8aa94fcfedec006d9c9b1a79bb3e8a29f66bb6ccd", func := "catwalk/catwalklaw13.Ip4Parses", spec := "ip4Parses", apart := false }
def Ip4ParsesSaid : Prop := ip4ParsesRow.holds Try.pinned (OpenSpec.ofChange ip4ParsesSpec)

/-- ITS FALSE NEIGHBOUR: 'it returns false'. Refute it at one input. -/
def ip4ParsesWrong : ChangeSpec := { name := "ip4Parses", fn := fun _ => fun
  | [d] => { results := [.lit (.bool false)], args := [d] }
  | _ => none }
def Ip4ParsesWrongFalsely : Prop := ip4ParsesRow.holds Try.pinned (OpenSpec.ofChange ip4ParsesWrong)

/-- 'catwalklaw13.Ip4Builds': WHATEVER THE INPUT: true; the input reads as it did. -/
def ip4BuildsSpec : ChangeSpec := { name := "ip4Builds", fn := fun _ => fun
  | [d1, d2] => { results := [.lit (.bool true)], args := [d1, d2] }
  | _ => none }
def ip4BuildsRow : OpenClaim := { program := "ytbmkohmhiafphaa", sum := "721e66454b5455fb3269c2a8aa94fcfedec006d9c9b1a79bb3e8a29f66bb6ccd", func := "catwalk/catwalklaw13.Ip4Builds", spec := "ip4Builds", apart := false }
def Ip4BuildsSaid : Prop := ip4BuildsRow.holds Try.pinned (OpenSpec.ofChange ip4BuildsSpec)

/-- ITS FALSE NEIGHBOUR: 'it returns false'. Refute it at one input. -/
def ip4BuildsWrong : ChangeSpec := { name := "ip4Builds", fn := fun _ => fun
  | [d1, d2] => { results := [.lit (.bool false)], args := [d1, d2] }
  | _ => none }
def Ip4BuildsWrongFalsely : Prop := ip4BuildsRow.holds Try.pinned (OpenSpec.ofChange ip4BuildsWrong)

/-- 'catwalklaw13.Ip4Hops': WHATEVER THE INPUT: true; the input reads as it did. -/
def ip4HopsSpec : ChangeSpec := { name := "ip4Hops", fn := fun _ => fun
  | [d] => { results := [.lit (.bool true)], args := [d] }
  | _ => none }
def ip4HopsRow : OpenClaim := { program := "ytbmkohmhiafphaa", sum := "721e66454b5455fb3269c2a8aa94fcfedec006d9c9b1a79bb3e8a29f66bb6ccd", func := "catwalk/catwalklaw13.Ip4Hops", spec := "ip4Hops", apart := false }
def Ip4HopsSaid : Prop := ip4HopsRow.holds Try.pinned (OpenSpec.ofChange ip4HopsSpec)

/-- ITS FALSE NEIGHBOUR: 'it returns false'. Refute it at one input. -/
def ip4HopsWrong : ChangeSpec := { name := "ip4Hops", fn := fun _ => fun
  | [d] => { results := [.lit (.bool false)], args := [d] }
  | _ => none }
def Ip4HopsWrongFalsely : Prop := ip4HopsRow.holds Try.pinned (OpenSpec.ofChange ip4HopsWrong)

/-- 'catwalklaw55.IcmpAbout': WHATEVER THE INPUT: true; the input reads as it did. -/
def icmpAboutSpec : ChangeSpec := { name := "icmpAbout", fn := fun _ => fun
  | [d1, d2, d3] => { results := [.lit (.bool true)], args := [d1, d2, d3] }
  | _ => none }
def icmpAboutRow : OpenClaim := { program := "ytbmkohmhiafphaa", sum := "721e66454b5455fb3269c2a8aa94fcfedec006d9c9b1a79bb3e8a29f66bb6ccd", func := "catwalk/catwalklaw55.IcmpAbout", spec := "icmpAbout", apart := false }
def IcmpAboutSaid : Prop := icmpAboutRow.holds Try.pinned (OpenSpec.ofChange icmpAboutSpec)

/-- ITS FALSE NEIGHBOUR: 'it returns false'. Refute it at one input. -/
def icmpAboutWrong : ChangeSpec := { name := "icmpAbout", fn := fun _ => fun
  | [d1, d2, d3] => { results := [.lit (.bool false)], args := [d1, d2, d3] }
  | _ => none }
def IcmpAboutWrongFalsely : Prop := icmpAboutRow.holds Try.pinned (OpenSpec.ofChange icmpAboutWrong)

/-- 'catwalklaw54.FragCuts': WHATEVER THE INPUT: true; the input reads as it did. -/
def fragCutsSpec : ChangeSpec := { name := "fragCuts", fn := fun _ => fun
  | [d1, d2] => { results := [.lit (.bool true)], args := [d1, d2] }
  | _ => none }
def fragCutsRow : OpenClaim := { program := "ytbmkohmhiafphaa", sum := "721e66454b5455fb3269c2a8aa94fcfedec006d9c9b1a79bb3e8a29f66bb6ccd", func := "catwalk/catwalklaw54.FragCuts", spec := "fragCuts", apart := false }
def FragCutsSaid : Prop := fragCutsRow.holds Try.pinned (OpenSpec.ofChange fragCutsSpec)

/-- ITS FALSE NEIGHBOUR: 'it returns false'. Refute it at one input. -/
def fragCutsWrong : ChangeSpec := { name := "fragCuts", fn := fun _ => fun
  | [d1, d2] => { results := [.lit (.bool false)], args := [d1, d2] }
  | _ => none }
def FragCutsWrongFalsely : Prop := fragCutsRow.holds Try.pinned (OpenSpec.ofChange fragCutsWrong)

/-- 'catwalklaw55.IcmpAnswers': WHATEVER THE INPUT: true; the input reads as it did. -/
def icmpAnswersSpec : ChangeSpec := { name := "icmpAnswers", fn := fun _ => fun
  | [d1, d2] => { results := [.lit (.bool true)], args := [d1, d2] }
  | _ => none }
def icmpAnswersRow : OpenClaim := { program := "ytbmkohmhiafphaa", sum := "721e66454b5455fb3269c2a8aa94fcfedec006d9c9b1a79bb3e8a29f66bb6ccd", func := "catwalk/catwalklaw55.IcmpAnswers", spec := "icmpAnswers", apart := false }
def IcmpAnswersSaid : Prop := icmpAnswersRow.holds Try.pinned (OpenSpec.ofChange icmpAnswersSpec)

/-- ITS FALSE NEIGHBOUR: 'it returns false'. Refute it at one input. -/
def icmpAnswersWrong : ChangeSpec := { name := "icmpAnswers", fn := fun _ => fun
  | [d1, d2] => { results := [.lit (.bool false)], args := [d1, d2] }
  | _ => none }
def IcmpAnswersWrongFalsely : Prop := icmpAnswersRow.holds Try.pinned (OpenSpec.ofChange icmpAnswersWrong)

/- THE SECOND FORM. 'bulk': how many values and letters a reading holds, each counted each time it is reached (what is shared counts as often as it is met; a slice's spare places count too). A statement '..UptoSaid' is the law's where the arguments, and the package variables that the reading takes, are together of bulk at most 1048576: NARROWER than '..Said'. Prove '..Said' where nothing that the law and all that it calls make is longer than what came in: it says more and counts as full. Else prove '..UptoSaid'. A law counts once. -/
mutual
def uptoBulk {H : Type} : DataW H → Nat
  | .lit (.string bytes) => bytes.length + 1
  | .lit _ => 1
  | .nil => 1
  | .ptr d => uptoBulk d + 1
  | .slice elems spare => uptoBulkAll elems + uptoBulkAll spare + 1
  | .agg parts => uptoBulkAll parts + 1
  | .iface _ d => uptoBulk d + 1
  | .map entries => uptoBulkEntries entries + 1
  | .held _ => 1
def uptoBulkAll {H : Type} : List (DataW H) → Nat
  | [] => 0
  | d :: r => uptoBulk d + uptoBulkAll r
def uptoBulkEntries {H : Type} : List (Lit × DataW H) → Nat
  | [] => 0
  | x :: r => uptoBulkEntry x + uptoBulkEntries r
def uptoBulkEntry {H : Type} : Lit × DataW H → Nat
  | (.string bytes, d) => bytes.length + uptoBulk d + 1
  | (_, d) => uptoBulk d + 1
 end
def uptoSmall : (H : Type) → List (DataW H) → Bool := fun _ ds => decide (uptoBulkAll ds ≤ 1048576)
def OpenSpec.upto (s : _root_.Go.ChangeSpec) : _root_.Go.OpenSpec := { _root_.Go.OpenSpec.ofChange s with cond := some uptoSmall }

/-- 'catwalklaw55.IcmpMsgs', WHERE WHAT IT READS IS OF BULK AT MOST 1048576: true; the input reads as it did. -/
def icmpMsgsUptoRow : OpenClaim := { program := "ytbmkohmhiafphaa", sum := "721e66454b5455fb3269c2a8aa94fcfedec006d9c9b1a79bb3e8a29f66bb6ccd", func := "catwalk/catwalklaw55.IcmpMsgs", spec := "icmpMsgs", apart := false, narrowed := true }
def IcmpMsgsUptoSaid : Prop := icmpMsgsUptoRow.holds Try.pinned (OpenSpec.upto icmpMsgsSpec)

/-- 'catwalklaw11.GrehBuilds', WHERE WHAT IT READS IS OF BULK AT MOST 1048576: true; the input reads as it did. -/
def grehBuildsUptoRow : OpenClaim := { program := "ytbmkohmhiafphaa", sum := "721e66454b5455fb3269c2a8aa94fcfedec006d9c9b1a79bb3e8a29f66bb6ccd", func := "catwalk/catwalklaw11.GrehBuilds", spec := "grehBuilds", apart := false, narrowed := true }
def GrehBuildsUptoSaid : Prop := grehBuildsUptoRow.holds Try.pinned (OpenSpec.upto grehBuildsSpec)

/-- 'catwalklaw11.GrehParses', WHERE WHAT IT READS IS OF BULK AT MOST 1048576: true; the input reads as it did. -/
def grehParsesUptoRow : OpenClaim := { program := "ytbmkohmhiafphaa", sum := "721e66454b5455fb3269c2a8aa94fcfedec006d9c9b1a79bb3e8a29f66bb6ccd", func := "catwalk/catwalklaw11.GrehParses", spec := "grehParses", apart := false, narrowed := true }
def GrehParsesUptoSaid : Prop := grehParsesUptoRow.holds Try.pinned (OpenSpec.upto grehParsesSpec)

/-- 'catwalklaw13.Ip4Parses', WHERE WHAT IT READS IS OF BULK AT MOST 1048576: true; the input reads as it did. -/
def ip4ParsesUptoRow : OpenClaim := { program := "ytbmkohmhiafphaa", sum := "721e66454b5455fb3269c2a8aa94fcfedec006d9c9b1a79bb3e8a29f66bb6ccd", func := "catwalk/catwalklaw13.Ip4Parses", spec := "ip4Parses", apart := false, narrowed := true }
def Ip4ParsesUptoSaid : Prop := ip4ParsesUptoRow.holds Try.pinned (OpenSpec.upto ip4ParsesSpec)

/-- 'catwalklaw13.Ip4Builds', WHERE WHAT IT READS IS OF BULK AT MOST 1048576: true; the input reads as it did. -/
def ip4BuildsUptoRow : OpenClaim := { program := "ytbmkohmhiafphaa", sum := "721e66454b5455fb3269c2a8aa94fcfedec006d9c9b1a79bb3e8a29f66bb6ccd", func := "catwalk/catwalklaw13.Ip4Builds", spec := "ip4Builds", apart := false, narrowed := true }
def Ip4BuildsUptoSaid : Prop := ip4BuildsUptoRow.holds Try.pinned (OpenSpec.upto ip4BuildsSpec)

/-- 'catwalklaw13.Ip4Hops', WHERE WHAT IT READS IS OF BULK AT MOST 1048576: true; the input reads as it did. -/
def ip4HopsUptoRow : OpenClaim := { program := "ytbmkohmhiafphaa", sum := "721e66454b5455fb3269c2a8aa94fcfedec006d9c9b1a79bb3e8a29f66bb6ccd", func := "catwalk/catwalklaw13.Ip4Hops", spec := "ip4Hops", apart := false, narrowed := true }
def Ip4HopsUptoSaid : Prop := ip4HopsUptoRow.holds Try.pinned (OpenSpec.upto ip4HopsSpec)

/-- 'catwalklaw55.IcmpAbout', WHERE WHAT IT READS IS OF BULK AT MOST 1048576: true; the input reads as it did. -/
def icmpAboutUptoRow : OpenClaim := { program := "ytbmkohmhiafphaa", sum := "721e66454b5455fb3269c2a8aa94fcfedec006d9c9b1a79bb3e8a29f66bb6ccd", func := "catwalk/catwalklaw55.IcmpAbout", spec := "icmpAbout", apart := false, narrowed := true }
def IcmpAboutUptoSaid : Prop := icmpAboutUptoRow.holds Try.pinned (OpenSpec.upto icmpAboutSpec)

/-- 'catwalklaw54.FragCuts', WHERE WHAT IT READS IS OF BULK AT MOST 1048576: true; the input reads as it did. -/
def fragCutsUptoRow : OpenClaim := { program := "ytbmkohmhiafphaa", sum := "721e66454b5455fb3269c2a8aa94fcfedec006d9c9b1a79bb3e8a29f66bb6ccd", func := "catwalk/catwalklaw54.FragCuts", spec := "fragCuts", apart := false, narrowed := true }
def FragCutsUptoSaid : Prop := fragCutsUptoRow.holds Try.pinned (OpenSpec.upto fragCutsSpec)

/-- 'catwalklaw55.IcmpAnswers', WHERE WHAT IT READS IS OF BULK AT MOST 1048576: true; the input reads as it did. -/
def icmpAnswersUptoRow : OpenClaim := { program := "ytbmkohmhiafphaa", sum := "721e66454b5455fb3269c2a8aa94fcfedec006d9c9b1a79bb3e8a29f66bb6ccd", func := "catwalk/catwalklaw55.IcmpAnswers", spec := "icmpAnswers", apart := false, narrowed := true }
def IcmpAnswersUptoSaid : Prop := icmpAnswersUptoRow.holds Try.pinned (OpenSpec.upto icmpAnswersSpec)

end Rows
end Go.Proofs.Ytbmkohmhiafphaa
