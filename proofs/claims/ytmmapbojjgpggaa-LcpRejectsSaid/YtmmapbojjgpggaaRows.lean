/-
  No cell of these rows narrows 'for every input' (looked for: loops, veiled, ifaces, maps, wideKeys, modest, calm, conditions, laid).
  DERIVED. THE GIVEN ROWS OF THIS SEAT. 3 by the template 'for every input the law returns true; each argument reads behind the call as it read before'; 0 by the template 'total and deterministic' (their statements: YtmmapbojjgpggaaTotals.lean).
  GIVEN WITH THE SEED: the statements are not yours to turn. If you find one false, say at which input.
  Laid BY PROGRAM, IN A SANDBOX (cutbox-rows.mjs): the forced cells as the released guide's own fill.sh prints them over the translation bfa9a6569dd5fa02… (all of the seat's roots in one cut). By AI agents, Wed Nov 11 2026. No macro, syntax, notation, axiom, sorry.
-/
import Derived.Test.YtmmapbojjgpggaaChecked
import GoSem.Claim
import GoSem.ClaimJoined
import GoSem.ClaimMapViews
import Derived.JoinedTies
import Derived.KernelRfl
namespace Go.Proofs.Ytmmapbojjgpggaa
/- THE CELL 'sum', in the pinned program and in every row, IS THE sha256 OF THE DUMP (.gsa) THAT YtmmapbojjgpggaaProg.lean LOADS. Nothing in Lean hashes anything: it is a label: what it is worth is what the hold of that sum in a sandbox is worth. -/
noncomputable def Try.pinned : Pinned := { name := "ytmmapbojjgpggaa", sum := "bfa9a6569dd5fa02de499ec2efc12985a73503c99514b573477cbd7f40773ff0", checked := Try.checked }
namespace Rows
def none {H : Type} : Left H := { results := [], args := [] }

/-- 'catwalklaw37.LcpLoops': WHATEVER THE INPUT: true; the input reads as it did. -/
def lcpLoopsSpec : ChangeSpec := { name := "lcpLoops", fn := fun _ => fun
  | [d] => { results := [.lit (.bool true)], args := [d] }
  | _ => none }
def lcpLoopsRow : OpenClaim := { program := "ytmmapbojjgpggaa", sum := "bfa9a6569dd5fa02de499ec2efc12985a73503c99514b573477cbd7f40773ff0", func := "catwalk/catwalklaw37.LcpLoops", spec := "lcpLoops", unfollowed := true, recurses := true, plainKeys := false, apart := false }
def LcpLoopsSaid : Prop := lcpLoopsRow.holds Try.pinned (OpenSpec.ofChange lcpLoopsSpec)

/-- ITS FALSE NEIGHBOUR: 'it returns false'. Refute it at one input. -/
def lcpLoopsWrong : ChangeSpec := { name := "lcpLoops", fn := fun _ => fun
  | [d] => { results := [.lit (.bool false)], args := [d] }
  | _ => none }
def LcpLoopsWrongFalsely : Prop := lcpLoopsRow.holds Try.pinned (OpenSpec.ofChange lcpLoopsWrong)

/-- 'catwalklaw37.LcpRejects': WHATEVER THE INPUT: true; the input reads as it did. -/
def lcpRejectsSpec : ChangeSpec := { name := "lcpRejects", fn := fun _ => fun
  | [d1, d2, d3] => { results := [.lit (.bool true)], args := [d1, d2, d3] }
  | _ => none }
def lcpRejectsRow : OpenClaim := { program := "ytmmapbojjgpggaa", sum := "bfa9a6569dd5fa02de499ec2efc12985a73503c99514b573477cbd7f40773ff0", func := "catwalk/catwalklaw37.LcpRejects", spec := "lcpRejects", unfollowed := true, recurses := true, plainKeys := false, apart := false }
def LcpRejectsSaid : Prop := lcpRejectsRow.holds Try.pinned (OpenSpec.ofChange lcpRejectsSpec)

/-- ITS FALSE NEIGHBOUR: 'it returns false'. Refute it at one input. -/
def lcpRejectsWrong : ChangeSpec := { name := "lcpRejects", fn := fun _ => fun
  | [d1, d2, d3] => { results := [.lit (.bool false)], args := [d1, d2, d3] }
  | _ => none }
def LcpRejectsWrongFalsely : Prop := lcpRejectsRow.holds Try.pinned (OpenSpec.ofChange lcpRejectsWrong)

/-- 'catwalklaw44.PnsNew': WHATEVER THE INPUT: true; the input reads as it did. -/
def pnsNewSpec : ChangeSpec := { name := "pnsNew", fn := fun _ => fun
  | [d] => { results := [.lit (.bool true)], args := [d] }
  | _ => none }
def pnsNewRow : OpenClaim := { program := "ytmmapbojjgpggaa", sum := "bfa9a6569dd5fa02de499ec2efc12985a73503c99514b573477cbd7f40773ff0", func := "catwalk/catwalklaw44.PnsNew", spec := "pnsNew", unfollowed := true, recurses := true, plainKeys := false, apart := false }
def PnsNewSaid : Prop := pnsNewRow.holds Try.pinned (OpenSpec.ofChange pnsNewSpec)

/-- ITS FALSE NEIGHBOUR: 'it returns false'. Refute it at one input. -/
def pnsNewWrong : ChangeSpec := { name := "pnsNew", fn := fun _ => fun
  | [d] => { results := [.lit (.bool false)], args := [d] }
  | _ => none }
def PnsNewWrongFalsely : Prop := pnsNewRow.holds Try.pinned (OpenSpec.ofChange pnsNewWrong)

/- THE SECOND FORM. 'bulk': how many values and letters a reading holds, each counted each time it is reached (what is shared counts as often as it is met; a slice's spare places count too). A statement '..UptoSaid' is the law's where the arguments, and the package variables that the reading takes, are together of bulk at most 1048576: NARROWER than '..Said'. Prove '..Said' where nothing that the law and all that it calls make is longer than what came in: it says more and counts as full. Else prove '..UptoSaid'. A law counts once. -/
mutual
def uptoBulk {H : Type} : DataW H → Nat
  | .lit (.string bytes) => bytes.length + 1
  | .lit _ => 1
  | .nil => 1
  | .ptr d => uptoBulk d + 1
  | .slice elems spare => uptoBulkAll elems + uptoBulkAll spare + 1
  | .agg parts => uptoBulkAll parts + 1
  | .iface _ d => uptoBulk d + 1
  | .map entries => uptoBulkEntries entries + 1
  | .held _ => 1
def uptoBulkAll {H : Type} : List (DataW H) → Nat
  | [] => 0
  | d :: r => uptoBulk d + uptoBulkAll r
def uptoBulkEntries {H : Type} : List (Lit × DataW H) → Nat
  | [] => 0
  | x :: r => uptoBulkEntry x + uptoBulkEntries r
def uptoBulkEntry {H : Type} : Lit × DataW H → Nat
  | (.string bytes, d) => bytes.length + uptoBulk d + 1
  | (_, d) => uptoBulk d + 1
 end
def uptoSmall : (H : Type) → List (DataW H) → Bool := fun _ ds => decide (uptoBulkAll ds ≤ 1048576)
def OpenSpec.upto (s : _root_.Go.ChangeSpec) : _root_.Go.OpenSpec := { _root_.Go.OpenSpec.ofChange s with cond := some uptoSmall }

/-- 'catwalklaw37.LcpLoops', WHERE WHAT IT READS IS OF BULK AT MOST 1048576: true; the input reads as it did. -/
def lcpLoopsUptoRow : OpenClaim := { program := "ytmmapbojjgpggaa", sum := "bfa9a6569dd5fa02de499ec2efc12985a73503c99514b573477cbd7f40773ff0", func := "catwalk/catwalklaw37.LcpLoops", spec := "lcpLoops", unfollowed := true, recurses := true, plainKeys := false, apart := false, narrowed := true }
def LcpLoopsUptoSaid : Prop := lcpLoopsUptoRow.holds Try.pinned (OpenSpec.upto lcpLoopsSpec)

/-- 'catwalklaw37.LcpRejects', WHERE WHAT IT READS IS OF BULK AT MOST 1048576: true; the input reads as it did. -/
def lcpRejectsUptoRow : OpenClaim := { program := "ytmmapbojjgpggaa", sum := "bfa9a6569dd5fa02de499ec2efc12985a73503c99514b573477cbd7f40773ff0", func := "catwalk/catwalklaw37.LcpRejects", spec := "lcpRejects", unfollowed := true, recurses := true, plainKeys := false, apart := false, narrowed := true }
def LcpRejectsUptoSaid : Prop := lcpRejectsUptoRow.holds Try.pinned (OpenSpec.upto lcpRejectsSpec)

/-- 'catwalklaw44.PnsNew', WHERE WHAT IT READS IS OF BULK AT MOST 1048576: true; the input reads as it did. -/
def pnsNewUptoRow : OpenClaim := { program := "ytmmapbojjgpggaa", sum := "bfa9a6569dd5fa02de499ec2efc12985a73503c99514b573477cbd7f40773ff0", func := "catwalk/catwalklaw44.PnsNew", spec := "pnsNew", unfollowed := true, recurses := true, plainKeys := false, apart := false, narrowed := true }
def PnsNewUptoSaid : Prop := pnsNewUptoRow.holds Try.pinned (OpenSpec.upto pnsNewSpec)

end Rows
end Go.Proofs.Ytmmapbojjgpggaa
