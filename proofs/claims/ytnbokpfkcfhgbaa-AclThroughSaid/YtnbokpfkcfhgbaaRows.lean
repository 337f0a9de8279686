/-
  No cell of these rows narrows 'for every input' (looked for: loops, veiled, ifaces, maps, wideKeys, modest, calm, conditions, laid).
  DERIVED. THE GIVEN ROWS OF THIS SEAT. 12 by the template 'for every input the law returns true; each argument reads behind the call as it read before'; 0 by the template 'total and deterministic' (their statements: YtnbokpfkcfhgbaaTotals.lean).
  GIVEN WITH THE SEED: the statements are not yours to turn. If you find one false, say at which input.
  Laid BY PROGRAM, IN A SANDBOX (cutbox-rows.mjs): the forced cells as the released guide's own fill.sh prints them over the translation 995dc0299bcea68f… (all of the seat's roots in one cut). By AI agents, Wed Nov 11 2026. No macro, syntax, notation, axiom, sorry.
-/
import Derived.Test.YtnbokpfkcfhgbaaChecked
import GoSem.Claim
import GoSem.ClaimJoined
import GoSem.ClaimMapViews
import Derived.JoinedTies
import Derived.KernelRfl
namespace Go.Proofs.Ytnbokpfkcfhgbaa
/- THE CELL 'sum', in the pinned program and in every row, IS THE sha256 OF THE DUMP (.gsa) THAT YtnbokpfkcfhgbaaProg.lean LOADS. Nothing in Lean hashes anything: it is a label: what it is worth is what the hold of that sum in a sandbox is worth. -/
noncomputable def Try.pinned : Pinned := { name := "ytnbokpfkcfhgbaa", sum := "995dc0299bcea68f1320198731c979781c7b06684940b09e1c78b566bb0aaeab", checked := Try.checked }
namespace Rows
def none {H : Type} : Left H := { results := [], args := [] }

/-- 'catwalklaw51.AclFinds': WHATEVER THE INPUT: true; the input reads as it did. -/
def aclFindsSpec : ChangeSpec := { name := "aclFinds", fn := fun _ => fun
  | [d1, d2] => { results := [.lit (.bool true)], args := [d1, d2] }
  | _ => none }
def aclFindsRow : OpenClaim := { program := "ytnbokpfkcfhgbaa", sum := "995dc0299bcea68f1320198731c979781c7b06684940b09e1c78b566bb0aaeab", func := "catwalk/catwalklaw51.AclFinds", spec := "aclFinds", apart := false }
def AclFindsSaid : Prop := aclFindsRow.holds Try.pinned (OpenSpec.ofChange aclFindsSpec)

/-- ITS FALSE NEIGHBOUR: 'it returns false'. Refute it at one input. -/
def aclFindsWrong : ChangeSpec := { name := "aclFinds", fn := fun _ => fun
  | [d1, d2] => { results := [.lit (.bool false)], args := [d1, d2] }
  | _ => none }
def AclFindsWrongFalsely : Prop := aclFindsRow.holds Try.pinned (OpenSpec.ofChange aclFindsWrong)

/-- 'catwalklaw26.CidrCovers': WHATEVER THE INPUT: true; the input reads as it did. -/
def cidrCoversSpec : ChangeSpec := { name := "cidrCovers", fn := fun _ => fun
  | [d1, d2] => { results := [.lit (.bool true)], args := [d1, d2] }
  | _ => none }
def cidrCoversRow : OpenClaim := { program := "ytnbokpfkcfhgbaa", sum := "995dc0299bcea68f1320198731c979781c7b06684940b09e1c78b566bb0aaeab", func := "catwalk/catwalklaw26.CidrCovers", spec := "cidrCovers", apart := false }
def CidrCoversSaid : Prop := cidrCoversRow.holds Try.pinned (OpenSpec.ofChange cidrCoversSpec)

/-- ITS FALSE NEIGHBOUR: 'it returns false'. Refute it at one input. -/
def cidrCoversWrong : ChangeSpec := { name := "cidrCovers", fn := fun _ => fun
  | [d1, d2] => { results := [.lit (.bool false)], args := [d1, d2] }
  | _ => none }
def CidrCoversWrongFalsely : Prop := cidrCoversRow.holds Try.pinned (OpenSpec.ofChange cidrCoversWrong)

/-- 'catwalklaw01.BeBack': WHATEVER THE INPUT: true; the input reads as it did. -/
def beBackSpec : ChangeSpec := { name := "beBack", fn := fun _ => fun
  | [d1, d2] => { results := [.lit (.bool true)], args := [d1, d2] }
  | _ => none }
def beBackRow : OpenClaim := { program := "ytnbokpfkcfhgbaa", sum := "995dc0299bcea68f1320198731c979781c7b06684940b09e1c78b566bb0aaeab", func := "catwalk/catwalklaw01.BeBack", spec := "beBack", apart := false }
def BeBackSaid : Prop := beBackRow.holds Try.pinned (OpenSpec.ofChange beBackSpec)

/-- ITS FALSE NEIGHBOUR: 'it returns false'. Refute it at one input. -/
def beBackWrong : ChangeSpec := { name := "beBack", fn := fun _ => fun
  | [d1, d2] => { results := [.lit (.bool false)], args := [d1, d2] }
  | _ => none }
def BeBackWrongFalsely : Prop := beBackRow.holds Try.pinned (OpenSpec.ofChange beBackWrong)

/-- 'catwalklaw57.TapePuts': WHATEVER THE INPUT: true; the input reads as it did. -/
def tapePutsSpec : ChangeSpec := { name := "tapePuts", fn := fun _ => fun
  | [d] => { results := [.lit (.bool true)], args := [d] }
  | _ => none }
def tapePutsRow : OpenClaim := { program := "ytnbokpfkcfhgbaa", sum := "995dc0299bcea68f1320198731c979781c7b06684940b09e1c78b566bb0aaeab", func := "catwalk/catwalklaw57.TapePuts", spec := "tapePuts", apart := false }
def TapePutsSaid : Prop := tapePutsRow.holds Try.pinned (OpenSpec.ofChange tapePutsSpec)

/-- ITS FALSE NEIGHBOUR: 'it returns false'. Refute it at one input. -/
def tapePutsWrong : ChangeSpec := { name := "tapePuts", fn := fun _ => fun
  | [d] => { results := [.lit (.bool false)], args := [d] }
  | _ => none }
def TapePutsWrongFalsely : Prop := tapePutsRow.holds Try.pinned (OpenSpec.ofChange tapePutsWrong)

/-- 'catwalklaw01.BePuts': WHATEVER THE INPUT: true; the input reads as it did. -/
def bePutsSpec : ChangeSpec := { name := "bePuts", fn := fun _ => fun
  | [d1, d2, d3] => { results := [.lit (.bool true)], args := [d1, d2, d3] }
  | _ => none }
def bePutsRow : OpenClaim := { program := "ytnbokpfkcfhgbaa", sum := "995dc0299bcea68f1320198731c979781c7b06684940b09e1c78b566bb0aaeab", func := "catwalk/catwalklaw01.BePuts", spec := "bePuts", apart := false }
def BePutsSaid : Prop := bePutsRow.holds Try.pinned (OpenSpec.ofChange bePutsSpec)

/-- ITS FALSE NEIGHBOUR: 'it returns false'. Refute it at one input. -/
def bePutsWrong : ChangeSpec := { name := "bePuts", fn := fun _ => fun
  | [d1, d2, d3] => { results := [.lit (.bool false)], args := [d1, d2, d3] }
  | _ => none }
def BePutsWrongFalsely : Prop := bePutsRow.holds Try.pinned (OpenSpec.ofChange bePutsWrong)

/-- 'catwalklaw01.BeReads': WHATEVER THE INPUT: true; the input reads as it did. -/
def beReadsSpec : ChangeSpec := { name := "beReads", fn := fun _ => fun
  | [d1, d2] => { results := [.lit (.bool true)], args := [d1, d2] }
  | _ => none }
def beReadsRow : OpenClaim := { program := "ytnbokpfkcfhgbaa", sum := "995dc0299bcea68f1320198731c979781c7b06684940b09e1c78b566bb0aaeab", func := "catwalk/catwalklaw01.BeReads", spec := "beReads", apart := false }
def BeReadsSaid : Prop := beReadsRow.holds Try.pinned (OpenSpec.ofChange beReadsSpec)

/-- ITS FALSE NEIGHBOUR: 'it returns false'. Refute it at one input. -/
def beReadsWrong : ChangeSpec := { name := "beReads", fn := fun _ => fun
  | [d1, d2] => { results := [.lit (.bool false)], args := [d1, d2] }
  | _ => none }
def BeReadsWrongFalsely : Prop := beReadsRow.holds Try.pinned (OpenSpec.ofChange beReadsWrong)

/-- 'catwalklaw51.AclIdle': WHATEVER THE INPUT: true; the input reads as it did. -/
def aclIdleSpec : ChangeSpec := { name := "aclIdle", fn := fun _ => fun
  | [d1, d2] => { results := [.lit (.bool true)], args := [d1, d2] }
  | _ => none }
def aclIdleRow : OpenClaim := { program := "ytnbokpfkcfhgbaa", sum := "995dc0299bcea68f1320198731c979781c7b06684940b09e1c78b566bb0aaeab", func := "catwalk/catwalklaw51.AclIdle", spec := "aclIdle", apart := false }
def AclIdleSaid : Prop := aclIdleRow.holds Try.pinned (OpenSpec.ofChange aclIdleSpec)

/-- ITS FALSE NEIGHBOUR: 'it returns false'. Refute it at one input. -/
def aclIdleWrong : ChangeSpec := { name := "aclIdle", fn := fun _ => fun
  | [d1, d2] => { results := [.lit (.bool false)], args := [d1, d2] }
  | _ => none }
def AclIdleWrongFalsely : Prop := aclIdleRow.holds Try.pinned (OpenSpec.ofChange aclIdleWrong)

/-- 'catwalklaw26.CidrTells': WHATEVER THE INPUT: true; the input reads as it did. -/
def cidrTellsSpec : ChangeSpec := { name := "cidrTells", fn := fun _ => fun
  | [d1, d2, d3] => { results := [.lit (.bool true)], args := [d1, d2, d3] }
  | _ => none }
def cidrTellsRow : OpenClaim := { program := "ytnbokpfkcfhgbaa", sum := "995dc0299bcea68f1320198731c979781c7b06684940b09e1c78b566bb0aaeab", func := "catwalk/catwalklaw26.CidrTells", spec := "cidrTells", apart := false }
def CidrTellsSaid : Prop := cidrTellsRow.holds Try.pinned (OpenSpec.ofChange cidrTellsSpec)

/-- ITS FALSE NEIGHBOUR: 'it returns false'. Refute it at one input. -/
def cidrTellsWrong : ChangeSpec := { name := "cidrTells", fn := fun _ => fun
  | [d1, d2, d3] => { results := [.lit (.bool false)], args := [d1, d2, d3] }
  | _ => none }
def CidrTellsWrongFalsely : Prop := cidrTellsRow.holds Try.pinned (OpenSpec.ofChange cidrTellsWrong)

/-- 'catwalklaw57.TapeReads': WHATEVER THE INPUT: true; the input reads as it did. -/
def tapeReadsSpec : ChangeSpec := { name := "tapeReads", fn := fun _ => fun
  | [d] => { results := [.lit (.bool true)], args := [d] }
  | _ => none }
def tapeReadsRow : OpenClaim := { program := "ytnbokpfkcfhgbaa", sum := "995dc0299bcea68f1320198731c979781c7b06684940b09e1c78b566bb0aaeab", func := "catwalk/catwalklaw57.TapeReads", spec := "tapeReads", apart := false }
def TapeReadsSaid : Prop := tapeReadsRow.holds Try.pinned (OpenSpec.ofChange tapeReadsSpec)

/-- ITS FALSE NEIGHBOUR: 'it returns false'. Refute it at one input. -/
def tapeReadsWrong : ChangeSpec := { name := "tapeReads", fn := fun _ => fun
  | [d] => { results := [.lit (.bool false)], args := [d] }
  | _ => none }
def TapeReadsWrongFalsely : Prop := tapeReadsRow.holds Try.pinned (OpenSpec.ofChange tapeReadsWrong)

/-- 'catwalklaw57.TapeBack': WHATEVER THE INPUT: true; the input reads as it did. -/
def tapeBackSpec : ChangeSpec := { name := "tapeBack", fn := fun _ => fun
  | [d1, d2, d3] => { results := [.lit (.bool true)], args := [d1, d2, d3] }
  | _ => none }
def tapeBackRow : OpenClaim := { program := "ytnbokpfkcfhgbaa", sum := "995dc0299bcea68f1320198731c979781c7b06684940b09e1c78b566bb0aaeab", func := "catwalk/catwalklaw57.TapeBack", spec := "tapeBack", apart := false }
def TapeBackSaid : Prop := tapeBackRow.holds Try.pinned (OpenSpec.ofChange tapeBackSpec)

/-- ITS FALSE NEIGHBOUR: 'it returns false'. Refute it at one input. -/
def tapeBackWrong : ChangeSpec := { name := "tapeBack", fn := fun _ => fun
  | [d1, d2, d3] => { results := [.lit (.bool false)], args := [d1, d2, d3] }
  | _ => none }
def TapeBackWrongFalsely : Prop := tapeBackRow.holds Try.pinned (OpenSpec.ofChange tapeBackWrong)

/-- 'catwalklaw51.AclThrough': WHATEVER THE INPUT: true; the input reads as it did. -/
def aclThroughSpec : ChangeSpec := { name := "aclThrough", fn := fun _ => fun
  | [d1, d2] => { results := [.lit (.bool true)], args := [d1, d2] }
  | _ => none }
def aclThroughRow : OpenClaim := { program := "ytnbokpfkcfhgbaa", sum := "995dc0299bcea68f1320198731c979781c7b06684940b09e1c78b566bb0aaeab", func := "catwalk/catwalklaw51.AclThrough", spec := "aclThrough", apart := false }
def AclThroughSaid : Prop := aclThroughRow.holds Try.pinned (OpenSpec.ofChange aclThroughSpec)

/-- ITS FALSE NEIGHBOUR: 'it returns false'. Refute it at one input. -/
def aclThroughWrong : ChangeSpec := { name := "aclThrough", fn := fun _ => fun
  | [d1, d2] => { results := [.lit (.bool false)], args := [d1, d2] }
  | _ => none }
def AclThroughWrongFalsely : Prop := aclThroughRow.holds Try.pinned (OpenSpec.ofChange aclThroughWrong)

/-- 'catwalklaw26.CidrTexts': WHATEVER THE INPUT: true; the input reads as it did. -/
def cidrTextsSpec : ChangeSpec := { name := "cidrTexts", fn := fun _ => fun
  | [d1, d2] => { results := [.lit (.bool true)], args := [d1, d2] }
  | _ => none }
def cidrTextsRow : OpenClaim := { program := "ytnbokpfkcfhgbaa", sum := "995dc0299bcea68f1320198731c979781c7b06684940b09e1c78b566bb0aaeab", func := "catwalk/catwalklaw26.CidrTexts", spec := "cidrTexts", recurses := true, apart := false }
def CidrTextsSaid : Prop := cidrTextsRow.holds Try.pinned (OpenSpec.ofChange cidrTextsSpec)

/-- ITS FALSE NEIGHBOUR: 'it returns false'. Refute it at one input. -/
def cidrTextsWrong : ChangeSpec := { name := "cidrTexts", fn := fun _ => fun
  | [d1, d2] => { results := [.lit (.bool false)], args := [d1, d2] }
  | _ => none }
def CidrTextsWrongFalsely : Prop := cidrTextsRow.holds Try.pinned (OpenSpec.ofChange cidrTextsWrong)

/- THE SECOND FORM. 'bulk': how many values and letters a reading holds, each counted each time it is reached (what is shared counts as often as it is met; a slice's spare places count too). A statement '..UptoSaid' is the law's where the arguments, and the package variables that the reading takes, are together of bulk at most 1048576: NARROWER than '..Said'. Prove '..Said' where nothing that the law and all that it calls make is longer than what came in: it says more and counts as full. Else prove '..UptoSaid'. A law counts once. -/
mutual
def uptoBulk {H : Type} : DataW H → Nat
  | .lit (.string bytes) => bytes.length + 1
  | .lit _ => 1
  | .nil => 1
  | .ptr d => uptoBulk d + 1
  | .slice elems spare => uptoBulkAll elems + uptoBulkAll spare + 1
  | .agg parts => uptoBulkAll parts + 1
  | .iface _ d => uptoBulk d + 1
  | .map entries => uptoBulkEntries entries + 1
  | .held _ => 1
def uptoBulkAll {H : Type} : List (DataW H) → Nat
  | [] => 0
  | d :: r => uptoBulk d + uptoBulkAll r
def uptoBulkEntries {H : Type} : List (Lit × DataW H) → Nat
  | [] => 0
  | x :: r => uptoBulkEntry x + uptoBulkEntries r
def uptoBulkEntry {H : Type} : Lit × DataW H → Nat
  | (.string bytes, d) => bytes.length + uptoBulk d + 1
  | (_, d) => uptoBulk d + 1
 end
def uptoSmall : (H : Type) → List (DataW H) → Bool := fun _ ds => decide (uptoBulkAll ds ≤ 1048576)
def OpenSpec.upto (s : _root_.Go.ChangeSpec) : _root_.Go.OpenSpec := { _root_.Go.OpenSpec.ofChange s with cond := some uptoSmall }

/-- 'catwalklaw51.AclFinds', WHERE WHAT IT READS IS OF BULK AT MOST 1048576: true; the input reads as it did. -/
def aclFindsUptoRow : OpenClaim := { program := "ytnbokpfkcfhgbaa", sum := "995dc0299bcea68f1320198731c979781c7b06684940b09e1c78b566bb0aaeab", func := "catwalk/catwalklaw51.AclFinds", spec := "aclFinds", apart := false, narrowed := true }
def AclFindsUptoSaid : Prop := aclFindsUptoRow.holds Try.pinned (OpenSpec.upto aclFindsSpec)

/-- 'catwalklaw26.CidrCovers', WHERE WHAT IT READS IS OF BULK AT MOST 1048576: true; the input reads as it did. -/
def cidrCoversUptoRow : OpenClaim := { program := "ytnbokpfkcfhgbaa", sum := "995dc0299bcea68f1320198731c979781c7b06684940b09e1c78b566bb0aaeab", func := "catwalk/catwalklaw26.CidrCovers", spec := "cidrCovers", apart := false, narrowed := true }
def CidrCoversUptoSaid : Prop := cidrCoversUptoRow.holds Try.pinned (OpenSpec.upto cidrCoversSpec)

/-- 'catwalklaw01.BeBack', WHERE WHAT IT READS IS OF BULK AT MOST 1048576: true; the input reads as it did. -/
def beBackUptoRow : OpenClaim := { program := "ytnbokpfkcfhgbaa", sum := "995dc0299bcea68f1320198731c979781c7b06684940b09e1c78b566bb0aaeab", func := "catwalk/catwalklaw01.BeBack", spec := "beBack", apart := false, narrowed := true }
def BeBackUptoSaid : Prop := beBackUptoRow.holds Try.pinned (OpenSpec.upto beBackSpec)

/-- 'catwalklaw57.TapePuts', WHERE WHAT IT READS IS OF BULK AT MOST 1048576: true; the input reads as it did. -/
def tapePutsUptoRow : OpenClaim := { program := "ytnbokpfkcfhgbaa", sum := "995dc0299bcea68f1320198731c979781c7b06684940b09e1c78b566bb0aaeab", func := "catwalk/catwalklaw57.TapePuts", spec := "tapePuts", apart := false, narrowed := true }
def TapePutsUptoSaid : Prop := tapePutsUptoRow.holds Try.pinned (OpenSpec.upto tapePutsSpec)

/-- 'catwalklaw01.BePuts', WHERE WHAT IT READS IS OF BULK AT MOST 1048576: true; the input reads as it did. -/
def bePutsUptoRow : OpenClaim := { program := "ytnbokpfkcfhgbaa", sum := "995dc0299bcea68f1320198731c979781c7b06684940b09e1c78b566bb0aaeab", func := "catwalk/catwalklaw01.BePuts", spec := "bePuts", apart := false, narrowed := true }
def BePutsUptoSaid : Prop := bePutsUptoRow.holds Try.pinned (OpenSpec.upto bePutsSpec)

/-- 'catwalklaw01.BeReads', WHERE WHAT IT READS IS OF BULK AT MOST 1048576: true; the input reads as it did. -/
def beReadsUptoRow : OpenClaim := { program := "ytnbokpfkcfhgbaa", sum := "995dc0299bcea68f1320198731c979781c7b06684940b09e1c78b566bb0aaeab", func := "catwalk/catwalklaw01.BeReads", spec := "beReads", apart := false, narrowed := true }
def BeReadsUptoSaid : Prop := beReadsUptoRow.holds Try.pinned (OpenSpec.upto beReadsSpec)

/-- 'catwalklaw51.AclIdle', WHERE WHAT IT READS IS OF BULK AT MOST 1048576: true; the input reads as it did. -/
def aclIdleUptoRow : OpenClaim := { program := "ytnbokpfkcfhgbaa", sum := "995dc0299bcea68f1320198731c979781c7b06684940b09e1c78b566bb0aaeab", func := "catwalk/catwalklaw51.AclIdle", spec := "aclIdle", apart := false, narrowed := true }
def AclIdleUptoSaid : Prop := aclIdleUptoRow.holds Try.pinned (OpenSpec.upto aclIdleSpec)

/-- 'catwalklaw26.CidrTells', WHERE WHAT IT READS IS OF BULK AT MOST 1048576: true; the input reads as it did. -/
def cidrTellsUptoRow : OpenClaim := { program := "ytnbokpfkcfhgbaa", sum := "995dc0299bcea68f1320198731c979781c7b06684940b09e1c78b566bb0aaeab", func := "catwalk/catwalklaw26.CidrTells", spec := "cidrTells", apart := false, narrowed := true }
def CidrTellsUptoSaid : Prop := cidrTellsUptoRow.holds Try.pinned (OpenSpec.upto cidrTellsSpec)

/-- 'catwalklaw57.TapeReads', WHERE WHAT IT READS IS OF BULK AT MOST 1048576: true; the input reads as it did. -/
def tapeReadsUptoRow : OpenClaim := { program := "ytnbokpfkcfhgbaa", sum := "995dc0299bcea68f1320198731c979781c7b06684940b09e1c78b566bb0aaeab", func := "catwalk/catwalklaw57.TapeReads", spec := "tapeReads", apart := false, narrowed := true }
def TapeReadsUptoSaid : Prop := tapeReadsUptoRow.holds Try.pinned (OpenSpec.upto tapeReadsSpec)

/-- 'catwalklaw57.TapeBack', WHERE WHAT IT READS IS OF BULK AT MOST 1048576: true; the input reads as it did. -/
def tapeBackUptoRow : OpenClaim := { program := "ytnbokpfkcfhgbaa", sum := "995dc0299bcea68f1320198731c979781c7b06684940b09e1c78b566bb0aaeab", func := "catwalk/catwalklaw57.TapeBack", spec := "tapeBack", apart := false, narrowed := true }
def TapeBackUptoSaid : Prop := tapeBackUptoRow.holds Try.pinned (OpenSpec.upto tapeBackSpec)

/-- 'catwalklaw51.AclThrough', WHERE WHAT IT READS IS OF BULK AT MOST 1048576: true; the input reads as it did. -/
def aclThroughUptoRow : OpenClaim := { program := "ytnbokpfkcfhgbaa", sum := "995dc0299bcea68f1320198731c979781c7b06684940b09e1c78b566bb0aaeab", func := "catwalk/catwalklaw51.AclThrough", spec := "aclThrough", apart := false, narrowed := true }
def AclThroughUptoSaid : Prop := aclThroughUptoRow.holds Try.pinned (OpenSpec.upto aclThroughSpec)

/-- 'catwalklaw26.CidrTexts', WHERE WHAT IT READS IS OF BULK AT MOST 1048576: true; the input reads as it did. -/
def cidrTextsUptoRow : OpenClaim := { program := "ytnbokpfkcfhgbaa", sum := "995dc0299bcea68f1320198731c979781c7b06684940b09e1c78b566bb0aaeab", func := "catwalk/catwalklaw26.CidrTexts", spec := "cidrTexts", recurses := true, apart := false, narrowed := true }
def CidrTextsUptoSaid : Prop := cidrTextsUptoRow.holds Try.pinned (OpenSpec.upto cidrTextsSpec)

end Rows
end Go.Proofs.Ytnbokpfkcfhgbaa
