/-
  No cell of these rows narrows 'for every input' (looked for: loops, veiled, ifaces, maps, wideKeys, modest, calm, conditions, laid).
  DERIVED. THE GIVEN ROWS OF THIS SEAT. 8 by the template 'for every input the law returns true; each argument reads behind the call as it read before'; 0 by the template 'total and deterministic' (their statements: YtlngegoamfklgaaTotals.lean).
  GIVEN WITH THE SEED: the statements are not yours to turn. If you find one false, say at which input.
  Laid BY PROGRAM, IN A SANDBOX (cutbox-rows.mjs): the forced cells as the released guide's own fill.sh prints them over the translation 8bdae51ab2e3bc98… (all of the seat's roots in one cut). By AI agents, Wed Nov 11 2026. No macro, syntax, notation, axiom, sorry.
-/
import Derived.Test.YtlngegoamfklgaaChecked
import GoSem.Claim
import GoSem.ClaimJoined
import GoSem.ClaimMapViews
import Derived.JoinedTies
import Derived.KernelRfl
namespace Go.Proofs.Ytlngegoamfklgaa
/- THE CELL 'sum', in the pinned program and in every row, IS THE sha256 OF THE DUMP (.gsa) THAT YtlngegoamfklgaaProg.lean LOADS. Nothing in Lean hashes anything: it is a label: what it is worth is what the hold of that sum in a sandbox is worth. -/
noncomputable def Try.pinned : Pinned := { name := "ytlngegoamfklgaa", sum := "8bdae51ab2e3bc988a04a21cdb0bf07f9af702afaf9c2ba47ad7eb4272741438", checked := Try.checked }
namespace Rows
def none {H : Type} : Left H := { results := [], args := [] }

/-- 'catwalklaw29.PoolApart': WHATEVER THE INPUT: true; the input reads as it did. -/
def poolApartSpec : ChangeSpec := { name := "poolApart", fn := fun _ => fun
  | [d1, d2] => { results := [.lit (.bool true)], args := [d1, d2] }
  | _ => none }
def poolApartRow : OpenClaim := { program := "ytlngegoamfklgaa", sum := "8bdae51ab2e3bc988a04a21cdb0bf07f9af702afaf9c2ba47ad7eb4272741438", func := "catwalk/catwalklaw29.PoolApart", spec := "poolApart", plainKeys := false, apart := false }
def PoolApartSaid : Prop := poolApartRow.holds Try.pinned (OpenSpec.ofChange poolApartSpec)

/-- ITS FALSE NEIGHBOUR: 'it returns false'. Refute it at one input. -/
def poolApartWrong : ChangeSpec := { name := "poolApart", fn := fun _ => fun
  | [d1, d2] => { results := [.lit (.bool false)], args := [d1, d2] }
  | _ => none }
def PoolApartWrongFalsely : Prop := poolApartRow.holds Try.pinned (OpenSpec.ofChange poolApartWrong)

/-- 'catwalklaw14.SecretTables': WHATEVER THE INPUT: true; the input reads as it did. -/
def secretTablesSpec : ChangeSpec := { name := "secretTables", fn := fun _ => fun
  | [d1, d2] => { results := [.lit (.bool true)], args := [d1, d2] }
  | _ => none }
def secretTablesRow : OpenClaim := { program := "ytlngegoamfklgaa", sum := "8bdae51ab2e3bc988a04a21cdb0bf07f9af702afaf9c2ba47ad7eb4272741438", func := "catwalk/catwalklaw14.SecretTables", spec := "secretTables", recurses := true, plainKeys := false, apart := false }
def SecretTablesSaid : Prop := secretTablesRow.holds Try.pinned (OpenSpec.ofChange secretTablesSpec)

/-- ITS FALSE NEIGHBOUR: 'it returns false'. Refute it at one input. -/
def secretTablesWrong : ChangeSpec := { name := "secretTables", fn := fun _ => fun
  | [d1, d2] => { results := [.lit (.bool false)], args := [d1, d2] }
  | _ => none }
def SecretTablesWrongFalsely : Prop := secretTablesRow.holds Try.pinned (OpenSpec.ofChange secretTablesWrong)

/-- 'catwalklaw52.RouteNeedless': WHATEVER THE INPUT: true; the input reads as it did. -/
def routeNeedlessSpec : ChangeSpec := { name := "routeNeedless", fn := fun _ => fun
  | [d1, d2] => { results := [.lit (.bool true)], args := [d1, d2] }
  | _ => none }
def routeNeedlessRow : OpenClaim := { program := "ytlngegoamfklgaa", sum := "8bdae51ab2e3bc988a04a21cdb0bf07f9af702afaf9c2ba47ad7eb4272741438", func := "catwalk/catwalklaw52.RouteNeedless", spec := "routeNeedless", unfollowed := true, recurses := true, plainKeys := false, apart := false }
def RouteNeedlessSaid : Prop := routeNeedlessRow.holds Try.pinned (OpenSpec.ofChange routeNeedlessSpec)

/-- ITS FALSE NEIGHBOUR: 'it returns false'. Refute it at one input. -/
def routeNeedlessWrong : ChangeSpec := { name := "routeNeedless", fn := fun _ => fun
  | [d1, d2] => { results := [.lit (.bool false)], args := [d1, d2] }
  | _ => none }
def RouteNeedlessWrongFalsely : Prop := routeNeedlessRow.holds Try.pinned (OpenSpec.ofChange routeNeedlessWrong)

/-- 'catwalklaw29.PoolPlays': WHATEVER THE INPUT: true; the input reads as it did. -/
def poolPlaysSpec : ChangeSpec := { name := "poolPlays", fn := fun _ => fun
  | [d1, d2, d3] => { results := [.lit (.bool true)], args := [d1, d2, d3] }
  | _ => none }
def poolPlaysRow : OpenClaim := { program := "ytlngegoamfklgaa", sum := "8bdae51ab2e3bc988a04a21cdb0bf07f9af702afaf9c2ba47ad7eb4272741438", func := "catwalk/catwalklaw29.PoolPlays", spec := "poolPlays", recurses := true, plainKeys := false, apart := false }
def PoolPlaysSaid : Prop := poolPlaysRow.holds Try.pinned (OpenSpec.ofChange poolPlaysSpec)

/-- ITS FALSE NEIGHBOUR: 'it returns false'. Refute it at one input. -/
def poolPlaysWrong : ChangeSpec := { name := "poolPlays", fn := fun _ => fun
  | [d1, d2, d3] => { results := [.lit (.bool false)], args := [d1, d2, d3] }
  | _ => none }
def PoolPlaysWrongFalsely : Prop := poolPlaysRow.holds Try.pinned (OpenSpec.ofChange poolPlaysWrong)

/-- 'catwalklaw52.RoutePlays': WHATEVER THE INPUT: true; the input reads as it did. -/
def routePlaysSpec : ChangeSpec := { name := "routePlays", fn := fun _ => fun
  | [d1, d2, d3] => { results := [.lit (.bool true)], args := [d1, d2, d3] }
  | _ => none }
def routePlaysRow : OpenClaim := { program := "ytlngegoamfklgaa", sum := "8bdae51ab2e3bc988a04a21cdb0bf07f9af702afaf9c2ba47ad7eb4272741438", func := "catwalk/catwalklaw52.RoutePlays", spec := "routePlays", unfollowed := true, recurses := true, plainKeys := false, apart := false }
def RoutePlaysSaid : Prop := routePlaysRow.holds Try.pinned (OpenSpec.ofChange routePlaysSpec)

/-- ITS FALSE NEIGHBOUR: 'it returns false'. Refute it at one input. -/
def routePlaysWrong : ChangeSpec := { name := "routePlays", fn := fun _ => fun
  | [d1, d2, d3] => { results := [.lit (.bool false)], args := [d1, d2, d3] }
  | _ => none }
def RoutePlaysWrongFalsely : Prop := routePlaysRow.holds Try.pinned (OpenSpec.ofChange routePlaysWrong)

/-- 'catwalklaw18.TablePlays': WHATEVER THE INPUT: true; the input reads as it did. -/
def tablePlaysSpec : ChangeSpec := { name := "tablePlays", fn := fun _ => fun
  | [d1, d2, d3] => { results := [.lit (.bool true)], args := [d1, d2, d3] }
  | _ => none }
def tablePlaysRow : OpenClaim := { program := "ytlngegoamfklgaa", sum := "8bdae51ab2e3bc988a04a21cdb0bf07f9af702afaf9c2ba47ad7eb4272741438", func := "catwalk/catwalklaw18.TablePlays", spec := "tablePlays", unfollowed := true, recurses := true, plainKeys := false, apart := false }
def TablePlaysSaid : Prop := tablePlaysRow.holds Try.pinned (OpenSpec.ofChange tablePlaysSpec)

/-- ITS FALSE NEIGHBOUR: 'it returns false'. Refute it at one input. -/
def tablePlaysWrong : ChangeSpec := { name := "tablePlays", fn := fun _ => fun
  | [d1, d2, d3] => { results := [.lit (.bool false)], args := [d1, d2, d3] }
  | _ => none }
def TablePlaysWrongFalsely : Prop := tablePlaysRow.holds Try.pinned (OpenSpec.ofChange tablePlaysWrong)

/-- 'catwalklaw26.CidrMerges': WHATEVER THE INPUT: true; the input reads as it did. -/
def cidrMergesSpec : ChangeSpec := { name := "cidrMerges", fn := fun _ => fun
  | [d1, d2] => { results := [.lit (.bool true)], args := [d1, d2] }
  | _ => none }
def cidrMergesRow : OpenClaim := { program := "ytlngegoamfklgaa", sum := "8bdae51ab2e3bc988a04a21cdb0bf07f9af702afaf9c2ba47ad7eb4272741438", func := "catwalk/catwalklaw26.CidrMerges", spec := "cidrMerges", unfollowed := true, recurses := true, plainKeys := false, apart := false }
def CidrMergesSaid : Prop := cidrMergesRow.holds Try.pinned (OpenSpec.ofChange cidrMergesSpec)

/-- ITS FALSE NEIGHBOUR: 'it returns false'. Refute it at one input. -/
def cidrMergesWrong : ChangeSpec := { name := "cidrMerges", fn := fun _ => fun
  | [d1, d2] => { results := [.lit (.bool false)], args := [d1, d2] }
  | _ => none }
def CidrMergesWrongFalsely : Prop := cidrMergesRow.holds Try.pinned (OpenSpec.ofChange cidrMergesWrong)

/-- 'catwalklaw54.FragBack': WHATEVER THE INPUT: true; the input reads as it did. -/
def fragBackSpec : ChangeSpec := { name := "fragBack", fn := fun _ => fun
  | [d1, d2, d3] => { results := [.lit (.bool true)], args := [d1, d2, d3] }
  | _ => none }
def fragBackRow : OpenClaim := { program := "ytlngegoamfklgaa", sum := "8bdae51ab2e3bc988a04a21cdb0bf07f9af702afaf9c2ba47ad7eb4272741438", func := "catwalk/catwalklaw54.FragBack", spec := "fragBack", unfollowed := true, recurses := true, plainKeys := false, apart := false }
def FragBackSaid : Prop := fragBackRow.holds Try.pinned (OpenSpec.ofChange fragBackSpec)

/-- ITS FALSE NEIGHBOUR: 'it returns false'. Refute it at one input. -/
def fragBackWrong : ChangeSpec := { name := "fragBack", fn := fun _ => fun
  | [d1, d2, d3] => { results := [.lit (.bool false)], args := [d1, d2, d3] }
  | _ => none }
def FragBackWrongFalsely : Prop := fragBackRow.holds Try.pinned (OpenSpec.ofChange fragBackWrong)

/- THE SECOND FORM. 'bulk': how many values and letters a reading holds, each counted each time it is reached (what is shared counts as often as it is met; a slice's spare places count too). A statement '..UptoSaid' is the law's where the arguments, and the package variables that the reading takes, are together of bulk at most 1048576: NARROWER than '..Said'. Prove '..Said' where nothing that the law and all that it calls make is longer than what came in: it says more and counts as full. Else prove '..UptoSaid'. A law counts once. -/
mutual
def uptoBulk {H : Type} : DataW H → Nat
  | .lit (.string bytes) => bytes.length + 1
  | .lit _ => 1
  | .nil => 1
  | .ptr d => uptoBulk d + 1
  | .slice elems spare => uptoBulkAll elems + uptoBulkAll spare + 1
  | .agg parts => uptoBulkAll parts + 1
  | .iface _ d => uptoBulk d + 1
  | .map entries => uptoBulkEntries entries + 1
  | .held _ => 1
def uptoBulkAll {H : Type} : List (DataW H) → Nat
  | [] => 0
  | d :: r => uptoBulk d + uptoBulkAll r
def uptoBulkEntries {H : Type} : List (Lit × DataW H) → Nat
  | [] => 0
  | x :: r => uptoBulkEntry x + uptoBulkEntries r
def uptoBulkEntry {H : Type} : Lit × DataW H → Nat
  | (.string bytes, d) => bytes.length + uptoBulk d + 1
  | (_, d) => uptoBulk d + 1
 end
def uptoSmall : (H : Type) → List (DataW H) → Bool := fun _ ds => decide (uptoBulkAll ds ≤ 1048576)
def OpenSpec.upto (s : _root_.Go.ChangeSpec) : _root_.Go.OpenSpec := { _root_.Go.OpenSpec.ofChange s with cond := some uptoSmall }

/-- 'catwalklaw29.PoolApart', WHERE WHAT IT READS IS OF BULK AT MOST 1048576: true; the input reads as it did. -/
def poolApartUptoRow : OpenClaim := { program := "ytlngegoamfklgaa", sum := "8bdae51ab2e3bc988a04a21cdb0bf07f9af702afaf9c2ba47ad7eb4272741438", func := "catwalk/catwalklaw29.PoolApart", spec := "poolApart", plainKeys := false, apart := false, narrowed := true }
def PoolApartUptoSaid : Prop := poolApartUptoRow.holds Try.pinned (OpenSpec.upto poolApartSpec)

/-- 'catwalklaw14.SecretTables', WHERE WHAT IT READS IS OF BULK AT MOST 1048576: true; the input reads as it did. -/
def secretTablesUptoRow : OpenClaim := { program := "ytlngegoamfklgaa", sum := "8bdae51ab2e3bc988a04a21cdb0bf07f9af702afaf9c2ba47ad7eb4272741438", func := "catwalk/catwalklaw14.SecretTables", spec := "secretTables", recurses := true, plainKeys := false, apart := false, narrowed := true }
def SecretTablesUptoSaid : Prop := secretTablesUptoRow.holds Try.pinned (OpenSpec.upto secretTablesSpec)

/-- 'catwalklaw52.RouteNeedless', WHERE WHAT IT READS IS OF BULK AT MOST 1048576: true; the input reads as it did. -/
def routeNeedlessUptoRow : OpenClaim := { program := "ytlngegoamfklgaa", sum := "8bdae51ab2e3bc988a04a21cdb0bf07f9af702afaf9c2ba47ad7eb4272741438", func := "catwalk/catwalklaw52.RouteNeedless", spec := "routeNeedless", unfollowed := true, recurses := true, plainKeys := false, apart := false, narrowed := true }
def RouteNeedlessUptoSaid : Prop := routeNeedlessUptoRow.holds Try.pinned (OpenSpec.upto routeNeedlessSpec)

/-- 'catwalklaw29.PoolPlays', WHERE WHAT IT READS IS OF BULK AT MOST 1048576: true; the input reads as it did. -/
def poolPlaysUptoRow : OpenClaim := { program := "ytlngegoamfklgaa", sum := "8bdae51ab2e3bc988a04a21cdb0bf07f9af702afaf9c2ba47ad7eb4272741438", func := "catwalk/catwalklaw29.PoolPlays", spec := "poolPlays", recurses := true, plainKeys := false, apart := false, narrowed := true }
def PoolPlaysUptoSaid : Prop := poolPlaysUptoRow.holds Try.pinned (OpenSpec.upto poolPlaysSpec)

/-- 'catwalklaw52.RoutePlays', WHERE WHAT IT READS IS OF BULK AT MOST 1048576: true; the input reads as it did. -/
def routePlaysUptoRow : OpenClaim := { program := "ytlngegoamfklgaa", sum := "8bdae51ab2e3bc988a04a21cdb0bf07f9af702afaf9c2ba47ad7eb4272741438", func := "catwalk/catwalklaw52.RoutePlays", spec := "routePlays", unfollowed := true, recurses := true, plainKeys := false, apart := false, narrowed := true }
def RoutePlaysUptoSaid : Prop := routePlaysUptoRow.holds Try.pinned (OpenSpec.upto routePlaysSpec)

/-- 'catwalklaw18.TablePlays', WHERE WHAT IT READS IS OF BULK AT MOST 1048576: true; the input reads as it did. -/
def tablePlaysUptoRow : OpenClaim := { program := "ytlngegoamfklgaa", sum := "8bdae51ab2e3bc988a04a21cdb0bf07f9af702afaf9c2ba47ad7eb4272741438", func := "catwalk/catwalklaw18.TablePlays", spec := "tablePlays", unfollowed := true, recurses := true, plainKeys := false, apart := false, narrowed := true }
def TablePlaysUptoSaid : Prop := tablePlaysUptoRow.holds Try.pinned (OpenSpec.upto tablePlaysSpec)

/-- 'catwalklaw26.CidrMerges', WHERE WHAT IT READS IS OF BULK AT MOST 1048576: true; the input reads as it did. -/
def cidrMergesUptoRow : OpenClaim := { program := "ytlngegoamfklgaa", sum := "8bdae51ab2e3bc988a04a21cdb0bf07f9af702afaf9c2ba47ad7eb4272741438", func := "catwalk/catwalklaw26.CidrMerges", spec := "cidrMerges", unfollowed := true, recurses := true, plainKeys := false, apart := false, narrowed := true }
def CidrMergesUptoSaid : Prop := cidrMergesUptoRow.holds Try.pinned (OpenSpec.upto cidrMergesSpec)

/-- 'catwalklaw54.FragBack', WHERE WHAT IT READS IS OF BULK AT MOST 1048576: true; the input reads as it did. -/
def fragBackUptoRow : OpenClaim := { program := "ytlngegoamfklgaa", sum := "8bdae51ab2e3bc988a04a21cdb0bf07f9af702afaf9c2ba47ad7eb4272741438", func := "catwalk/catwalklaw54.FragBack", spec := "fragBack", unfollowed := true, recurses := true, plainKeys := false, apart := false, narrowed := true }
def FragBackUptoSaid : Prop := fragBackUptoRow.holds Try.pinned (OpenSpec.upto fragBackSpec)

end Rows
end Go.Proofs.Ytlngegoamfklgaa
