/- The sort of table.Keys by a function, in the seat's own program. Printed by a program (gen_sortsc.py). -/
import Derived.Test.YtlngegoamfklgaaVSortC7
import Derived.Test.YtlngegoamfklgaaVc
namespace Go.Proofs.Ytlngegoamfklgaa
open Go

set_option maxRecDepth 100000 in
theorem sortsK : SortsC Try.prog 137 175 176 177 178 179 180 181 182 193 194 195 205 158 159 :=
  ⟨vc137, vc175, vc176, vc193, vc177, vc178, vc194, vc195, vc205, vc179, vc180, vc181, vc182,
    fun _ _ h0 hn => bpow_v vc158 vc71 vc120 tab_ok h0 hn, fun st r x => bnext_v vc159 st r x⟩
/-- A row sorted. -/
theorem sortK_v {α : Type} [Inhabited α] {val : α → V × V} {lt : α → α → Bool} {g : FuncId} (E : EltC Try.prog g val lt) {st : St} {b cap : Nat} {L : List α} {sp : List V} (hmo : mono (rowc val L sp)) (hl : L.length < 4611686018427387904) :
    VCalls Try.prog 87 [dataV b L.length cap, cmpV g] (st.put b (rowc val L sp)) fun _ s => ∃ M : List α, M.Perm L ∧ M.Pairwise (fun x y => lt y x = false) ∧ s = st.put b (rowc val M sp) :=
  csort_v vc87 vc71 vc120 tab_ok sortsK E hmo hl
end Go.Proofs.Ytlngegoamfklgaa
