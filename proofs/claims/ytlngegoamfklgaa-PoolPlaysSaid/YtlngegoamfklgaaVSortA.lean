/- The sort of api.Addrs, in the seat's own program. Printed by a program (gen_sorts.py). -/
import Derived.Test.YtlngegoamfklgaaVSortO7
import Derived.Test.YtlngegoamfklgaaVc
namespace Go.Proofs.Ytlngegoamfklgaa
open Go

set_option maxRecDepth 100000 in
theorem sortsA : SortsO Try.prog 77 129 123 124 125 126 127 128 130 131 163 164 165 189 158 159 :=
  ⟨vc77, vc123, vc124, vc163, vc125, vc126, vc164, vc165, vc189, vc127, vc128, vc130, vc131,
    fun _ _ h0 hn => bpow_v vc158 vc71 vc120 tab_ok h0 hn, fun st r x => bnext_v vc159 st r x⟩
/-- A row sorted. -/
theorem sortA_v {st : St} {b cap : Nat} {L : List Int} {sp : List V} (hmo : mono (row (fun x : Int => .int .u32 x) L sp)) (hl : L.length < 4611686018427387904) :
    VCalls Try.prog 37 [dataV b L.length cap] (st.put b (row (fun x : Int => .int .u32 x) L sp)) fun _ s => ∃ M : List Int, M.Perm L ∧ M.Pairwise (fun x y => ltI y x = false) ∧ s = st.put b (row (fun x : Int => .int .u32 x) M sp) :=
  osort_v vc37 vc71 vc120 tab_ok sortsA (elt_int vc129 vc166 .u32) hmo hl
end Go.Proofs.Ytlngegoamfklgaa
