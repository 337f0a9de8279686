/- The sort of strings, in the seat's own program. Printed by a program (gen_sorts.py). -/
import Derived.Test.YtlngegoamfklgaaVSortO7
import Derived.Test.YtlngegoamfklgaaVc
namespace Go.Proofs.Ytlngegoamfklgaa
open Go

set_option maxRecDepth 100000 in
theorem sortsS : SortsO Try.prog 70 116 110 111 112 113 114 115 117 118 157 160 161 188 158 159 :=
  ⟨vc70, vc110, vc111, vc157, vc112, vc113, vc160, vc161, vc188, vc114, vc115, vc117, vc118,
    fun _ _ h0 hn => bpow_v vc158 vc71 vc120 tab_ok h0 hn, fun st r x => bnext_v vc159 st r x⟩
/-- A row sorted. -/
theorem sortS_v {st : St} {b cap : Nat} {L : List ByteArray} {sp : List V} (hmo : mono (row (fun x : ByteArray => .string x) L sp)) (hl : L.length < 4611686018427387904) :
    VCalls Try.prog 25 [dataV b L.length cap] (st.put b (row (fun x : ByteArray => .string x) L sp)) fun _ s => ∃ M : List ByteArray, M.Perm L ∧ M.Pairwise (fun x y => ltS y x = false) ∧ s = st.put b (row (fun x : ByteArray => .string x) M sp) :=
  osort_v vc25 vc71 vc120 tab_ok sortsS (elt_str vc116 vc162) hmo hl
end Go.Proofs.Ytlngegoamfklgaa
