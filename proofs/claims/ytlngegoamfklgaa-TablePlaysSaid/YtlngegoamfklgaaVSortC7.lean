/- Go's own sort by a function: slices.SortFunc: contract. Printed by a program (gen_sort7.py). No program here. -/
import Derived.Test.YtlngegoamfklgaaVSortC6
import Derived.Test.YtlngegoamfklgaaVSortB
namespace Go.Proofs.Ytlngegoamfklgaa
open Go

section
variable {P : Program} {α : Type} [Inhabited α] {val : α → V × V} {lt : α → α → Bool} {g f fsift : FuncId} {st : St} {b cap a c : Nat} {L : List α} {sp : List V}
variable {fins fheap fbreak fpivot frev fpart fequal fsplit fa fm fo fpow fnext fpdq flen flen32 flen64 fnan : FuncId} {T : ByteArray}
set_option maxRecDepth 100000 in
set_option maxHeartbeats 4000000 in
theorem csort_v (hf : cFun P f = some (CSorts flen fpdq)) (hfl : cFun P flen = some (BLen flen32 flen64)) (h64 : cFun P flen64 = some (BLen64 T)) (hT : TabOk T) (hc : SortsC P fpdq fins fheap fbreak fpivot frev fpart fequal fsplit fsift fa fm fo fpow fnext) (E : EltC P g val lt) (hmo : mono (rowc val L sp)) (hl : L.length < 4611686018427387904) :
    VCalls P f [dataV b L.length cap, cmpV g] (st.put b (rowc val L sp)) fun _ s => ∃ M : List α, M.Perm L ∧ M.Pairwise (fun x y => lt y x = false) ∧ s = st.put b (rowc val M sp) := by
  have en : (L.length : Int) % 18446744073709551616 = (L.length : Int) := by omega
  refine vcalls_enter hf (Nat.le_of_ble_eq_true rfl) fun hwf hok => ?_
  show Run _ (CSorts flen fpdq).body (.fin (finQ (CSorts flen fpdq).res _)) _ _
  unfold CSorts
  simp (config := {maxSteps := 3000000}) only [run_reg, run_seq, at_code_n, ops_nil, ops_mv, ops_conv, ops_len, ops_call, ev_t, put_get, opv_mk, args0, List.getD_cons_zero, vconv, norm, vlen, List.map_cons, List.map_nil, true_and, Nat.reduceEqDiff, ↓reduceIte, eq_self, reduceCtorEq, dataV, cmpV, en]
  refine Cal.mk (blen_v hfl h64 hT (x := L.length) (by omega)) ?_
  rintro _ _ ⟨rfl, k, k1, k2, k3, rfl⟩ -
  simp (config := {maxSteps := 3000000}) only [ops_mv, ops_call, ev_t, ev_c, put_get, opv_mk, args0, List.getD_cons_zero, List.getD_cons_succ, obsOk, List.map_cons, List.map_nil, true_and, Nat.reduceEqDiff, ↓reduceIte, eq_self]
  have cc := cpdq_v (st := st) (b := b) (cap := cap) (sp := sp) hc E L.length 0 L.length L k (by omega) (by omega) (by omega) hl (by omega) (by omega) (fun h0 => by omega) hmo
  rw [dataV] at cc
  refine Cal.mk cc ?_
  rintro _ _ ⟨M, m1, m2, rfl⟩ -
  simp (config := {maxSteps := 3000000}) only [at_fin_n, ops_nil, obsOk, true_and, vret, rvAll]
  exact ⟨_, _, Wk.refl _, weak_re hwf, M, (Srt.all m1 m2).1, (Srt.all m1 m2).2, rfl⟩
end
end Go.Proofs.Ytlngegoamfklgaa
