/- The sort of nil, over '<'. No program here. -/
import Derived.Test.YtlngegoamfklgaaVSortO7
namespace Go.Proofs.Ytlngegoamfklgaa
open Go

section
variable {P : Program} {less f fsift fins fheap fbreak fpivot frev fpart fequal fsplit fa fm fo fpow fnext fpdq flen flen32 flen64 : FuncId} {st : St} {T : ByteArray}
set_option maxRecDepth 100000 in
set_option maxHeartbeats 4000000 in
theorem oins0_v (hf : cFun P f = some (OIns less)) : VCalls P f [.sl .nil [], .sc (.int .i64 0), .sc (.int .i64 0)] st fun _ s => st = s := by
  refine vcalls_enter hf (Nat.le_of_ble_eq_true rfl) fun hwf hok => ?_
  show Run _ (OIns less).body (.fin (finQ (OIns less).res _)) _ _
  unfold OIns
  simp (config := {maxSteps := 3000000}) only [run_reg, run_seq, run_blk, at_code_n, ops_nil, ops_mv, ops_bin, ev_t, ev_c, put_get, opv_mk, args0, List.getD_cons_zero, List.getD_cons_succ, vbin, vbinI, norm, and_true, true_and, Int.reduceLE, Int.reduceAdd, Int.reduceNeg, ↓reduceIte, eq_self]
  refine run_loop [6, 7, 10, 11, 12, 13, 14, 15, 16, 17, 18, 19, 20, 21, 22, 23, 24, 25, 26, 27, 28, 29, 30, 31, 32, 33, 34, 35, 36, 37, 38, 39, 40, 41, 42, 43, 44, 45, 46, 47, 48] (fun B s => B 6 = .sc (.int .i64 1) ∧ s = st) (fun B _ => 0) rfl ?_ ?_
  · simp (config := {maxSteps := 3000000}) only [put_get, and_true, ↓reduceIte, eq_self]
  · rintro B s ⟨h6, rfl⟩
    simp (config := {maxSteps := 3000000}) only [run_reg, run_seq, run_exit, run_cond, if_false, at_code_n, at_code_x, at_blk_x, at_rnd_x, at_fin_n, ops_nil, ops_mv, ops_bin, ev_t, put_get, opv_mk, over_get, args0, List.getD_cons_zero, List.getD_cons_succ, vbin, vbinI, true_and, Nat.reduceEqDiff, Int.reduceLT, ↓reduceIte, vret, rvAll, decide_false, eq_self, Bool.false_eq_true, List.contains_cons, List.contains_nil, Nat.reduceBEq, Bool.or_false, h6]
    exact ⟨_, _, Wk.refl _, hwf.weak, rfl⟩
set_option maxRecDepth 100000 in
set_option maxHeartbeats 4000000 in
theorem opdq0_v (hc : SortsO P f less fins fheap fbreak fpivot frev fpart fequal fsplit fsift fa fm fo fpow fnext) {lim : Int} : VCalls P f [.sl .nil [], .sc (.int .i64 0), .sc (.int .i64 0), .sc (.int .i64 lim)] st fun _ s => st = s := by
  refine vcalls_enter hc.pdq (Nat.le_of_ble_eq_true rfl) fun hwf hok => ?_
  show Run _ (OPdq fins fheap fbreak fpivot frev fpart less fequal fsplit f).body (.fin (finQ (OPdq fins fheap fbreak fpivot frev fpart less fequal fsplit f).res _)) _ _
  unfold OPdq
  simp (config := {maxSteps := 3000000}) only [run_reg, run_seq, run_blk, at_code_n, ops_nil, ops_mv, ev_c, opv_mk, true_and]
  refine run_loop [1, 2, 3, 8, 9, 10, 11, 12, 13, 14, 15, 16, 17, 18, 19, 20, 21, 22, 23, 24, 25, 26, 27, 28, 29, 30, 31, 32, 33, 34, 35, 36, 37, 38, 39, 40, 41, 42, 43, 44, 45, 46, 47, 48, 49, 50, 51, 52, 53, 54, 55, 56, 57, 58, 59, 60, 61, 62, 63, 64, 65, 66, 67, 68, 69, 70, 71, 72, 73, 74, 75, 76, 77, 78, 79, 80, 81, 82, 83, 84, 85, 86, 87, 88, 89, 90, 91, 92, 93, 94, 95, 96, 97, 98, 99, 100, 101, 102, 103, 104, 105, 106, 107, 108, 109, 110, 111, 112, 113, 114, 115, 116, 117, 118, 119, 120, 121, 122, 123, 124, 125, 126, 127, 128, 129, 130, 131, 132, 133] (fun B s => B 1 = .sc (.int .i64 0) ∧ B 2 = .sc (.int .i64 0) ∧ s = st) (fun B _ => 0) rfl ?_ ?_
  · simp (config := {maxSteps := 3000000}) only [put_get, args0, List.getD_cons_zero, List.getD_cons_succ, and_true, Nat.reduceEqDiff, ↓reduceIte, eq_self]
  · rintro B s ⟨h1, h2, rfl⟩
    simp (config := {maxSteps := 3000000}) only [run_reg, run_seq, run_blk, run_cond, if_true, at_code_n, ops_nil, ops_mv, ops_bin, ops_call, ev_t, ev_c, put_get, opv_mk, over_get, args0, List.getD_cons_zero, vbin, vbinI, norm, List.map_cons, List.map_nil, and_true, true_and, Nat.reduceEqDiff, Int.reduceLE, Int.reduceSub, Int.reduceNeg, ↓reduceIte, decide_true, eq_self, reduceCtorEq, Bool.false_eq_true, List.contains_cons, List.contains_nil, Nat.reduceBEq, Bool.or_false, Bool.or_true, h1, h2]
    refine Cal.mk (oins0_v hc.ins) ?_
    rintro _ _ rfl -
    simp (config := {maxSteps := 3000000}) only [run_ret, at_code_n, at_code_r, at_blk_r, at_rnd_r, at_fin_r, ops_nil, obsOk, true_and, vret, rvAll]
    exact ⟨_, _, Wk.refl _, hwf.weak, rfl⟩
set_option maxRecDepth 100000 in
set_option maxHeartbeats 4000000 in
theorem osort0_v (hf : cFun P f = some (OSorts flen fpdq)) (hfl : cFun P flen = some (BLen flen32 flen64)) (h64 : cFun P flen64 = some (BLen64 T)) (hT : TabOk T) (hc : SortsO P fpdq less fins fheap fbreak fpivot frev fpart fequal fsplit fsift fa fm fo fpow fnext) :
    VCalls P f [.sl .nil []] st fun _ s => st = s := by
  refine vcalls_enter hf (Nat.le_of_ble_eq_true rfl) fun hwf hok => ?_
  show Run _ (OSorts flen fpdq).body (.fin (finQ (OSorts flen fpdq).res _)) _ _
  unfold OSorts
  simp (config := {maxSteps := 3000000}) only [run_reg, run_seq, at_code_n, ops_nil, ops_mv, ops_conv, ops_len, ops_call, ev_t, put_get, opv_mk, args0, List.getD_cons_zero, vconv, norm, vlen, List.map_cons, List.map_nil, List.length_nil, true_and, Nat.reduceEqDiff, ↓reduceIte, eq_self, reduceCtorEq]
  refine Cal.mk (blen_v hfl h64 hT (x := 0) (by omega)) ?_
  rintro _ _ ⟨rfl, k, k1, k2, k3, rfl⟩ -
  simp (config := {maxSteps := 3000000}) only [ops_call, ev_t, ev_c, put_get, obsOk, List.map_cons, List.map_nil, true_and, Nat.reduceEqDiff, ↓reduceIte, eq_self]
  refine Cal.mk (opdq0_v hc) ?_
  rintro _ _ rfl -
  simp (config := {maxSteps := 3000000}) only [at_fin_n, ops_nil, obsOk, true_and, vret, rvAll]
  exact ⟨_, _, Wk.refl _, hwf.weak, rfl⟩
end
end Go.Proofs.Ytlngegoamfklgaa
