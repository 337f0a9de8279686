/- Package msg: layouts, and messages of numbers: contracts. -/
import Derived.Test.YtogkdcbcmhhhcaaVRow
import Derived.Laws.BitsAllLaws
namespace Go.Proofs.Ytogkdcbcmhhhcaa
open Go Go.RowKit

/-- Rows of numbers. -/
def is (L : List Int) : List V := L.map fun n => .sc (.int .i64 n)
def us (L : List Int) : List V := L.map fun n => .sc (.int .u32 n)
def ts (L : List ByteArray) : List V := L.map fun s => .sc (.string s)
theorem is_len (L : List Int) : (is L).length = L.length := by simp [is]
theorem is_get (L : List Int) (i : Nat) : (is L)[i]? = (L[i]?).map fun n => .sc (.int .i64 n) := by simp [is]
theorem us_len (L : List Int) : (us L).length = L.length := by simp [us]
theorem us_get (L : List Int) (i : Nat) : (us L)[i]? = (L[i]?).map fun n => .sc (.int .u32 n) := by simp [us]
theorem ts_len (L : List ByteArray) : (ts L).length = L.length := by simp [ts]
/-- The parts of a type. -/
def layoutL (t : Int) : List Int :=
  if t = 1 then [2, -2, 4, 4, 2, 2, 64, 64] else
  if t = 2 then [2, 1, 1, 4, 4, 2, 2, 64, 64] else
  if t = 3 then [1, -3] else
  if t = 4 then [1, 1, -2] else
  if t = 5 then [4] else
  if t = 6 then [4, 1, 1, -2] else
  if t = 7 then [2, 2, 4, 4, 4, 4, 2, 2, 2, -2, 64, 64] else
  if t = 8 then [2, 2, 1, 1, 2, 4, 2, 2, 4] else
  if t = 9 then [2, 2, 4, 4, 2, 2, 64, 64, 64] else
  if t = 10 then [2, 2, 1, 1, 2, 2, -2] else
  if t = 11 then [2, -2, 4, 2, 2, 4] else
  if t = 12 then [2, -2] else
  if t = 13 then [2, 1, 1, 2, -2, 128] else
  if t = 14 then [2, -2, 4, 4, 4, 4, 4, 4] else
  if t = 15 then [2, -2, 4, 4] else
  []
section
variable {st : St}
theorem layout_v (t : Int) : VCalls Try.prog 77 [.sc (.int .i64 t)] st fun r st' => r = .sl .no (is (layoutL t)) ∧ st = st' := by
  refine vcalls_enter vc77 (Nat.le_of_ble_eq_true rfl) fun hwf hok => ?_
  show Run _ Vc77.body (.fin (finQ Vc77.res _)) _ _
  unfold Vc77
  by_cases h1 : t = 1
  · subst h1
    simp (config := {maxSteps := 3000000}) only [run_reg, run_seq, run_blk, run_cond, if_true, at_code_n, ops_nil, ops_mv, ops_bin, ops_bslo, ev_t, ev_c, put_get, opv_mk, args0, List.getD_cons_zero, vbin, vbinI, strip, strip1, List.map_cons, List.map_nil, true_and, Int.reduceNeg, ↓reduceIte, decide_true, eq_self, reduceCtorEq]
    refine Bo.own (by simp [allLen, V.cells]) ?_
    intro g hg
    simp (config := {maxSteps := 3000000}) only [run_ret, at_code_n, at_code_r, at_blk_r, at_fin_r, ops_nil, ops_mv, ev_t, put_get, opv_mk, obsOk, List.length_cons, List.length_nil, and_true, true_and, Nat.reduceAdd, Int.reduceNeg, Nat.zero_add, ↓reduceIte, vret, rvAll, rvVal, resv_1, eq_self]
    exact ⟨_, _, Wk.no, weak_use hwf.weak hg, rfl, rfl⟩
  by_cases h2 : t = 2
  · subst h2
    simp (config := {maxSteps := 3000000}) only [run_reg, run_seq, run_blk, run_cond, if_true, if_false, at_code_n, ops_nil, ops_mv, ops_bin, ops_bslo, ev_t, ev_c, put_get, opv_mk, args0, List.getD_cons_zero, vbin, vbinI, strip, strip1, List.map_cons, List.map_nil, true_and, Nat.reduceEqDiff, Int.reduceNeg, Int.reduceEq, ↓reduceIte, decide_true, decide_false, eq_self, reduceCtorEq]
    refine Bo.own (by simp [allLen, V.cells]) ?_
    intro g hg
    simp (config := {maxSteps := 3000000}) only [run_ret, at_code_n, at_code_r, at_blk_r, at_fin_r, ops_nil, ops_mv, ev_t, put_get, opv_mk, obsOk, List.length_cons, List.length_nil, and_true, true_and, Nat.reduceAdd, Nat.zero_add, ↓reduceIte, vret, rvAll, rvVal, resv_1, eq_self]
    exact ⟨_, _, Wk.no, weak_use hwf.weak hg, rfl, rfl⟩
  by_cases h3 : t = 3
  · subst h3
    simp (config := {maxSteps := 3000000}) only [run_reg, run_seq, run_blk, run_cond, if_true, if_false, at_code_n, ops_nil, ops_mv, ops_bin, ops_bslo, ev_t, ev_c, put_get, opv_mk, args0, List.getD_cons_zero, vbin, vbinI, strip, strip1, List.map_cons, List.map_nil, true_and, Nat.reduceEqDiff, Int.reduceNeg, Int.reduceEq, ↓reduceIte, decide_true, decide_false, eq_self, reduceCtorEq]
    refine Bo.own (by simp [allLen, V.cells]) ?_
    intro g hg
    simp (config := {maxSteps := 3000000}) only [run_ret, at_code_n, at_code_r, at_blk_r, at_fin_r, ops_nil, ops_mv, ev_t, put_get, opv_mk, obsOk, List.length_cons, List.length_nil, and_true, true_and, Nat.reduceAdd, Int.reduceNeg, Nat.zero_add, ↓reduceIte, vret, rvAll, rvVal, resv_1, eq_self]
    exact ⟨_, _, Wk.no, weak_use hwf.weak hg, rfl, rfl⟩
  by_cases h4 : t = 4
  · subst h4
    simp (config := {maxSteps := 3000000}) only [run_reg, run_seq, run_blk, run_cond, if_true, if_false, at_code_n, ops_nil, ops_mv, ops_bin, ops_bslo, ev_t, ev_c, put_get, opv_mk, args0, List.getD_cons_zero, vbin, vbinI, strip, strip1, List.map_cons, List.map_nil, true_and, Nat.reduceEqDiff, Int.reduceNeg, Int.reduceEq, ↓reduceIte, decide_true, decide_false, eq_self, reduceCtorEq]
    refine Bo.own (by simp [allLen, V.cells]) ?_
    intro g hg
    simp (config := {maxSteps := 3000000}) only [run_ret, at_code_n, at_code_r, at_blk_r, at_fin_r, ops_nil, ops_mv, ev_t, put_get, opv_mk, obsOk, List.length_cons, List.length_nil, and_true, true_and, Nat.reduceAdd, Int.reduceNeg, Nat.zero_add, ↓reduceIte, vret, rvAll, rvVal, resv_1, eq_self]
    exact ⟨_, _, Wk.no, weak_use hwf.weak hg, rfl, rfl⟩
  by_cases h5 : t = 5
  · subst h5
    simp (config := {maxSteps := 3000000}) only [run_reg, run_seq, run_blk, run_cond, if_true, if_false, at_code_n, ops_nil, ops_mv, ops_bin, ops_bslo, ev_t, ev_c, put_get, opv_mk, args0, List.getD_cons_zero, vbin, vbinI, strip, strip1, List.map_cons, List.map_nil, true_and, Nat.reduceEqDiff, Int.reduceNeg, Int.reduceEq, ↓reduceIte, decide_true, decide_false, eq_self, reduceCtorEq]
    refine Bo.own (by simp [allLen, V.cells]) ?_
    intro g hg
    simp (config := {maxSteps := 3000000}) only [run_ret, at_code_n, at_code_r, at_blk_r, at_fin_r, ops_nil, ops_mv, ev_t, put_get, opv_mk, obsOk, List.length_cons, List.length_nil, and_true, true_and, Nat.zero_add, ↓reduceIte, vret, rvAll, rvVal, resv_1, eq_self]
    exact ⟨_, _, Wk.no, weak_use hwf.weak hg, rfl, rfl⟩
  by_cases h6 : t = 6
  · subst h6
    simp (config := {maxSteps := 3000000}) only [run_reg, run_seq, run_blk, run_cond, if_true, if_false, at_code_n, ops_nil, ops_mv, ops_bin, ops_bslo, ev_t, ev_c, put_get, opv_mk, args0, List.getD_cons_zero, vbin, vbinI, strip, strip1, List.map_cons, List.map_nil, true_and, Nat.reduceEqDiff, Int.reduceNeg, Int.reduceEq, ↓reduceIte, decide_true, decide_false, eq_self, reduceCtorEq]
    refine Bo.own (by simp [allLen, V.cells]) ?_
    intro g hg
    simp (config := {maxSteps := 3000000}) only [run_ret, at_code_n, at_code_r, at_blk_r, at_fin_r, ops_nil, ops_mv, ev_t, put_get, opv_mk, obsOk, List.length_cons, List.length_nil, and_true, true_and, Nat.reduceAdd, Int.reduceNeg, Nat.zero_add, ↓reduceIte, vret, rvAll, rvVal, resv_1, eq_self]
    exact ⟨_, _, Wk.no, weak_use hwf.weak hg, rfl, rfl⟩
  by_cases h7 : t = 7
  · subst h7
    simp (config := {maxSteps := 3000000}) only [run_reg, run_seq, run_blk, run_cond, if_true, if_false, at_code_n, ops_nil, ops_mv, ops_bin, ops_bslo, ev_t, ev_c, put_get, opv_mk, args0, List.getD_cons_zero, vbin, vbinI, strip, strip1, List.map_cons, List.map_nil, true_and, Nat.reduceEqDiff, Int.reduceNeg, Int.reduceEq, ↓reduceIte, decide_true, decide_false, eq_self, reduceCtorEq]
    refine Bo.own (by simp [allLen, V.cells]) ?_
    intro g hg
    simp (config := {maxSteps := 3000000}) only [run_ret, at_code_n, at_code_r, at_blk_r, at_fin_r, ops_nil, ops_mv, ev_t, put_get, opv_mk, obsOk, List.length_cons, List.length_nil, and_true, true_and, Nat.reduceAdd, Int.reduceNeg, Nat.zero_add, ↓reduceIte, vret, rvAll, rvVal, resv_1, eq_self]
    exact ⟨_, _, Wk.no, weak_use hwf.weak hg, rfl, rfl⟩
  by_cases h8 : t = 8
  · subst h8
    simp (config := {maxSteps := 3000000}) only [run_reg, run_seq, run_blk, run_cond, if_true, if_false, at_code_n, ops_nil, ops_mv, ops_bin, ops_bslo, ev_t, ev_c, put_get, opv_mk, args0, List.getD_cons_zero, vbin, vbinI, strip, strip1, List.map_cons, List.map_nil, true_and, Nat.reduceEqDiff, Int.reduceNeg, Int.reduceEq, ↓reduceIte, decide_true, decide_false, eq_self, reduceCtorEq]
    refine Bo.own (by simp [allLen, V.cells]) ?_
    intro g hg
    simp (config := {maxSteps := 3000000}) only [run_ret, at_code_n, at_code_r, at_blk_r, at_fin_r, ops_nil, ops_mv, ev_t, put_get, opv_mk, obsOk, List.length_cons, List.length_nil, and_true, true_and, Nat.reduceAdd, Nat.zero_add, ↓reduceIte, vret, rvAll, rvVal, resv_1, eq_self]
    exact ⟨_, _, Wk.no, weak_use hwf.weak hg, rfl, rfl⟩
  by_cases h9 : t = 9
  · subst h9
    simp (config := {maxSteps := 3000000}) only [run_reg, run_seq, run_blk, run_cond, if_true, if_false, at_code_n, ops_nil, ops_mv, ops_bin, ops_bslo, ev_t, ev_c, put_get, opv_mk, args0, List.getD_cons_zero, vbin, vbinI, strip, strip1, List.map_cons, List.map_nil, true_and, Nat.reduceEqDiff, Int.reduceNeg, Int.reduceEq, ↓reduceIte, decide_true, decide_false, eq_self, reduceCtorEq]
    refine Bo.own (by simp [allLen, V.cells]) ?_
    intro g hg
    simp (config := {maxSteps := 3000000}) only [run_ret, at_code_n, at_code_r, at_blk_r, at_fin_r, ops_nil, ops_mv, ev_t, put_get, opv_mk, obsOk, List.length_cons, List.length_nil, and_true, true_and, Nat.reduceAdd, Nat.zero_add, ↓reduceIte, vret, rvAll, rvVal, resv_1, eq_self]
    exact ⟨_, _, Wk.no, weak_use hwf.weak hg, rfl, rfl⟩
  by_cases h10 : t = 10
  · subst h10
    simp (config := {maxSteps := 3000000}) only [run_reg, run_seq, run_blk, run_cond, if_true, if_false, at_code_n, ops_nil, ops_mv, ops_bin, ops_bslo, ev_t, ev_c, put_get, opv_mk, args0, List.getD_cons_zero, vbin, vbinI, strip, strip1, List.map_cons, List.map_nil, true_and, Nat.reduceEqDiff, Int.reduceNeg, Int.reduceEq, ↓reduceIte, decide_true, decide_false, eq_self, reduceCtorEq]
    refine Bo.own (by simp [allLen, V.cells]) ?_
    intro g hg
    simp (config := {maxSteps := 3000000}) only [run_ret, at_code_n, at_code_r, at_blk_r, at_fin_r, ops_nil, ops_mv, ev_t, put_get, opv_mk, obsOk, List.length_cons, List.length_nil, and_true, true_and, Nat.reduceAdd, Int.reduceNeg, Nat.zero_add, ↓reduceIte, vret, rvAll, rvVal, resv_1, eq_self]
    exact ⟨_, _, Wk.no, weak_use hwf.weak hg, rfl, rfl⟩
  by_cases h11 : t = 11
  · subst h11
    simp (config := {maxSteps := 3000000}) only [run_reg, run_seq, run_blk, run_cond, if_true, if_false, at_code_n, ops_nil, ops_mv, ops_bin, ops_bslo, ev_t, ev_c, put_get, opv_mk, args0, List.getD_cons_zero, vbin, vbinI, strip, strip1, List.map_cons, List.map_nil, true_and, Nat.reduceEqDiff, Int.reduceNeg, Int.reduceEq, ↓reduceIte, decide_true, decide_false, eq_self, reduceCtorEq]
    refine Bo.own (by simp [allLen, V.cells]) ?_
    intro g hg
    simp (config := {maxSteps := 3000000}) only [run_ret, at_code_n, at_code_r, at_blk_r, at_fin_r, ops_nil, ops_mv, ev_t, put_get, opv_mk, obsOk, List.length_cons, List.length_nil, and_true, true_and, Nat.reduceAdd, Int.reduceNeg, Nat.zero_add, ↓reduceIte, vret, rvAll, rvVal, resv_1, eq_self]
    exact ⟨_, _, Wk.no, weak_use hwf.weak hg, rfl, rfl⟩
  by_cases h12 : t = 12
  · subst h12
    simp (config := {maxSteps := 3000000}) only [run_reg, run_seq, run_blk, run_cond, if_true, if_false, at_code_n, ops_nil, ops_mv, ops_bin, ops_bslo, ev_t, ev_c, put_get, opv_mk, args0, List.getD_cons_zero, vbin, vbinI, strip, strip1, List.map_cons, List.map_nil, true_and, Nat.reduceEqDiff, Int.reduceNeg, Int.reduceEq, ↓reduceIte, decide_true, decide_false, eq_self, reduceCtorEq]
    refine Bo.own (by simp [allLen, V.cells]) ?_
    intro g hg
    simp (config := {maxSteps := 3000000}) only [run_ret, at_code_n, at_code_r, at_blk_r, at_fin_r, ops_nil, ops_mv, ev_t, put_get, opv_mk, obsOk, List.length_cons, List.length_nil, and_true, true_and, Nat.reduceAdd, Int.reduceNeg, Nat.zero_add, ↓reduceIte, vret, rvAll, rvVal, resv_1, eq_self]
    exact ⟨_, _, Wk.no, weak_use hwf.weak hg, rfl, rfl⟩
  by_cases h13 : t = 13
  · subst h13
    simp (config := {maxSteps := 3000000}) only [run_reg, run_seq, run_blk, run_cond, if_true, if_false, at_code_n, ops_nil, ops_mv, ops_bin, ops_bslo, ev_t, ev_c, put_get, opv_mk, args0, List.getD_cons_zero, vbin, vbinI, strip, strip1, List.map_cons, List.map_nil, true_and, Nat.reduceEqDiff, Int.reduceNeg, Int.reduceEq, ↓reduceIte, decide_true, decide_false, eq_self, reduceCtorEq]
    refine Bo.own (by simp [allLen, V.cells]) ?_
    intro g hg
    simp (config := {maxSteps := 3000000}) only [run_ret, at_code_n, at_code_r, at_blk_r, at_fin_r, ops_nil, ops_mv, ev_t, put_get, opv_mk, obsOk, List.length_cons, List.length_nil, and_true, true_and, Nat.reduceAdd, Int.reduceNeg, Nat.zero_add, ↓reduceIte, vret, rvAll, rvVal, resv_1, eq_self]
    exact ⟨_, _, Wk.no, weak_use hwf.weak hg, rfl, rfl⟩
  by_cases h14 : t = 14
  · subst h14
    simp (config := {maxSteps := 3000000}) only [run_reg, run_seq, run_blk, run_cond, if_true, if_false, at_code_n, ops_nil, ops_mv, ops_bin, ops_bslo, ev_t, ev_c, put_get, opv_mk, args0, List.getD_cons_zero, vbin, vbinI, strip, strip1, List.map_cons, List.map_nil, true_and, Nat.reduceEqDiff, Int.reduceNeg, Int.reduceEq, ↓reduceIte, decide_true, decide_false, eq_self, reduceCtorEq]
    refine Bo.own (by simp [allLen, V.cells]) ?_
    intro g hg
    simp (config := {maxSteps := 3000000}) only [run_ret, at_code_n, at_code_r, at_blk_r, at_fin_r, ops_nil, ops_mv, ev_t, put_get, opv_mk, obsOk, List.length_cons, List.length_nil, and_true, true_and, Nat.reduceAdd, Int.reduceNeg, Nat.zero_add, ↓reduceIte, vret, rvAll, rvVal, resv_1, eq_self]
    exact ⟨_, _, Wk.no, weak_use hwf.weak hg, rfl, rfl⟩
  by_cases h15 : t = 15
  · subst h15
    simp (config := {maxSteps := 3000000}) only [run_reg, run_seq, run_blk, run_cond, if_true, if_false, at_code_n, ops_nil, ops_mv, ops_bin, ops_bslo, ev_t, ev_c, put_get, opv_mk, args0, List.getD_cons_zero, vbin, vbinI, strip, strip1, List.map_cons, List.map_nil, true_and, Nat.reduceEqDiff, Int.reduceNeg, Int.reduceEq, ↓reduceIte, decide_true, decide_false, eq_self, reduceCtorEq]
    refine Bo.own (by simp [allLen, V.cells]) ?_
    intro g hg
    simp (config := {maxSteps := 3000000}) only [run_ret, at_code_n, at_code_r, at_blk_r, at_fin_r, ops_nil, ops_mv, ev_t, put_get, opv_mk, obsOk, List.length_cons, List.length_nil, and_true, true_and, Nat.reduceAdd, Int.reduceNeg, Nat.zero_add, ↓reduceIte, vret, rvAll, rvVal, resv_1, eq_self]
    exact ⟨_, _, Wk.no, weak_use hwf.weak hg, rfl, rfl⟩
  simp (config := {maxSteps := 3000000}) only [run_skip, run_reg, run_seq, run_blk, run_ret, run_cond, if_false, at_code_n, at_blk_n, at_fin_r, ops_nil, ops_mv, ops_bin, ev_t, ev_c, put_get, opv_mk, args0, List.getD_cons_zero, vbin, vbinI, and_true, true_and, Nat.reduceEqDiff, Int.reduceNeg, ↓reduceIte, vret, rvAll, rvVal, resv_1, eq_self, reduceCtorEq, decide_eq_false h1, decide_eq_false h2, decide_eq_false h3, decide_eq_false h4, decide_eq_false h5, decide_eq_false h6, decide_eq_false h7, decide_eq_false h8, decide_eq_false h9, decide_eq_false h10, decide_eq_false h11, decide_eq_false h12, decide_eq_false h13, decide_eq_false h14, decide_eq_false h15]
  refine ⟨_, _, Wk.no, hwf.weak, ?_, rfl⟩
  unfold layoutL
  rw [if_neg h1, if_neg h2, if_neg h3, if_neg h4, if_neg h5, if_neg h6, if_neg h7, if_neg h8, if_neg h9, if_neg h10, if_neg h11, if_neg h12, if_neg h13, if_neg h14, if_neg h15]
  rfl
end
end Go.Proofs.Ytogkdcbcmhhhcaa
