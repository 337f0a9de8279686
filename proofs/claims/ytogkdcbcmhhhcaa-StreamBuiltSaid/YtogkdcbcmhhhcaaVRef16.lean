/- catwalkref16: the table's rows as parts: contracts. (The case walks are printed by wip/tools/gen_ref16.py.) -/
import Derived.Test.YtogkdcbcmhhhcaaVRef3
import Derived.Test.YtogkdcbcmhhhcaaVMsg2
namespace Go.Proofs.Ytogkdcbcmhhhcaa
open Go

/-- The row of a type. -/
def rowL (t : Int) : List Int :=
  if t = 1 then [50, 110, 32, 50, 95, 32, 52, 110, 32, 52, 110, 32, 50, 110, 32, 50, 110, 32, 54, 52, 116, 32, 54, 52, 116] else
  if t = 2 then [50, 110, 32, 49, 110, 32, 49, 110, 32, 52, 110, 32, 52, 110, 32, 50, 110, 32, 50, 110, 32, 54, 52, 116, 32, 54, 52, 116] else
  if t = 3 then [49, 110, 32, 51, 95] else
  if t = 4 then [49, 110, 32, 49, 110, 32, 50, 95] else
  if t = 5 then [52, 110] else
  if t = 6 then [52, 110, 32, 49, 110, 32, 49, 110, 32, 50, 95] else
  if t = 7 then [50, 110, 32, 50, 110, 32, 52, 110, 32, 52, 110, 32, 52, 110, 32, 52, 110, 32, 50, 110, 32, 50, 110, 32, 50, 110, 32, 50, 95, 32, 54, 52, 116, 32, 54, 52, 116] else
  if t = 8 then [50, 110, 32, 50, 110, 32, 49, 110, 32, 49, 110, 32, 50, 110, 32, 52, 110, 32, 50, 110, 32, 50, 110, 32, 52, 110] else
  if t = 9 then [50, 110, 32, 50, 110, 32, 52, 110, 32, 52, 110, 32, 50, 110, 32, 50, 110, 32, 54, 52, 116, 32, 54, 52, 116, 32, 54, 52, 116] else
  if t = 10 then [50, 110, 32, 50, 110, 32, 49, 110, 32, 49, 110, 32, 50, 110, 32, 50, 110, 32, 50, 95] else
  if t = 11 then [50, 110, 32, 50, 95, 32, 52, 110, 32, 50, 110, 32, 50, 110, 32, 52, 110] else
  if t = 12 then [50, 110, 32, 50, 95] else
  if t = 13 then [50, 110, 32, 49, 110, 32, 49, 110, 32, 50, 110, 32, 50, 95, 32, 49, 50, 56, 116] else
  if t = 14 then [50, 110, 32, 50, 95, 32, 52, 110, 32, 52, 110, 32, 52, 110, 32, 52, 110, 32, 52, 110, 32, 52, 110] else
  if t = 15 then [50, 110, 32, 50, 95, 32, 52, 110, 32, 52, 110] else
  []
def toPart (k : Int) : Int × Int := if k < 0 then (95, -k) else if 4 < k then (116, k) else (110, k)
def wordPart (M : List Int) : Int × Int := (M.getD (M.length - 1) 0, (rdN (M.take (M.length - 1))).1)
theorem rowL_none {t : Int} (h : t < 1 ∨ 15 < t) : rowL t = [] := by
  unfold rowL
  rw [if_neg (by omega), if_neg (by omega), if_neg (by omega), if_neg (by omega), if_neg (by omega), if_neg (by omega), if_neg (by omega), if_neg (by omega), if_neg (by omega), if_neg (by omega), if_neg (by omega), if_neg (by omega), if_neg (by omega), if_neg (by omega), if_neg (by omega)]
theorem layoutL_none {t : Int} (h : t < 1 ∨ 15 < t) : layoutL t = [] := by
  unfold layoutL
  rw [if_neg (by omega), if_neg (by omega), if_neg (by omega), if_neg (by omega), if_neg (by omega), if_neg (by omega), if_neg (by omega), if_neg (by omega), if_neg (by omega), if_neg (by omega), if_neg (by omega), if_neg (by omega), if_neg (by omega), if_neg (by omega), if_neg (by omega)]
theorem t_cases {t : Int} : (t < 1 ∨ 15 < t) ∨ t = 1 ∨ t = 2 ∨ t = 3 ∨ t = 4 ∨ t = 5 ∨ t = 6 ∨ t = 7 ∨ t = 8 ∨ t = 9 ∨ t = 10 ∨ t = 11 ∨ t = 12 ∨ t = 13 ∨ t = 14 ∨ t = 15 := by omega
theorem rowL_isB (t : Int) : IsB (rowL t) := by
  rcases t_cases (t := t) with h | rfl | rfl | rfl | rfl | rfl | rfl | rfl | rfl | rfl | rfl | rfl | rfl | rfl | rfl | rfl
  · rw [rowL_none h]; exact isB_nil
  all_goals (intro x hx; revert x; decide)
theorem rowL_len (t : Int) : (rowL t).length ≤ 100 := by
  rcases t_cases (t := t) with h | rfl | rfl | rfl | rfl | rfl | rfl | rfl | rfl | rfl | rfl | rfl | rfl | rfl | rfl | rfl
  · rw [rowL_none h]; decide
  all_goals decide
theorem parts_eq (t : Int) : (wordsL (rowL t)).map wordPart = (layoutL t).map toPart := by
  rcases t_cases (t := t) with h | rfl | rfl | rfl | rfl | rfl | rfl | rfl | rfl | rfl | rfl | rfl | rfl | rfl | rfl | rfl
  · rw [rowL_none h, layoutL_none h]; decide
  all_goals decide
theorem words_lenM (t : Int) : ∀ M ∈ wordsL (rowL t), M.length ≤ 10000 := by
  rcases t_cases (t := t) with h | rfl | rfl | rfl | rfl | rfl | rfl | rfl | rfl | rfl | rfl | rfl | rfl | rfl | rfl | rfl
  · rw [rowL_none h]; decide
  all_goals decide
theorem words_long {L M : List Int} (h : M ∈ wordsL L) : 0 < M.length := by
  have := (List.mem_filter.1 h).2
  simp only [ne_eq, decide_not, Bool.not_eq_eq_eq_not, Bool.not_true, decide_eq_false_iff_not] at this
  exact List.length_pos_iff.2 this
theorem words_cnt (L : List Int) : (wordsL L).length ≤ L.length + 1 := Nat.le_trans (List.length_filter_le _ _) (splL_len _ _)
/-- Rows of parts. -/
def ps (P : List (Int × Int)) : List V := P.map fun p => .agg [.sc (.int .u8 p.1), .sc (.int .i64 p.2)]
theorem ps_len (P : List (Int × Int)) : (ps P).length = P.length := by simp [ps]
theorem ps_get (P : List (Int × Int)) (i : Nat) : (ps P)[i]? = (P[i]?).map fun p => .agg [.sc (.int .u8 p.1), .sc (.int .i64 p.2)] := by simp [ps]
theorem ps_append (A B : List (Int × Int)) : ps A ++ ps B = ps (A ++ B) := by simp [ps]
theorem allSz_ps (P : List (Int × Int)) : allSz 2 (ps P) := fun d hd => by
  obtain ⟨x, _, rfl⟩ := List.mem_map.1 hd; rfl
section
variable {st : St}
theorem row16_v (t : Int) : VCalls Try.prog 75 [.sc (.int .i64 t)] st fun r st' => r = .sc (.string (strOf (rowL t))) ∧ st = st' := by
  refine vcalls_enter vc75 (Nat.le_of_ble_eq_true rfl) fun hwf hok => ?_
  show Run _ Vc75.body (.fin (finQ Vc75.res _)) _ _
  unfold Vc75
  by_cases c1 : t < 0
  · rw [rowL_none (by omega)]
    simp (config := {maxSteps := 3000000}) only [run_reg, run_seq, at_code_n, ops_nil, ops_grd, ops_mv, ops_bin, ops_bld, ops_alc, ops_store, ev_t, ev_c, put_get, put_none, opv_mk, stb_some, sto_ptr, Stp, vbld, put_box_same, put_put, args0, List.getD_cons_zero, vbin, vbinI, fillV, splice, V.cells, ptrV, obsOk, List.map_cons, List.map_nil, List.length_cons, List.length_nil, List.take_succ_cons, List.take_zero, List.drop_succ_cons, List.drop_zero, List.cons_append, List.nil_append, List.append_nil, List.drop_nil, and_true, true_and, Nat.reduceEqDiff, Nat.reduceAdd, Nat.reduceLT, Nat.reduceLeDiff, Nat.reduceLT, Nat.zero_add, ↓reduceIte, eq_self, reduceCtorEq]
    intro b hb
    simp (config := {maxSteps := 3000000}) only [run_reg, run_seq, run_ret, run_cond, if_true, at_code_n, at_code_r, at_fin_r, ops_nil, ops_grd, grd_tf, ops_mv, ops_pick, ev_t, ev_c, put_get, opv_mk, vpick, and_true, true_and, Nat.reduceEqDiff, ↓reduceIte, vret, rvAll, rvVal, resv_1, eq_self, decide_eq_true c1]
    exact ⟨_, _, Wk.refl _, weak_put hwf.weak hb, rfl, rfl⟩
  by_cases c2 : 15 < t
  · rw [rowL_none (by omega)]
    simp (config := {maxSteps := 3000000}) only [run_reg, run_seq, at_code_n, ops_nil, ops_grd, ops_mv, ops_bin, ops_bld, ops_alc, ops_store, ev_t, ev_c, put_get, put_none, opv_mk, stb_some, sto_ptr, Stp, vbld, put_box_same, put_put, args0, List.getD_cons_zero, vbin, vbinI, fillV, splice, V.cells, ptrV, obsOk, List.map_cons, List.map_nil, List.length_cons, List.length_nil, List.take_succ_cons, List.take_zero, List.drop_succ_cons, List.drop_zero, List.cons_append, List.nil_append, List.append_nil, List.drop_nil, and_true, true_and, Nat.reduceEqDiff, Nat.reduceAdd, Nat.reduceLT, Nat.reduceLeDiff, Nat.reduceLT, Nat.zero_add, ↓reduceIte, eq_self, reduceCtorEq]
    intro b hb
    simp (config := {maxSteps := 3000000}) only [run_reg, run_seq, run_ret, run_cond, if_true, at_code_n, at_code_r, at_fin_r, ops_nil, ops_grd, grd_ff, ops_mv, ops_pick, ops_bin, ev_t, ev_c, put_get, opv_mk, args0, List.getD_cons_zero, vpick, vbin, vbinI, and_true, true_and, Nat.reduceEqDiff, ↓reduceIte, vret, rvAll, rvVal, resv_1, eq_self, reduceCtorEq, Bool.false_eq_true, decide_eq_false c1, decide_eq_true c2]
    exact ⟨_, _, Wk.refl _, weak_put hwf.weak hb, rfl, rfl⟩
  have hc : t = 0 ∨ t = 1 ∨ t = 2 ∨ t = 3 ∨ t = 4 ∨ t = 5 ∨ t = 6 ∨ t = 7 ∨ t = 8 ∨ t = 9 ∨ t = 10 ∨ t = 11 ∨ t = 12 ∨ t = 13 ∨ t = 14 ∨ t = 15 := by omega
  rcases hc with rfl | rfl | rfl | rfl | rfl | rfl | rfl | rfl | rfl | rfl | rfl | rfl | rfl | rfl | rfl | rfl
  · simp (config := {maxSteps := 3000000}) only [run_skip, run_reg, run_seq, run_ret, run_cond, if_false, at_code_n, at_fin_r, ops_nil, ops_grd, grd_ff, ops_mv, ops_pick, ops_bin, ops_ixa, ops_load, ops_bld, ops_alc, ops_store, ev_t, ev_c, put_get, put_none, opv_mk, stb_some, sto_ptr, Stp, vbld, put_box_same, put_put, args0, List.getD_cons_zero, vpick, vbin, vbinI, vixa, vload, takeV, fillV, splice, V.cells, ptrV, obsOk, List.map_cons, List.map_nil, List.length_cons, List.length_nil, List.getElem?_cons_zero, List.take_succ_cons, List.take_zero, List.drop_succ_cons, List.drop_zero, List.cons_append, List.nil_append, List.append_nil, List.drop_nil, and_true, true_and, Nat.reduceEqDiff, Nat.reduceAdd, Nat.reduceLT, Nat.reduceLeDiff, Nat.reduceLT, Int.reduceToNat, Int.reduceLE, Int.reduceLT, Nat.zero_add, Nat.add_zero, Nat.mul_one, ↓reduceIte, vret, rvAll, rvVal, resv_1, decide_false, Int.lt_irrefl, eq_self, reduceCtorEq, Bool.false_eq_true]
    intro b hb
    exact ⟨by omega, _, _, Wk.refl _, weak_put hwf.weak hb, rfl, rfl⟩
  · simp (config := {maxSteps := 3000000}) only [run_skip, run_reg, run_seq, run_ret, run_cond, if_false, at_code_n, at_fin_r, ops_nil, ops_grd, grd_ff, ops_mv, ops_pick, ops_bin, ops_ixa, ops_load, ops_bld, ops_alc, ops_store, ev_t, ev_c, put_get, put_none, opv_mk, stb_some, sto_ptr, Stp, vbld, put_box_same, put_put, args0, List.getD_cons_zero, vpick, vbin, vbinI, vixa, vload, takeV, fillV, splice, V.cells, ptrV, obsOk, List.map_cons, List.map_nil, List.length_cons, List.length_nil, List.getElem?_cons_zero, List.getElem?_cons_succ, List.take_succ_cons, List.take_zero, List.drop_succ_cons, List.drop_zero, List.cons_append, List.nil_append, List.append_nil, List.drop_nil, and_true, true_and, Nat.reduceEqDiff, Nat.reduceAdd, Nat.reduceLT, Nat.reduceLeDiff, Nat.reduceLT, Int.reduceToNat, Int.reduceLE, Int.reduceLT, Nat.zero_add, Nat.mul_one, ↓reduceIte, vret, rvAll, rvVal, resv_1, decide_false, eq_self, reduceCtorEq, Bool.false_eq_true]
    intro b hb
    exact ⟨by omega, _, _, Wk.refl _, weak_put hwf.weak hb, rfl, rfl⟩
  · simp (config := {maxSteps := 3000000}) only [run_skip, run_reg, run_seq, run_ret, run_cond, if_false, at_code_n, at_fin_r, ops_nil, ops_grd, grd_ff, ops_mv, ops_pick, ops_bin, ops_ixa, ops_load, ops_bld, ops_alc, ops_store, ev_t, ev_c, put_get, put_none, opv_mk, stb_some, sto_ptr, Stp, vbld, put_box_same, put_put, args0, List.getD_cons_zero, vpick, vbin, vbinI, vixa, vload, takeV, fillV, splice, V.cells, ptrV, obsOk, List.map_cons, List.map_nil, List.length_cons, List.length_nil, List.getElem?_cons_zero, List.getElem?_cons_succ, List.take_succ_cons, List.take_zero, List.drop_succ_cons, List.drop_zero, List.cons_append, List.nil_append, List.append_nil, List.drop_nil, and_true, true_and, Nat.reduceEqDiff, Nat.reduceAdd, Nat.reduceLT, Nat.reduceLeDiff, Nat.reduceLT, Int.reduceToNat, Int.reduceLE, Int.reduceLT, Nat.zero_add, Nat.mul_one, ↓reduceIte, vret, rvAll, rvVal, resv_1, decide_false, eq_self, reduceCtorEq, Bool.false_eq_true]
    intro b hb
    exact ⟨by omega, _, _, Wk.refl _, weak_put hwf.weak hb, rfl, rfl⟩
  · simp (config := {maxSteps := 3000000}) only [run_skip, run_reg, run_seq, run_ret, run_cond, if_false, at_code_n, at_fin_r, ops_nil, ops_grd, grd_ff, ops_mv, ops_pick, ops_bin, ops_ixa, ops_load, ops_bld, ops_alc, ops_store, ev_t, ev_c, put_get, put_none, opv_mk, stb_some, sto_ptr, Stp, vbld, put_box_same, put_put, args0, List.getD_cons_zero, vpick, vbin, vbinI, vixa, vload, takeV, fillV, splice, V.cells, ptrV, obsOk, List.map_cons, List.map_nil, List.length_cons, List.length_nil, List.getElem?_cons_zero, List.getElem?_cons_succ, List.take_succ_cons, List.take_zero, List.drop_succ_cons, List.drop_zero, List.cons_append, List.nil_append, List.append_nil, List.drop_nil, and_true, true_and, Nat.reduceEqDiff, Nat.reduceAdd, Nat.reduceLT, Nat.reduceLeDiff, Nat.reduceLT, Int.reduceToNat, Int.reduceLE, Int.reduceLT, Nat.zero_add, Nat.mul_one, ↓reduceIte, vret, rvAll, rvVal, resv_1, decide_false, eq_self, reduceCtorEq, Bool.false_eq_true]
    intro b hb
    exact ⟨by omega, _, _, Wk.refl _, weak_put hwf.weak hb, rfl, rfl⟩
  · simp (config := {maxSteps := 3000000}) only [run_skip, run_reg, run_seq, run_ret, run_cond, if_false, at_code_n, at_fin_r, ops_nil, ops_grd, grd_ff, ops_mv, ops_pick, ops_bin, ops_ixa, ops_load, ops_bld, ops_alc, ops_store, ev_t, ev_c, put_get, put_none, opv_mk, stb_some, sto_ptr, Stp, vbld, put_box_same, put_put, args0, List.getD_cons_zero, vpick, vbin, vbinI, vixa, vload, takeV, fillV, splice, V.cells, ptrV, obsOk, List.map_cons, List.map_nil, List.length_cons, List.length_nil, List.getElem?_cons_zero, List.getElem?_cons_succ, List.take_succ_cons, List.take_zero, List.drop_succ_cons, List.drop_zero, List.cons_append, List.nil_append, List.append_nil, List.drop_nil, and_true, true_and, Nat.reduceEqDiff, Nat.reduceAdd, Nat.reduceLT, Nat.reduceLeDiff, Nat.reduceLT, Int.reduceToNat, Int.reduceLE, Int.reduceLT, Nat.zero_add, Nat.mul_one, ↓reduceIte, vret, rvAll, rvVal, resv_1, decide_false, eq_self, reduceCtorEq, Bool.false_eq_true]
    intro b hb
    exact ⟨by omega, _, _, Wk.refl _, weak_put hwf.weak hb, rfl, rfl⟩
  · simp (config := {maxSteps := 3000000}) only [run_skip, run_reg, run_seq, run_ret, run_cond, if_false, at_code_n, at_fin_r, ops_nil, ops_grd, grd_ff, ops_mv, ops_pick, ops_bin, ops_ixa, ops_load, ops_bld, ops_alc, ops_store, ev_t, ev_c, put_get, put_none, opv_mk, stb_some, sto_ptr, Stp, vbld, put_box_same, put_put, args0, List.getD_cons_zero, vpick, vbin, vbinI, vixa, vload, takeV, fillV, splice, V.cells, ptrV, obsOk, List.map_cons, List.map_nil, List.length_cons, List.length_nil, List.getElem?_cons_zero, List.getElem?_cons_succ, List.take_succ_cons, List.take_zero, List.drop_succ_cons, List.drop_zero, List.cons_append, List.nil_append, List.append_nil, List.drop_nil, and_true, true_and, Nat.reduceEqDiff, Nat.reduceAdd, Nat.reduceLT, Nat.reduceLeDiff, Nat.reduceLT, Int.reduceToNat, Int.reduceLE, Int.reduceLT, Nat.zero_add, Nat.mul_one, ↓reduceIte, vret, rvAll, rvVal, resv_1, decide_false, eq_self, reduceCtorEq, Bool.false_eq_true]
    intro b hb
    exact ⟨by omega, _, _, Wk.refl _, weak_put hwf.weak hb, rfl, rfl⟩
  · simp (config := {maxSteps := 3000000}) only [run_skip, run_reg, run_seq, run_ret, run_cond, if_false, at_code_n, at_fin_r, ops_nil, ops_grd, grd_ff, ops_mv, ops_pick, ops_bin, ops_ixa, ops_load, ops_bld, ops_alc, ops_store, ev_t, ev_c, put_get, put_none, opv_mk, stb_some, sto_ptr, Stp, vbld, put_box_same, put_put, args0, List.getD_cons_zero, vpick, vbin, vbinI, vixa, vload, takeV, fillV, splice, V.cells, ptrV, obsOk, List.map_cons, List.map_nil, List.length_cons, List.length_nil, List.getElem?_cons_zero, List.getElem?_cons_succ, List.take_succ_cons, List.take_zero, List.drop_succ_cons, List.drop_zero, List.cons_append, List.nil_append, List.append_nil, List.drop_nil, and_true, true_and, Nat.reduceEqDiff, Nat.reduceAdd, Nat.reduceLT, Nat.reduceLeDiff, Nat.reduceLT, Int.reduceToNat, Int.reduceLE, Int.reduceLT, Nat.zero_add, Nat.mul_one, ↓reduceIte, vret, rvAll, rvVal, resv_1, decide_false, eq_self, reduceCtorEq, Bool.false_eq_true]
    intro b hb
    exact ⟨by omega, _, _, Wk.refl _, weak_put hwf.weak hb, rfl, rfl⟩
  · simp (config := {maxSteps := 3000000}) only [run_skip, run_reg, run_seq, run_ret, run_cond, if_false, at_code_n, at_fin_r, ops_nil, ops_grd, grd_ff, ops_mv, ops_pick, ops_bin, ops_ixa, ops_load, ops_bld, ops_alc, ops_store, ev_t, ev_c, put_get, put_none, opv_mk, stb_some, sto_ptr, Stp, vbld, put_box_same, put_put, args0, List.getD_cons_zero, vpick, vbin, vbinI, vixa, vload, takeV, fillV, splice, V.cells, ptrV, obsOk, List.map_cons, List.map_nil, List.length_cons, List.length_nil, List.getElem?_cons_zero, List.getElem?_cons_succ, List.take_succ_cons, List.take_zero, List.drop_succ_cons, List.drop_zero, List.cons_append, List.nil_append, List.append_nil, List.drop_nil, and_true, true_and, Nat.reduceEqDiff, Nat.reduceAdd, Nat.reduceLT, Nat.reduceLeDiff, Nat.reduceLT, Int.reduceToNat, Int.reduceLE, Int.reduceLT, Nat.zero_add, Nat.mul_one, ↓reduceIte, vret, rvAll, rvVal, resv_1, decide_false, eq_self, reduceCtorEq, Bool.false_eq_true]
    intro b hb
    exact ⟨by omega, _, _, Wk.refl _, weak_put hwf.weak hb, rfl, rfl⟩
  · simp (config := {maxSteps := 3000000}) only [run_skip, run_reg, run_seq, run_ret, run_cond, if_false, at_code_n, at_fin_r, ops_nil, ops_grd, grd_ff, ops_mv, ops_pick, ops_bin, ops_ixa, ops_load, ops_bld, ops_alc, ops_store, ev_t, ev_c, put_get, put_none, opv_mk, stb_some, sto_ptr, Stp, vbld, put_box_same, put_put, args0, List.getD_cons_zero, vpick, vbin, vbinI, vixa, vload, takeV, fillV, splice, V.cells, ptrV, obsOk, List.map_cons, List.map_nil, List.length_cons, List.length_nil, List.getElem?_cons_zero, List.getElem?_cons_succ, List.take_succ_cons, List.take_zero, List.drop_succ_cons, List.drop_zero, List.cons_append, List.nil_append, List.append_nil, List.drop_nil, and_true, true_and, Nat.reduceEqDiff, Nat.reduceAdd, Nat.reduceLT, Nat.reduceLeDiff, Nat.reduceLT, Int.reduceToNat, Int.reduceLE, Int.reduceLT, Nat.zero_add, Nat.mul_one, ↓reduceIte, vret, rvAll, rvVal, resv_1, decide_false, eq_self, reduceCtorEq, Bool.false_eq_true]
    intro b hb
    exact ⟨by omega, _, _, Wk.refl _, weak_put hwf.weak hb, rfl, rfl⟩
  · simp (config := {maxSteps := 3000000}) only [run_skip, run_reg, run_seq, run_ret, run_cond, if_false, at_code_n, at_fin_r, ops_nil, ops_grd, grd_ff, ops_mv, ops_pick, ops_bin, ops_ixa, ops_load, ops_bld, ops_alc, ops_store, ev_t, ev_c, put_get, put_none, opv_mk, stb_some, sto_ptr, Stp, vbld, put_box_same, put_put, args0, List.getD_cons_zero, vpick, vbin, vbinI, vixa, vload, takeV, fillV, splice, V.cells, ptrV, obsOk, List.map_cons, List.map_nil, List.length_cons, List.length_nil, List.getElem?_cons_zero, List.getElem?_cons_succ, List.take_succ_cons, List.take_zero, List.drop_succ_cons, List.drop_zero, List.cons_append, List.nil_append, List.append_nil, List.drop_nil, and_true, true_and, Nat.reduceEqDiff, Nat.reduceAdd, Nat.reduceLT, Nat.reduceLeDiff, Nat.reduceLT, Int.reduceToNat, Int.reduceLE, Int.reduceLT, Nat.zero_add, Nat.mul_one, ↓reduceIte, vret, rvAll, rvVal, resv_1, decide_false, eq_self, reduceCtorEq, Bool.false_eq_true]
    intro b hb
    exact ⟨by omega, _, _, Wk.refl _, weak_put hwf.weak hb, rfl, rfl⟩
  · simp (config := {maxSteps := 3000000}) only [run_skip, run_reg, run_seq, run_ret, run_cond, if_false, at_code_n, at_fin_r, ops_nil, ops_grd, grd_ff, ops_mv, ops_pick, ops_bin, ops_ixa, ops_load, ops_bld, ops_alc, ops_store, ev_t, ev_c, put_get, put_none, opv_mk, stb_some, sto_ptr, Stp, vbld, put_box_same, put_put, args0, List.getD_cons_zero, vpick, vbin, vbinI, vixa, vload, takeV, fillV, splice, V.cells, ptrV, obsOk, List.map_cons, List.map_nil, List.length_cons, List.length_nil, List.getElem?_cons_zero, List.getElem?_cons_succ, List.take_succ_cons, List.take_zero, List.drop_succ_cons, List.drop_zero, List.cons_append, List.nil_append, List.append_nil, List.drop_nil, and_true, true_and, Nat.reduceEqDiff, Nat.reduceAdd, Nat.reduceLT, Nat.reduceLeDiff, Nat.reduceLT, Int.reduceToNat, Int.reduceLE, Int.reduceLT, Nat.zero_add, Nat.mul_one, ↓reduceIte, vret, rvAll, rvVal, resv_1, decide_false, eq_self, reduceCtorEq, Bool.false_eq_true]
    intro b hb
    exact ⟨by omega, _, _, Wk.refl _, weak_put hwf.weak hb, rfl, rfl⟩
  · simp (config := {maxSteps := 3000000}) only [run_skip, run_reg, run_seq, run_ret, run_cond, if_false, at_code_n, at_fin_r, ops_nil, ops_grd, grd_ff, ops_mv, ops_pick, ops_bin, ops_ixa, ops_load, ops_bld, ops_alc, ops_store, ev_t, ev_c, put_get, put_none, opv_mk, stb_some, sto_ptr, Stp, vbld, put_box_same, put_put, args0, List.getD_cons_zero, vpick, vbin, vbinI, vixa, vload, takeV, fillV, splice, V.cells, ptrV, obsOk, List.map_cons, List.map_nil, List.length_cons, List.length_nil, List.getElem?_cons_zero, List.getElem?_cons_succ, List.take_succ_cons, List.take_zero, List.drop_succ_cons, List.drop_zero, List.cons_append, List.nil_append, List.append_nil, List.drop_nil, and_true, true_and, Nat.reduceEqDiff, Nat.reduceAdd, Nat.reduceLT, Nat.reduceLeDiff, Nat.reduceLT, Int.reduceToNat, Int.reduceLE, Int.reduceLT, Nat.zero_add, Nat.mul_one, ↓reduceIte, vret, rvAll, rvVal, resv_1, decide_false, eq_self, reduceCtorEq, Bool.false_eq_true]
    intro b hb
    exact ⟨by omega, _, _, Wk.refl _, weak_put hwf.weak hb, rfl, rfl⟩
  · simp (config := {maxSteps := 3000000}) only [run_skip, run_reg, run_seq, run_ret, run_cond, if_false, at_code_n, at_fin_r, ops_nil, ops_grd, grd_ff, ops_mv, ops_pick, ops_bin, ops_ixa, ops_load, ops_bld, ops_alc, ops_store, ev_t, ev_c, put_get, put_none, opv_mk, stb_some, sto_ptr, Stp, vbld, put_box_same, put_put, args0, List.getD_cons_zero, vpick, vbin, vbinI, vixa, vload, takeV, fillV, splice, V.cells, ptrV, obsOk, List.map_cons, List.map_nil, List.length_cons, List.length_nil, List.getElem?_cons_zero, List.getElem?_cons_succ, List.take_succ_cons, List.take_zero, List.drop_succ_cons, List.drop_zero, List.cons_append, List.nil_append, List.append_nil, List.drop_nil, and_true, true_and, Nat.reduceEqDiff, Nat.reduceAdd, Nat.reduceLT, Nat.reduceLeDiff, Nat.reduceLT, Int.reduceToNat, Int.reduceLE, Int.reduceLT, Nat.zero_add, Nat.mul_one, ↓reduceIte, vret, rvAll, rvVal, resv_1, decide_false, eq_self, reduceCtorEq, Bool.false_eq_true]
    intro b hb
    exact ⟨by omega, _, _, Wk.refl _, weak_put hwf.weak hb, rfl, rfl⟩
  · simp (config := {maxSteps := 3000000}) only [run_skip, run_reg, run_seq, run_ret, run_cond, if_false, at_code_n, at_fin_r, ops_nil, ops_grd, grd_ff, ops_mv, ops_pick, ops_bin, ops_ixa, ops_load, ops_bld, ops_alc, ops_store, ev_t, ev_c, put_get, put_none, opv_mk, stb_some, sto_ptr, Stp, vbld, put_box_same, put_put, args0, List.getD_cons_zero, vpick, vbin, vbinI, vixa, vload, takeV, fillV, splice, V.cells, ptrV, obsOk, List.map_cons, List.map_nil, List.length_cons, List.length_nil, List.getElem?_cons_zero, List.getElem?_cons_succ, List.take_succ_cons, List.take_zero, List.drop_succ_cons, List.drop_zero, List.cons_append, List.nil_append, List.append_nil, List.drop_nil, and_true, true_and, Nat.reduceEqDiff, Nat.reduceAdd, Nat.reduceLT, Nat.reduceLeDiff, Nat.reduceLT, Int.reduceToNat, Int.reduceLE, Int.reduceLT, Nat.zero_add, Nat.mul_one, ↓reduceIte, vret, rvAll, rvVal, resv_1, decide_false, eq_self, reduceCtorEq, Bool.false_eq_true]
    intro b hb
    exact ⟨by omega, _, _, Wk.refl _, weak_put hwf.weak hb, rfl, rfl⟩
  · simp (config := {maxSteps := 3000000}) only [run_skip, run_reg, run_seq, run_ret, run_cond, if_false, at_code_n, at_fin_r, ops_nil, ops_grd, grd_ff, ops_mv, ops_pick, ops_bin, ops_ixa, ops_load, ops_bld, ops_alc, ops_store, ev_t, ev_c, put_get, put_none, opv_mk, stb_some, sto_ptr, Stp, vbld, put_box_same, put_put, args0, List.getD_cons_zero, vpick, vbin, vbinI, vixa, vload, takeV, fillV, splice, V.cells, ptrV, obsOk, List.map_cons, List.map_nil, List.length_cons, List.length_nil, List.getElem?_cons_zero, List.getElem?_cons_succ, List.take_succ_cons, List.take_zero, List.drop_succ_cons, List.drop_zero, List.cons_append, List.nil_append, List.append_nil, List.drop_nil, and_true, true_and, Nat.reduceEqDiff, Nat.reduceAdd, Nat.reduceLT, Nat.reduceLeDiff, Nat.reduceLT, Int.reduceToNat, Int.reduceLE, Int.reduceLT, Nat.zero_add, Nat.mul_one, ↓reduceIte, vret, rvAll, rvVal, resv_1, decide_false, eq_self, reduceCtorEq, Bool.false_eq_true]
    intro b hb
    exact ⟨by omega, _, _, Wk.refl _, weak_put hwf.weak hb, rfl, rfl⟩
  · simp (config := {maxSteps := 3000000}) only [run_skip, run_reg, run_seq, run_ret, run_cond, if_false, at_code_n, at_fin_r, ops_nil, ops_grd, grd_ff, ops_mv, ops_pick, ops_bin, ops_ixa, ops_load, ops_bld, ops_alc, ops_store, ev_t, ev_c, put_get, put_none, opv_mk, stb_some, sto_ptr, Stp, vbld, put_box_same, put_put, args0, List.getD_cons_zero, vpick, vbin, vbinI, vixa, vload, takeV, fillV, splice, V.cells, ptrV, obsOk, List.map_cons, List.map_nil, List.length_cons, List.length_nil, List.getElem?_cons_zero, List.getElem?_cons_succ, List.take_succ_cons, List.take_zero, List.drop_succ_cons, List.drop_zero, List.cons_append, List.nil_append, List.append_nil, List.drop_nil, and_true, true_and, Nat.reduceEqDiff, Nat.reduceAdd, Nat.reduceLT, Nat.reduceLeDiff, Nat.reduceLT, Int.reduceToNat, Int.reduceLE, Int.reduceLT, Nat.zero_add, Nat.mul_one, ↓reduceIte, vret, rvAll, rvVal, resv_1, decide_false, Int.lt_irrefl, eq_self, reduceCtorEq, Bool.false_eq_true]
    intro b hb
    exact ⟨by omega, _, _, Wk.refl _, weak_put hwf.weak hb, rfl, rfl⟩
theorem parts16_v (t : Int) : VCalls Try.prog 34 [.sc (.int .i64 t)] st fun r st' => r = .sl .no (ps ((layoutL t).map toPart)) ∧ st = st' := by
  rw [← parts_eq t]
  have hR := rowL_isB t
  have hl := rowL_len t
  have hQ : ∀ M ∈ wordsL (rowL t), IsB M ∧ 0 < M.length := fun M hM => ⟨wordsL_isB hR M hM, words_long hM⟩
  have hQl := words_cnt (rowL t)
  have hlen : ∀ M ∈ wordsL (rowL t), M.length ≤ 10000 := fun M hM => words_lenM t M hM
  have hw := fun st : St => words03_v (st := st) hR (by omega)
  generalize hr : rowL t = R at *
  generalize wordsL R = Q at *
  refine vcalls_enter vc34 (Nat.le_of_ble_eq_true rfl) fun hwf hok => ?_
  show Run _ Vc34.body (.fin (finQ Vc34.res _)) _ _
  unfold Vc34
  simp (config := {maxSteps := 3000000}) only [run_reg, run_seq, at_code_n, ops_nil, ops_mv, ops_call, ev_t, ev_c, put_get, opv_mk, args0, List.getD_cons_zero, List.map_cons, List.map_nil, true_and, ↓reduceIte, eq_self, reduceCtorEq]
  refine Cal.mk (row16_v t) ?_
  rintro _ _ ⟨rfl, rfl⟩ -
  rw [hr]
  simp (config := {maxSteps := 3000000}) only [ops_call, ev_t, put_get, obsOk, List.map_cons, List.map_nil, true_and, ↓reduceIte, eq_self]
  refine Cal.mk (hw _) ?_
  rintro r s0 ⟨k1, k2⟩ -
  obtain ⟨tk, rfl⟩ := k1.sl
  simp (config := {maxSteps := 3000000}) only [run_reg, run_seq, run_blk, at_code_n, ops_nil, ops_mv, ev_t, ev_c, put_get, opv_mk, obsOk, true_and, ↓reduceIte, eq_self]
  refine run_loop [3, 5, 6, 7, 11, 12, 13, 14, 15, 16, 17, 18, 19, 20, 21, 22, 23, 24, 25, 26, 27, 28, 29, 30, 31, 32, 33, 34, 35, 36, 37, 38, 39, 40, 41, 42, 43, 44, 45, 46, 47] (fun B s => ∃ i : Nat, i ≤ Q.length ∧ B 5 = .sc (.int .i64 i) ∧ Own 2 s (B 3) (ps ((Q.take i).map wordPart)) ∧ New st s (B 3)) (fun B _ => Q.length - vnat (B 5)) rfl ?_ ?_
  · simp (config := {maxSteps := 3000000}) only [put_get, Nat.reduceEqDiff, ↓reduceIte, eq_self]
    exact ⟨0, by omega, by simp, .inl ⟨rfl, by simp [ps]⟩, k2.weak, k2.lt, fun g k l e => by cases e⟩
  · rintro B s ⟨i, hi, h5, ho, hn⟩
    by_cases hlt : i < Q.length
    · obtain ⟨M, hM⟩ := get_ex hlt
      obtain ⟨bM, pM⟩ := hQ M (List.mem_of_getElem? hM)
      have lM := hlen M (List.mem_of_getElem? hM)
      obtain ⟨c, hc⟩ := get_ex (L := M) (i := M.length - 1) (by omega)
      have hsn : (Q.take (i + 1)).map wordPart = (Q.take i).map wordPart ++ [wordPart M] := by rw [List.take_add_one, hM]; simp
      have hwp : wordPart M = (c, (rdN (M.take (M.length - 1))).1) := by unfold wordPart; simp [hc]
      have hlt' := decide_eq_true (show (i : Int) < (Q.length : Int) by omega)
      have e1 : ((M.length : Int) - 1).toNat = M.length - 1 := by omega
      simp (config := {maxSteps := 3000000}) only [run_skip, run_reg, run_seq, run_blk, run_cond, if_true, at_code_n, ops_nil, ops_mv, ops_bin, ops_ix, ops_load, ops_len, ops_slen, ops_sslc, ops_call, ev_t, ev_c, put_get, opv_mk, over_get, vnat, vbin, vbinI, norm, vlen, vslen, vix, vload, takeV, vsslc, V.cells, List.map_cons, List.map_nil, List.length_cons, List.length_nil, List.getElem?_cons_zero, List.drop_zero, Option.map_some, Option.map_none, and_true, true_and, Nat.reduceEqDiff, Int.toNat_natCast, Int.reduceNeg, Nat.zero_add, ↓reduceIte, eq_self, Bool.false_eq_true, List.contains_cons, List.contains_nil, Nat.reduceBEq, Bool.or_false, Bool.or_true, h5, ss_len, ss_get, hM, hlt', strOf_size, e1, strOf_ext]
      repeat (apply And.intro; focus (first | omega | (simp; done)))
      refine Cal.mk (readNum03_v (bM.take _)) ?_
      rintro _ _ ⟨rfl, rfl⟩ -
      simp (config := {maxSteps := 3000000}) only [run_reg, at_code_n, ops_nil, ops_mv, ops_bin, ops_sidx, vsidx, ops_ix, ops_load, ops_ext, ops_slen, ops_bld, ops_bsl, ops_app, ev_t, ev_c, put_get, opv_mk, over_get, vbld, vbsl, vbin, vbinI, norm, vslen, vext, vix, vload, takeV, fillV, splice, V.cells, strip, strip1, allLen, obsOk, List.map_cons, List.map_nil, List.length_cons, List.length_nil, List.getElem?_cons_zero, List.getElem?_cons_succ, List.take_succ_cons, List.take_zero, List.drop_succ_cons, List.drop_zero, List.cons_append, List.nil_append, List.append_nil, List.drop_nil, Option.map_some, and_true, true_and, Nat.reduceEqDiff, Nat.reduceAdd, Nat.reduceLT, Nat.reduceLeDiff, Nat.reduceLT, Int.toNat_natCast, Int.reduceNeg, Nat.zero_add, ↓reduceIte, eq_self, Bool.false_eq_true, List.contains_cons, List.contains_nil, Nat.reduceBEq, Bool.or_false, Bool.or_true, h5, ss_get, hM, strOf_size, e1, bytesOf_strOf bM, hc]
      repeat (apply And.intro; focus (first | omega | (simp; done)))
      refine App.mk (l := ps ((Q.take i).map wordPart)) ho (ys := ps [(c, (rdN (M.take (M.length - 1))).1)]) (allSz_ps _) (by simp only [ps_len, maxLen, List.length_cons, List.length_nil, List.length_map, List.length_take]; omega) (by simp only [ps_len, List.length_cons, List.length_nil, List.length_map, List.length_take]; omega) ?_
      intro r s1 k1 k2
      rw [ps_append, ← hwp, ← hsn] at k1
      simp (config := {maxSteps := 3000000}) only [run_reg, at_code_n, at_blk_n, at_rnd_n, ops_nil, ops_mv, ops_bin, ev_t, ev_c, put_get, opv_mk, over_get, rel_mk, vbin, vbinI, norm, obsOk, true_and, Nat.reduceEqDiff, Int.reduceNeg, ↓reduceIte, eq_self, List.contains_cons, List.contains_nil, Nat.reduceBEq, Bool.or_false, Bool.or_true, h5]
      repeat (apply And.intro; focus (first | omega | (simp; done)))
      exact ⟨⟨i + 1, by omega, by simp, k1, hn.app k2⟩, by omega⟩
    · obtain rfl : i = Q.length := by omega
      rw [List.take_of_length_le (Nat.le_refl _)] at ho
      obtain ⟨tk2, h3⟩ := ho.sl
      simp (config := {maxSteps := 3000000}) only [run_reg, run_seq, run_exit, run_ret, run_cond, if_false, at_code_n, at_code_x, at_blk_x, at_rnd_x, at_fin_r, ops_nil, ops_mv, ops_bin, ops_len, ev_t, put_get, opv_mk, over_get, vnat, vbin, vbinI, vlen, and_true, true_and, Nat.reduceEqDiff, Int.toNat_natCast, ↓reduceIte, vret, rvAll, rvVal, resv_1, decide_false, Int.lt_irrefl, eq_self, Bool.false_eq_true, List.contains_cons, List.contains_nil, Nat.reduceBEq, Bool.or_false, Bool.or_true, h5, h3, ss_len]
      exact ⟨_, _, Wk.no, hn.weak, rfl, rfl⟩
end
end Go.Proofs.Ytogkdcbcmhhhcaa
