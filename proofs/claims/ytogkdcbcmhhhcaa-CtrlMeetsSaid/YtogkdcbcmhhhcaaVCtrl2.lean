/- Package ctrl: contracts of what comes in. Printed by gen_ctrl2.py. -/
import Derived.Test.YtogkdcbcmhhhcaaVCtrl
namespace Go.Proofs.Ytogkdcbcmhhhcaa
open Go Go.RowKit

section
variable {tk : Tk} {st : St} {b : Nat} {c : CC}
theorem began_v (hb : st.box b = some c.cells) {now : Int} (h0 : 0 ≤ now ∧ now ≤ 1000000) (m : M9) : VCalls Try.prog 71 [ptrV b, .sc (.int .i64 now), m.v] st fun r st' => r = .sl .no ((beganM c m.n0).map M9.v) ∧ st' = st.put b (beganC c now m.n0).cells := by
  have gr := fun (s : St) hs res hr => ctlReply_v (st := s) (b := b) (c := c) hs (res := res) hr
  have gr4 := fun (s : St) hs => ctlReply_v (st := s) (b := b) (c := failC c) hs (res := 5) (by omega)
  have gr1 := fun (s : St) hs => ctlReply_v (st := s) (b := b) (c := upC c now) hs (res := 1) (by omega)
  have gu := fun (s : St) hs => ctlUp_v (st := s) (b := b) (c := c) hs h0
  obtain ⟨ty, n0, n1, n2, n3, n4, n5, n6, n7, n8, t0, t1, t2⟩ := m
  simp only
  refine vcalls_enter vc71 (Nat.le_of_ble_eq_true rfl) fun hwf hok => ?_
  show Run _ Vc71.body (.fin (finQ Vc71.res _)) _ _
  unfold Vc71
  have hbs := hwf.box _ _ hb
  have hps := put_self hb hbs
  simp (config := {maxSteps := 3000000}) only [run_reg, run_seq, run_blk, at_code_n, ops_nil, ops_mv, ops_fld, ops_load, ops_nilck, ops_box, ev_t, ev_c, put_get, opv_mk, Bx, args0, List.getD_cons_zero, List.getD_cons_succ, vfld, vnil, vload, takeV, V.cells, ptrV, obsOk, List.length_cons, List.length_nil, true_and, Nat.reduceAdd, Nat.zero_add, Nat.add_zero, ↓reduceIte, ne_eq, not_false_eq_true, eq_self, reduceCtorEq, M9.v, M9.cells]
  intro d hd
  have hbd : b < d := by omega
  by_cases c2 : c.state = 2
  · rw [beganM, if_pos c2, beganC, if_pos c2, hps]
    simp (config := {maxSteps := 3000000}) only [run_reg, run_seq, run_cond, if_true, at_code_n, ops_nil, ops_mv, ops_bin, ops_call, ev_t, ev_c, put_get, opv_mk, args0, List.getD_cons_zero, vbin, vbinI, List.map_cons, List.map_nil, List.length_cons, List.length_nil, List.getElem?_cons_zero, true_and, Nat.zero_add, ↓reduceIte, eq_self, reduceCtorEq, hb, CC.cells, decide_eq_true c2, put_box_ne (Nat.ne_of_lt hbd)]
    refine Cal.mk (gr _ (by rw [put_box_ne (Nat.ne_of_lt hbd)]; exact hb) 3 (by omega)) ?_
    rintro _ _ ⟨rfl, rfl⟩ -
    simp (config := {maxSteps := 3000000}) only [ops_bslo, ev_t, put_get, strip, strip1, obsOk, List.map_cons, List.map_nil, true_and, ↓reduceIte, eq_self, answerM, namedM, M9.v, M9.cells, mN]
    refine Bo.own (by simp [allLen, V.cells]) ?_
    intro g hg
    simp (config := {maxSteps := 3000000}) only [run_ret, at_code_n, at_code_r, at_blk_r, at_fin_r, ops_nil, ops_mv, ev_t, put_get, opv_mk, obsOk, List.length_cons, List.length_nil, and_true, true_and, Nat.zero_add, ↓reduceIte, vret, rvAll, rvVal, resv_1, eq_self]
    exact ⟨_, _, Wk.no, weak_use (weak_put hwf.weak hd) (by simp only [put_sz] at *; omega), rfl, rfl⟩
  by_cases c1 : c.state = 1 ∧ c.other < c.me
  · rw [beganM, if_neg c2, if_pos c1, beganC, if_neg c2, if_pos c1, hps]
    simp (config := {maxSteps := 3000000}) only [run_reg, run_seq, run_ret, run_cond, if_true, if_false, at_code_n, at_code_r, at_blk_r, at_fin_r, ops_nil, ops_grd, grd_tt, ops_mv, ops_pick, ops_bin, ops_fld, ops_load, ops_nilck, ev_t, ev_c, put_get, opv_mk, args0, List.getD_cons_zero, vpick, vbin, vbinI, vfld, vnil, vload, takeV, V.cells, List.map_nil, List.length_cons, List.length_nil, List.getElem?_cons_zero, List.getElem?_cons_succ, and_true, true_and, Nat.reduceEqDiff, Nat.zero_add, Nat.add_zero, ↓reduceIte, vret, rvAll, rvVal, resv_1, eq_self, reduceCtorEq, hb, CC.cells, decide_eq_false c2, decide_eq_true c1.1, decide_eq_true c1.2, put_box_ne (Nat.ne_of_lt hbd)]
    exact ⟨_, _, Wk.no, weak_put hwf.weak hd, rfl, rfl⟩
  by_cases c3 : c.state = 3
  · rw [beganM, if_neg c2, if_neg c1, if_pos c3, beganC, if_neg c2, if_neg c1, if_pos c3, hps]
    simp (config := {maxSteps := 3000000}) only [run_reg, run_seq, run_ret, run_cond, if_true, if_false, at_code_n, at_code_r, at_blk_r, at_fin_r, ops_nil, ops_grd, grd_ft, ops_mv, ops_pick, ops_bin, ops_fld, ops_load, ops_nilck, ev_t, ev_c, put_get, opv_mk, args0, List.getD_cons_zero, vpick, vbin, vbinI, vfld, vnil, vload, takeV, V.cells, List.map_nil, List.length_cons, List.length_nil, List.getElem?_cons_zero, and_true, true_and, Nat.reduceEqDiff, Nat.zero_add, Nat.add_zero, ↓reduceIte, vret, rvAll, rvVal, resv_1, eq_self, reduceCtorEq, Bool.false_eq_true, hb, CC.cells, decide_eq_false c2, decide_eq_false (show ¬ c.state = 1 by omega), decide_eq_true c3, put_box_ne (Nat.ne_of_lt hbd)]
    exact ⟨_, _, Wk.no, weak_put hwf.weak hd, rfl, rfl⟩
  have test : decide (c.state = 1) = false ∨ (decide (c.state = 1) = true ∧ decide (c.other < c.me) = false) := by
    by_cases q : c.state = 1
    · exact .inr ⟨decide_eq_true q, decide_eq_false fun q' => c1 ⟨q, q'⟩⟩
    · exact .inl (decide_eq_false q)
  rw [beganM, if_neg c2, if_neg c1, if_neg c3, beganC, if_neg c2, if_neg c1, if_neg c3]
  by_cases v : n0 = 256
  rotate_left
  · rw [if_pos v, if_pos v]
    rcases test with q | ⟨q, q'⟩
    · simp (config := {maxSteps := 3000000}) only [run_reg, run_seq, run_cond, if_true, if_false, at_code_n, ops_nil, ops_grd, grd_ft, ops_mv, ops_pick, ops_bin, ops_fld, ops_ixa, ops_load, ops_nilck, ops_store, ops_call, ev_t, ev_c, put_get, put_none, opv_mk, stb_some, sto_ptr, Stp, put_box_same, args0, List.getD_cons_zero, vpick, vbin, vbinI, vfld, vnil, vixa, vload, takeV, splice, V.cells, obsOk, List.map_cons, List.map_nil, List.length_cons, List.length_nil, List.getElem?_cons_zero, List.getElem?_cons_succ, List.take_zero, List.drop_succ_cons, List.drop_zero, List.cons_append, List.nil_append, and_true, true_and, Nat.reduceEqDiff, Nat.reduceAdd, Nat.reduceLT, Nat.reduceLeDiff, Nat.reduceLT, Int.reduceToNat, Int.reduceLE, Int.reduceLT, Nat.zero_add, Nat.add_zero, Nat.mul_one, ↓reduceIte, ne_eq, eq_self, reduceCtorEq, Bool.false_eq_true, hb, CC.cells, decide_eq_false c2, q, decide_eq_false c3, nc9, decide_eq_true (p := ¬ n0 = 256) v, put_box_ne (Nat.ne_of_lt hbd)]
      refine Cal.mk (gr4 _ put_box_same) ?_
      rintro _ _ ⟨rfl, rfl⟩ -
      simp (config := {maxSteps := 3000000}) only [ops_bslo, ev_t, put_get, strip, strip1, obsOk, List.map_cons, List.map_nil, true_and, ↓reduceIte, eq_self, answerM, namedM, M9.v, M9.cells, mN]
      refine Bo.own (by simp [allLen, V.cells]) ?_
      intro g hg
      simp (config := {maxSteps := 3000000}) only [run_ret, at_code_n, at_code_r, at_blk_r, at_fin_r, ops_nil, ops_mv, ev_t, put_get, opv_mk, obsOk, List.length_cons, List.length_nil, and_true, true_and, Nat.zero_add, ↓reduceIte, vret, rvAll, rvVal, resv_1, eq_self]
      exact ⟨_, _, Wk.no, weak_use (weak_both (weak_put hwf.weak hd)) (by simp only [put_sz] at *; omega), rfl, rfl⟩
    · simp (config := {maxSteps := 3000000}) only [run_reg, run_seq, run_cond, if_true, if_false, at_code_n, ops_nil, ops_grd, grd_tt, ops_mv, ops_pick, ops_bin, ops_fld, ops_ixa, ops_load, ops_nilck, ops_store, ops_call, ev_t, ev_c, put_get, put_none, opv_mk, stb_some, sto_ptr, Stp, put_box_same, args0, List.getD_cons_zero, vpick, vbin, vbinI, vfld, vnil, vixa, vload, takeV, splice, V.cells, obsOk, List.map_cons, List.map_nil, List.length_cons, List.length_nil, List.getElem?_cons_zero, List.getElem?_cons_succ, List.take_zero, List.drop_succ_cons, List.drop_zero, List.cons_append, List.nil_append, and_true, true_and, Nat.reduceEqDiff, Nat.reduceAdd, Nat.reduceLT, Nat.reduceLeDiff, Nat.reduceLT, Int.reduceToNat, Int.reduceLE, Int.reduceLT, Nat.zero_add, Nat.add_zero, Nat.mul_one, ↓reduceIte, ne_eq, eq_self, reduceCtorEq, hb, CC.cells, decide_eq_false c2, q, q', decide_eq_false c3, nc9, decide_eq_true (p := ¬ n0 = 256) v, put_box_ne (Nat.ne_of_lt hbd)]
      refine Cal.mk (gr4 _ put_box_same) ?_
      rintro _ _ ⟨rfl, rfl⟩ -
      simp (config := {maxSteps := 3000000}) only [ops_bslo, ev_t, put_get, strip, strip1, obsOk, List.map_cons, List.map_nil, true_and, ↓reduceIte, eq_self, answerM, namedM, M9.v, M9.cells, mN]
      refine Bo.own (by simp [allLen, V.cells]) ?_
      intro g hg
      simp (config := {maxSteps := 3000000}) only [run_ret, at_code_n, at_code_r, at_blk_r, at_fin_r, ops_nil, ops_mv, ev_t, put_get, opv_mk, obsOk, List.length_cons, List.length_nil, and_true, true_and, Nat.zero_add, ↓reduceIte, vret, rvAll, rvVal, resv_1, eq_self]
      exact ⟨_, _, Wk.no, weak_use (weak_both (weak_put hwf.weak hd)) (by simp only [put_sz] at *; omega), rfl, rfl⟩
  · rw [if_neg (by omega), if_neg (by omega)]
    rcases test with q | ⟨q, q'⟩
    · simp (config := {maxSteps := 3000000}) only [run_skip, run_reg, run_seq, run_cond, if_false, at_code_n, at_blk_n, ops_nil, ops_grd, grd_ft, ops_mv, ops_pick, ops_bin, ops_fld, ops_ixa, ops_load, ops_nilck, ops_call, ev_t, ev_c, put_get, opv_mk, put_box_same, args0, List.getD_cons_zero, List.getD_cons_succ, vpick, vbin, vbinI, vfld, vnil, vixa, vload, takeV, V.cells, List.map_cons, List.map_nil, List.length_cons, List.length_nil, List.getElem?_cons_zero, List.getElem?_cons_succ, and_true, true_and, Nat.reduceEqDiff, Int.reduceToNat, Int.reduceLE, Int.reduceLT, Nat.zero_add, Nat.add_zero, Nat.mul_one, ↓reduceIte, ne_eq, eq_self, reduceCtorEq, Bool.false_eq_true, hb, CC.cells, decide_eq_false c2, q, decide_eq_false c3, nc9, decide_eq_false (show ¬ ¬ n0 = 256 by omega), put_box_ne (Nat.ne_of_lt hbd)]
      refine Cal.mk (gu _ (by rw [put_box_ne (Nat.ne_of_lt hbd)]; exact hb)) ?_
      rintro _ _ rfl -
      simp (config := {maxSteps := 3000000}) only [run_reg, run_seq, at_code_n, ops_nil, ops_mv, ops_call, ev_t, ev_c, put_get, opv_mk, args0, List.getD_cons_zero, obsOk, List.map_cons, List.map_nil, true_and, ↓reduceIte, eq_self, reduceCtorEq]
      refine Cal.mk (gr1 _ put_box_same) ?_
      rintro _ _ ⟨rfl, rfl⟩ -
      simp (config := {maxSteps := 3000000}) only [ops_bslo, ev_t, put_get, strip, strip1, obsOk, List.map_cons, List.map_nil, true_and, ↓reduceIte, eq_self, answerM, namedM, M9.v, M9.cells, mN]
      refine Bo.own (by simp [allLen, V.cells]) ?_
      intro g hg
      simp (config := {maxSteps := 3000000}) only [run_ret, at_code_n, at_fin_r, ops_nil, ops_mv, ev_t, put_get, opv_mk, obsOk, List.length_cons, List.length_nil, and_true, true_and, Nat.zero_add, ↓reduceIte, vret, rvAll, rvVal, resv_1, eq_self]
      exact ⟨_, _, Wk.no, weak_use (weak_both (weak_put hwf.weak hd)) (by simp only [put_sz] at *; omega), rfl, rfl⟩
    · simp (config := {maxSteps := 3000000}) only [run_skip, run_reg, run_seq, run_cond, if_false, at_code_n, at_blk_n, ops_nil, ops_grd, grd_tt, ops_mv, ops_pick, ops_bin, ops_fld, ops_ixa, ops_load, ops_nilck, ops_call, ev_t, ev_c, put_get, opv_mk, put_box_same, args0, List.getD_cons_zero, List.getD_cons_succ, vpick, vbin, vbinI, vfld, vnil, vixa, vload, takeV, V.cells, List.map_cons, List.map_nil, List.length_cons, List.length_nil, List.getElem?_cons_zero, List.getElem?_cons_succ, and_true, true_and, Nat.reduceEqDiff, Int.reduceToNat, Int.reduceLE, Int.reduceLT, Nat.zero_add, Nat.add_zero, Nat.mul_one, ↓reduceIte, ne_eq, eq_self, reduceCtorEq, hb, CC.cells, decide_eq_false c2, q, q', decide_eq_false c3, nc9, decide_eq_false (show ¬ ¬ n0 = 256 by omega), put_box_ne (Nat.ne_of_lt hbd)]
      refine Cal.mk (gu _ (by rw [put_box_ne (Nat.ne_of_lt hbd)]; exact hb)) ?_
      rintro _ _ rfl -
      simp (config := {maxSteps := 3000000}) only [run_reg, run_seq, at_code_n, ops_nil, ops_mv, ops_call, ev_t, ev_c, put_get, opv_mk, args0, List.getD_cons_zero, obsOk, List.map_cons, List.map_nil, true_and, ↓reduceIte, eq_self, reduceCtorEq]
      refine Cal.mk (gr1 _ put_box_same) ?_
      rintro _ _ ⟨rfl, rfl⟩ -
      simp (config := {maxSteps := 3000000}) only [ops_bslo, ev_t, put_get, strip, strip1, obsOk, List.map_cons, List.map_nil, true_and, ↓reduceIte, eq_self, answerM, namedM, M9.v, M9.cells, mN]
      refine Bo.own (by simp [allLen, V.cells]) ?_
      intro g hg
      simp (config := {maxSteps := 3000000}) only [run_ret, at_code_n, at_fin_r, ops_nil, ops_mv, ev_t, put_get, opv_mk, obsOk, List.length_cons, List.length_nil, and_true, true_and, Nat.zero_add, ↓reduceIte, vret, rvAll, rvVal, resv_1, eq_self]
      exact ⟨_, _, Wk.no, weak_use (weak_both (weak_put hwf.weak hd)) (by simp only [put_sz] at *; omega), rfl, rfl⟩
theorem answered_v (hb : st.box b = some c.cells) {now : Int} (h0 : 0 ≤ now ∧ now ≤ 1000000) (m : M9) : VCalls Try.prog 72 [ptrV b, .sc (.int .i64 now), m.v] st fun r st' => r = .sl .no ((ansM c m.n0 m.n1).map M9.v) ∧ st' = st.put b (ansC c now m.n0 m.n1).cells := by
  have gu := fun (s : St) hs => ctlUp_v (st := s) (b := b) (c := c) hs h0
  have gf := fun (s : St) hs => ctlFail_v (st := s) (b := b) (c := c) hs
  obtain ⟨ty, n0, n1, n2, n3, n4, n5, n6, n7, n8, t0, t1, t2⟩ := m
  simp only
  refine vcalls_enter vc72 (Nat.le_of_ble_eq_true rfl) fun hwf hok => ?_
  show Run _ Vc72.body (.fin (finQ Vc72.res _)) _ _
  unfold Vc72
  have hbs := hwf.box _ _ hb
  simp (config := {maxSteps := 3000000}) only [run_reg, run_seq, run_blk, at_code_n, ops_nil, ops_mv, ops_fld, ops_load, ops_nilck, ops_box, ev_t, ev_c, put_get, opv_mk, Bx, args0, List.getD_cons_zero, List.getD_cons_succ, vfld, vnil, vload, takeV, V.cells, ptrV, obsOk, List.length_cons, List.length_nil, true_and, Nat.reduceAdd, Nat.zero_add, Nat.add_zero, ↓reduceIte, ne_eq, not_false_eq_true, eq_self, reduceCtorEq, M9.v, M9.cells]
  intro d hd
  have hbd : b < d := by omega
  by_cases c1 : c.state = 1
  rotate_left
  · have hn : ¬ ansOk c n0 n1 := fun h => c1 h.1
    rw [ansM, if_neg hn, ansC, if_neg hn]
    simp (config := {maxSteps := 3000000}) only [run_reg, run_seq, run_cond, if_true, at_code_n, ops_nil, ops_mv, ops_bin, ops_call, ev_t, ev_c, put_get, opv_mk, args0, List.getD_cons_zero, vbin, vbinI, List.map_cons, List.map_nil, List.length_cons, List.length_nil, List.getElem?_cons_zero, true_and, Nat.zero_add, ↓reduceIte, ne_eq, eq_self, reduceCtorEq, hb, CC.cells, decide_eq_true (p := ¬ c.state = 1) c1, put_box_ne (Nat.ne_of_lt hbd)]
    refine Cal.mk (gf _ (by rw [put_box_ne (Nat.ne_of_lt hbd)]; exact hb)) ?_
    rintro _ _ ⟨rfl, rfl⟩ -
    simp (config := {maxSteps := 3000000}) only [run_ret, at_code_n, at_code_r, at_blk_r, at_fin_r, ops_nil, ops_mv, ev_t, put_get, opv_mk, obsOk, and_true, true_and, ↓reduceIte, vret, rvAll, rvVal, resv_1, eq_self]
    exact ⟨_, _, Wk.no, weak_both (weak_put hwf.weak hd), rfl, rfl⟩
  have d1 := decide_eq_false (show ¬ ¬ c.state = 1 by omega)
  by_cases v1 : n1 = 1
  rotate_left
  · have hn : ¬ ansOk c n0 n1 := fun h => v1 h.2.1
    rw [ansM, if_neg hn, ansC, if_neg hn]
    simp (config := {maxSteps := 3000000}) only [run_reg, run_seq, run_cond, if_true, if_false, at_code_n, ops_nil, ops_grd, grd_tf, ops_mv, ops_pick, ops_bin, ops_fld, ops_ixa, ops_load, ops_call, ev_t, ev_c, put_get, opv_mk, put_box_same, args0, List.getD_cons_zero, vpick, vbin, vbinI, vfld, vixa, vload, takeV, V.cells, List.map_cons, List.map_nil, List.length_cons, List.length_nil, List.getElem?_cons_zero, List.getElem?_cons_succ, and_true, true_and, Nat.reduceEqDiff, Nat.reduceAdd, Int.reduceToNat, Int.reduceLE, Int.reduceLT, Nat.zero_add, Nat.mul_one, ↓reduceIte, ne_eq, eq_self, reduceCtorEq, hb, CC.cells, d1, nc9, decide_eq_true (p := ¬ n1 = 1) v1, put_box_ne (Nat.ne_of_lt hbd)]
    refine Cal.mk (gf _ (by rw [put_box_ne (Nat.ne_of_lt hbd)]; exact hb)) ?_
    rintro _ _ ⟨rfl, rfl⟩ -
    simp (config := {maxSteps := 3000000}) only [run_ret, at_code_n, at_code_r, at_blk_r, at_fin_r, ops_nil, ops_mv, ev_t, put_get, opv_mk, obsOk, and_true, true_and, ↓reduceIte, vret, rvAll, rvVal, resv_1, eq_self]
    exact ⟨_, _, Wk.no, weak_both (weak_put hwf.weak hd), rfl, rfl⟩
  by_cases v0 : n0 = 256
  rotate_left
  · have hn : ¬ ansOk c n0 n1 := fun h => v0 h.2.2
    rw [ansM, if_neg hn, ansC, if_neg hn]
    simp (config := {maxSteps := 3000000}) only [run_reg, run_seq, run_cond, if_true, if_false, at_code_n, ops_nil, ops_grd, grd_ff, ops_mv, ops_pick, ops_bin, ops_fld, ops_ixa, ops_load, ops_call, ev_t, ev_c, put_get, opv_mk, put_box_same, args0, List.getD_cons_zero, vpick, vbin, vbinI, vfld, vixa, vload, takeV, V.cells, List.map_cons, List.map_nil, List.length_cons, List.length_nil, List.getElem?_cons_zero, List.getElem?_cons_succ, and_true, true_and, Nat.reduceEqDiff, Nat.reduceAdd, Int.reduceToNat, Int.reduceLE, Int.reduceLT, Nat.zero_add, Nat.add_zero, Nat.mul_one, ↓reduceIte, ne_eq, eq_self, reduceCtorEq, Bool.false_eq_true, hb, CC.cells, d1, nc9, decide_eq_false (show ¬ ¬ n1 = 1 by omega), decide_eq_true (p := ¬ n0 = 256) v0, put_box_ne (Nat.ne_of_lt hbd)]
    refine Cal.mk (gf _ (by rw [put_box_ne (Nat.ne_of_lt hbd)]; exact hb)) ?_
    rintro _ _ ⟨rfl, rfl⟩ -
    simp (config := {maxSteps := 3000000}) only [run_ret, at_code_n, at_code_r, at_blk_r, at_fin_r, ops_nil, ops_mv, ev_t, put_get, opv_mk, obsOk, and_true, true_and, ↓reduceIte, vret, rvAll, rvVal, resv_1, eq_self]
    exact ⟨_, _, Wk.no, weak_both (weak_put hwf.weak hd), rfl, rfl⟩
  have hy : ansOk c n0 n1 := ⟨c1, v1, v0⟩
  rw [ansM, if_pos hy, ansC, if_pos hy]
  simp (config := {maxSteps := 3000000}) only [run_skip, run_reg, run_seq, run_cond, if_false, at_code_n, at_blk_n, ops_nil, ops_grd, grd_ff, ops_mv, ops_pick, ops_bin, ops_fld, ops_ixa, ops_load, ops_call, ev_t, ev_c, put_get, opv_mk, put_box_same, args0, List.getD_cons_zero, List.getD_cons_succ, vpick, vbin, vbinI, vfld, vixa, vload, takeV, V.cells, List.map_cons, List.map_nil, List.length_cons, List.length_nil, List.getElem?_cons_zero, List.getElem?_cons_succ, and_true, true_and, Nat.reduceEqDiff, Nat.reduceAdd, Int.reduceToNat, Int.reduceLE, Int.reduceLT, Nat.zero_add, Nat.add_zero, Nat.mul_one, ↓reduceIte, ne_eq, eq_self, reduceCtorEq, Bool.false_eq_true, hb, CC.cells, d1, nc9, decide_eq_false (show ¬ ¬ n1 = 1 by omega), decide_eq_false (show ¬ ¬ n0 = 256 by omega), put_box_ne (Nat.ne_of_lt hbd)]
  refine Cal.mk (gu _ (by rw [put_box_ne (Nat.ne_of_lt hbd)]; exact hb)) ?_
  rintro _ _ rfl -
  simp (config := {maxSteps := 3000000}) only [run_reg, run_seq, run_ret, at_code_n, at_fin_r, ops_nil, ops_mv, ev_c, put_get, opv_mk, obsOk, and_true, true_and, ↓reduceIte, vret, rvAll, rvVal, resv_1, eq_self]
  exact ⟨_, _, Wk.no, weak_both (weak_put hwf.weak hd), rfl, rfl⟩
theorem ctlTake_v (hb : st.box b = some c.cells) {now : Int} (h0 : 0 ≤ now ∧ now ≤ 1000000) {m : M9} (hm : m.Ok) : VCalls Try.prog 31 [ptrV b, .sc (.int .i64 now), m.v] st fun r st' => r = .sl .no ((ctakeM c now m).map M9.v) ∧ st' = st.put b (ctakeC c now m).cells := by
  have k0 := hm.n0
  obtain ⟨state, me, other, host, tm, asked, id⟩ := c
  obtain ⟨ty, n0, n1, n2, n3, n4, n5, n6, n7, n8, t0, t1, t2⟩ := m
  simp only at k0
  have en0 : n0 % 4294967296 = n0 := by omega
  clear hm
  refine vcalls_enter vc31 (Nat.le_of_ble_eq_true rfl) fun hwf hok => ?_
  show Run _ Vc31.body (.fin (finQ Vc31.res _)) _ _
  unfold Vc31
  have hbs := hwf.box _ _ hb
  have hps := put_self hb hbs
  simp (config := {maxSteps := 3000000}) only [run_reg, run_seq, at_code_n, ops_nil, ops_mv, ops_fld, ops_load, ops_nilck, ops_box, ev_t, ev_c, put_get, opv_mk, Bx, args0, List.getD_cons_zero, List.getD_cons_succ, vfld, vnil, vload, takeV, V.cells, ptrV, obsOk, List.length_cons, List.length_nil, true_and, Nat.reduceAdd, Nat.zero_add, Nat.add_zero, ↓reduceIte, ne_eq, not_false_eq_true, eq_self, reduceCtorEq, M9.v, M9.cells]
  intro d hd
  have hbd : b < d := by omega
  by_cases k4 : state = 4
  · rw [ctakeM, if_pos k4, ctakeC, if_pos k4, hps]
    simp (config := {maxSteps := 3000000}) only [run_reg, run_seq, run_ret, run_cond, if_true, at_code_n, at_code_r, at_fin_r, ops_nil, ops_mv, ops_bin, ev_t, ev_c, put_get, opv_mk, vbin, vbinI, List.map_nil, List.length_cons, List.length_nil, List.getElem?_cons_zero, and_true, true_and, Nat.zero_add, ↓reduceIte, vret, rvAll, rvVal, resv_1, eq_self, hb, CC.cells, decide_eq_true k4, put_box_ne (Nat.ne_of_lt hbd)]
    exact ⟨_, _, Wk.no, weak_put hwf.weak hd, rfl, rfl⟩
  have q4 := decide_eq_false k4
  rw [ctakeM, if_neg k4, ctakeC, if_neg k4]
  by_cases kh : state = 2 ∧ asked = false
  · obtain ⟨rfl, rfl⟩ := kh
    rw [heardC, if_pos ⟨rfl, rfl⟩]
    have hS : takeC1 ⟨2, me, other, host, now + 60, false, id⟩ now ⟨ty, n0, n1, n2, n3, n4, n5, n6, n7, n8, t0, t1, t2⟩ = if ty = 1 then beganC ⟨2, me, other, host, now + 60, false, id⟩ now n0 else if ty = 2 then ansC ⟨2, me, other, host, now + 60, false, id⟩ now n0 n1 else if ty = 3 then failC ⟨2, me, other, host, now + 60, false, id⟩ else if ty = 4 then failC ⟨2, me, other, host, now + 60, false, id⟩ else if ty = 6 ∧ (2 : Int) = 2 ∧ false = true ∧ n0 = id then ⟨2, me, other, host, now + 60, false, id⟩ else ⟨2, me, other, host, now + 60, false, id⟩ := rfl
    have hM : takeM1 ⟨2, me, other, host, now + 60, false, id⟩ ⟨ty, n0, n1, n2, n3, n4, n5, n6, n7, n8, t0, t1, t2⟩ = if ty = 1 then beganM ⟨2, me, other, host, now + 60, false, id⟩ n0 else if ty = 2 then ansM ⟨2, me, other, host, now + 60, false, id⟩ n0 n1 else if ty = 3 then [mN 4 1 0 0 0 0 0 0 0 0] else if ty = 4 then (if (2 : Int) = 3 then [] else failM ⟨2, me, other, host, now + 60, false, id⟩) else if ty = 5 then [mN 6 n0 1 0 0 0 0 0 0 0] else [] := rfl
    generalize takeC1 _ now _ = TS at *
    generalize takeM1 _ _ = TM at *
    by_cases y1 : ty = 1
    · rw [if_pos y1] at hS hM; subst hS hM
      subst y1
      simp (config := {maxSteps := 3000000}) only [run_skip, run_reg, run_seq, run_blk, run_cond, if_true, if_false, at_code_n, ops_nil, ops_grd, grd_tt, ops_mv, ops_pick, ops_bin, ops_un, ops_fld, ops_load, ops_nilck, ops_store, ops_call, ev_t, ev_c, put_get, put_none, opv_mk, stb_some, sto_ptr, Stp, put_box_same, args0, List.getD_cons_zero, List.getD_cons_succ, vpick, vbin, vbinI, vun, norm, vfld, vnil, vload, takeV, splice, V.cells, obsOk, List.map_cons, List.map_nil, List.length_cons, List.length_nil, List.getElem?_cons_zero, List.getElem?_cons_succ, List.take_succ_cons, List.take_zero, List.drop_succ_cons, List.drop_zero, List.cons_append, List.nil_append, List.take_nil, true_and, Nat.reduceEqDiff, Nat.reduceAdd, Nat.reduceLT, Nat.reduceLeDiff, Nat.reduceLT, Int.reduceNeg, Int.reduceEq, Nat.zero_add, Nat.add_zero, ↓reduceIte, decide_true, decide_false, Bool.not_false, eq_self, reduceCtorEq, hb, CC.cells, put_box_ne (Nat.ne_of_lt hbd), put_box_ne (Nat.ne_of_gt hbd)]
      repeat (apply And.intro; focus (first | omega | (simp; done)))
      refine Cal.mk (began_v (c := ⟨2, me, other, host, now + 60, false, id⟩) (put_box_same) h0 (M9.mk 1 n0 n1 n2 n3 n4 n5 n6 n7 n8 t0 t1 t2)) ?_
      rintro _ _ ⟨rfl, rfl⟩ -
      simp (config := {maxSteps := 3000000}) only [run_ret, at_code_n, at_code_r, at_blk_r, at_fin_r, ops_nil, ops_mv, ev_t, put_get, opv_mk, put_put, obsOk, and_true, true_and, ↓reduceIte, vret, rvAll, rvVal, resv_1, eq_self]
      exact ⟨_, _, Wk.no, weak_both (weak_put hwf.weak hd), rfl, rfl⟩
    rw [if_neg y1] at hS hM
    by_cases y2 : ty = 2
    · rw [if_pos y2] at hS hM; subst hS hM
      subst y2
      simp (config := {maxSteps := 3000000}) only [run_skip, run_reg, run_seq, run_blk, run_cond, if_true, if_false, at_code_n, ops_nil, ops_grd, grd_tt, ops_mv, ops_pick, ops_bin, ops_un, ops_fld, ops_load, ops_nilck, ops_store, ops_call, ev_t, ev_c, put_get, put_none, opv_mk, stb_some, sto_ptr, Stp, put_box_same, args0, List.getD_cons_zero, List.getD_cons_succ, vpick, vbin, vbinI, vun, norm, vfld, vnil, vload, takeV, splice, V.cells, obsOk, List.map_cons, List.map_nil, List.length_cons, List.length_nil, List.getElem?_cons_zero, List.getElem?_cons_succ, List.take_succ_cons, List.take_zero, List.drop_succ_cons, List.drop_zero, List.cons_append, List.nil_append, List.take_nil, true_and, Nat.reduceEqDiff, Nat.reduceAdd, Nat.reduceLT, Nat.reduceLeDiff, Nat.reduceLT, Int.reduceNeg, Int.reduceEq, Nat.zero_add, Nat.add_zero, ↓reduceIte, decide_true, decide_false, Bool.not_false, eq_self, reduceCtorEq, hb, CC.cells, put_box_ne (Nat.ne_of_lt hbd), put_box_ne (Nat.ne_of_gt hbd)]
      repeat (apply And.intro; focus (first | omega | (simp; done)))
      refine Cal.mk (answered_v (c := ⟨2, me, other, host, now + 60, false, id⟩) (put_box_same) h0 (M9.mk 2 n0 n1 n2 n3 n4 n5 n6 n7 n8 t0 t1 t2)) ?_
      rintro _ _ ⟨rfl, rfl⟩ -
      simp (config := {maxSteps := 3000000}) only [run_ret, at_code_n, at_code_r, at_blk_r, at_fin_r, ops_nil, ops_mv, ev_t, put_get, opv_mk, put_put, obsOk, and_true, true_and, ↓reduceIte, vret, rvAll, rvVal, resv_1, eq_self]
      exact ⟨_, _, Wk.no, weak_both (weak_put hwf.weak hd), rfl, rfl⟩
    rw [if_neg y2] at hS hM
    by_cases y3 : ty = 3
    · rw [if_pos y3] at hS hM; subst hS hM
      subst y3
      simp (config := {maxSteps := 3000000}) only [run_skip, run_reg, run_seq, run_blk, run_cond, if_true, if_false, at_code_n, ops_nil, ops_grd, grd_tt, ops_mv, ops_pick, ops_bin, ops_un, ops_fld, ops_load, ops_nilck, ops_bslo, ops_store, ev_t, ev_c, put_get, put_none, opv_mk, stb_some, sto_ptr, Stp, put_box_same, put_put, args0, List.getD_cons_zero, List.getD_cons_succ, vpick, vbin, vbinI, vun, norm, vfld, vnil, vload, takeV, splice, V.cells, strip, strip1, obsOk, List.map_cons, List.map_nil, List.length_cons, List.length_nil, List.getElem?_cons_zero, List.getElem?_cons_succ, List.take_succ_cons, List.take_zero, List.drop_succ_cons, List.drop_zero, List.cons_append, List.nil_append, true_and, Nat.reduceEqDiff, Nat.reduceAdd, Nat.reduceLT, Nat.reduceLeDiff, Nat.reduceLT, Int.reduceNeg, Int.reduceEq, Nat.zero_add, Nat.add_zero, ↓reduceIte, decide_true, decide_false, Bool.not_false, eq_self, reduceCtorEq, hb, CC.cells, put_box_ne (Nat.ne_of_lt hbd), put_box_ne (Nat.ne_of_gt hbd)]
      repeat (apply And.intro; focus (first | omega | (simp; done)))
      refine Bo.own (by simp [allLen, V.cells]) ?_
      intro g hg
      simp (config := {maxSteps := 3000000}) only [ops_call, ev_t, ev_c, put_get, obsOk, List.map_cons, List.map_nil, List.length_cons, List.length_nil, true_and, Nat.reduceAdd, Nat.zero_add, ↓reduceIte, eq_self]
      refine Cal.mk (of_at (l := [1, 0]) (m := mN 4 1 0 0 0 0 0 0 0 0) (U32.cons (by omega) (U32.one (by omega))) (by simp) rfl) ?_
      rintro _ _ ⟨rfl, rfl⟩ -
      simp (config := {maxSteps := 3000000}) only [ops_bslo, ev_t, put_get, strip, strip1, obsOk, List.map_cons, List.map_nil, true_and, ↓reduceIte, eq_self, M9.v, M9.cells, mN]
      refine Bo.own (by simp [allLen, V.cells]) ?_
      intro g2 hg2
      simp (config := {maxSteps := 3000000}) only [run_ret, at_code_n, at_code_r, at_blk_r, at_fin_r, ops_nil, ops_mv, ev_t, put_get, opv_mk, obsOk, List.length_cons, List.length_nil, and_true, true_and, Nat.zero_add, ↓reduceIte, vret, rvAll, rvVal, resv_1, eq_self]
      exact ⟨_, _, Wk.no, weak_use (weak_use (weak_both (weak_put hwf.weak hd)) (by simp only [put_sz, use_sz] at *; omega)) (by simp only [put_sz, use_sz] at *; omega), rfl, rfl⟩
    rw [if_neg y3] at hS hM
    by_cases y4 : ty = 4
    · rw [if_pos y4] at hS hM; subst y4
      rw [if_neg (by simp)] at hM; subst hS hM
      simp (config := {maxSteps := 3000000}) only [run_skip, run_reg, run_seq, run_blk, run_cond, if_true, if_false, at_code_n, ops_nil, ops_grd, grd_tt, ops_mv, ops_pick, ops_bin, ops_un, ops_fld, ops_load, ops_nilck, ops_store, ops_call, ev_t, ev_c, put_get, put_none, opv_mk, stb_some, sto_ptr, Stp, put_box_same, args0, List.getD_cons_zero, List.getD_cons_succ, vpick, vbin, vbinI, vun, norm, vfld, vnil, vload, takeV, splice, V.cells, obsOk, List.map_cons, List.map_nil, List.length_cons, List.length_nil, List.getElem?_cons_zero, List.getElem?_cons_succ, List.take_succ_cons, List.take_zero, List.drop_succ_cons, List.drop_zero, List.cons_append, List.nil_append, true_and, Nat.reduceEqDiff, Nat.reduceAdd, Nat.reduceLT, Nat.reduceLeDiff, Nat.reduceLT, Int.reduceNeg, Int.reduceEq, Nat.zero_add, Nat.add_zero, ↓reduceIte, decide_true, decide_false, Bool.not_false, ne_eq, not_false_eq_true, eq_self, reduceCtorEq, hb, CC.cells, put_box_ne (Nat.ne_of_lt hbd), put_box_ne (Nat.ne_of_gt hbd)]
      repeat (apply And.intro; focus (first | omega | (simp; done)))
      refine Cal.mk (ctlFail_v (c := ⟨2, me, other, host, now + 60, false, id⟩) (put_box_same)) ?_
      rintro _ _ ⟨rfl, rfl⟩ -
      simp (config := {maxSteps := 3000000}) only [run_ret, at_code_n, at_code_r, at_blk_r, at_fin_r, ops_nil, ops_mv, ev_t, put_get, opv_mk, put_put, obsOk, and_true, true_and, ↓reduceIte, vret, rvAll, rvVal, resv_1, eq_self]
      exact ⟨_, _, Wk.no, weak_both (weak_put hwf.weak hd), rfl, rfl⟩
    rw [if_neg y4] at hS hM
    by_cases y5 : ty = 5
    · rw [if_neg (by omega)] at hS; rw [if_pos y5] at hM; subst hS hM; subst y5
      simp (config := {maxSteps := 3000000}) only [run_skip, run_reg, run_seq, run_blk, run_cond, if_true, if_false, at_code_n, ops_nil, ops_grd, grd_tt, ops_mv, ops_pick, ops_bin, ops_un, ops_fld, ops_ixa, ops_load, ops_nilck, ops_bslo, ops_store, ev_t, ev_c, put_get, put_none, opv_mk, stb_some, sto_ptr, Stp, put_box_same, args0, List.getD_cons_zero, List.getD_cons_succ, vpick, vbin, vbinI, vun, norm, vfld, vnil, vixa, vload, takeV, splice, V.cells, strip, strip1, obsOk, List.map_cons, List.map_nil, List.length_cons, List.length_nil, List.getElem?_cons_zero, List.getElem?_cons_succ, List.take_succ_cons, List.take_zero, List.drop_succ_cons, List.drop_zero, List.cons_append, List.nil_append, and_true, true_and, Nat.reduceEqDiff, Nat.reduceAdd, Nat.reduceLT, Nat.reduceLeDiff, Nat.reduceLT, Int.reduceToNat, Int.reduceLE, Int.reduceLT, Int.reduceNeg, Int.reduceEq, Nat.zero_add, Nat.add_zero, Nat.mul_one, ↓reduceIte, decide_true, decide_false, Bool.not_false, eq_self, reduceCtorEq, hb, nc9, CC.cells, put_box_ne (Nat.ne_of_lt hbd), put_box_ne (Nat.ne_of_gt hbd)]
      repeat (apply And.intro; focus (first | omega | (simp; done)))
      refine Bo.own (by simp [allLen, V.cells]) ?_
      intro g hg
      simp (config := {maxSteps := 3000000}) only [ops_call, ev_t, ev_c, put_get, obsOk, List.map_cons, List.map_nil, List.length_cons, List.length_nil, true_and, Nat.reduceAdd, Nat.zero_add, ↓reduceIte, eq_self]
      refine Cal.mk (of_at (l := [n0, 1, 0]) (m := mN 6 n0 1 0 0 0 0 0 0 0) (U32.cons (by omega) (U32.cons (by omega) (U32.one (by omega)))) (by simp) ?_) ?_
      · have : (ofM 6 [n0, 1, 0]).v = (mN 6 (n0 % 4294967296) 1 0 0 0 0 0 0 0).v := rfl
        rw [this, en0]
      rintro _ _ ⟨rfl, rfl⟩ -
      simp (config := {maxSteps := 3000000}) only [ops_bslo, ev_t, put_get, strip, strip1, obsOk, List.map_cons, List.map_nil, true_and, ↓reduceIte, eq_self, M9.v, M9.cells, mN]
      refine Bo.own (by simp [allLen, V.cells]) ?_
      intro g2 hg2
      simp (config := {maxSteps := 3000000}) only [run_ret, at_code_n, at_code_r, at_blk_r, at_fin_r, ops_nil, ops_mv, ev_t, put_get, opv_mk, obsOk, List.length_cons, List.length_nil, and_true, true_and, Nat.zero_add, ↓reduceIte, vret, rvAll, rvVal, resv_1, eq_self]
      exact ⟨_, _, Wk.no, weak_use (weak_use (weak_both (weak_put hwf.weak hd)) (by simp only [put_sz, use_sz] at *; omega)) (by simp only [put_sz, use_sz] at *; omega), rfl, rfl⟩
    rw [if_neg y5] at hM
    by_cases y6 : ty = 6
    rotate_left
    · rw [if_neg (fun h => y6 h.1)] at hS; subst hS hM
      simp (config := {maxSteps := 3000000}) only [run_skip, run_reg, run_seq, run_blk, run_ret, run_cond, if_true, if_false, at_code_n, at_blk_n, at_fin_r, ops_nil, ops_grd, grd_tt, ops_mv, ops_pick, ops_bin, ops_un, ops_fld, ops_load, ops_nilck, ops_store, ev_t, ev_c, put_get, put_none, opv_mk, stb_some, sto_ptr, Stp, put_box_same, args0, List.getD_cons_zero, List.getD_cons_succ, vpick, vbin, vbinI, vun, norm, vfld, vnil, vload, takeV, splice, V.cells, obsOk, List.map_nil, List.length_cons, List.length_nil, List.getElem?_cons_zero, List.getElem?_cons_succ, List.take_succ_cons, List.take_zero, List.drop_succ_cons, List.drop_zero, List.cons_append, List.nil_append, and_true, true_and, Nat.reduceEqDiff, Nat.reduceAdd, Nat.reduceLT, Nat.reduceLeDiff, Nat.reduceLT, Int.reduceNeg, Int.reduceEq, Nat.zero_add, Nat.add_zero, ↓reduceIte, vret, rvAll, rvVal, resv_1, decide_true, decide_false, Bool.not_false, eq_self, reduceCtorEq, hb, CC.cells, put_box_ne (Nat.ne_of_lt hbd), put_box_ne (Nat.ne_of_gt hbd), decide_eq_false y1, decide_eq_false y2, decide_eq_false y3, decide_eq_false y4, decide_eq_false y5, decide_eq_false y6, List.map_nil]
      repeat (apply And.intro; focus (first | omega | (simp; done)))
      exact ⟨_, _, Wk.no, weak_both (weak_put hwf.weak hd), rfl, rfl⟩
    subst y6
    rw [if_neg (by simp)] at hS; subst hS hM
    simp (config := {maxSteps := 3000000}) only [run_skip, run_reg, run_seq, run_blk, run_ret, run_cond, if_true, if_false, at_code_n, at_blk_n, at_fin_r, ops_nil, ops_grd, grd_tt, grd_ft, ops_mv, ops_pick, ops_bin, ops_un, ops_fld, ops_load, ops_nilck, ops_store, ev_t, ev_c, put_get, put_none, opv_mk, stb_some, sto_ptr, Stp, put_box_same, args0, List.getD_cons_zero, List.getD_cons_succ, vpick, vbin, vbinI, vun, norm, vfld, vnil, vload, takeV, splice, V.cells, obsOk, List.map_nil, List.length_cons, List.length_nil, List.getElem?_cons_zero, List.getElem?_cons_succ, List.take_succ_cons, List.take_zero, List.drop_succ_cons, List.drop_zero, List.cons_append, List.nil_append, and_true, true_and, Nat.reduceEqDiff, Nat.reduceAdd, Nat.reduceLT, Nat.reduceLeDiff, Nat.reduceLT, Int.reduceNeg, Int.reduceEq, Nat.zero_add, Nat.add_zero, ↓reduceIte, vret, rvAll, rvVal, resv_1, decide_true, decide_false, Bool.not_false, eq_self, reduceCtorEq, Bool.false_eq_true, hb, CC.cells, put_box_ne (Nat.ne_of_lt hbd), put_box_ne (Nat.ne_of_gt hbd), List.map_nil]
    repeat (apply And.intro; focus (first | omega | (simp; done)))
    exact ⟨_, _, Wk.no, weak_both (weak_put hwf.weak hd), rfl, rfl⟩
  · rw [heardC, if_neg kh]
    have test : decide (state = 2) = false ∨ (decide (state = 2) = true ∧ asked = true) := by
      by_cases q : state = 2
      · refine .inr ⟨decide_eq_true q, ?_⟩
        cases asked
        · exact absurd ⟨q, rfl⟩ kh
        · rfl
      · exact .inl (decide_eq_false q)
    have hS : takeC1 ⟨state, me, other, host, tm, asked, id⟩ now ⟨ty, n0, n1, n2, n3, n4, n5, n6, n7, n8, t0, t1, t2⟩ = if ty = 1 then beganC ⟨state, me, other, host, tm, asked, id⟩ now n0 else if ty = 2 then ansC ⟨state, me, other, host, tm, asked, id⟩ now n0 n1 else if ty = 3 then failC ⟨state, me, other, host, tm, asked, id⟩ else if ty = 4 then failC ⟨state, me, other, host, tm, asked, id⟩ else if ty = 6 ∧ state = 2 ∧ asked = true ∧ n0 = id then ⟨state, me, other, host, now + 60, false, id⟩ else ⟨state, me, other, host, tm, asked, id⟩ := rfl
    have hM : takeM1 ⟨state, me, other, host, tm, asked, id⟩ ⟨ty, n0, n1, n2, n3, n4, n5, n6, n7, n8, t0, t1, t2⟩ = if ty = 1 then beganM ⟨state, me, other, host, tm, asked, id⟩ n0 else if ty = 2 then ansM ⟨state, me, other, host, tm, asked, id⟩ n0 n1 else if ty = 3 then [mN 4 1 0 0 0 0 0 0 0 0] else if ty = 4 then (if state = 3 then [] else failM ⟨state, me, other, host, tm, asked, id⟩) else if ty = 5 then [mN 6 n0 1 0 0 0 0 0 0 0] else [] := rfl
    generalize takeC1 _ now _ = TS at *
    generalize takeM1 _ _ = TM at *
    rcases test with q | ⟨q, rfl⟩
    · by_cases y1 : ty = 1
      · rw [if_pos y1] at hS hM; subst hS hM
        subst y1
        simp (config := {maxSteps := 3000000}) only [run_skip, run_reg, run_seq, run_blk, run_cond, if_true, if_false, at_code_n, ops_nil, ops_grd, grd_ft, ops_mv, ops_pick, ops_bin, ops_fld, ops_load, ops_nilck, ops_call, ev_t, ev_c, put_get, opv_mk, put_box_same, args0, List.getD_cons_zero, List.getD_cons_succ, vpick, vbin, vbinI, vfld, vnil, vload, takeV, V.cells, List.map_cons, List.map_nil, List.length_cons, List.length_nil, List.getElem?_cons_zero, List.take_succ_cons, List.drop_zero, List.take_nil, true_and, Nat.reduceEqDiff, Nat.reduceAdd, Nat.reduceLeDiff, Nat.zero_add, Nat.add_zero, ↓reduceIte, decide_true, eq_self, reduceCtorEq, Bool.false_eq_true, hb, CC.cells, q4, put_box_ne (Nat.ne_of_lt hbd), q]
        refine Cal.mk (began_v (c := ⟨state, me, other, host, tm, asked, id⟩) (by rw [put_box_ne (Nat.ne_of_lt hbd)]; exact hb) h0 (M9.mk 1 n0 n1 n2 n3 n4 n5 n6 n7 n8 t0 t1 t2)) ?_
        rintro _ _ ⟨rfl, rfl⟩ -
        simp (config := {maxSteps := 3000000}) only [run_ret, at_code_n, at_code_r, at_blk_r, at_fin_r, ops_nil, ops_mv, ev_t, put_get, opv_mk, obsOk, and_true, true_and, ↓reduceIte, vret, rvAll, rvVal, resv_1, eq_self]
        exact ⟨_, _, Wk.no, weak_both (weak_put hwf.weak hd), rfl, rfl⟩
      rw [if_neg y1] at hS hM
      by_cases y2 : ty = 2
      · rw [if_pos y2] at hS hM; subst hS hM
        subst y2
        simp (config := {maxSteps := 3000000}) only [run_skip, run_reg, run_seq, run_blk, run_cond, if_true, if_false, at_code_n, ops_nil, ops_grd, grd_ft, ops_mv, ops_pick, ops_bin, ops_fld, ops_load, ops_nilck, ops_call, ev_t, ev_c, put_get, opv_mk, put_box_same, args0, List.getD_cons_zero, List.getD_cons_succ, vpick, vbin, vbinI, vfld, vnil, vload, takeV, V.cells, List.map_cons, List.map_nil, List.length_cons, List.length_nil, List.getElem?_cons_zero, List.take_succ_cons, List.drop_zero, List.take_nil, true_and, Nat.reduceEqDiff, Nat.reduceAdd, Nat.reduceLeDiff, Int.reduceEq, Nat.zero_add, Nat.add_zero, ↓reduceIte, decide_true, decide_false, eq_self, reduceCtorEq, Bool.false_eq_true, hb, CC.cells, q4, put_box_ne (Nat.ne_of_lt hbd), q]
        refine Cal.mk (answered_v (c := ⟨state, me, other, host, tm, asked, id⟩) (by rw [put_box_ne (Nat.ne_of_lt hbd)]; exact hb) h0 (M9.mk 2 n0 n1 n2 n3 n4 n5 n6 n7 n8 t0 t1 t2)) ?_
        rintro _ _ ⟨rfl, rfl⟩ -
        simp (config := {maxSteps := 3000000}) only [run_ret, at_code_n, at_code_r, at_blk_r, at_fin_r, ops_nil, ops_mv, ev_t, put_get, opv_mk, obsOk, and_true, true_and, ↓reduceIte, vret, rvAll, rvVal, resv_1, eq_self]
        exact ⟨_, _, Wk.no, weak_both (weak_put hwf.weak hd), rfl, rfl⟩
      rw [if_neg y2] at hS hM
      by_cases y3 : ty = 3
      · rw [if_pos y3] at hS hM; subst hS hM
        subst y3
        simp (config := {maxSteps := 3000000}) only [run_skip, run_reg, run_seq, run_blk, run_cond, if_true, if_false, at_code_n, ops_nil, ops_grd, grd_ft, ops_mv, ops_pick, ops_bin, ops_fld, ops_load, ops_nilck, ops_bslo, ops_store, ev_t, ev_c, put_get, put_none, opv_mk, stb_some, sto_ptr, Stp, put_box_same, args0, List.getD_cons_zero, vpick, vbin, vbinI, vfld, vnil, vload, takeV, splice, V.cells, strip, strip1, obsOk, List.map_cons, List.map_nil, List.length_cons, List.length_nil, List.getElem?_cons_zero, List.take_zero, List.drop_succ_cons, List.drop_zero, List.cons_append, List.nil_append, true_and, Nat.reduceEqDiff, Nat.reduceAdd, Nat.reduceLT, Nat.reduceLeDiff, Nat.reduceLT, Int.reduceEq, Nat.zero_add, Nat.add_zero, ↓reduceIte, decide_true, decide_false, eq_self, reduceCtorEq, Bool.false_eq_true, hb, CC.cells, q4, put_box_ne (Nat.ne_of_lt hbd), q]
        refine Bo.own (by simp [allLen, V.cells]) ?_
        intro g hg
        simp (config := {maxSteps := 3000000}) only [ops_call, ev_t, ev_c, put_get, obsOk, List.map_cons, List.map_nil, List.length_cons, List.length_nil, true_and, Nat.reduceAdd, Nat.zero_add, ↓reduceIte, eq_self]
        refine Cal.mk (of_at (l := [1, 0]) (m := mN 4 1 0 0 0 0 0 0 0 0) (U32.cons (by omega) (U32.one (by omega))) (by simp) rfl) ?_
        rintro _ _ ⟨rfl, rfl⟩ -
        simp (config := {maxSteps := 3000000}) only [ops_bslo, ev_t, put_get, strip, strip1, obsOk, List.map_cons, List.map_nil, true_and, ↓reduceIte, eq_self, M9.v, M9.cells, mN]
        refine Bo.own (by simp [allLen, V.cells]) ?_
        intro g2 hg2
        simp (config := {maxSteps := 3000000}) only [run_ret, at_code_n, at_code_r, at_blk_r, at_fin_r, ops_nil, ops_mv, ev_t, put_get, opv_mk, obsOk, List.length_cons, List.length_nil, and_true, true_and, Nat.zero_add, ↓reduceIte, vret, rvAll, rvVal, resv_1, eq_self]
        exact ⟨_, _, Wk.no, weak_use (weak_use (weak_both (weak_put hwf.weak hd)) (by simp only [put_sz, use_sz] at *; omega)) (by simp only [put_sz, use_sz] at *; omega), rfl, rfl⟩
      rw [if_neg y3] at hS hM
      by_cases y4 : ty = 4
      · rw [if_pos y4] at hS hM; subst y4
        by_cases s3 : state = 3
        · rw [if_pos s3] at hM; subst hS hM
          simp (config := {maxSteps := 3000000}) only [run_skip, run_reg, run_seq, run_blk, run_ret, run_cond, if_true, if_false, at_code_n, at_blk_n, at_fin_r, ops_nil, ops_grd, grd_ft, ops_mv, ops_pick, ops_bin, ops_fld, ops_load, ops_nilck, ops_store, ev_t, ev_c, put_get, put_none, opv_mk, stb_some, sto_ptr, Stp, put_box_same, args0, List.getD_cons_zero, vpick, vbin, vbinI, vfld, vnil, vload, takeV, splice, V.cells, obsOk, List.map_nil, List.length_cons, List.length_nil, List.getElem?_cons_zero, List.take_zero, List.drop_succ_cons, List.drop_zero, List.cons_append, List.nil_append, and_true, true_and, Nat.reduceEqDiff, Nat.reduceAdd, Nat.reduceLT, Nat.reduceLeDiff, Nat.reduceLT, Int.reduceEq, Nat.zero_add, Nat.add_zero, ↓reduceIte, vret, rvAll, rvVal, resv_1, decide_true, decide_false, ne_eq, eq_self, reduceCtorEq, Bool.false_eq_true, hb, CC.cells, q4, put_box_ne (Nat.ne_of_lt hbd), q, decide_eq_false (show ¬ ¬ state = 3 by omega), List.map_nil]
          exact ⟨_, _, Wk.no, weak_both (weak_put hwf.weak hd), rfl, rfl⟩
        · rw [if_neg s3] at hM; subst hS hM
          simp (config := {maxSteps := 3000000}) only [run_skip, run_reg, run_seq, run_blk, run_cond, if_true, if_false, at_code_n, ops_nil, ops_grd, grd_ft, ops_mv, ops_pick, ops_bin, ops_fld, ops_load, ops_nilck, ops_call, ev_t, ev_c, put_get, opv_mk, put_box_same, args0, List.getD_cons_zero, vpick, vbin, vbinI, vfld, vnil, vload, takeV, V.cells, List.map_cons, List.map_nil, List.length_cons, List.length_nil, List.getElem?_cons_zero, true_and, Nat.reduceEqDiff, Int.reduceEq, Nat.zero_add, Nat.add_zero, ↓reduceIte, decide_true, decide_false, ne_eq, eq_self, reduceCtorEq, Bool.false_eq_true, hb, CC.cells, q4, put_box_ne (Nat.ne_of_lt hbd), q, decide_eq_true (p := ¬ state = 3) s3]
          refine Cal.mk (ctlFail_v (c := ⟨state, me, other, host, tm, asked, id⟩) (by rw [put_box_ne (Nat.ne_of_lt hbd)]; exact hb)) ?_
          rintro _ _ ⟨rfl, rfl⟩ -
          simp (config := {maxSteps := 3000000}) only [run_ret, at_code_n, at_code_r, at_blk_r, at_fin_r, ops_nil, ops_mv, ev_t, put_get, opv_mk, obsOk, and_true, true_and, ↓reduceIte, vret, rvAll, rvVal, resv_1, eq_self]
          exact ⟨_, _, Wk.no, weak_both (weak_put hwf.weak hd), rfl, rfl⟩
      rw [if_neg y4] at hS hM
      by_cases y5 : ty = 5
      · rw [if_neg (by omega)] at hS; rw [if_pos y5] at hM; subst hS hM; subst y5
        rw [hps]
        simp (config := {maxSteps := 3000000}) only [run_skip, run_reg, run_seq, run_blk, run_cond, if_true, if_false, at_code_n, ops_nil, ops_grd, grd_ft, ops_mv, ops_pick, ops_bin, ops_fld, ops_ixa, ops_load, ops_nilck, ops_bslo, ev_t, ev_c, put_get, opv_mk, put_box_same, args0, List.getD_cons_zero, vpick, vbin, vbinI, vfld, vnil, vixa, vload, takeV, V.cells, strip, strip1, List.map_cons, List.map_nil, List.length_cons, List.length_nil, List.getElem?_cons_zero, List.getElem?_cons_succ, and_true, true_and, Nat.reduceEqDiff, Int.reduceToNat, Int.reduceLE, Int.reduceLT, Int.reduceEq, Nat.zero_add, Nat.add_zero, Nat.mul_one, ↓reduceIte, decide_true, decide_false, eq_self, reduceCtorEq, Bool.false_eq_true, hb, nc9, CC.cells, q4, put_box_ne (Nat.ne_of_lt hbd), q]
        refine Bo.own (by simp [allLen, V.cells]) ?_
        intro g hg
        simp (config := {maxSteps := 3000000}) only [ops_call, ev_t, ev_c, put_get, obsOk, List.map_cons, List.map_nil, List.length_cons, List.length_nil, true_and, Nat.reduceAdd, Nat.zero_add, ↓reduceIte, eq_self]
        refine Cal.mk (of_at (l := [n0, 1, 0]) (m := mN 6 n0 1 0 0 0 0 0 0 0) (U32.cons (by omega) (U32.cons (by omega) (U32.one (by omega)))) (by simp) ?_) ?_
        · have : (ofM 6 [n0, 1, 0]).v = (mN 6 (n0 % 4294967296) 1 0 0 0 0 0 0 0).v := rfl
          rw [this, en0]
        rintro _ _ ⟨rfl, rfl⟩ -
        simp (config := {maxSteps := 3000000}) only [ops_bslo, ev_t, put_get, strip, strip1, obsOk, List.map_cons, List.map_nil, true_and, ↓reduceIte, eq_self, M9.v, M9.cells, mN]
        refine Bo.own (by simp [allLen, V.cells]) ?_
        intro g2 hg2
        simp (config := {maxSteps := 3000000}) only [run_ret, at_code_n, at_code_r, at_blk_r, at_fin_r, ops_nil, ops_mv, ev_t, put_get, opv_mk, obsOk, List.length_cons, List.length_nil, and_true, true_and, Nat.zero_add, ↓reduceIte, vret, rvAll, rvVal, resv_1, eq_self]
        exact ⟨_, _, Wk.no, weak_use (weak_use (weak_put hwf.weak hd) (by simp only [put_sz, use_sz] at *; omega)) (by simp only [put_sz, use_sz] at *; omega), rfl, rfl⟩
      rw [if_neg y5] at hM
      by_cases y6 : ty = 6
      rotate_left
      · rw [if_neg (fun h => y6 h.1)] at hS; subst hS hM
        rw [hps]
        simp (config := {maxSteps := 3000000}) only [run_skip, run_reg, run_seq, run_blk, run_ret, run_cond, if_false, at_code_n, at_blk_n, at_fin_r, ops_nil, ops_grd, grd_ft, ops_mv, ops_pick, ops_bin, ops_fld, ops_load, ops_nilck, ev_t, ev_c, put_get, opv_mk, put_box_same, args0, List.getD_cons_zero, vpick, vbin, vbinI, vfld, vnil, vload, takeV, V.cells, List.map_nil, List.length_cons, List.length_nil, List.getElem?_cons_zero, and_true, true_and, Nat.reduceEqDiff, Nat.zero_add, Nat.add_zero, ↓reduceIte, vret, rvAll, rvVal, resv_1, eq_self, reduceCtorEq, Bool.false_eq_true, hb, CC.cells, q4, put_box_ne (Nat.ne_of_lt hbd), q, decide_eq_false y1, decide_eq_false y2, decide_eq_false y3, decide_eq_false y4, decide_eq_false y5, decide_eq_false y6, List.map_nil]
        exact ⟨_, _, Wk.no, weak_put hwf.weak hd, rfl, rfl⟩
      subst y6
      by_cases s2 : state = 2
      rotate_left
      · rw [if_neg (fun h => s2 h.2.1)] at hS; subst hS hM
        rw [hps]
        simp (config := {maxSteps := 3000000}) only [run_skip, run_reg, run_seq, run_blk, run_ret, run_cond, if_true, if_false, at_code_n, at_blk_n, at_fin_r, ops_nil, ops_grd, grd_ft, ops_mv, ops_pick, ops_bin, ops_fld, ops_load, ops_nilck, ev_t, ev_c, put_get, opv_mk, put_box_same, args0, List.getD_cons_zero, vpick, vbin, vbinI, vfld, vnil, vload, takeV, V.cells, List.map_nil, List.length_cons, List.length_nil, List.getElem?_cons_zero, and_true, true_and, Nat.reduceEqDiff, Int.reduceEq, Nat.zero_add, Nat.add_zero, ↓reduceIte, vret, rvAll, rvVal, resv_1, decide_true, decide_false, eq_self, reduceCtorEq, Bool.false_eq_true, hb, CC.cells, q4, put_box_ne (Nat.ne_of_lt hbd), q, List.map_nil]
        exact ⟨_, _, Wk.no, weak_put hwf.weak hd, rfl, rfl⟩
      exact absurd (of_decide_eq_true (decide_eq_true s2)) (of_decide_eq_false q)
    · by_cases y1 : ty = 1
      · rw [if_pos y1] at hS hM; subst hS hM
        subst y1
        simp (config := {maxSteps := 3000000}) only [run_skip, run_reg, run_seq, run_blk, run_cond, if_true, if_false, at_code_n, ops_nil, ops_grd, grd_tt, ops_mv, ops_pick, ops_bin, ops_un, ops_fld, ops_load, ops_nilck, ops_call, ev_t, ev_c, put_get, opv_mk, put_box_same, args0, List.getD_cons_zero, List.getD_cons_succ, vpick, vbin, vbinI, vun, vfld, vnil, vload, takeV, V.cells, List.map_cons, List.map_nil, List.length_cons, List.length_nil, List.getElem?_cons_zero, List.getElem?_cons_succ, List.take_succ_cons, List.drop_zero, List.take_nil, true_and, Nat.reduceEqDiff, Nat.reduceAdd, Nat.reduceLeDiff, Nat.zero_add, Nat.add_zero, ↓reduceIte, decide_true, Bool.not_true, eq_self, reduceCtorEq, hb, CC.cells, q4, put_box_ne (Nat.ne_of_lt hbd), q]
        refine Cal.mk (began_v (c := ⟨state, me, other, host, tm, true, id⟩) (by rw [put_box_ne (Nat.ne_of_lt hbd)]; exact hb) h0 (M9.mk 1 n0 n1 n2 n3 n4 n5 n6 n7 n8 t0 t1 t2)) ?_
        rintro _ _ ⟨rfl, rfl⟩ -
        simp (config := {maxSteps := 3000000}) only [run_ret, at_code_n, at_code_r, at_blk_r, at_fin_r, ops_nil, ops_mv, ev_t, put_get, opv_mk, obsOk, and_true, true_and, ↓reduceIte, vret, rvAll, rvVal, resv_1, eq_self]
        exact ⟨_, _, Wk.no, weak_both (weak_put hwf.weak hd), rfl, rfl⟩
      rw [if_neg y1] at hS hM
      by_cases y2 : ty = 2
      · rw [if_pos y2] at hS hM; subst hS hM
        subst y2
        simp (config := {maxSteps := 3000000}) only [run_skip, run_reg, run_seq, run_blk, run_cond, if_true, if_false, at_code_n, ops_nil, ops_grd, grd_tt, ops_mv, ops_pick, ops_bin, ops_un, ops_fld, ops_load, ops_nilck, ops_call, ev_t, ev_c, put_get, opv_mk, put_box_same, args0, List.getD_cons_zero, List.getD_cons_succ, vpick, vbin, vbinI, vun, vfld, vnil, vload, takeV, V.cells, List.map_cons, List.map_nil, List.length_cons, List.length_nil, List.getElem?_cons_zero, List.getElem?_cons_succ, List.take_succ_cons, List.drop_zero, List.take_nil, true_and, Nat.reduceEqDiff, Nat.reduceAdd, Nat.reduceLeDiff, Int.reduceEq, Nat.zero_add, Nat.add_zero, ↓reduceIte, decide_true, decide_false, Bool.not_true, eq_self, reduceCtorEq, hb, CC.cells, q4, put_box_ne (Nat.ne_of_lt hbd), q]
        refine Cal.mk (answered_v (c := ⟨state, me, other, host, tm, true, id⟩) (by rw [put_box_ne (Nat.ne_of_lt hbd)]; exact hb) h0 (M9.mk 2 n0 n1 n2 n3 n4 n5 n6 n7 n8 t0 t1 t2)) ?_
        rintro _ _ ⟨rfl, rfl⟩ -
        simp (config := {maxSteps := 3000000}) only [run_ret, at_code_n, at_code_r, at_blk_r, at_fin_r, ops_nil, ops_mv, ev_t, put_get, opv_mk, obsOk, and_true, true_and, ↓reduceIte, vret, rvAll, rvVal, resv_1, eq_self]
        exact ⟨_, _, Wk.no, weak_both (weak_put hwf.weak hd), rfl, rfl⟩
      rw [if_neg y2] at hS hM
      by_cases y3 : ty = 3
      · rw [if_pos y3] at hS hM; subst hS hM
        subst y3
        simp (config := {maxSteps := 3000000}) only [run_skip, run_reg, run_seq, run_blk, run_cond, if_true, if_false, at_code_n, ops_nil, ops_grd, grd_tt, ops_mv, ops_pick, ops_bin, ops_un, ops_fld, ops_load, ops_nilck, ops_bslo, ops_store, ev_t, ev_c, put_get, put_none, opv_mk, stb_some, sto_ptr, Stp, put_box_same, args0, List.getD_cons_zero, vpick, vbin, vbinI, vun, vfld, vnil, vload, takeV, splice, V.cells, strip, strip1, obsOk, List.map_cons, List.map_nil, List.length_cons, List.length_nil, List.getElem?_cons_zero, List.getElem?_cons_succ, List.take_zero, List.drop_succ_cons, List.drop_zero, List.cons_append, List.nil_append, true_and, Nat.reduceEqDiff, Nat.reduceAdd, Nat.reduceLT, Nat.reduceLeDiff, Nat.reduceLT, Int.reduceEq, Nat.zero_add, Nat.add_zero, ↓reduceIte, decide_true, decide_false, Bool.not_true, eq_self, reduceCtorEq, hb, CC.cells, q4, put_box_ne (Nat.ne_of_lt hbd), q]
        refine Bo.own (by simp [allLen, V.cells]) ?_
        intro g hg
        simp (config := {maxSteps := 3000000}) only [ops_call, ev_t, ev_c, put_get, obsOk, List.map_cons, List.map_nil, List.length_cons, List.length_nil, true_and, Nat.reduceAdd, Nat.zero_add, ↓reduceIte, eq_self]
        refine Cal.mk (of_at (l := [1, 0]) (m := mN 4 1 0 0 0 0 0 0 0 0) (U32.cons (by omega) (U32.one (by omega))) (by simp) rfl) ?_
        rintro _ _ ⟨rfl, rfl⟩ -
        simp (config := {maxSteps := 3000000}) only [ops_bslo, ev_t, put_get, strip, strip1, obsOk, List.map_cons, List.map_nil, true_and, ↓reduceIte, eq_self, M9.v, M9.cells, mN]
        refine Bo.own (by simp [allLen, V.cells]) ?_
        intro g2 hg2
        simp (config := {maxSteps := 3000000}) only [run_ret, at_code_n, at_code_r, at_blk_r, at_fin_r, ops_nil, ops_mv, ev_t, put_get, opv_mk, obsOk, List.length_cons, List.length_nil, and_true, true_and, Nat.zero_add, ↓reduceIte, vret, rvAll, rvVal, resv_1, eq_self]
        exact ⟨_, _, Wk.no, weak_use (weak_use (weak_both (weak_put hwf.weak hd)) (by simp only [put_sz, use_sz] at *; omega)) (by simp only [put_sz, use_sz] at *; omega), rfl, rfl⟩
      rw [if_neg y3] at hS hM
      by_cases y4 : ty = 4
      · rw [if_pos y4] at hS hM; subst y4
        by_cases s3 : state = 3
        · rw [if_pos s3] at hM; subst hS hM
          simp (config := {maxSteps := 3000000}) only [run_skip, run_reg, run_seq, run_blk, run_ret, run_cond, if_true, if_false, at_code_n, at_blk_n, at_fin_r, ops_nil, ops_grd, grd_tt, ops_mv, ops_pick, ops_bin, ops_un, ops_fld, ops_load, ops_nilck, ops_store, ev_t, ev_c, put_get, put_none, opv_mk, stb_some, sto_ptr, Stp, put_box_same, args0, List.getD_cons_zero, vpick, vbin, vbinI, vun, vfld, vnil, vload, takeV, splice, V.cells, obsOk, List.map_nil, List.length_cons, List.length_nil, List.getElem?_cons_zero, List.getElem?_cons_succ, List.take_zero, List.drop_succ_cons, List.drop_zero, List.cons_append, List.nil_append, and_true, true_and, Nat.reduceEqDiff, Nat.reduceAdd, Nat.reduceLT, Nat.reduceLeDiff, Nat.reduceLT, Int.reduceEq, Nat.zero_add, Nat.add_zero, ↓reduceIte, vret, rvAll, rvVal, resv_1, decide_true, decide_false, Bool.not_true, ne_eq, eq_self, reduceCtorEq, hb, CC.cells, q4, put_box_ne (Nat.ne_of_lt hbd), q, decide_eq_false (show ¬ ¬ state = 3 by omega), List.map_nil]
          exact ⟨_, _, Wk.no, weak_both (weak_put hwf.weak hd), rfl, rfl⟩
        · rw [if_neg s3] at hM; subst hS hM
          simp (config := {maxSteps := 3000000}) only [run_skip, run_reg, run_seq, run_blk, run_cond, if_true, if_false, at_code_n, ops_nil, ops_grd, grd_tt, ops_mv, ops_pick, ops_bin, ops_un, ops_fld, ops_load, ops_nilck, ops_call, ev_t, ev_c, put_get, opv_mk, put_box_same, args0, List.getD_cons_zero, vpick, vbin, vbinI, vun, vfld, vnil, vload, takeV, V.cells, List.map_cons, List.map_nil, List.length_cons, List.length_nil, List.getElem?_cons_zero, List.getElem?_cons_succ, true_and, Nat.reduceEqDiff, Int.reduceEq, Nat.zero_add, Nat.add_zero, ↓reduceIte, decide_true, decide_false, Bool.not_true, ne_eq, eq_self, reduceCtorEq, hb, CC.cells, q4, put_box_ne (Nat.ne_of_lt hbd), q, decide_eq_true (p := ¬ state = 3) s3]
          refine Cal.mk (ctlFail_v (c := ⟨state, me, other, host, tm, true, id⟩) (by rw [put_box_ne (Nat.ne_of_lt hbd)]; exact hb)) ?_
          rintro _ _ ⟨rfl, rfl⟩ -
          simp (config := {maxSteps := 3000000}) only [run_ret, at_code_n, at_code_r, at_blk_r, at_fin_r, ops_nil, ops_mv, ev_t, put_get, opv_mk, obsOk, and_true, true_and, ↓reduceIte, vret, rvAll, rvVal, resv_1, eq_self]
          exact ⟨_, _, Wk.no, weak_both (weak_put hwf.weak hd), rfl, rfl⟩
      rw [if_neg y4] at hS hM
      by_cases y5 : ty = 5
      · rw [if_neg (by omega)] at hS; rw [if_pos y5] at hM; subst hS hM; subst y5
        rw [hps]
        simp (config := {maxSteps := 3000000}) only [run_skip, run_reg, run_seq, run_blk, run_cond, if_true, if_false, at_code_n, ops_nil, ops_grd, grd_tt, ops_mv, ops_pick, ops_bin, ops_un, ops_fld, ops_ixa, ops_load, ops_nilck, ops_bslo, ev_t, ev_c, put_get, opv_mk, put_box_same, args0, List.getD_cons_zero, vpick, vbin, vbinI, vun, vfld, vnil, vixa, vload, takeV, V.cells, strip, strip1, List.map_cons, List.map_nil, List.length_cons, List.length_nil, List.getElem?_cons_zero, List.getElem?_cons_succ, and_true, true_and, Nat.reduceEqDiff, Int.reduceToNat, Int.reduceLE, Int.reduceLT, Int.reduceEq, Nat.zero_add, Nat.add_zero, Nat.mul_one, ↓reduceIte, decide_true, decide_false, Bool.not_true, eq_self, reduceCtorEq, hb, nc9, CC.cells, q4, put_box_ne (Nat.ne_of_lt hbd), q]
        refine Bo.own (by simp [allLen, V.cells]) ?_
        intro g hg
        simp (config := {maxSteps := 3000000}) only [ops_call, ev_t, ev_c, put_get, obsOk, List.map_cons, List.map_nil, List.length_cons, List.length_nil, true_and, Nat.reduceAdd, Nat.zero_add, ↓reduceIte, eq_self]
        refine Cal.mk (of_at (l := [n0, 1, 0]) (m := mN 6 n0 1 0 0 0 0 0 0 0) (U32.cons (by omega) (U32.cons (by omega) (U32.one (by omega)))) (by simp) ?_) ?_
        · have : (ofM 6 [n0, 1, 0]).v = (mN 6 (n0 % 4294967296) 1 0 0 0 0 0 0 0).v := rfl
          rw [this, en0]
        rintro _ _ ⟨rfl, rfl⟩ -
        simp (config := {maxSteps := 3000000}) only [ops_bslo, ev_t, put_get, strip, strip1, obsOk, List.map_cons, List.map_nil, true_and, ↓reduceIte, eq_self, M9.v, M9.cells, mN]
        refine Bo.own (by simp [allLen, V.cells]) ?_
        intro g2 hg2
        simp (config := {maxSteps := 3000000}) only [run_ret, at_code_n, at_code_r, at_blk_r, at_fin_r, ops_nil, ops_mv, ev_t, put_get, opv_mk, obsOk, List.length_cons, List.length_nil, and_true, true_and, Nat.zero_add, ↓reduceIte, vret, rvAll, rvVal, resv_1, eq_self]
        exact ⟨_, _, Wk.no, weak_use (weak_use (weak_put hwf.weak hd) (by simp only [put_sz, use_sz] at *; omega)) (by simp only [put_sz, use_sz] at *; omega), rfl, rfl⟩
      rw [if_neg y5] at hM
      by_cases y6 : ty = 6
      rotate_left
      · rw [if_neg (fun h => y6 h.1)] at hS; subst hS hM
        rw [hps]
        simp (config := {maxSteps := 3000000}) only [run_skip, run_reg, run_seq, run_blk, run_ret, run_cond, if_false, at_code_n, at_blk_n, at_fin_r, ops_nil, ops_grd, grd_tt, ops_mv, ops_pick, ops_bin, ops_un, ops_fld, ops_load, ops_nilck, ev_t, ev_c, put_get, opv_mk, put_box_same, args0, List.getD_cons_zero, vpick, vbin, vbinI, vun, vfld, vnil, vload, takeV, V.cells, List.map_nil, List.length_cons, List.length_nil, List.getElem?_cons_zero, List.getElem?_cons_succ, and_true, true_and, Nat.reduceEqDiff, Nat.zero_add, Nat.add_zero, ↓reduceIte, vret, rvAll, rvVal, resv_1, Bool.not_true, eq_self, reduceCtorEq, hb, CC.cells, q4, put_box_ne (Nat.ne_of_lt hbd), q, decide_eq_false y1, decide_eq_false y2, decide_eq_false y3, decide_eq_false y4, decide_eq_false y5, decide_eq_false y6, List.map_nil]
        exact ⟨_, _, Wk.no, weak_put hwf.weak hd, rfl, rfl⟩
      subst y6
      have s2 : state = 2 := of_decide_eq_true q
      by_cases e6 : n0 = id
      rotate_left
      · rw [if_neg (fun h => e6 h.2.2.2)] at hS; subst hS hM
        rw [hps]
        simp (config := {maxSteps := 3000000}) only [run_skip, run_reg, run_seq, run_blk, run_ret, run_cond, if_true, if_false, at_code_n, at_blk_n, at_fin_r, ops_nil, ops_grd, grd_tt, ops_mv, ops_pick, ops_bin, ops_un, ops_fld, ops_ixa, ops_load, ops_nilck, ev_t, ev_c, put_get, opv_mk, put_box_same, args0, List.getD_cons_zero, vpick, vbin, vbinI, vun, vfld, vnil, vixa, vload, takeV, V.cells, List.map_nil, List.length_cons, List.length_nil, List.getElem?_cons_zero, List.getElem?_cons_succ, and_true, true_and, Nat.reduceEqDiff, Int.reduceToNat, Int.reduceLE, Int.reduceLT, Int.reduceEq, Nat.zero_add, Nat.add_zero, Nat.mul_one, ↓reduceIte, vret, rvAll, rvVal, resv_1, decide_true, decide_false, Bool.not_true, eq_self, reduceCtorEq, hb, nc9, CC.cells, q4, put_box_ne (Nat.ne_of_lt hbd), q, decide_eq_false e6, List.map_nil]
        exact ⟨_, _, Wk.no, weak_put hwf.weak hd, rfl, rfl⟩
      rw [if_pos ⟨rfl, s2, rfl, e6⟩] at hS; subst hS hM
      simp (config := {maxSteps := 3000000}) only [run_skip, run_reg, run_seq, run_blk, run_ret, run_cond, if_true, if_false, at_code_n, at_blk_n, at_fin_r, ops_nil, ops_grd, grd_tt, ops_mv, ops_pick, ops_bin, ops_un, ops_fld, ops_ixa, ops_load, ops_nilck, ops_store, ev_t, ev_c, put_get, put_none, opv_mk, stb_some, sto_ptr, Stp, put_box_same, put_put, args0, List.getD_cons_zero, List.getD_cons_succ, vpick, vbin, vbinI, vun, norm, vfld, vnil, vixa, vload, takeV, splice, V.cells, obsOk, List.map_nil, List.length_cons, List.length_nil, List.getElem?_cons_zero, List.getElem?_cons_succ, List.take_succ_cons, List.take_zero, List.drop_succ_cons, List.drop_zero, List.cons_append, List.nil_append, and_true, true_and, Nat.reduceEqDiff, Nat.reduceAdd, Nat.reduceLT, Nat.reduceLeDiff, Nat.reduceLT, Int.reduceToNat, Int.reduceLE, Int.reduceLT, Int.reduceNeg, Int.reduceEq, Nat.zero_add, Nat.add_zero, Nat.mul_one, ↓reduceIte, vret, rvAll, rvVal, resv_1, decide_true, decide_false, Bool.not_true, eq_self, reduceCtorEq, hb, nc9, CC.cells, q4, put_box_ne (Nat.ne_of_lt hbd), q, decide_eq_true e6, List.map_nil]
      repeat (apply And.intro; focus (first | omega | (simp; done)))
      exact ⟨_, _, Wk.no, weak_both (weak_put hwf.weak hd), rfl, rfl⟩
theorem ctlCalls_v (hb : st.box b = some c.cells) (hc : c.Ok) {now : Int} (h0 : 0 ≤ now ∧ now ≤ 1000000) : VCalls Try.prog 79 [ptrV b, .sc (.int .i64 now)] st fun r st' => r = .tup [.sl .no ((callsM c).map M9.v), .sc (.bool (decide (c.state = 2)))] ∧ st' = st.put b (callsC c now).cells := by
  have s0 := hc.s0
  have s4 := hc.s4
  obtain ⟨state, me, other, host, tm, asked, id⟩ := c
  simp only at s0 s4
  refine vcalls_enter vc79 (Nat.le_of_ble_eq_true rfl) fun hwf hok => ?_
  show Run _ Vc79.body (.fin (finQ Vc79.res _)) _ _
  unfold Vc79
  have hbs := hwf.box _ _ hb
  have hps := put_self hb hbs
  by_cases k2 : state = 2
  · subst k2
    rw [callsM, if_neg (by simp), callsC, if_neg (by simp)]
    cases asked
    · rw [heardC, if_pos ⟨rfl, rfl⟩]
      simp (config := {maxSteps := 3000000}) only [run_reg, run_seq, run_blk, run_ret, run_cond, if_true, at_code_n, at_code_r, at_blk_r, at_fin_r, ops_nil, ops_mv, ops_bin, ops_un, ops_fld, ops_load, ops_nilck, ops_store, ev_t, ev_c, put_get, put_none, opv_mk, stb_some, sto_ptr, Stp, args0, List.getD_cons_zero, List.getD_cons_succ, vbin, vbinI, vun, norm, vfld, vnil, vload, takeV, splice, V.cells, ptrV, obsOk, List.map_cons, List.map_nil, List.length_cons, List.length_nil, List.getElem?_cons_zero, List.getElem?_cons_succ, List.take_succ_cons, List.take_zero, List.drop_succ_cons, List.drop_zero, List.cons_append, List.nil_append, and_true, true_and, Nat.reduceEqDiff, Nat.reduceAdd, Nat.reduceLT, Nat.reduceLeDiff, Nat.reduceLT, Int.reduceNeg, Nat.zero_add, Nat.add_zero, ↓reduceIte, vret, rvAll, rvVal, resv_2, decide_true, Bool.not_false, eq_self, reduceCtorEq, hb, CC.cells, List.map_nil, decide_true]
      repeat (apply And.intro; focus (first | omega | (simp; done)))
      exact ⟨_, _, Wk.tupA Wk.no, weak_both hwf.weak, rfl, rfl⟩
    · rw [heardC, if_neg (by simp), hps]
      simp (config := {maxSteps := 3000000}) only [run_skip, run_reg, run_seq, run_blk, run_ret, run_cond, if_true, if_false, at_code_n, at_code_r, at_blk_r, at_fin_r, ops_nil, ops_mv, ops_bin, ops_un, ops_fld, ops_load, ops_nilck, ev_t, ev_c, put_get, opv_mk, args0, List.getD_cons_zero, vbin, vbinI, vun, vfld, vnil, vload, takeV, V.cells, ptrV, List.map_cons, List.map_nil, List.length_cons, List.length_nil, List.getElem?_cons_zero, List.getElem?_cons_succ, and_true, true_and, Nat.reduceEqDiff, Nat.zero_add, Nat.add_zero, ↓reduceIte, vret, rvAll, rvVal, resv_2, decide_true, Bool.not_true, eq_self, reduceCtorEq, hb, CC.cells, List.map_nil, decide_true]
      exact ⟨_, _, Wk.tupA Wk.no, hwf.weak, rfl, rfl⟩
  have q2 := decide_eq_false k2
  by_cases k3 : state = 3
  · subst k3
    rw [callsM, if_neg (by simp), callsC, if_neg (by simp), heardC, if_neg (by simp), hps]
    simp (config := {maxSteps := 3000000}) only [run_skip, run_reg, run_seq, run_blk, run_ret, run_cond, if_true, if_false, at_code_n, at_code_r, at_blk_r, at_fin_r, ops_nil, ops_mv, ops_bin, ops_fld, ops_load, ops_nilck, ev_t, ev_c, put_get, opv_mk, args0, List.getD_cons_zero, vbin, vbinI, vfld, vnil, vload, takeV, V.cells, ptrV, List.map_cons, List.map_nil, List.length_cons, List.length_nil, List.getElem?_cons_zero, and_true, true_and, Nat.reduceEqDiff, Int.reduceEq, Nat.zero_add, Nat.add_zero, ↓reduceIte, vret, rvAll, rvVal, resv_2, decide_true, decide_false, eq_self, reduceCtorEq, hb, CC.cells, List.map_nil]
    exact ⟨_, _, Wk.tupA Wk.no, hwf.weak, rfl, rfl⟩
  by_cases k4 : state = 4
  · subst k4
    rw [callsM, if_neg (by simp), callsC, if_neg (by simp), heardC, if_neg (by simp), hps]
    simp (config := {maxSteps := 3000000}) only [run_reg, run_seq, run_blk, run_ret, run_cond, if_true, if_false, at_code_n, at_code_r, at_blk_r, at_fin_r, ops_nil, ops_mv, ops_bin, ops_fld, ops_load, ops_nilck, ev_t, ev_c, put_get, opv_mk, args0, List.getD_cons_zero, vbin, vbinI, vfld, vnil, vload, takeV, V.cells, ptrV, List.map_cons, List.map_nil, List.length_cons, List.length_nil, List.getElem?_cons_zero, and_true, true_and, Nat.reduceEqDiff, Int.reduceEq, Nat.zero_add, Nat.add_zero, ↓reduceIte, vret, rvAll, rvVal, resv_2, decide_true, decide_false, eq_self, reduceCtorEq, hb, CC.cells, List.map_nil]
    exact ⟨_, _, Wk.tupA Wk.no, hwf.weak, rfl, rfl⟩
  have k01 : state = 0 ∨ state = 1 := by omega
  rw [callsM, if_pos k01, callsC, if_pos k01]
  simp (config := {maxSteps := 3000000}) only [run_skip, run_reg, run_seq, run_blk, run_cond, if_false, at_code_n, at_blk_n, ops_nil, ops_mv, ops_bin, ops_fld, ops_load, ops_nilck, ops_call, ev_t, ev_c, put_get, opv_mk, args0, List.getD_cons_zero, vbin, vbinI, vfld, vnil, vload, takeV, V.cells, ptrV, List.map_cons, List.map_nil, List.length_cons, List.length_nil, List.getElem?_cons_zero, true_and, Nat.reduceEqDiff, Nat.zero_add, Nat.add_zero, ↓reduceIte, eq_self, reduceCtorEq, hb, CC.cells, q2, decide_eq_false k3, decide_eq_false k4]
  refine Cal.mk (ctlFail_v (c := ⟨state, me, other, host, tm, asked, id⟩) hb) ?_
  rintro _ _ ⟨rfl, rfl⟩ -
  simp (config := {maxSteps := 3000000}) only [run_ret, at_code_n, at_fin_r, ops_nil, ops_mv, ev_t, ev_c, put_get, opv_mk, args0, vload, takeV, V.cells, obsOk, List.map_cons, List.map_nil, and_true, true_and, Nat.reduceEqDiff, ↓reduceIte, vret, rvAll, rvVal, resv_2, eq_self]
  exact ⟨_, _, Wk.tupA Wk.no, weak_both hwf.weak, rfl, rfl⟩
theorem ctlTick_v (hb : st.box b = some c.cells) (hc : c.Ok) {now : Int} (h0 : 0 ≤ now ∧ now ≤ 1000000) : VCalls Try.prog 40 [ptrV b, .sc (.int .i64 now)] st fun r st' => r = .sl .no ((tickM c now).map M9.v) ∧ st' = st.put b (tickC c now).cells := by
  have hid := hc.id
  obtain ⟨state, me, other, host, tm, asked, id⟩ := c
  simp only at hid
  refine vcalls_enter vc40 (Nat.le_of_ble_eq_true rfl) fun hwf hok => ?_
  show Run _ Vc40.body (.fin (finQ Vc40.res _)) _ _
  unfold Vc40
  have hbs := hwf.box _ _ hb
  have hps := put_self hb hbs
  by_cases k4 : state = 4
  · rw [tickM, if_pos (.inl k4), tickC, if_pos (.inl k4), hps]
    simp (config := {maxSteps := 3000000}) only [run_reg, run_seq, run_ret, run_cond, if_true, at_code_n, at_code_r, at_fin_r, ops_nil, ops_grd, grd_tf, ops_mv, ops_pick, ops_bin, ops_fld, ops_load, ops_nilck, ev_t, ev_c, put_get, opv_mk, args0, List.getD_cons_zero, vpick, vbin, vbinI, vfld, vnil, vload, takeV, V.cells, ptrV, List.map_nil, List.length_cons, List.length_nil, List.getElem?_cons_zero, and_true, true_and, Nat.reduceEqDiff, Nat.zero_add, Nat.add_zero, ↓reduceIte, vret, rvAll, rvVal, resv_1, eq_self, reduceCtorEq, hb, CC.cells, decide_eq_true k4, List.map_nil]
    exact ⟨_, _, Wk.no, hwf.weak, rfl, rfl⟩
  have q4 := decide_eq_false k4
  by_cases kt : now < tm
  · rw [tickM, if_pos (.inr kt), tickC, if_pos (.inr kt), hps]
    simp (config := {maxSteps := 3000000}) only [run_reg, run_seq, run_ret, run_cond, if_true, at_code_n, at_code_r, at_fin_r, ops_nil, ops_grd, grd_ff, ops_mv, ops_pick, ops_bin, ops_fld, ops_load, ops_nilck, ev_t, ev_c, put_get, opv_mk, args0, List.getD_cons_zero, List.getD_cons_succ, vpick, vbin, vbinI, vfld, vnil, vload, takeV, V.cells, ptrV, List.map_nil, List.length_cons, List.length_nil, List.getElem?_cons_zero, List.getElem?_cons_succ, and_true, true_and, Nat.reduceEqDiff, Nat.zero_add, Nat.add_zero, ↓reduceIte, vret, rvAll, rvVal, resv_1, eq_self, reduceCtorEq, Bool.false_eq_true, hb, CC.cells, q4, decide_eq_true kt, List.map_nil]
    exact ⟨_, _, Wk.no, hwf.weak, rfl, rfl⟩
  have qt := decide_eq_false kt
  have h4 : ¬ (state = 4 ∨ now < tm) := fun h => h.elim k4 kt
  rw [tickM, tickC, if_neg h4, if_neg h4]
  by_cases k2 : state = 2
  rotate_left
  · have h2 : ∀ b : Bool, ¬ (state = 2 ∧ b = false) := fun b h => k2 h.1
    rw [if_neg (h2 _), if_neg (h2 _), if_neg k2]
    simp (config := {maxSteps := 3000000}) only [run_skip, run_reg, run_seq, run_ret, run_cond, if_false, at_code_n, at_fin_r, ops_nil, ops_grd, grd_ff, grd_ft, ops_mv, ops_pick, ops_bin, ops_fld, ops_load, ops_nilck, ops_store, ev_t, ev_c, put_get, put_none, opv_mk, stb_some, sto_ptr, Stp, args0, List.getD_cons_zero, List.getD_cons_succ, vpick, vbin, vbinI, vfld, vnil, vload, takeV, splice, V.cells, ptrV, obsOk, List.map_nil, List.length_cons, List.length_nil, List.getElem?_cons_zero, List.getElem?_cons_succ, List.take_zero, List.drop_succ_cons, List.drop_zero, List.cons_append, List.nil_append, and_true, true_and, Nat.reduceEqDiff, Nat.reduceAdd, Nat.reduceLT, Nat.reduceLeDiff, Nat.reduceLT, Nat.zero_add, Nat.add_zero, ↓reduceIte, vret, rvAll, rvVal, resv_1, eq_self, reduceCtorEq, Bool.false_eq_true, hb, CC.cells, q4, qt, decide_eq_false k2, List.map_nil]
    exact ⟨_, _, Wk.no, weak_both hwf.weak, rfl, rfl⟩
  have q2 := decide_eq_true k2
  cases asked
  · rw [if_pos ⟨k2, rfl⟩, if_pos ⟨k2, rfl⟩]
    simp (config := {maxSteps := 3000000}) only [run_skip, run_reg, run_seq, run_cond, if_true, if_false, at_code_n, ops_nil, ops_grd, grd_tt, grd_ff, ops_mv, ops_pick, ops_bin, ops_un, ops_fld, ops_load, ops_nilck, ops_bslo, ops_store, ev_t, ev_c, put_get, put_none, opv_mk, stb_some, sto_ptr, Stp, put_box_same, put_put, args0, List.getD_cons_zero, List.getD_cons_succ, vpick, vbin, vbinI, vun, norm, vfld, vnil, vload, takeV, splice, V.cells, strip, strip1, ptrV, obsOk, List.map_cons, List.map_nil, List.length_cons, List.length_nil, List.getElem?_cons_zero, List.getElem?_cons_succ, List.take_succ_cons, List.take_zero, List.drop_succ_cons, List.drop_zero, List.cons_append, List.nil_append, List.append_nil, List.drop_nil, and_true, true_and, Nat.reduceEqDiff, Nat.reduceAdd, Nat.reduceLT, Nat.reduceLeDiff, Nat.reduceLT, Int.reduceNeg, Nat.zero_add, Nat.add_zero, ↓reduceIte, Bool.not_false, eq_self, reduceCtorEq, Bool.false_eq_true, hb, CC.cells, q4, qt, q2]
    repeat (apply And.intro; focus (first | omega | (simp; done)))
    refine Bo.own (by simp [allLen, V.cells]) ?_
    intro g hg
    simp (config := {maxSteps := 3000000}) only [ops_call, ev_t, ev_c, put_get, obsOk, List.map_cons, List.map_nil, List.length_cons, List.length_nil, true_and, Nat.zero_add, ↓reduceIte, eq_self]
    refine Cal.mk (of_at (l := [(id + 1) % 4294967296]) (m := mN 5 ((id + 1) % 4294967296) 0 0 0 0 0 0 0 0) (U32.one (by omega)) (by simp) ?_) ?_
    · have : (ofM 5 [(id + 1) % 4294967296]).v = (mN 5 ((id + 1) % 4294967296 % 4294967296) 0 0 0 0 0 0 0 0).v := rfl
      rw [this, show (id + 1) % 4294967296 % 4294967296 = (id + 1) % 4294967296 by omega]
    rintro _ _ ⟨rfl, rfl⟩ -
    simp (config := {maxSteps := 3000000}) only [ops_bslo, ev_t, put_get, strip, strip1, obsOk, List.map_cons, List.map_nil, true_and, ↓reduceIte, eq_self, M9.v, M9.cells, mN]
    refine Bo.own (by simp [allLen, V.cells]) ?_
    intro g2 hg2
    simp (config := {maxSteps := 3000000}) only [run_ret, at_code_n, at_code_r, at_fin_r, ops_nil, ops_mv, ev_t, put_get, opv_mk, obsOk, List.length_cons, List.length_nil, and_true, true_and, Nat.zero_add, ↓reduceIte, vret, rvAll, rvVal, resv_1, eq_self]
    exact ⟨_, _, Wk.no, weak_use (weak_use (weak_both hwf.weak) (by simp only [put_sz, use_sz] at *; omega)) (by simp only [put_sz, use_sz] at *; omega), rfl, rfl⟩
  · have h2 : ¬ (state = 2 ∧ true = false) := fun h => by cases h.2
    rw [if_neg h2, if_neg h2, if_pos k2]
    simp (config := {maxSteps := 3000000}) only [run_skip, run_reg, run_seq, run_cond, if_true, if_false, at_code_n, ops_nil, ops_grd, grd_tt, grd_ff, ops_mv, ops_pick, ops_bin, ops_un, ops_fld, ops_load, ops_nilck, ops_call, ev_t, ev_c, put_get, opv_mk, args0, List.getD_cons_zero, List.getD_cons_succ, vpick, vbin, vbinI, vun, vfld, vnil, vload, takeV, V.cells, ptrV, List.map_cons, List.map_nil, List.length_cons, List.length_nil, List.getElem?_cons_zero, List.getElem?_cons_succ, true_and, Nat.reduceEqDiff, Nat.zero_add, Nat.add_zero, ↓reduceIte, Bool.not_true, eq_self, reduceCtorEq, Bool.false_eq_true, hb, CC.cells, q4, qt, q2]
    refine Cal.mk (ctlFail_v (c := ⟨state, me, other, host, tm, true, id⟩) hb) ?_
    rintro _ _ ⟨rfl, rfl⟩ -
    simp (config := {maxSteps := 3000000}) only [run_ret, at_code_n, at_code_r, at_fin_r, ops_nil, ops_mv, ev_t, put_get, opv_mk, obsOk, and_true, true_and, ↓reduceIte, vret, rvAll, rvVal, resv_1, eq_self]
    exact ⟨_, _, Wk.no, weak_both hwf.weak, rfl, rfl⟩
end
end Go.Proofs.Ytogkdcbcmhhhcaa
