/- The law of layer 41: its helpers, walked. -/
import Derived.Test.YtogkdcbcmhhhcaaVCallsE
import Derived.Test.YtogkdcbcmhhhcaaVCallsR
namespace Go.Proofs.Ytogkdcbcmhhhcaa
open Go Go.RowKit

theorem ms_get (L : List M9) (i : Nat) : (L.map M9.v)[i]? = (L[i]?).map M9.v := by simp
section
variable {tk tk' : Tk} {st : St} {b e : Nat} {c : CL}
theorem Same_v (L : List M9) (hL : L.length ≤ 1000) : VCalls Try.prog 65 [.sl tk (L.map M9.v), .sl tk' (L.map M9.v)] st fun r st' => r = .sc (.bool true) ∧ st = st' := by
  refine vcalls_enter vc65 (Nat.le_of_ble_eq_true rfl) fun hwf hok => ?_
  show Run _ Vc65.body (.fin (finQ Vc65.res _)) _ _
  unfold Vc65
  simp (config := {maxSteps := 3000000}) only [run_skip, run_reg, run_seq, run_blk, run_cond, if_false, at_code_n, ops_nil, ops_mv, ops_bin, ops_len, ev_t, ev_c, put_get, opv_mk, args0, List.getD_cons_zero, List.getD_cons_succ, vbin, vbinI, vlen, true_and, Nat.reduceEqDiff, ↓reduceIte, decide_false, ne_eq, not_true_eq_false, eq_self, reduceCtorEq, List.length_map]
  refine run_loop [4, 5, 11, 12, 13, 14, 15, 16, 17, 18, 19, 20, 21, 22, 23, 24, 25] (fun B s => ∃ i : Nat, i ≤ L.length ∧ B 5 = .sc (.int .i64 i) ∧ s = st) (fun B _ => L.length - vnat (B 5)) rfl ?_ ?_
  · simp (config := {maxSteps := 3000000}) only [put_get, and_true, ↓reduceIte, eq_self]
    exact ⟨0, by omega, by simp⟩
  · rintro B s ⟨i, hi, h5, rfl⟩
    by_cases hlt : i < L.length
    · have hx := ms_get L i
      rw [List.getElem?_eq_getElem hlt, Option.map_some] at hx
      generalize L[i] = m at hx
      obtain ⟨ty, n0, n1, n2, n3, n4, n5, n6, n7, n8, t0, t1, t2⟩ := m
      simp only [M9.v, M9.cells] at hx
      simp (config := {maxSteps := 3000000}) only [run_skip, run_reg, run_seq, run_blk, run_cond, if_true, if_false, at_code_n, at_blk_n, at_rnd_n, ops_nil, ops_mv, ops_bin, ops_eqs, veqs, ops_ix, ops_load, ops_len, ev_t, ev_c, put_get, opv_mk, over_get, rel_mk, vnat, args0, List.getD_cons_zero, List.getD_cons_succ, vbin, vbinI, norm, vlen, vix, vload, takeV, V.cells, List.length_cons, List.length_nil, List.take_succ_cons, List.drop_zero, List.take_nil, and_true, true_and, Nat.reduceEqDiff, Nat.reduceAdd, Nat.reduceLeDiff, Int.toNat_natCast, Int.reduceNeg, Nat.zero_add, ↓reduceIte, decide_true, Bool.not_true, eq_self, reduceCtorEq, Bool.false_eq_true, List.contains_cons, List.contains_nil, Nat.reduceBEq, Bool.or_false, Bool.or_true, h5, List.length_map, decide_eq_true (show (i : Int) < (L.length : Int) by omega), hx, fitsV, eqV, beq_self_eq_true, Bool.and_self]
      repeat (apply And.intro; focus (first | omega | (simp; done)))
      exact ⟨⟨i + 1, by omega, by simp⟩, by omega⟩
    · obtain rfl : i = L.length := by omega
      simp (config := {maxSteps := 3000000}) only [run_reg, run_seq, run_exit, run_ret, run_cond, if_false, at_code_n, at_code_x, at_blk_x, at_rnd_x, at_fin_r, ops_nil, ops_mv, ops_bin, ops_len, ev_t, ev_c, put_get, opv_mk, over_get, vnat, args0, List.getD_cons_zero, vbin, vbinI, vlen, and_true, true_and, Nat.reduceEqDiff, Int.toNat_natCast, ↓reduceIte, vret, rvAll, rvVal, resv_1, decide_false, Int.lt_irrefl, eq_self, reduceCtorEq, Bool.false_eq_true, List.contains_cons, List.contains_nil, Nat.reduceBEq, Bool.or_false, Bool.or_true, h5, List.length_map]
      exact ⟨_, _, Wk.refl _, hwf.weak, rfl, rfl⟩
theorem Window_v (hb : st.box b = some c.cells) : VCalls Try.prog 61 [ptrV b] st fun r st' => r = .tup [.sc (.int .i64 c.window), .sc (.int .i64 c.delay)] ∧ st = st' := by
  refine vcalls_enter vc61 (Nat.le_of_ble_eq_true rfl) fun hwf hok => ?_
  show Run _ Vc61.body (.fin (finQ Vc61.res _)) _ _
  unfold Vc61
  simp (config := {maxSteps := 3000000}) only [run_reg, run_seq, run_ret, at_code_n, at_fin_r, ops_nil, ops_mv, ops_fld, ops_load, ops_nilck, ev_t, ev_c, put_get, opv_mk, args0, List.getD_cons_zero, vfld, vnil, vload, takeV, V.cells, ptrV, List.map_cons, List.map_nil, List.length_cons, List.length_nil, List.getElem?_cons_zero, List.getElem?_cons_succ, and_true, true_and, Nat.reduceEqDiff, Nat.zero_add, ↓reduceIte, vret, rvAll, rvVal, resv_2, eq_self, reduceCtorEq, hb, CL.cells]
  exact ⟨_, _, Wk.refl _, hwf.weak, rfl, rfl⟩
theorem Mine_v (hb : st.box b = some c.cells) : VCalls Try.prog 62 [ptrV b] st fun r st' => r = .sc (.int .u16 c.mine) ∧ st = st' := by
  refine vcalls_enter vc62 (Nat.le_of_ble_eq_true rfl) fun hwf hok => ?_
  show Run _ Vc62.body (.fin (finQ Vc62.res _)) _ _
  unfold Vc62
  simp (config := {maxSteps := 3000000}) only [run_reg, run_seq, run_ret, at_code_n, at_fin_r, ops_nil, ops_mv, ops_fld, ops_load, ops_nilck, ev_t, ev_c, put_get, opv_mk, args0, List.getD_cons_zero, vfld, vnil, vload, takeV, V.cells, ptrV, List.length_cons, List.length_nil, List.getElem?_cons_zero, List.getElem?_cons_succ, and_true, true_and, Nat.zero_add, ↓reduceIte, vret, rvAll, rvVal, resv_1, eq_self, reduceCtorEq, hb, CL.cells]
  exact ⟨_, _, Wk.refl _, hwf.weak, rfl, rfl⟩
theorem Errors_v (hb : st.box b = some c.cells) : VCalls Try.prog 63 [ptrV b] st fun r st' => r = .sc (.int .i64 c.errors) ∧ st = st' := by
  refine vcalls_enter vc63 (Nat.le_of_ble_eq_true rfl) fun hwf hok => ?_
  show Run _ Vc63.body (.fin (finQ Vc63.res _)) _ _
  unfold Vc63
  simp (config := {maxSteps := 3000000}) only [run_reg, run_seq, run_ret, at_code_n, at_fin_r, ops_nil, ops_mv, ops_fld, ops_load, ops_nilck, ev_t, ev_c, put_get, opv_mk, args0, List.getD_cons_zero, vfld, vnil, vload, takeV, V.cells, ptrV, List.length_cons, List.length_nil, List.getElem?_cons_zero, List.getElem?_cons_succ, and_true, true_and, Nat.zero_add, ↓reduceIte, vret, rvAll, rvVal, resv_1, eq_self, reduceCtorEq, hb, CL.cells]
  exact ⟨_, _, Wk.refl _, hwf.weak, rfl, rfl⟩
theorem Map_v (hb : st.box b = some c.cells) : VCalls Try.prog 64 [ptrV b] st fun r st' => r = .agg [.sc (.int .u32 c.a0), .sc (.int .u32 c.a1)] ∧ st = st' := by
  refine vcalls_enter vc64 (Nat.le_of_ble_eq_true rfl) fun hwf hok => ?_
  show Run _ Vc64.body (.fin (finQ Vc64.res _)) _ _
  unfold Vc64
  simp (config := {maxSteps := 3000000}) only [run_reg, run_seq, at_code_n, ops_nil, ops_mv, ops_fld, ops_load, ops_nilck, ops_alc, ev_t, put_get, opv_mk, args0, List.getD_cons_zero, vfld, vnil, vload, takeV, ptrV, obsOk, true_and, Nat.reduceAdd, Nat.zero_add, ↓reduceIte, eq_self, reduceCtorEq]
  intro d hd
  have hbs := hwf.box _ _ hb
  have hbd : b < d := by omega
  simp (config := {maxSteps := 3000000}) only [run_ret, at_code_n, at_fin_r, ops_nil, ops_store, ev_t, put_get, put_none, opv_mk, stb_some, sto_ptr, Stp, put_box_same, put_put, vload, takeV, splice, V.cells, obsOk, List.length_cons, List.length_nil, List.take_succ_cons, List.take_zero, List.drop_succ_cons, List.drop_zero, List.nil_append, List.append_nil, List.take_nil, List.drop_nil, and_true, true_and, Nat.reduceEqDiff, Nat.reduceAdd, Nat.reduceLT, Nat.reduceLeDiff, Nat.reduceLT, Nat.zero_add, ↓reduceIte, vret, rvAll, rvVal, resv_1, eq_self, hb, CL.cells, put_box_ne (Nat.ne_of_lt hbd)]
  exact ⟨_, _, Wk.refl _, weak_put hwf.weak hd, rfl, rfl⟩
theorem same_v (hb : st.box b = some c.cells) (he : st.box e = some c.cells) : VCalls Try.prog 27 [ptrV b, ptrV e] st fun r st' => r = .sc (.bool true) ∧ st = st' := by
  refine vcalls_enter vc27 (Nat.le_of_ble_eq_true rfl) fun hwf hok => ?_
  show Run _ Vc27.body (.fin (finQ Vc27.res _)) _ _
  unfold Vc27
  simp (config := {maxSteps := 3000000}) only [run_reg, run_seq, at_code_n, ops_nil, ops_mv, ops_call, ev_t, ev_c, put_get, opv_mk, args0, List.getD_cons_zero, ptrV, List.map_cons, List.map_nil, true_and, ↓reduceIte, eq_self, reduceCtorEq]
  refine Cal.mk (Theirs_v hb) ?_
  rintro _ _ ⟨rfl, rfl⟩ -
  simp (config := {maxSteps := 3000000}) only [run_reg, run_seq, at_code_n, ops_nil, ops_mv, ops_ext, ops_call, ev_t, put_get, opv_mk, args0, List.getD_cons_zero, vext, obsOk, List.map_cons, List.map_nil, List.getElem?_cons_zero, List.getElem?_cons_succ, true_and, Nat.reduceEqDiff, ↓reduceIte, eq_self, reduceCtorEq]
  refine Cal.mk (Window_v hb) ?_
  rintro _ _ ⟨rfl, rfl⟩ -
  simp (config := {maxSteps := 3000000}) only [run_reg, run_seq, at_code_n, ops_nil, ops_mv, ops_fld, ops_load, ops_nilck, ops_ext, ops_call, ev_t, put_get, opv_mk, args0, List.getD_cons_zero, List.getD_cons_succ, vfld, vnil, vext, vload, takeV, V.cells, obsOk, List.map_cons, List.map_nil, List.length_cons, List.length_nil, List.getElem?_cons_zero, List.getElem?_cons_succ, true_and, Nat.reduceEqDiff, Nat.zero_add, Nat.add_zero, ↓reduceIte, eq_self, reduceCtorEq, he, CL.cells]
  refine Cal.mk (State_v hb) ?_
  rintro _ _ ⟨rfl, rfl⟩ -
  simp (config := {maxSteps := 3000000}) only [ops_grd, grd_tt, ops_mv, ops_bin, ops_fld, ops_load, ops_nilck, ops_call, ev_t, put_get, opv_mk, args0, List.getD_cons_zero, List.getD_cons_succ, vbin, vbinI, vfld, vnil, vload, takeV, V.cells, obsOk, List.map_cons, List.map_nil, List.length_cons, List.length_nil, List.getElem?_cons_zero, List.getElem?_cons_succ, and_true, true_and, Nat.reduceEqDiff, Nat.zero_add, ↓reduceIte, decide_true, eq_self, reduceCtorEq, he, CL.cells]
  refine Cal.mk (Mine_v hb) ?_
  rintro _ _ ⟨rfl, rfl⟩ -
  simp (config := {maxSteps := 3000000}) only [ops_grd, grd_tt, ops_mv, ops_pick, ops_bin, ops_binb, vbinb, ops_fld, ops_load, ops_nilck, ops_call, ev_t, put_get, opv_mk, args0, List.getD_cons_zero, List.getD_cons_succ, vpick, vbin, vbinI, vfld, vnil, vload, takeV, V.cells, obsOk, List.map_cons, List.map_nil, List.length_cons, List.length_nil, List.getElem?_cons_zero, List.getElem?_cons_succ, and_true, true_and, Nat.reduceEqDiff, Nat.zero_add, ↓reduceIte, decide_true, eq_self, reduceCtorEq, Bool.false_eq_true, he, CL.cells, beq_self_eq_true]
  refine Cal.mk (Errors_v hb) ?_
  rintro _ _ ⟨rfl, rfl⟩ -
  simp (config := {maxSteps := 3000000}) only [ops_grd, grd_tt, ops_mv, ops_pick, ops_bin, ops_fld, ops_load, ops_nilck, ops_call, ev_t, put_get, opv_mk, args0, List.getD_cons_zero, List.getD_cons_succ, vpick, vbin, vbinI, vfld, vnil, vload, takeV, V.cells, obsOk, List.map_cons, List.map_nil, List.length_cons, List.length_nil, List.getElem?_cons_zero, List.getElem?_cons_succ, List.take_succ_cons, List.drop_succ_cons, List.drop_zero, List.take_nil, and_true, true_and, Nat.reduceEqDiff, Nat.reduceAdd, Nat.reduceLeDiff, Nat.zero_add, ↓reduceIte, decide_true, eq_self, reduceCtorEq, he, CL.cells]
  refine Cal.mk (Map_v hb) ?_
  rintro _ _ ⟨rfl, rfl⟩ -
  simp (config := {maxSteps := 3000000}) only [run_ret, at_code_n, at_fin_r, ops_nil, ops_grd, grd_tt, ops_mv, ops_pick, ops_eqs, veqs, ev_t, put_get, opv_mk, vpick, vload, takeV, obsOk, List.length_cons, List.length_nil, List.take_succ_cons, List.drop_succ_cons, List.drop_zero, List.take_nil, and_true, true_and, Nat.reduceEqDiff, Nat.reduceAdd, Nat.reduceLeDiff, Nat.zero_add, ↓reduceIte, vret, rvAll, rvVal, resv_1, decide_true, eq_self, Bool.false_eq_true, he, CL.cells, fitsV, eqV, Bool.and_self]
  exact ⟨_, _, Wk.refl _, hwf.weak, rfl, rfl⟩
/-- For which call a message is. -/
def forN (m : M9) : Int × Int := if m.ty = 8 then (m.n1 % 65536, 1) else if m.ty = 11 ∨ m.ty = 14 ∨ m.ty = 15 then (m.n0 % 65536, 1) else if m.ty = 12 ∨ m.ty = 13 then (m.n0 % 65536, 2) else (0, 0)
theorem forN_k (m : M9) : (forN m).2 = 0 ∨ (forN m).2 = 1 ∨ (forN m).2 = 2 := by
  unfold forN
  split
  · exact .inr (.inl rfl)
  split
  · exact .inr (.inl rfl)
  split
  · exact .inr (.inr rfl)
  · exact .inl rfl
theorem For_v {m : M9} (hm : m.Ok) : VCalls Try.prog 13 [m.v] st fun r st' => r = .tup [.sc (.int .u16 (forN m).1), .sc (.bool (decide ((forN m).2 = 1))), .sc (.bool (decide ((forN m).2 ≠ 0)))] ∧ st = st' := by
  have k0 := hm.n0
  have k1 := hm.n1
  have hF : forN m = if m.ty = 8 then (m.n1 % 65536, 1) else if m.ty = 11 ∨ m.ty = 14 ∨ m.ty = 15 then (m.n0 % 65536, 1) else if m.ty = 12 ∨ m.ty = 13 then (m.n0 % 65536, 2) else (0, 0) := rfl
  generalize forN m = F at *
  clear hm
  obtain ⟨ty, n0, n1, n2, n3, n4, n5, n6, n7, n8, t0, t1, t2⟩ := m
  simp only at hF k0 k1
  refine vcalls_enter vc13 (Nat.le_of_ble_eq_true rfl) fun hwf hok => ?_
  show Run _ Vc13.body (.fin (finQ Vc13.res _)) _ _
  unfold Vc13
  simp (config := {maxSteps := 3000000}) only [run_reg, run_seq, run_blk, run_cond, at_code_n, ops_nil, ops_mv, ops_bin, ops_fld, ops_load, ops_box, ev_t, ev_c, put_get, opv_mk, Bx, put_box_same, args0, List.getD_cons_zero, vbin, vbinI, vfld, vload, takeV, V.cells, ptrV, obsOk, List.length_cons, List.length_nil, List.getElem?_cons_zero, true_and, Nat.reduceEqDiff, Nat.reduceAdd, Nat.zero_add, Nat.add_zero, ↓reduceIte, ne_eq, not_false_eq_true, eq_self, reduceCtorEq, M9.v, M9.cells]
  intro d hd
  by_cases c1 : ty = 8
  · subst c1
    rw [if_pos rfl] at hF; subst hF
    simp (config := {maxSteps := 3000000}) only [run_reg, run_seq, run_ret, if_true, at_code_n, at_code_r, at_blk_r, at_fin_r, ops_nil, ops_mv, ops_conv, ops_fld, ops_ixa, ops_load, ev_t, ev_c, put_get, opv_mk, put_box_same, args0, vconv, norm, vfld, vixa, vload, takeV, V.cells, List.map_cons, List.map_nil, List.length_cons, List.length_nil, List.getElem?_cons_zero, List.getElem?_cons_succ, and_true, true_and, Nat.reduceEqDiff, Nat.reduceAdd, Int.reduceToNat, Int.reduceLE, Int.reduceLT, Int.reduceEq, Nat.zero_add, Nat.mul_one, ↓reduceIte, vret, rvAll, rvVal, resv_2, decide_true, not_false_eq_true, eq_self, nc9]
    exact ⟨_, _, Wk.refl _, weak_put hwf.weak hd, rfl, rfl⟩
  rw [if_neg c1] at hF
  by_cases c2 : ty = 11
  · subst c2
    rw [if_pos (.inl rfl)] at hF; subst hF
    simp (config := {maxSteps := 3000000}) only [run_skip, run_reg, run_seq, run_ret, run_cond, if_true, if_false, at_code_n, at_code_r, at_blk_r, at_fin_r, ops_nil, ops_mv, ops_bin, ops_conv, ops_fld, ops_ixa, ops_load, ev_t, ev_c, put_get, opv_mk, put_box_same, args0, vbin, vbinI, vconv, norm, vfld, vixa, vload, takeV, V.cells, List.map_cons, List.map_nil, List.length_cons, List.length_nil, List.getElem?_cons_zero, List.getElem?_cons_succ, and_true, true_and, Nat.reduceEqDiff, Int.reduceToNat, Int.reduceLE, Int.reduceLT, Int.reduceEq, Nat.zero_add, Nat.add_zero, Nat.mul_one, ↓reduceIte, vret, rvAll, rvVal, resv_2, decide_true, decide_false, not_false_eq_true, eq_self, nc9]
    exact ⟨_, _, Wk.refl _, weak_put hwf.weak hd, rfl, rfl⟩
  by_cases c3 : ty = 14
  · subst c3
    rw [if_pos (.inr (.inl rfl))] at hF; subst hF
    simp (config := {maxSteps := 3000000}) only [run_skip, run_reg, run_seq, run_ret, run_cond, if_true, if_false, at_code_n, at_code_r, at_blk_r, at_fin_r, ops_nil, ops_mv, ops_bin, ops_conv, ops_fld, ops_ixa, ops_load, ev_t, ev_c, put_get, opv_mk, put_box_same, args0, vbin, vbinI, vconv, norm, vfld, vixa, vload, takeV, V.cells, List.map_cons, List.map_nil, List.length_cons, List.length_nil, List.getElem?_cons_zero, List.getElem?_cons_succ, and_true, true_and, Nat.reduceEqDiff, Int.reduceToNat, Int.reduceLE, Int.reduceLT, Int.reduceEq, Nat.zero_add, Nat.add_zero, Nat.mul_one, ↓reduceIte, vret, rvAll, rvVal, resv_2, decide_true, decide_false, not_false_eq_true, eq_self, nc9]
    exact ⟨_, _, Wk.refl _, weak_put hwf.weak hd, rfl, rfl⟩
  by_cases c4 : ty = 15
  · subst c4
    rw [if_pos (.inr (.inr rfl))] at hF; subst hF
    simp (config := {maxSteps := 3000000}) only [run_reg, run_seq, run_ret, run_cond, if_true, if_false, at_code_n, at_code_r, at_blk_r, at_fin_r, ops_nil, ops_mv, ops_bin, ops_conv, ops_fld, ops_ixa, ops_load, ev_t, ev_c, put_get, opv_mk, put_box_same, args0, vbin, vbinI, vconv, norm, vfld, vixa, vload, takeV, V.cells, List.map_cons, List.map_nil, List.length_cons, List.length_nil, List.getElem?_cons_zero, List.getElem?_cons_succ, and_true, true_and, Nat.reduceEqDiff, Int.reduceToNat, Int.reduceLE, Int.reduceLT, Int.reduceEq, Nat.zero_add, Nat.add_zero, Nat.mul_one, ↓reduceIte, vret, rvAll, rvVal, resv_2, decide_true, decide_false, not_false_eq_true, eq_self, nc9]
    exact ⟨_, _, Wk.refl _, weak_put hwf.weak hd, rfl, rfl⟩
  rw [if_neg (by omega)] at hF
  by_cases c5 : ty = 12
  · subst c5
    rw [if_pos (.inl rfl)] at hF; subst hF
    simp (config := {maxSteps := 3000000}) only [run_skip, run_reg, run_seq, run_ret, run_cond, if_true, if_false, at_code_n, at_code_r, at_blk_r, at_fin_r, ops_nil, ops_mv, ops_bin, ops_conv, ops_fld, ops_ixa, ops_load, ev_t, ev_c, put_get, opv_mk, put_box_same, args0, vbin, vbinI, vconv, norm, vfld, vixa, vload, takeV, V.cells, List.map_cons, List.map_nil, List.length_cons, List.length_nil, List.getElem?_cons_zero, List.getElem?_cons_succ, and_true, true_and, Nat.reduceEqDiff, Int.reduceToNat, Int.reduceLE, Int.reduceLT, Int.reduceEq, Nat.zero_add, Nat.add_zero, Nat.mul_one, ↓reduceIte, vret, rvAll, rvVal, resv_2, decide_true, decide_false, not_false_eq_true, eq_self, nc9]
    exact ⟨_, _, Wk.refl _, weak_put hwf.weak hd, rfl, rfl⟩
  by_cases c6 : ty = 13
  · subst c6
    rw [if_pos (.inr rfl)] at hF; subst hF
    simp (config := {maxSteps := 3000000}) only [run_reg, run_seq, run_ret, run_cond, if_true, if_false, at_code_n, at_code_r, at_blk_r, at_fin_r, ops_nil, ops_mv, ops_bin, ops_conv, ops_fld, ops_ixa, ops_load, ev_t, ev_c, put_get, opv_mk, put_box_same, args0, vbin, vbinI, vconv, norm, vfld, vixa, vload, takeV, V.cells, List.map_cons, List.map_nil, List.length_cons, List.length_nil, List.getElem?_cons_zero, List.getElem?_cons_succ, and_true, true_and, Nat.reduceEqDiff, Int.reduceToNat, Int.reduceLE, Int.reduceLT, Int.reduceEq, Nat.zero_add, Nat.add_zero, Nat.mul_one, ↓reduceIte, vret, rvAll, rvVal, resv_2, decide_true, decide_false, not_false_eq_true, eq_self, nc9]
    exact ⟨_, _, Wk.refl _, weak_put hwf.weak hd, rfl, rfl⟩
  rw [if_neg (by omega)] at hF; subst hF
  simp (config := {maxSteps := 3000000}) only [run_skip, run_reg, run_seq, run_ret, run_cond, if_false, at_code_n, at_blk_n, at_fin_r, ops_nil, ops_mv, ops_bin, ev_t, ev_c, put_get, opv_mk, args0, vbin, vbinI, vload, takeV, V.cells, List.map_cons, List.map_nil, and_true, true_and, Nat.reduceEqDiff, Int.reduceEq, ↓reduceIte, vret, rvAll, rvVal, resv_2, decide_false, not_true_eq_false, eq_self, decide_eq_false c1, decide_eq_false c2, decide_eq_false c3, decide_eq_false c4, decide_eq_false c5, decide_eq_false c6]
  exact ⟨_, _, Wk.refl _, weak_put hwf.weak hd, rfl, rfl⟩
theorem rFor_v {m : M9} (hm : m.Ok) : VCalls Try.prog 14 [m.v] st fun r st' => r = .tup [.sc (.int .u16 (forN m).1), .sc (.int .i64 (forN m).2)] ∧ st = st' := by
  have k0 := hm.n0
  have k1 := hm.n1
  have hF : forN m = if m.ty = 8 then (m.n1 % 65536, 1) else if m.ty = 11 ∨ m.ty = 14 ∨ m.ty = 15 then (m.n0 % 65536, 1) else if m.ty = 12 ∨ m.ty = 13 then (m.n0 % 65536, 2) else (0, 0) := rfl
  generalize forN m = F at *
  clear hm
  obtain ⟨ty, n0, n1, n2, n3, n4, n5, n6, n7, n8, t0, t1, t2⟩ := m
  simp only at hF k0 k1
  have e0 : n0 % 65536 % 65536 = n0 % 65536 := by omega
  have e1 : n1 % 65536 % 65536 = n1 % 65536 := by omega
  refine vcalls_enter vc14 (Nat.le_of_ble_eq_true rfl) fun hwf hok => ?_
  show Run _ Vc14.body (.fin (finQ Vc14.res _)) _ _
  unfold Vc14
  simp (config := {maxSteps := 3000000}) only [run_reg, run_seq, run_blk, run_cond, at_code_n, ops_nil, ops_mv, ops_bin, ops_fld, ops_load, ops_box, ev_t, ev_c, put_get, opv_mk, Bx, put_box_same, args0, List.getD_cons_zero, vbin, vbinI, vfld, vload, takeV, V.cells, ptrV, obsOk, List.length_cons, List.length_nil, List.getElem?_cons_zero, true_and, Nat.reduceEqDiff, Nat.reduceAdd, Nat.zero_add, Nat.add_zero, ↓reduceIte, ne_eq, not_false_eq_true, eq_self, reduceCtorEq, M9.v, M9.cells]
  intro d hd
  by_cases c1 : ty = 8
  · subst c1
    rw [if_pos rfl] at hF; subst hF
    simp (config := {maxSteps := 3000000}) only [run_reg, run_seq, run_ret, if_true, at_code_n, at_code_r, at_blk_r, at_fin_r, ops_nil, ops_mv, ops_bin, ops_conv, ops_fld, ops_ixa, ops_load, ev_t, ev_c, put_get, opv_mk, put_box_same, args0, vbin, vbinI, vconv, norm, vfld, vixa, vload, takeV, V.cells, List.map_cons, List.map_nil, List.length_cons, List.length_nil, List.getElem?_cons_zero, List.getElem?_cons_succ, and_true, true_and, Nat.reduceEqDiff, Nat.reduceAdd, Int.reduceToNat, Int.reduceLE, Int.reduceLT, Nat.zero_add, Nat.mul_one, ↓reduceIte, vret, rvAll, rvVal, resv_2, decide_true, eq_self, nc9, e1]
    repeat (apply And.intro; focus (first | omega | (simp; done)))
    exact ⟨_, _, Wk.refl _, weak_put hwf.weak hd, rfl, rfl⟩
  rw [if_neg c1] at hF
  by_cases c2 : ty = 11
  · subst c2
    rw [if_pos (.inl rfl)] at hF; subst hF
    simp (config := {maxSteps := 3000000}) only [run_skip, run_reg, run_seq, run_ret, run_cond, if_true, if_false, at_code_n, at_code_r, at_blk_r, at_fin_r, ops_nil, ops_mv, ops_bin, ops_conv, ops_fld, ops_ixa, ops_load, ev_t, ev_c, put_get, opv_mk, put_box_same, args0, vbin, vbinI, vconv, norm, vfld, vixa, vload, takeV, V.cells, List.map_cons, List.map_nil, List.length_cons, List.length_nil, List.getElem?_cons_zero, List.getElem?_cons_succ, and_true, true_and, Nat.reduceEqDiff, Int.reduceToNat, Int.reduceLE, Int.reduceLT, Int.reduceEq, Nat.zero_add, Nat.add_zero, Nat.mul_one, ↓reduceIte, vret, rvAll, rvVal, resv_2, decide_true, decide_false, eq_self, nc9, e0]
    repeat (apply And.intro; focus (first | omega | (simp; done)))
    exact ⟨_, _, Wk.refl _, weak_put hwf.weak hd, rfl, rfl⟩
  by_cases c3 : ty = 14
  · subst c3
    rw [if_pos (.inr (.inl rfl))] at hF; subst hF
    simp (config := {maxSteps := 3000000}) only [run_skip, run_reg, run_seq, run_ret, run_cond, if_true, if_false, at_code_n, at_code_r, at_blk_r, at_fin_r, ops_nil, ops_mv, ops_bin, ops_conv, ops_fld, ops_ixa, ops_load, ev_t, ev_c, put_get, opv_mk, put_box_same, args0, vbin, vbinI, vconv, norm, vfld, vixa, vload, takeV, V.cells, List.map_cons, List.map_nil, List.length_cons, List.length_nil, List.getElem?_cons_zero, List.getElem?_cons_succ, and_true, true_and, Nat.reduceEqDiff, Int.reduceToNat, Int.reduceLE, Int.reduceLT, Int.reduceEq, Nat.zero_add, Nat.add_zero, Nat.mul_one, ↓reduceIte, vret, rvAll, rvVal, resv_2, decide_true, decide_false, eq_self, nc9, e0]
    repeat (apply And.intro; focus (first | omega | (simp; done)))
    exact ⟨_, _, Wk.refl _, weak_put hwf.weak hd, rfl, rfl⟩
  by_cases c4 : ty = 15
  · subst c4
    rw [if_pos (.inr (.inr rfl))] at hF; subst hF
    simp (config := {maxSteps := 3000000}) only [run_reg, run_seq, run_ret, run_cond, if_true, if_false, at_code_n, at_code_r, at_blk_r, at_fin_r, ops_nil, ops_mv, ops_bin, ops_conv, ops_fld, ops_ixa, ops_load, ev_t, ev_c, put_get, opv_mk, put_box_same, args0, vbin, vbinI, vconv, norm, vfld, vixa, vload, takeV, V.cells, List.map_cons, List.map_nil, List.length_cons, List.length_nil, List.getElem?_cons_zero, List.getElem?_cons_succ, and_true, true_and, Nat.reduceEqDiff, Int.reduceToNat, Int.reduceLE, Int.reduceLT, Int.reduceEq, Nat.zero_add, Nat.add_zero, Nat.mul_one, ↓reduceIte, vret, rvAll, rvVal, resv_2, decide_true, decide_false, eq_self, nc9, e0]
    repeat (apply And.intro; focus (first | omega | (simp; done)))
    exact ⟨_, _, Wk.refl _, weak_put hwf.weak hd, rfl, rfl⟩
  rw [if_neg (by omega)] at hF
  by_cases c5 : ty = 12
  · subst c5
    rw [if_pos (.inl rfl)] at hF; subst hF
    simp (config := {maxSteps := 3000000}) only [run_skip, run_reg, run_seq, run_ret, run_cond, if_true, if_false, at_code_n, at_code_r, at_blk_r, at_fin_r, ops_nil, ops_mv, ops_bin, ops_conv, ops_fld, ops_ixa, ops_load, ev_t, ev_c, put_get, opv_mk, put_box_same, args0, vbin, vbinI, vconv, norm, vfld, vixa, vload, takeV, V.cells, List.map_cons, List.map_nil, List.length_cons, List.length_nil, List.getElem?_cons_zero, List.getElem?_cons_succ, and_true, true_and, Nat.reduceEqDiff, Int.reduceToNat, Int.reduceLE, Int.reduceLT, Int.reduceEq, Nat.zero_add, Nat.add_zero, Nat.mul_one, ↓reduceIte, vret, rvAll, rvVal, resv_2, decide_true, decide_false, eq_self, nc9, e0]
    repeat (apply And.intro; focus (first | omega | (simp; done)))
    exact ⟨_, _, Wk.refl _, weak_put hwf.weak hd, rfl, rfl⟩
  by_cases c6 : ty = 13
  · subst c6
    rw [if_pos (.inr rfl)] at hF; subst hF
    simp (config := {maxSteps := 3000000}) only [run_reg, run_seq, run_ret, run_cond, if_true, if_false, at_code_n, at_code_r, at_blk_r, at_fin_r, ops_nil, ops_mv, ops_bin, ops_conv, ops_fld, ops_ixa, ops_load, ev_t, ev_c, put_get, opv_mk, put_box_same, args0, vbin, vbinI, vconv, norm, vfld, vixa, vload, takeV, V.cells, List.map_cons, List.map_nil, List.length_cons, List.length_nil, List.getElem?_cons_zero, List.getElem?_cons_succ, and_true, true_and, Nat.reduceEqDiff, Int.reduceToNat, Int.reduceLE, Int.reduceLT, Int.reduceEq, Nat.zero_add, Nat.add_zero, Nat.mul_one, ↓reduceIte, vret, rvAll, rvVal, resv_2, decide_true, decide_false, eq_self, nc9, e0]
    repeat (apply And.intro; focus (first | omega | (simp; done)))
    exact ⟨_, _, Wk.refl _, weak_put hwf.weak hd, rfl, rfl⟩
  rw [if_neg (by omega)] at hF; subst hF
  simp (config := {maxSteps := 3000000}) only [run_skip, run_reg, run_seq, run_ret, run_cond, if_false, at_code_n, at_blk_n, at_fin_r, ops_nil, ops_mv, ops_bin, ev_t, ev_c, put_get, opv_mk, args0, vbin, vbinI, vload, takeV, V.cells, List.map_cons, List.map_nil, and_true, true_and, Nat.reduceEqDiff, ↓reduceIte, vret, rvAll, rvVal, resv_2, eq_self, decide_eq_false c1, decide_eq_false c2, decide_eq_false c3, decide_eq_false c4, decide_eq_false c5, decide_eq_false c6]
  exact ⟨_, _, Wk.refl _, weak_put hwf.weak hd, rfl, rfl⟩
def refuseM (m : M9) : M9 := mN 10 0 (m.n0 % 65536) 2 4 0 0 0 0 0
theorem Refuse_v {m : M9} (hm : m.Ok) : VCalls Try.prog 15 [m.v] st fun r st' => r = (refuseM m).v ∧ st = st' := by
  have k0 := hm.n0
  obtain ⟨ty, n0, n1, n2, n3, n4, n5, n6, n7, n8, t0, t1, t2⟩ := m
  simp only at k0
  refine vcalls_enter vc15 (Nat.le_of_ble_eq_true rfl) fun hwf hok => ?_
  show Run _ Vc15.body (.fin (finQ Vc15.res _)) _ _
  unfold Vc15
  simp (config := {maxSteps := 3000000}) only [run_reg, run_seq, at_code_n, ops_nil, ops_fld, ops_ixa, ops_load, ops_box, ops_alc, ev_t, ev_c, put_get, opv_mk, Bx, put_sz, args0, List.getD_cons_zero, vfld, vixa, vload, takeV, V.cells, ptrV, obsOk, List.length_cons, List.length_nil, true_and, Nat.reduceEqDiff, Nat.reduceAdd, Int.reduceToNat, Int.reduceLE, Nat.zero_add, Nat.add_zero, Nat.mul_one, ↓reduceIte, ne_eq, not_false_eq_true, eq_self, reduceCtorEq, M9.v, M9.cells]
  intro a ha d hd
  obtain ⟨hd1, had⟩ : st.sz ≤ d ∧ a < d := by omega
  clear hd
  simp (config := {maxSteps := 3000000}) only [ops_bslo, ev_t, ev_c, put_get, opv_mk, put_box_same, strip, strip1, List.map_cons, List.map_nil, List.length_cons, List.length_nil, List.getElem?_cons_zero, List.getElem?_cons_succ, true_and, Int.reduceLT, Nat.zero_add, ↓reduceIte, eq_self, nc9, put_box_ne (Nat.ne_of_lt had)]
  refine Bo.own (by simp [allLen, V.cells]) ?_
  intro g hg
  simp (config := {maxSteps := 3000000}) only [ops_call, ev_t, ev_c, put_get, obsOk, List.map_cons, List.map_nil, List.length_cons, List.length_nil, true_and, Nat.reduceAdd, Nat.zero_add, ↓reduceIte, eq_self]
  refine Cal.mk (of_at (l := [0, n0, 2, 4, 0, 0]) (m := refuseM ⟨ty, n0, n1, n2, n3, n4, n5, n6, n7, n8, t0, t1, t2⟩) (U32.cons (by omega) (U32.cons (by omega) (U32.cons (by omega) (U32.cons (by omega) (U32.cons (by omega) (U32.one (by omega))))))) (by simp) ?_) ?_
  · simp [ofM, ofN, layoutL, ofS, isNum, MG.v, MG.cells, M9.v, M9.cells, mN, us, ts, refuseM]
  rintro _ _ ⟨rfl, rfl⟩ -
  simp (config := {maxSteps := 3000000}) only [run_ret, at_code_n, at_fin_r, ops_nil, ops_store, ev_t, put_get, put_none, stb_some, sto_ptr, Stp, put_box_same, use_box, vload, takeV, splice, V.cells, obsOk, List.length_cons, List.length_nil, List.take_succ_cons, List.take_zero, List.drop_succ_cons, List.drop_zero, List.nil_append, List.append_nil, List.take_nil, List.drop_nil, and_true, true_and, Nat.reduceEqDiff, Nat.reduceAdd, Nat.reduceLT, Nat.reduceLeDiff, Nat.reduceLT, Nat.zero_add, ↓reduceIte, vret, rvAll, rvVal, resv_1, eq_self, M9.v, M9.cells, refuseM, mN]
  exact ⟨_, _, Wk.refl _, weak_put (weak_use (weak_put (weak_put hwf.weak ha) hd1) (by simp only [put_sz] at *; omega)) hd1, rfl, rfl⟩
theorem rRefuse_v {m : M9} (hm : m.Ok) : VCalls Try.prog 16 [m.v] st fun r st' => r = (refuseM m).v ∧ st = st' := by
  have k0 := hm.n0
  obtain ⟨ty, n0, n1, n2, n3, n4, n5, n6, n7, n8, t0, t1, t2⟩ := m
  simp only at k0
  refine vcalls_enter vc16 (Nat.le_of_ble_eq_true rfl) fun hwf hok => ?_
  show Run _ Vc16.body (.fin (finQ Vc16.res _)) _ _
  unfold Vc16
  simp (config := {maxSteps := 3000000}) only [run_reg, run_seq, at_code_n, ops_nil, ops_fld, ops_ixa, ops_load, ops_box, ops_alc, ev_t, ev_c, put_get, opv_mk, Bx, put_sz, args0, List.getD_cons_zero, vfld, vixa, vload, takeV, V.cells, ptrV, obsOk, List.length_cons, List.length_nil, true_and, Nat.reduceEqDiff, Nat.reduceAdd, Int.reduceToNat, Int.reduceLE, Nat.zero_add, Nat.add_zero, Nat.mul_one, ↓reduceIte, ne_eq, not_false_eq_true, eq_self, reduceCtorEq, M9.v, M9.cells]
  intro a ha d hd
  obtain ⟨hd1, had⟩ : st.sz ≤ d ∧ a < d := by omega
  clear hd
  simp (config := {maxSteps := 3000000}) only [ops_bin, ops_bslo, ev_t, ev_c, put_get, opv_mk, put_box_same, vbin, vbinI, strip, strip1, List.map_cons, List.map_nil, List.length_cons, List.length_nil, List.getElem?_cons_zero, List.getElem?_cons_succ, and_true, true_and, Int.reduceLT, Nat.zero_add, ↓reduceIte, eq_self, nc9, put_box_ne (Nat.ne_of_lt had)]
  repeat (apply And.intro; focus (first | omega | (simp; done)))
  refine Bo.own (by simp [allLen, V.cells]) ?_
  intro g hg
  simp (config := {maxSteps := 3000000}) only [ops_call, ev_t, ev_c, put_get, obsOk, List.map_cons, List.map_nil, List.length_cons, List.length_nil, true_and, Nat.reduceAdd, Nat.zero_add, ↓reduceIte, eq_self]
  refine Cal.mk (ofr_at (l := [0, n0 % 65536, 2, 4]) (m := refuseM ⟨ty, n0, n1, n2, n3, n4, n5, n6, n7, n8, t0, t1, t2⟩) (by simp) rfl) ?_
  rintro _ _ ⟨rfl, rfl⟩ -
  simp (config := {maxSteps := 3000000}) only [run_ret, at_code_n, at_fin_r, ops_nil, ops_store, ev_t, put_get, put_none, stb_some, sto_ptr, Stp, put_box_same, use_box, vload, takeV, splice, V.cells, obsOk, List.length_cons, List.length_nil, List.take_succ_cons, List.take_zero, List.drop_succ_cons, List.drop_zero, List.nil_append, List.append_nil, List.take_nil, List.drop_nil, and_true, true_and, Nat.reduceEqDiff, Nat.reduceAdd, Nat.reduceLT, Nat.reduceLeDiff, Nat.reduceLT, Nat.zero_add, ↓reduceIte, vret, rvAll, rvVal, resv_1, eq_self, M9.v, M9.cells, refuseM, mN]
  exact ⟨_, _, Wk.refl _, weak_put (weak_use (weak_put (weak_put hwf.weak ha) hd1) (by simp only [put_sz] at *; omega)) hd1, rfl, rfl⟩
theorem CallsTell_v {m : M9} (hm : m.Ok) : VCalls Try.prog 3 [m.v] st fun r _ => r = .sc (.bool true) := by
  have g1 := fun s : St => For_v (st := s) hm
  have g2 := fun s : St => rFor_v (st := s) hm
  have g3 := fun s : St => Refuse_v (st := s) hm
  have g4 := fun s : St => rRefuse_v (st := s) hm
  have hk := forN_k m
  generalize forN m = F at *
  obtain ⟨n, k⟩ := F
  simp only at hk g1 g2
  clear hm
  obtain ⟨ty, n0, n1, n2, n3, n4, n5, n6, n7, n8, t0, t1, t2⟩ := m
  simp only [M9.v, M9.cells, refuseM, mN] at g1 g2 g3 g4
  refine vcalls_enter vc3 (Nat.le_of_ble_eq_true rfl) fun hwf hok => ?_
  show Run _ Vc3.body (.fin (finQ Vc3.res _)) _ _
  unfold Vc3
  simp (config := {maxSteps := 3000000}) only [run_reg, run_seq, at_code_n, ops_nil, ops_mv, ops_load, ops_box, ops_call, ev_t, ev_c, put_get, opv_mk, Bx, put_box_same, args0, List.getD_cons_zero, vload, takeV, V.cells, ptrV, obsOk, List.map_cons, List.map_nil, List.length_cons, List.length_nil, List.take_succ_cons, List.drop_zero, List.take_nil, true_and, Nat.reduceEqDiff, Nat.reduceAdd, Nat.reduceLeDiff, Nat.zero_add, ↓reduceIte, ne_eq, not_false_eq_true, eq_self, reduceCtorEq, M9.v, M9.cells]
  intro d hd
  refine Cal.mk (g1 _) ?_
  rintro _ _ ⟨rfl, rfl⟩ -
  simp (config := {maxSteps := 3000000}) only [run_reg, run_seq, at_code_n, ops_nil, ops_mv, ops_load, ops_ext, ops_call, ev_t, put_get, opv_mk, put_box_same, vext, vload, takeV, obsOk, List.map_cons, List.map_nil, List.length_cons, List.length_nil, List.getElem?_cons_zero, List.getElem?_cons_succ, List.take_succ_cons, List.drop_zero, List.take_nil, true_and, Nat.reduceEqDiff, Nat.reduceAdd, Nat.reduceLeDiff, Nat.zero_add, ↓reduceIte, ne_eq, eq_self]
  refine Cal.mk (g2 _) ?_
  rintro _ _ ⟨rfl, rfl⟩ -
  have gf : ∀ s : St, st.weak s → ∃ (r' : V) (st'' : St), Wk (V.sc (.bool true)) r' ∧ st''.weak s ∧ r' = V.sc (.bool true) := fun s hw => ⟨_, st, Wk.refl _, hw, rfl⟩
  rcases hk with rfl | rfl | rfl
  · simp (config := {maxSteps := 3000000}) only [run_reg, run_seq, at_code_n, ops_nil, ops_grd, grd_tt, ops_mv, ops_pick, ops_bin, ops_binb, vbinb, ops_load, ops_ext, ops_call, ev_t, ev_c, put_get, opv_mk, put_box_same, vpick, vbin, vbinI, vext, vload, takeV, obsOk, List.map_cons, List.map_nil, List.length_cons, List.length_nil, List.getElem?_cons_zero, List.getElem?_cons_succ, List.take_succ_cons, List.drop_zero, List.take_nil, true_and, Nat.reduceEqDiff, Nat.reduceAdd, Nat.reduceLeDiff, Int.reduceEq, Nat.zero_add, ↓reduceIte, decide_true, decide_false, Int.lt_irrefl, not_true_eq_false, eq_self, Bool.false_eq_true, beq_self_eq_true]
    refine Cal.mk (g3 _) ?_
    rintro _ _ ⟨rfl, rfl⟩ -
    simp (config := {maxSteps := 3000000}) only [ops_grd, grd_tt, ops_call, ev_t, put_get, put_box_same, vload, takeV, obsOk, List.map_cons, List.map_nil, List.length_cons, List.length_nil, List.take_succ_cons, List.drop_zero, List.take_nil, and_true, true_and, Nat.reduceEqDiff, Nat.reduceAdd, Nat.reduceLeDiff, Nat.zero_add, ↓reduceIte, eq_self]
    refine Cal.mk (g4 _) ?_
    rintro _ _ ⟨rfl, rfl⟩ -
    simp (config := {maxSteps := 3000000}) only [ops_grd, grd_tt, ops_mv, ops_pick, ops_eqs, veqs, ops_call, ev_t, put_get, opv_mk, vpick, obsOk, List.map_nil, and_true, true_and, Nat.reduceEqDiff, ↓reduceIte, decide_true, eq_self, Bool.false_eq_true, fitsV, eqV, Bool.and_self]
    refine Cal.mk alive41_v ?_
    rintro _ _ ⟨rfl, rfl⟩ -
    simp (config := {maxSteps := 3000000}) only [run_ret, at_code_n, at_fin_r, ops_nil, ops_mv, ops_pick, ev_t, put_get, opv_mk, vpick, obsOk, and_true, true_and, Nat.reduceEqDiff, ↓reduceIte, vret, rvAll, rvVal, resv_1, eq_self]
    exact gf _ (weak_put hwf.weak hd)
  · simp (config := {maxSteps := 3000000}) only [run_reg, run_seq, at_code_n, ops_nil, ops_grd, grd_tt, ops_mv, ops_pick, ops_bin, ops_binb, vbinb, ops_load, ops_ext, ops_call, ev_t, ev_c, put_get, opv_mk, put_box_same, vpick, vbin, vbinI, vext, vload, takeV, obsOk, List.map_cons, List.map_nil, List.length_cons, List.length_nil, List.getElem?_cons_zero, List.getElem?_cons_succ, List.take_succ_cons, List.drop_zero, List.take_nil, true_and, Nat.reduceEqDiff, Nat.reduceAdd, Nat.reduceLeDiff, Int.reduceLT, Int.reduceEq, Nat.zero_add, ↓reduceIte, decide_true, not_false_eq_true, eq_self, Bool.false_eq_true, beq_self_eq_true]
    refine Cal.mk (g3 _) ?_
    rintro _ _ ⟨rfl, rfl⟩ -
    simp (config := {maxSteps := 3000000}) only [ops_grd, grd_tt, ops_call, ev_t, put_get, put_box_same, vload, takeV, obsOk, List.map_cons, List.map_nil, List.length_cons, List.length_nil, List.take_succ_cons, List.drop_zero, List.take_nil, and_true, true_and, Nat.reduceEqDiff, Nat.reduceAdd, Nat.reduceLeDiff, Nat.zero_add, ↓reduceIte, eq_self]
    refine Cal.mk (g4 _) ?_
    rintro _ _ ⟨rfl, rfl⟩ -
    simp (config := {maxSteps := 3000000}) only [ops_grd, grd_tt, ops_mv, ops_pick, ops_eqs, veqs, ops_call, ev_t, put_get, opv_mk, vpick, obsOk, List.map_nil, and_true, true_and, Nat.reduceEqDiff, ↓reduceIte, decide_true, eq_self, Bool.false_eq_true, fitsV, eqV, Bool.and_self]
    refine Cal.mk alive41_v ?_
    rintro _ _ ⟨rfl, rfl⟩ -
    simp (config := {maxSteps := 3000000}) only [run_ret, at_code_n, at_fin_r, ops_nil, ops_mv, ops_pick, ev_t, put_get, opv_mk, vpick, obsOk, and_true, true_and, Nat.reduceEqDiff, ↓reduceIte, vret, rvAll, rvVal, resv_1, eq_self]
    exact gf _ (weak_put hwf.weak hd)
  · simp (config := {maxSteps := 3000000}) only [run_reg, run_seq, at_code_n, ops_nil, ops_grd, grd_tt, ops_mv, ops_pick, ops_bin, ops_binb, vbinb, ops_load, ops_ext, ops_call, ev_t, ev_c, put_get, opv_mk, put_box_same, vpick, vbin, vbinI, vext, vload, takeV, obsOk, List.map_cons, List.map_nil, List.length_cons, List.length_nil, List.getElem?_cons_zero, List.getElem?_cons_succ, List.take_succ_cons, List.drop_zero, List.take_nil, true_and, Nat.reduceEqDiff, Nat.reduceAdd, Nat.reduceLeDiff, Int.reduceLT, Int.reduceEq, Nat.zero_add, ↓reduceIte, decide_true, decide_false, not_false_eq_true, eq_self, Bool.false_eq_true, beq_self_eq_true]
    refine Cal.mk (g3 _) ?_
    rintro _ _ ⟨rfl, rfl⟩ -
    simp (config := {maxSteps := 3000000}) only [ops_grd, grd_tt, ops_call, ev_t, put_get, put_box_same, vload, takeV, obsOk, List.map_cons, List.map_nil, List.length_cons, List.length_nil, List.take_succ_cons, List.drop_zero, List.take_nil, and_true, true_and, Nat.reduceEqDiff, Nat.reduceAdd, Nat.reduceLeDiff, Nat.zero_add, ↓reduceIte, eq_self]
    refine Cal.mk (g4 _) ?_
    rintro _ _ ⟨rfl, rfl⟩ -
    simp (config := {maxSteps := 3000000}) only [ops_grd, grd_tt, ops_mv, ops_pick, ops_eqs, veqs, ops_call, ev_t, put_get, opv_mk, vpick, obsOk, List.map_nil, and_true, true_and, Nat.reduceEqDiff, ↓reduceIte, decide_true, eq_self, Bool.false_eq_true, fitsV, eqV, Bool.and_self]
    refine Cal.mk alive41_v ?_
    rintro _ _ ⟨rfl, rfl⟩ -
    simp (config := {maxSteps := 3000000}) only [run_ret, at_code_n, at_fin_r, ops_nil, ops_mv, ops_pick, ev_t, put_get, opv_mk, vpick, obsOk, and_true, true_and, Nat.reduceEqDiff, ↓reduceIte, vret, rvAll, rvVal, resv_1, eq_self]
    exact gf _ (weak_put hwf.weak hd)
end
end Go.Proofs.Ytogkdcbcmhhhcaa
