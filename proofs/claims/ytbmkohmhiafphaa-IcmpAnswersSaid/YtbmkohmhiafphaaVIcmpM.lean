/- IcmpMsgs: the bytes of any message, which is parsed as it was; any bytes as a message, or why they are none, walked. -/
import Derived.Test.YtbmkohmhiafphaaVIcmp2
namespace Go.Proofs.Ytbmkohmhiafphaa
open Go Go.RowKit

theorem put_box_none {st : St} {b c : Nat} {cs : List V} (h : (st.put b cs).box c = none) : c ≠ b ∧ st.box c = none := by
  by_cases e : c = b
  · subst e; rw [put_box_same] at h; cases h
  · rw [put_box_ne e] at h; exact ⟨e, h⟩
section
variable {tk tk' : Tk} {st : St} {L : List Int}
theorem IcmpMsgs_v (hB : IsB L) (m : MS) (hm : m.Ok) : VCalls Try.prog 3 [m.v tk, .sl tk' (bs L)] st fun r _ => r = .sc (.bool true) := by
  have gb := fun (h : m.D.length ≤ 1000000) (st : St) => refBuild55_v (tk := tk) (st := st) m hm h
  have gi := fun (h : m.D.length ≤ 1000000) (st : St) => icmpBuild_v (tk := tk) (st := st) m hm h
  have gp := fun (h : (msB m).length ≤ 1000000) (st : St) => icmpParse_v (tk := .no) (st := st) (msB_isB hm) h
  have gl := fun (h : L.length ≤ 1000000) (st : St) => icmpParse_v (tk := tk') (st := st) hB h
  have gs := fun (tk1 : Tk) (st : St) => same55_v (tk := tk1) (tk' := tk) (st := st) (m := m)
  have hmb := msB_len m
  have hbk := ms_back hm
  rw [hbk.1, hbk.2] at gp
  have hE : msE L = if L.length < 8 then 10 else if ckS L ≠ 0 then 50 else 0 := rfl
  have hD : msD L = if msE L = 0 then msX L else ms0 := rfl
  generalize msB m = MB at *
  clear hm hbk
  obtain ⟨t, c, w, D⟩ := m
  simp only [MS.v] at gb gi gp gs
  simp only at hmb
  refine vcalls_enter vc3 (Nat.le_of_ble_eq_true rfl) fun hwf hok => ?_
  show Run _ Vc3.body (.fin (finQ Vc3.res _)) _ _
  unfold Vc3
  have g0 : ∀ s : St, st.weak s → ∃ (r' : V) (st'' : St), Wk (V.sc (.bool true)) r' ∧ st''.weak s ∧ r' = V.sc (.bool true) := fun s hw => ⟨_, st, Wk.refl _, hw, rfl⟩
  simp (config := {maxSteps := 3000000}) only [run_reg, run_seq, at_code_n, ops_nil, ops_grd, ops_mv, ops_bin, ops_fld, ops_load, ops_len, ops_box, ev_t, ev_c, put_get, opv_mk, Bx, put_box_same, args0, List.getD_cons_zero, vbin, vbinI, vfld, vlen, vload, takeV, V.cells, ptrV, obsOk, List.length_cons, List.length_nil, List.getElem?_cons_zero, List.getElem?_cons_succ, true_and, Nat.reduceEqDiff, Nat.reduceAdd, Nat.zero_add, ↓reduceIte, ne_eq, not_false_eq_true, eq_self, reduceCtorEq, MS.v]
  intro b hb
  by_cases c1 : (500 : Int) < D.length
  · simp (config := {maxSteps := 3000000}) only [run_reg, run_seq, run_ret, run_cond, if_true, at_code_n, at_code_r, at_fin_r, ops_nil, ops_grd, grd_tf, ops_mv, ops_pick, ev_t, ev_c, put_get, opv_mk, vpick, and_true, true_and, Nat.reduceEqDiff, ↓reduceIte, vret, rvAll, rvVal, resv_1, eq_self, bs_len, decide_eq_true c1]
    exact g0 _ (weak_put hwf.weak hb)
  by_cases c2 : (500 : Int) < L.length
  · simp (config := {maxSteps := 3000000}) only [run_reg, run_seq, run_ret, run_cond, if_true, at_code_n, at_code_r, at_fin_r, ops_nil, ops_grd, grd_ff, ops_mv, ops_pick, ops_bin, ops_len, ev_t, ev_c, put_get, opv_mk, args0, List.getD_cons_zero, List.getD_cons_succ, vpick, vbin, vbinI, vlen, and_true, true_and, Nat.reduceEqDiff, ↓reduceIte, vret, rvAll, rvVal, resv_1, eq_self, Bool.false_eq_true, bs_len, decide_eq_false c1, decide_eq_true c2]
    exact g0 _ (weak_put hwf.weak hb)
  have gb := gb (by omega)
  have gi := gi (by omega)
  have gp := gp (by omega)
  have gl := gl (by omega)
  simp (config := {maxSteps := 3000000}) only [run_skip, run_reg, run_seq, run_cond, if_false, at_code_n, ops_nil, ops_grd, grd_ff, ops_mv, ops_pick, ops_bin, ops_load, ops_len, ops_call, ev_t, ev_c, put_get, opv_mk, put_box_same, args0, List.getD_cons_zero, List.getD_cons_succ, vpick, vbin, vbinI, vlen, vload, takeV, List.map_cons, List.map_nil, List.length_cons, List.length_nil, List.take_succ_cons, List.drop_zero, List.take_nil, true_and, Nat.reduceEqDiff, Nat.reduceAdd, Nat.reduceLeDiff, Nat.zero_add, ↓reduceIte, eq_self, Bool.false_eq_true, bs_len, decide_eq_false c1, decide_eq_false c2]
  refine Cal.mk (gb _) ?_
  rintro _ _ ⟨rfl, rfl⟩ -
  simp (config := {maxSteps := 3000000}) only [run_reg, run_seq, at_code_n, ops_nil, ops_mv, ops_call, ev_t, put_get, opv_mk, obsOk, List.map_cons, List.map_nil, true_and, ↓reduceIte, eq_self]
  refine Cal.mk (gp _) ?_
  rintro _ _ ⟨⟨tk1, rfl⟩, rfl⟩ -
  simp (config := {maxSteps := 3000000}) only [run_reg, run_seq, at_code_n, ops_nil, ops_mv, ops_load, ops_ext, ops_alc, ops_store, ev_t, put_get, put_none, opv_mk, stb_some, sto_ptr, Stp, put_box_same, put_sz, put_put, vext, vload, takeV, splice, V.cells, ptrV, obsOk, List.length_cons, List.length_nil, List.getElem?_cons_zero, List.getElem?_cons_succ, List.take_zero, List.drop_succ_cons, List.drop_zero, List.nil_append, List.append_nil, List.drop_nil, true_and, Nat.reduceEqDiff, Nat.reduceAdd, Nat.reduceLT, Nat.reduceLeDiff, Nat.reduceLT, Nat.zero_add, ↓reduceIte, eq_self]
  intro d hd
  obtain ⟨hd1, hbd⟩ : st.sz ≤ d ∧ b < d := by omega
  simp (config := {maxSteps := 3000000}) only [ops_call, ev_t, put_get, opv_mk, put_box_same, List.map_cons, List.map_nil, List.length_cons, List.length_nil, List.take_succ_cons, List.take_nil, true_and, Nat.reduceAdd, Nat.reduceLeDiff, Nat.zero_add, ↓reduceIte, eq_self, put_box_ne (Nat.ne_of_lt hbd)]
  refine Cal.mk (gi _) ?_
  rintro _ _ ⟨rfl, rfl⟩ -
  simp (config := {maxSteps := 3000000}) only [ops_mv, ops_call, ev_t, put_get, opv_mk, obsOk, List.map_cons, List.map_nil, true_and, Nat.reduceEqDiff, ↓reduceIte, eq_self]
  refine Cal.mk (eqB_v (L := MB) (M := MB)) ?_
  rintro _ _ ⟨rfl, rfl⟩ -
  simp (config := {maxSteps := 3000000}) only [ops_grd, grd_ff, ops_mv, ops_pick, ops_bin, ops_un, ops_load, ops_call, ev_t, ev_c, put_get, opv_mk, put_box_same, vpick, vbin, vbinI, vun, vload, takeV, obsOk, List.map_cons, List.map_nil, List.length_cons, List.length_nil, List.take_succ_cons, List.drop_zero, List.take_nil, true_and, Nat.reduceEqDiff, Nat.reduceAdd, Nat.reduceLeDiff, Nat.zero_add, ↓reduceIte, decide_true, decide_false, Bool.not_true, ne_eq, not_true_eq_false, eq_self, Bool.false_eq_true, put_box_ne (Nat.ne_of_lt hbd)]
  refine Cal.mk (gs _ _) ?_
  rintro _ _ ⟨rfl, rfl⟩ -
  simp (config := {maxSteps := 3000000}) only [run_skip, run_reg, run_seq, run_cond, if_false, at_code_n, ops_nil, ops_grd, grd_ff, ops_mv, ops_pick, ops_un, ops_call, ev_t, put_get, opv_mk, args0, List.getD_cons_zero, List.getD_cons_succ, vpick, vun, obsOk, List.map_cons, List.map_nil, true_and, Nat.reduceEqDiff, ↓reduceIte, Bool.not_true, eq_self, Bool.false_eq_true]
  refine Cal.mk (gl _) ?_
  rintro _ _ ⟨⟨tk2, rfl⟩, rfl⟩ -
  by_cases c3 : L.length < 8
  · rw [if_pos c3] at hE
    rw [hE, if_neg (by decide)] at hD
    rw [hE, hD]
    simp (config := {maxSteps := 3000000}) only [run_reg, run_seq, run_cond, at_code_n, ops_nil, ops_mv, ops_bin, ops_ext, ops_len, ops_alc, ops_store, ev_t, ev_c, put_get, put_none, opv_mk, stb_some, sto_ptr, Stp, put_box_same, put_sz, put_put, args0, List.getD_cons_zero, List.getD_cons_succ, vbin, vbinI, vlen, vext, splice, V.cells, ptrV, obsOk, List.length_cons, List.length_nil, List.getElem?_cons_zero, List.getElem?_cons_succ, List.take_zero, List.drop_succ_cons, List.nil_append, List.append_nil, List.drop_nil, true_and, Nat.reduceEqDiff, Nat.reduceAdd, Nat.reduceLT, Nat.reduceLeDiff, Nat.reduceLT, Nat.zero_add, ↓reduceIte, eq_self, MS.v]
    intro f hf
    obtain ⟨hf1, hbf, hdf⟩ : st.sz ≤ f ∧ b < f ∧ d < f := by omega
    simp (config := {maxSteps := 3000000}) only [run_reg, run_seq, if_true, ops_grd, grd_tt, ops_mv, ops_bin, ops_load, ops_bld, ops_call, ev_t, ev_c, put_get, opv_mk, vbld, put_box_same, vbin, vbinI, vload, takeV, fillV, List.map_cons, List.map_nil, List.length_cons, List.length_nil, List.take_succ_cons, List.drop_zero, List.take_nil, true_and, Nat.reduceEqDiff, Nat.reduceAdd, Nat.reduceLeDiff, Nat.zero_add, ↓reduceIte, decide_true, eq_self, bs_len, decide_eq_true (show (L.length : Int) < 8 by omega)]
    refine Cal.mk (same55_v (m := ms0) (tk := tk2) (tk' := .nil)) ?_
    rintro _ _ ⟨rfl, rfl⟩ -
    simp (config := {maxSteps := 3000000}) only [ops_grd, grd_tt, ops_mv, ops_pick, ops_call, ev_t, put_get, opv_mk, vpick, obsOk, List.map_nil, true_and, Nat.reduceEqDiff, ↓reduceIte, eq_self]
    refine Cal.mk alive55_v ?_
    rintro _ _ ⟨rfl, rfl⟩ -
    simp (config := {maxSteps := 3000000}) only [run_ret, at_code_n, at_code_r, at_fin_r, ops_nil, ops_mv, ops_pick, ev_t, put_get, opv_mk, vpick, obsOk, and_true, true_and, Nat.reduceEqDiff, ↓reduceIte, vret, rvAll, rvVal, resv_1, eq_self]
    exact g0 _ (weak_put (weak_put (weak_put hwf.weak hb) hd1) hf1)
  rw [if_neg c3] at hE
  by_cases c4 : ckS L = 0
  rotate_left
  · rw [if_pos c4] at hE
    rw [hE, if_neg (by decide)] at hD
    rw [hE, hD]
    simp (config := {maxSteps := 3000000}) only [run_reg, run_seq, run_cond, at_code_n, ops_nil, ops_mv, ops_bin, ops_ext, ops_len, ops_alc, ops_store, ev_t, ev_c, put_get, put_none, opv_mk, stb_some, sto_ptr, Stp, put_box_same, put_sz, put_put, args0, List.getD_cons_zero, List.getD_cons_succ, vbin, vbinI, vlen, vext, splice, V.cells, ptrV, obsOk, List.length_cons, List.length_nil, List.getElem?_cons_zero, List.getElem?_cons_succ, List.take_zero, List.drop_succ_cons, List.nil_append, List.append_nil, List.drop_nil, true_and, Nat.reduceEqDiff, Nat.reduceAdd, Nat.reduceLT, Nat.reduceLeDiff, Nat.reduceLT, Nat.zero_add, ↓reduceIte, eq_self, MS.v]
    intro f hf
    obtain ⟨hf1, hbf, hdf⟩ : st.sz ≤ f ∧ b < f ∧ d < f := by omega
    simp (config := {maxSteps := 3000000}) only [run_skip, run_reg, run_seq, if_false, at_code_n, ops_mv, ops_call, ev_t, put_get, opv_mk, args0, List.getD_cons_zero, List.getD_cons_succ, List.map_cons, List.map_nil, true_and, Nat.reduceEqDiff, ↓reduceIte, eq_self, bs_len, decide_eq_false (show ¬ (L.length : Int) < 8 by omega)]
    refine Cal.mk (ref05Of_v hB (by omega)) ?_
    rintro _ _ ⟨rfl, rfl⟩ -
    simp (config := {maxSteps := 3000000}) only [run_reg, run_seq, run_cond, if_true, at_code_n, ops_nil, ops_grd, grd_tt, ops_mv, ops_bin, ops_load, ops_bld, ops_call, ev_t, ev_c, put_get, opv_mk, vbld, put_box_same, vbin, vbinI, vload, takeV, fillV, obsOk, List.map_cons, List.map_nil, List.length_cons, List.length_nil, List.take_succ_cons, List.drop_zero, List.take_nil, true_and, Nat.reduceEqDiff, Nat.reduceAdd, Nat.reduceLeDiff, Nat.zero_add, ↓reduceIte, decide_true, ne_eq, eq_self, decide_eq_true c4]
    refine Cal.mk (same55_v (m := ms0) (tk := tk2) (tk' := .nil)) ?_
    rintro _ _ ⟨rfl, rfl⟩ -
    simp (config := {maxSteps := 3000000}) only [ops_grd, grd_tt, ops_mv, ops_pick, ops_call, ev_t, put_get, opv_mk, vpick, obsOk, List.map_nil, true_and, Nat.reduceEqDiff, ↓reduceIte, eq_self]
    refine Cal.mk alive55_v ?_
    rintro _ _ ⟨rfl, rfl⟩ -
    simp (config := {maxSteps := 3000000}) only [run_ret, at_code_n, at_code_r, at_fin_r, ops_nil, ops_mv, ops_pick, ev_t, put_get, opv_mk, vpick, obsOk, and_true, true_and, Nat.reduceEqDiff, ↓reduceIte, vret, rvAll, rvVal, resv_1, eq_self]
    exact g0 _ (weak_put (weak_put (weak_put hwf.weak hb) hd1) hf1)
  rw [if_neg (by simp [c4])] at hE
  rw [hE, if_pos rfl] at hD
  rw [hE, hD]
  obtain ⟨x0, h0⟩ := get_ex (L := L) (i := 0) (by omega)
  obtain ⟨x1, h1⟩ := get_ex (L := L) (i := 1) (by omega)
  have hX : msX L = ⟨x0, x1, numL ((L.drop 4).take 4), L.drop 8⟩ := by simp [msX, List.getD, h0, h1]
  have h48 : (L.take 8).drop 4 = (L.drop 4).take 4 := by rw [List.drop_take]
  obtain ⟨w0, w1⟩ := num4 hB 4
  rw [hX]
  simp (config := {maxSteps := 3000000}) only [run_reg, run_seq, run_cond, at_code_n, ops_nil, ops_mv, ops_bin, ops_ext, ops_len, ops_alc, ops_store, ev_t, ev_c, put_get, put_none, opv_mk, stb_some, sto_ptr, Stp, put_box_same, put_sz, put_put, args0, List.getD_cons_zero, List.getD_cons_succ, vbin, vbinI, vlen, vext, splice, V.cells, ptrV, obsOk, List.length_cons, List.length_nil, List.getElem?_cons_zero, List.getElem?_cons_succ, List.take_zero, List.drop_succ_cons, List.nil_append, List.append_nil, List.drop_nil, true_and, Nat.reduceEqDiff, Nat.reduceAdd, Nat.reduceLT, Nat.reduceLeDiff, Nat.reduceLT, Nat.zero_add, ↓reduceIte, eq_self, MS.v]
  intro f hf
  obtain ⟨hf1, hbf, hdf⟩ : st.sz ≤ f ∧ b < f ∧ d < f := by omega
  simp (config := {maxSteps := 3000000}) only [run_skip, run_reg, run_seq, if_false, at_code_n, ops_mv, ops_call, ev_t, put_get, opv_mk, args0, List.getD_cons_zero, List.getD_cons_succ, List.map_cons, List.map_nil, true_and, Nat.reduceEqDiff, ↓reduceIte, eq_self, bs_len, decide_eq_false (show ¬ (L.length : Int) < 8 by omega)]
  refine Cal.mk (ref05Of_v hB (by omega)) ?_
  rintro _ _ ⟨rfl, rfl⟩ -
  simp (config := {maxSteps := 3000000}) only [run_skip, run_reg, run_seq, run_cond, if_false, at_code_n, ops_nil, ops_mv, ops_bin, ops_ix, ops_load, ops_slc, ops_call, ev_t, ev_c, put_get, opv_mk, args0, List.getD_cons_zero, List.getD_cons_succ, vbin, vbinI, vix, vload, takeV, vslc, V.cells, obsOk, List.map_cons, List.map_nil, List.length_cons, List.length_nil, List.getElem?_cons_zero, Option.map_some, Option.map_none, and_true, true_and, Nat.reduceEqDiff, Int.reduceToNat, Int.reduceLE, Nat.zero_add, ↓reduceIte, ne_eq, eq_self, decide_eq_false (show ¬ ¬ ckS L = 0 by omega), bs_get, h0, h1, bs_len, bs_take, bs_drop, allSz_bs', h48]
  repeat (apply And.intro; focus (first | omega | (simp; done)))
  refine Cal.mk (rNum_v ((hB.drop 4).take 4) (by simp; omega)) ?_
  rintro _ _ ⟨rfl, rfl⟩ -
  generalize numL ((L.drop 4).take 4) = y at *
  have ey : y % 4294967296 = y := by omega
  simp (config := {maxSteps := 3000000}) only [run_reg, run_seq, at_code_n, ops_nil, ops_grd, grd_tt, ops_mv, ops_bin, ops_conv, ops_load, ops_bld, ops_alcX, ops_store, ev_t, ev_c, put_get, put_none, opv_mk, stb_some, sto_ptr, Stp, vbld, put_box_same, put_own, put_put, vbin, vbinI, vconv, norm, vload, takeV, fillV, splice, V.cells, ptrV, obsOk, List.map_cons, List.map_nil, List.length_cons, List.length_nil, List.getElem?_cons_zero, List.take_succ_cons, List.take_zero, List.drop_succ_cons, List.drop_zero, List.cons_append, List.nil_append, List.append_nil, List.drop_nil, and_true, true_and, Nat.reduceEqDiff, Nat.reduceAdd, Nat.reduceLT, Nat.reduceLeDiff, Nat.reduceLT, Nat.zero_add, ↓reduceIte, decide_true, eq_self, ey]
  intro h hh _
  obtain ⟨hhf, hh⟩ := put_box_none hh
  simp (config := {maxSteps := 3000000}) only [ops_grd, grd_tt, ops_load, ops_call, ev_t, put_get, opv_mk, put_box_same, vload, takeV, List.map_cons, List.map_nil, List.length_cons, List.length_nil, List.take_succ_cons, List.drop_zero, List.take_nil, true_and, Nat.reduceEqDiff, Nat.reduceAdd, Nat.reduceLeDiff, Nat.zero_add, ↓reduceIte, eq_self, put_box_ne (Ne.symm hhf)]
  refine Cal.mk (same55_v (m := ⟨x0, x1, y, L.drop 8⟩) (tk := tk2) (tk' := .no)) ?_
  rintro _ _ ⟨rfl, rfl⟩ -
  simp (config := {maxSteps := 3000000}) only [ops_grd, grd_tt, ops_mv, ops_pick, ops_call, ev_t, put_get, opv_mk, vpick, obsOk, List.map_nil, true_and, Nat.reduceEqDiff, ↓reduceIte, eq_self]
  refine Cal.mk alive55_v ?_
  rintro _ _ ⟨rfl, rfl⟩ -
  simp (config := {maxSteps := 3000000}) only [run_ret, at_code_n, at_fin_r, ops_nil, ops_mv, ops_pick, ev_t, put_get, opv_mk, vpick, obsOk, and_true, true_and, Nat.reduceEqDiff, ↓reduceIte, vret, rvAll, rvVal, resv_1, eq_self]
  exact g0 _ (weak_putF (weak_put (weak_put (weak_put hwf.weak hb) hd1) hf1) (by rw [put_box_ne hhf]; exact hh))
end
end Go.Proofs.Ytbmkohmhiafphaa
