/- Which records may be: contracts. -/
import Derived.Test.YtmomebkfaibmgaaVTape1
namespace Go.Proofs.Ytmomebkfaibmgaa
open Go

theorem put_box_none' {s : St} {b d : Nat} {cs : List V} (h : (s.put b cs).box d = none) : d ≠ b ∧ s.box d = none := by
  have hd : d ≠ b := fun e => by subst e; rw [put_box_same] at h; cases h
  rw [put_box_ne hd] at h
  exact ⟨hd, h⟩
theorem weak_putS {s t : St} {b : Nat} {cs : List V} (h : s.weak t) (hb : s.box b = none) : s.weak (t.put b cs) :=
  ⟨fun c ds hc => ⟨by rw [put_box_ne (fun e => by rw [e, hb] at hc; cases hc)]; exact (h.box c ds hc).1, (h.box c ds hc).2⟩, fun g m hg => h.own g m hg, by have := h.sz; simp only [put_sz]; omega⟩
theorem TR.right1 {k ek ec en : Int} {EL : List Int} {ok oc on oa : Int} {OL : List Int} (h : TR.right ⟨k, ek, ec, en, EL, ok, oc, on, oa, OL⟩ = true) : (k = 1 ∧ ok = 0 ∧ oc = 0 ∧ on = 0 ∧ oa = 0 ∧ (OL.length : Int) = 0 ∧ fitsB ek ec en EL.length = true) ∨ (k = 2 ∧ ek = 0 ∧ ec = 0 ∧ en = 0 ∧ (EL.length : Int) = 0 ∧ fitsB ok oc on OL.length = true) := by
  simp only [TR.right, Bool.or_eq_true, Bool.and_eq_true, beq_iff_eq] at h
  rcases h with ⟨⟨h1, ⟨⟨⟨⟨h2, h3⟩, h4⟩, h5⟩, h6⟩⟩, h7⟩ | ⟨⟨h1, ⟨⟨⟨h2, h3⟩, h4⟩, h5⟩⟩, h7⟩
  · exact .inl ⟨h1, h2, h3, h4, h5, h6, h7⟩
  · exact .inr ⟨h1, h2, h3, h4, h5, h7⟩
theorem TR.right_dec (k ek ec en : Int) (EL : List Int) (ok oc on oa : Int) (OL : List Int) : TR.right ⟨k, ek, ec, en, EL, ok, oc, on, oa, OL⟩ = ((decide (k = 1) && decide (ok = 0 ∧ oc = 0 ∧ on = 0 ∧ oa = 0 ∧ (OL.length : Int) = 0) && fitsB ek ec en EL.length) || (decide (k = 2) && decide (ek = 0 ∧ ec = 0 ∧ en = 0 ∧ (EL.length : Int) = 0) && fitsB ok oc on OL.length)) := by
  simp only [TR.right, Bool.decide_and, Bool.and_assoc]
  rfl
section
variable {st : St} {t1 t2 : Tk}
set_option maxRecDepth 100000 in
set_option maxHeartbeats 2000000 in
theorem tRight_v {r : TR} (h : r.right = true) : VCalls Try.prog 46 [r.v t1 t2] st fun x st' => x = .sc (.bool true) ∧ st = st' := by
  obtain ⟨k, ek, ec, en, EL, ok, oc, on, oa, OL⟩ := r
  refine vcalls_enter vc46 (Nat.le_of_ble_eq_true rfl) fun hwf hok => ?_
  show Run _ Vc46.body (.fin (finQ Vc46.res _)) _ _
  unfold Vc46
  simp (config := {maxSteps := 3000000}) only [run_reg, run_seq, at_code_n, ops_nil, ops_mv, ops_fld, ops_load, ops_box, ops_alcX, ops_store, ev_t, ev_c, put_get, opv_mk, sto_ptr, Bx, put_box_same, put_own, args0, List.getD_cons_zero, vfld, vload, takeV, V.cells, ptrV, obsOk, List.length_cons, List.length_nil, List.take_succ_cons, List.take_zero, List.drop_succ_cons, List.drop_zero, List.take_nil, true_and, Nat.reduceEqDiff, Nat.reduceAdd, Nat.reduceLeDiff, Nat.zero_add, ↓reduceIte, ne_eq, not_false_eq_true, eq_self, reduceCtorEq, TR.v]
  intro b hb d hd _ e he _
  obtain ⟨nde, he'⟩ := put_box_none' he
  obtain ⟨neb, hes⟩ := put_box_none' he'
  obtain ⟨ndb, hds⟩ := put_box_none' hd
  rcases TR.right1 h with ⟨rfl, rfl, rfl, rfl, rfl, h6, h7⟩ | ⟨rfl, rfl, rfl, rfl, h5, h7⟩
  · simp (config := {maxSteps := 3000000}) only [run_reg, run_seq, run_blk, run_cond, if_true, at_code_n, ops_nil, ops_grd, grd_tt, ops_mv, ops_pick, ops_bin, ops_fld, ops_load, ops_len, ops_store, ops_call, ev_t, ev_c, put_get, put_none, opv_mk, stb_some, sto_ptr, Stp, put_box_same, vpick, vbin, vbinI, vfld, vlen, vload, takeV, splice, V.cells, obsOk, List.map_cons, List.map_nil, List.length_cons, List.length_nil, List.getElem?_cons_zero, List.getElem?_cons_succ, List.take_succ_cons, List.take_zero, List.drop_succ_cons, List.drop_zero, List.nil_append, List.append_nil, List.take_nil, List.drop_nil, and_true, true_and, Nat.reduceEqDiff, Nat.reduceAdd, Nat.reduceLT, Nat.reduceLeDiff, Nat.reduceLT, Nat.zero_add, Nat.add_zero, ↓reduceIte, decide_true, eq_self, put_box_ne nde, put_box_ne nde.symm, put_box_ne neb.symm, put_box_ne ndb.symm, bs_len, decide_eq_true h6]
    repeat (apply And.intro; focus (first | omega | (simp; done)))
    refine Cal.mk (tfits_v h7) ?_
    rintro _ _ ⟨rfl, rfl⟩ -
    simp (config := {maxSteps := 3000000}) only [run_ret, at_code_n, at_code_r, at_blk_r, at_fin_r, ops_nil, ops_mv, ops_pick, ev_t, put_get, opv_mk, vpick, obsOk, and_true, true_and, Nat.reduceEqDiff, ↓reduceIte, vret, rvAll, rvVal, resv_1, eq_self]
    exact ⟨_, _, Wk.refl _, by repeat (first | exact hwf.weak | refine weak_putS ?_ hds | refine weak_putS ?_ hes | refine weak_put ?_ hb), rfl, rfl⟩
  · simp (config := {maxSteps := 3000000}) only [run_reg, run_seq, run_blk, run_cond, if_true, if_false, at_code_n, ops_nil, ops_grd, grd_tt, ops_mv, ops_pick, ops_bin, ops_fld, ops_load, ops_len, ops_store, ops_call, ev_t, ev_c, put_get, put_none, opv_mk, stb_some, sto_ptr, Stp, put_box_same, vpick, vbin, vbinI, vfld, vlen, vload, takeV, splice, V.cells, obsOk, List.map_cons, List.map_nil, List.length_cons, List.length_nil, List.getElem?_cons_zero, List.getElem?_cons_succ, List.take_succ_cons, List.take_zero, List.drop_succ_cons, List.drop_zero, List.nil_append, List.append_nil, List.take_nil, List.drop_nil, and_true, true_and, Nat.reduceEqDiff, Nat.reduceAdd, Nat.reduceLT, Nat.reduceLeDiff, Nat.reduceLT, Int.reduceEq, Nat.zero_add, Nat.add_zero, ↓reduceIte, decide_true, decide_false, eq_self, put_box_ne nde, put_box_ne nde.symm, put_box_ne neb.symm, put_box_ne ndb.symm, bs_len, decide_eq_true h5]
    repeat (apply And.intro; focus (first | omega | (simp; done)))
    refine Cal.mk (tfits_v h7) ?_
    rintro _ _ ⟨rfl, rfl⟩ -
    simp (config := {maxSteps := 3000000}) only [run_ret, at_code_n, at_code_r, at_blk_r, at_fin_r, ops_nil, ops_mv, ops_pick, ev_t, put_get, opv_mk, vpick, obsOk, and_true, true_and, Nat.reduceEqDiff, ↓reduceIte, vret, rvAll, rvVal, resv_1, eq_self]
    exact ⟨_, _, Wk.refl _, by repeat (first | exact hwf.weak | refine weak_putS ?_ hds | refine weak_putS ?_ hes | refine weak_put ?_ hb), rfl, rfl⟩
set_option maxRecDepth 100000 in
set_option maxHeartbeats 4000000 in
theorem rRight57_v {r : TR} : VCalls Try.prog 12 [r.v t1 t2] st fun x st' => x = .sc (.bool r.right) ∧ st = st' := by
  obtain ⟨k, ek, ec, en, EL, ok, oc, on, oa, OL⟩ := r
  refine vcalls_enter vc12 (Nat.le_of_ble_eq_true rfl) fun hwf hok => ?_
  show Run _ Vc12.body (.fin (finQ Vc12.res _)) _ _
  unfold Vc12
  rw [TR.right_dec]
  simp (config := {maxSteps := 3000000}) only [run_reg, run_seq, at_code_n, ops_nil, ops_mv, ops_fld, ops_load, ops_box, ops_alcX, ops_store, ev_t, ev_c, put_get, opv_mk, sto_ptr, Bx, put_box_same, put_own, args0, List.getD_cons_zero, vfld, vload, takeV, V.cells, ptrV, obsOk, List.length_cons, List.length_nil, List.take_succ_cons, List.take_zero, List.drop_succ_cons, List.drop_zero, List.take_nil, true_and, Nat.reduceEqDiff, Nat.reduceAdd, Nat.reduceLeDiff, Nat.zero_add, ↓reduceIte, ne_eq, not_false_eq_true, eq_self, reduceCtorEq, TR.v]
  intro b hb d hd _ e he _
  obtain ⟨nde, he'⟩ := put_box_none' he
  obtain ⟨neb, hes⟩ := put_box_none' he'
  obtain ⟨ndb, hds⟩ := put_box_none' hd
  simp (config := {maxSteps := 3000000}) only [run_reg, run_seq, at_code_n, ops_nil, ops_grd, ops_mv, ops_bin, ops_fld, ops_load, ops_store, ev_t, ev_c, put_get, put_none, opv_mk, stb_some, sto_ptr, Stp, put_box_same, vbin, vbinI, vfld, vload, takeV, splice, V.cells, obsOk, List.length_cons, List.length_nil, List.getElem?_cons_zero, List.take_succ_cons, List.take_zero, List.drop_succ_cons, List.drop_zero, List.nil_append, List.append_nil, List.take_nil, List.drop_nil, and_true, true_and, Nat.reduceEqDiff, Nat.reduceAdd, Nat.reduceLT, Nat.reduceLeDiff, Nat.reduceLT, Nat.zero_add, Nat.add_zero, ↓reduceIte, eq_self, put_box_ne nde, put_box_ne nde.symm, put_box_ne neb.symm, put_box_ne ndb.symm]
  refine Grd.cut [5, 15, 16, 17, 18, 19, 20, 21, 22, 23, 24, 25, 26, 27, 28, 29] (fun B => B 5 = .sc (.bool (decide (ek = 0 ∧ ec = 0 ∧ en = 0 ∧ (EL.length : Int) = 0)))) rfl ?_ ?_
  · skip
    by_cases q0 : ek = 0
    case neg =>
      simp (config := {maxSteps := 3000000}) only [ops_nil, ops_grd, grd_ft, ops_mv, ops_pick, ev_t, ev_c, put_get, opv_mk, vpick, true_and, Nat.reduceEqDiff, ↓reduceIte, eq_self, Bool.false_eq_true, at_cut, decide_eq_false q0]
      repeat (apply And.intro; focus (first | omega | (simp; done)))
      exact (by rw [decide_eq_false]; intro h; simp only [h, not_true_eq_false] at q0)
    by_cases q1 : ec = 0
    case neg =>
      simp (config := {maxSteps := 3000000}) only [ops_nil, ops_grd, grd_tt, grd_ft, ops_mv, ops_pick, ops_bin, ops_fld, ops_load, ev_t, ev_c, put_get, opv_mk, put_box_same, vpick, vbin, vbinI, vfld, vload, takeV, V.cells, List.length_cons, List.length_nil, List.getElem?_cons_zero, List.getElem?_cons_succ, true_and, Nat.reduceEqDiff, Nat.zero_add, ↓reduceIte, eq_self, Bool.false_eq_true, at_cut, put_box_ne nde.symm, decide_eq_true q0, decide_eq_false q1]
      repeat (apply And.intro; focus (first | omega | (simp; done)))
      exact (by rw [decide_eq_false]; intro h; simp only [h, not_true_eq_false] at q1)
    by_cases q2 : en = 0
    case neg =>
      simp (config := {maxSteps := 3000000}) only [ops_nil, ops_grd, grd_tt, grd_ft, ops_mv, ops_pick, ops_bin, ops_fld, ops_load, ev_t, ev_c, put_get, opv_mk, put_box_same, vpick, vbin, vbinI, vfld, vload, takeV, V.cells, List.length_cons, List.length_nil, List.getElem?_cons_zero, List.getElem?_cons_succ, true_and, Nat.reduceEqDiff, Nat.zero_add, ↓reduceIte, eq_self, Bool.false_eq_true, at_cut, put_box_ne nde.symm, decide_eq_true q0, decide_eq_true q1, decide_eq_false q2]
      repeat (apply And.intro; focus (first | omega | (simp; done)))
      exact (by rw [decide_eq_false]; intro h; simp only [h, not_true_eq_false] at q2)
    by_cases q3 : (EL.length : Int) = 0
    case neg =>
      simp (config := {maxSteps := 3000000}) only [ops_nil, ops_grd, grd_tt, ops_mv, ops_pick, ops_bin, ops_fld, ops_load, ops_len, ev_t, ev_c, put_get, opv_mk, put_box_same, vpick, vbin, vbinI, vfld, vlen, vload, takeV, V.cells, List.length_cons, List.length_nil, List.getElem?_cons_zero, List.getElem?_cons_succ, true_and, Nat.reduceEqDiff, Nat.zero_add, ↓reduceIte, eq_self, at_cut, put_box_ne nde.symm, bs_len, decide_eq_true q0, decide_eq_true q1, decide_eq_true q2, decide_eq_false q3]
      repeat (apply And.intro; focus (first | omega | (simp; done)))
      exact (by rw [decide_eq_false]; intro h; simp only [h, not_true_eq_false] at q3)
    simp (config := {maxSteps := 3000000}) only [ops_nil, ops_grd, grd_tt, ops_mv, ops_pick, ops_bin, ops_fld, ops_load, ops_len, ev_t, ev_c, put_get, opv_mk, put_box_same, vpick, vbin, vbinI, vfld, vlen, vload, takeV, V.cells, List.length_cons, List.length_nil, List.getElem?_cons_zero, List.getElem?_cons_succ, true_and, Nat.reduceEqDiff, Nat.zero_add, ↓reduceIte, eq_self, at_cut, put_box_ne nde.symm, bs_len, decide_eq_true q0, decide_eq_true q1, decide_eq_true q2, decide_eq_true q3]
    repeat (apply And.intro; focus (first | omega | (simp; done)))
    exact (by rw [decide_eq_true ⟨q0, q1, q2, q3⟩])
  intro B h5
  simp (config := {maxSteps := 3000000}) only [run_reg, run_seq, ops_grd, ops_mv, ops_bin, ops_fld, ops_load, ev_t, ev_c, put_get, opv_mk, over_get, put_box_same, vbin, vbinI, vfld, vload, takeV, V.cells, List.length_cons, List.length_nil, List.getElem?_cons_zero, true_and, Nat.reduceEqDiff, Nat.zero_add, Nat.add_zero, ↓reduceIte, eq_self, Bool.false_eq_true, List.contains_cons, List.contains_nil, Nat.reduceBEq, Bool.or_false]
  refine Grd.cut [6, 34, 35, 36, 37, 38, 39, 40, 41, 42, 43, 44, 45, 46, 47, 48, 49, 50, 51, 52, 53] (fun B => B 6 = .sc (.bool (decide (ok = 0 ∧ oc = 0 ∧ on = 0 ∧ oa = 0 ∧ (OL.length : Int) = 0)))) rfl ?_ ?_
  · skip
    by_cases q0 : ok = 0
    case neg =>
      simp (config := {maxSteps := 3000000}) only [ops_nil, ops_grd, grd_ft, ops_mv, ops_pick, ev_t, ev_c, put_get, opv_mk, vpick, true_and, Nat.reduceEqDiff, ↓reduceIte, eq_self, Bool.false_eq_true, at_cut, decide_eq_false q0]
      repeat (apply And.intro; focus (first | omega | (simp; done)))
      exact (by rw [decide_eq_false]; intro h; simp only [h, not_true_eq_false] at q0)
    by_cases q1 : oc = 0
    case neg =>
      simp (config := {maxSteps := 3000000}) only [ops_nil, ops_grd, grd_tt, grd_ft, ops_mv, ops_pick, ops_bin, ops_fld, ops_load, ev_t, ev_c, put_get, opv_mk, over_get, put_box_same, vpick, vbin, vbinI, vfld, vload, takeV, V.cells, List.length_cons, List.length_nil, List.getElem?_cons_zero, List.getElem?_cons_succ, true_and, Nat.reduceEqDiff, Nat.zero_add, ↓reduceIte, eq_self, Bool.false_eq_true, List.contains_cons, List.contains_nil, Nat.reduceBEq, Bool.or_false, at_cut, decide_eq_true q0, decide_eq_false q1]
      repeat (apply And.intro; focus (first | omega | (simp; done)))
      exact (by rw [decide_eq_false]; intro h; simp only [h, not_true_eq_false] at q1)
    by_cases q2 : on = 0
    case neg =>
      simp (config := {maxSteps := 3000000}) only [ops_nil, ops_grd, grd_tt, grd_ft, ops_mv, ops_pick, ops_bin, ops_fld, ops_load, ev_t, ev_c, put_get, opv_mk, over_get, put_box_same, vpick, vbin, vbinI, vfld, vload, takeV, V.cells, List.length_cons, List.length_nil, List.getElem?_cons_zero, List.getElem?_cons_succ, true_and, Nat.reduceEqDiff, Nat.zero_add, ↓reduceIte, eq_self, Bool.false_eq_true, List.contains_cons, List.contains_nil, Nat.reduceBEq, Bool.or_false, at_cut, decide_eq_true q0, decide_eq_true q1, decide_eq_false q2]
      repeat (apply And.intro; focus (first | omega | (simp; done)))
      exact (by rw [decide_eq_false]; intro h; simp only [h, not_true_eq_false] at q2)
    by_cases q3 : oa = 0
    case neg =>
      simp (config := {maxSteps := 3000000}) only [ops_nil, ops_grd, grd_tt, grd_ft, ops_mv, ops_pick, ops_bin, ops_fld, ops_load, ev_t, ev_c, put_get, opv_mk, over_get, put_box_same, vpick, vbin, vbinI, vfld, vload, takeV, V.cells, List.length_cons, List.length_nil, List.getElem?_cons_zero, List.getElem?_cons_succ, true_and, Nat.reduceEqDiff, Nat.zero_add, ↓reduceIte, eq_self, Bool.false_eq_true, List.contains_cons, List.contains_nil, Nat.reduceBEq, Bool.or_false, at_cut, decide_eq_true q0, decide_eq_true q1, decide_eq_true q2, decide_eq_false q3]
      repeat (apply And.intro; focus (first | omega | (simp; done)))
      exact (by rw [decide_eq_false]; intro h; simp only [h, not_true_eq_false] at q3)
    by_cases q4 : (OL.length : Int) = 0
    case neg =>
      simp (config := {maxSteps := 3000000}) only [ops_nil, ops_grd, grd_tt, ops_mv, ops_pick, ops_bin, ops_fld, ops_load, ops_len, ev_t, ev_c, put_get, opv_mk, over_get, put_box_same, vpick, vbin, vbinI, vfld, vlen, vload, takeV, V.cells, List.length_cons, List.length_nil, List.getElem?_cons_zero, List.getElem?_cons_succ, true_and, Nat.reduceEqDiff, Nat.zero_add, ↓reduceIte, eq_self, Bool.false_eq_true, List.contains_cons, List.contains_nil, Nat.reduceBEq, Bool.or_false, at_cut, bs_len, decide_eq_true q0, decide_eq_true q1, decide_eq_true q2, decide_eq_true q3, decide_eq_false q4]
      repeat (apply And.intro; focus (first | omega | (simp; done)))
      exact (by rw [decide_eq_false]; intro h; simp only [h, not_true_eq_false] at q4)
    simp (config := {maxSteps := 3000000}) only [ops_nil, ops_grd, grd_tt, ops_mv, ops_pick, ops_bin, ops_fld, ops_load, ops_len, ev_t, ev_c, put_get, opv_mk, over_get, put_box_same, vpick, vbin, vbinI, vfld, vlen, vload, takeV, V.cells, List.length_cons, List.length_nil, List.getElem?_cons_zero, List.getElem?_cons_succ, true_and, Nat.reduceEqDiff, Nat.zero_add, ↓reduceIte, eq_self, Bool.false_eq_true, List.contains_cons, List.contains_nil, Nat.reduceBEq, Bool.or_false, at_cut, bs_len, decide_eq_true q0, decide_eq_true q1, decide_eq_true q2, decide_eq_true q3, decide_eq_true q4]
    repeat (apply And.intro; focus (first | omega | (simp; done)))
    exact (by rw [decide_eq_true ⟨q0, q1, q2, q3, q4⟩])
  intro C h6
  simp (config := {maxSteps := 3000000}) only [run_reg, run_seq, ops_grd, ops_mv, ops_bin, ops_fld, ops_load, ev_t, ev_c, put_get, opv_mk, over_get, put_box_same, vbin, vbinI, vfld, vload, takeV, V.cells, List.length_cons, List.length_nil, List.getElem?_cons_zero, true_and, Nat.reduceEqDiff, Nat.zero_add, Nat.add_zero, ↓reduceIte, eq_self, Bool.false_eq_true, List.contains_cons, List.contains_nil, Nat.reduceBEq, Bool.or_false, put_box_ne neb.symm, put_box_ne ndb.symm]
  generalize decide (ek = 0 ∧ ec = 0 ∧ en = 0 ∧ (EL.length : Int) = 0) = nE at *
  generalize decide (ok = 0 ∧ oc = 0 ∧ on = 0 ∧ oa = 0 ∧ (OL.length : Int) = 0) = nO at *
  have d11 : decide ((1 : Int) = 1) = true := rfl
  have d12 : decide ((1 : Int) = 2) = false := rfl
  have d21 : decide ((2 : Int) = 1) = false := rfl
  have d22 : decide ((2 : Int) = 2) = true := rfl
  by_cases k1 : k = 1
  · subst k1
    cases nO
    · simp (config := {maxSteps := 3000000}) only [run_ret, at_code_n, at_fin_r, ops_nil, ops_grd, grd_tt, grd_ff, grd_ft, ops_mv, ops_pick, ops_bin, ops_fld, ops_load, ev_t, ev_c, put_get, opv_mk, over_get, put_box_same, vpick, vbin, vbinI, vfld, vload, takeV, V.cells, List.length_cons, List.length_nil, List.getElem?_cons_zero, and_true, true_and, Nat.reduceEqDiff, Int.reduceEq, Nat.zero_add, Nat.add_zero, ↓reduceIte, vret, rvAll, rvVal, resv_1, decide_true, decide_false, eq_self, Bool.false_eq_true, List.contains_cons, List.contains_nil, Nat.reduceBEq, Bool.or_false, h6, put_box_ne neb.symm, put_box_ne ndb.symm]
      exact ⟨_, _, Wk.refl _, by repeat (first | exact hwf.weak | refine weak_putS ?_ hds | refine weak_putS ?_ hes | refine weak_put ?_ hb), by simp, rfl⟩
    · simp (config := {maxSteps := 3000000}) only [ops_grd, grd_tt, ops_mv, ops_pick, ops_fld, ops_load, ops_len, ops_call, ev_t, put_get, opv_mk, over_get, put_box_same, vpick, vfld, vlen, vload, takeV, V.cells, List.map_cons, List.map_nil, List.length_cons, List.length_nil, List.getElem?_cons_zero, List.getElem?_cons_succ, true_and, Nat.reduceEqDiff, Int.reduceEq, Nat.zero_add, Nat.add_zero, ↓reduceIte, decide_true, decide_false, eq_self, Bool.false_eq_true, List.contains_cons, List.contains_nil, Nat.reduceBEq, Bool.or_false, h6, put_box_ne nde.symm, bs_len]
      repeat (apply And.intro; focus (first | omega | (simp; done)))
      refine Cal.mk (rfits_v (z := EL.length)) ?_
      rintro _ _ ⟨rfl, rfl⟩ -
      cases hf : fitsB ek ec en EL.length
      · simp (config := {maxSteps := 3000000}) only [run_ret, at_code_n, at_fin_r, ops_nil, ops_grd, grd_ff, grd_ft, ops_mv, ops_pick, ops_bin, ops_fld, ops_load, ev_t, ev_c, put_get, opv_mk, over_get, put_box_same, vpick, vbin, vbinI, vfld, vload, takeV, V.cells, obsOk, List.length_cons, List.length_nil, List.getElem?_cons_zero, and_true, true_and, Nat.reduceEqDiff, Int.reduceEq, Nat.zero_add, Nat.add_zero, ↓reduceIte, vret, rvAll, rvVal, resv_1, decide_false, eq_self, Bool.false_eq_true, List.contains_cons, List.contains_nil, Nat.reduceBEq, Bool.or_false, put_box_ne neb.symm, put_box_ne ndb.symm]
        exact ⟨_, _, Wk.refl _, by repeat (first | exact hwf.weak | refine weak_putS ?_ hds | refine weak_putS ?_ hes | refine weak_put ?_ hb), by simp [], rfl⟩
      · simp (config := {maxSteps := 3000000}) only [run_ret, at_code_n, at_fin_r, ops_nil, ops_grd, grd_und, grd_tf, ops_mv, ops_pick, ev_t, ev_c, put_get, opv_mk, vpick, obsOk, and_true, true_and, Nat.reduceEqDiff, ↓reduceIte, vret, rvAll, rvVal, resv_1, eq_self]
        exact ⟨_, _, Wk.refl _, by repeat (first | exact hwf.weak | refine weak_putS ?_ hds | refine weak_putS ?_ hes | refine weak_put ?_ hb), by simp [], rfl⟩
  · by_cases k2 : k = 2
    · subst k2
      cases nE
      · simp (config := {maxSteps := 3000000}) only [run_ret, at_code_n, at_fin_r, ops_nil, ops_grd, grd_tt, grd_ff, grd_ft, ops_mv, ops_pick, ops_bin, ops_fld, ops_load, ev_t, ev_c, put_get, opv_mk, over_get, put_box_same, vpick, vbin, vbinI, vfld, vload, takeV, V.cells, List.length_cons, List.length_nil, List.getElem?_cons_zero, and_true, true_and, Nat.reduceEqDiff, Int.reduceEq, Nat.zero_add, Nat.add_zero, ↓reduceIte, vret, rvAll, rvVal, resv_1, decide_true, decide_false, eq_self, Bool.false_eq_true, List.contains_cons, List.contains_nil, Nat.reduceBEq, Bool.or_false, h5, put_box_ne neb.symm, put_box_ne ndb.symm]
        exact ⟨_, _, Wk.refl _, by repeat (first | exact hwf.weak | refine weak_putS ?_ hds | refine weak_putS ?_ hes | refine weak_put ?_ hb), by simp, rfl⟩
      · simp (config := {maxSteps := 3000000}) only [ops_grd, grd_tt, grd_ff, grd_ft, ops_mv, ops_pick, ops_bin, ops_fld, ops_load, ops_len, ops_call, ev_t, ev_c, put_get, opv_mk, over_get, put_box_same, vpick, vbin, vbinI, vfld, vlen, vload, takeV, V.cells, List.map_cons, List.map_nil, List.length_cons, List.length_nil, List.getElem?_cons_zero, List.getElem?_cons_succ, true_and, Nat.reduceEqDiff, Int.reduceEq, Nat.zero_add, Nat.add_zero, ↓reduceIte, decide_true, decide_false, eq_self, Bool.false_eq_true, List.contains_cons, List.contains_nil, Nat.reduceBEq, Bool.or_false, h5, put_box_ne neb.symm, put_box_ne ndb.symm, bs_len]
        repeat (apply And.intro; focus (first | omega | (simp; done)))
        refine Cal.mk (rfits_v (z := OL.length)) ?_
        rintro _ _ ⟨rfl, rfl⟩ -
        simp (config := {maxSteps := 3000000}) only [run_ret, at_code_n, at_fin_r, ops_nil, ops_grd, grd_ff, ops_mv, ops_pick, ev_t, put_get, opv_mk, vpick, obsOk, and_true, true_and, Nat.reduceEqDiff, ↓reduceIte, vret, rvAll, rvVal, resv_1, eq_self, Bool.false_eq_true]
        exact ⟨_, _, Wk.refl _, by repeat (first | exact hwf.weak | refine weak_putS ?_ hds | refine weak_putS ?_ hes | refine weak_put ?_ hb), by simp, rfl⟩
    · simp (config := {maxSteps := 3000000}) only [run_ret, at_code_n, at_fin_r, ops_nil, ops_grd, grd_ff, grd_ft, ops_mv, ops_pick, ops_bin, ops_fld, ops_load, ev_t, ev_c, put_get, opv_mk, over_get, put_box_same, vpick, vbin, vbinI, vfld, vload, takeV, V.cells, List.length_cons, List.length_nil, List.getElem?_cons_zero, and_true, true_and, Nat.reduceEqDiff, Nat.zero_add, Nat.add_zero, ↓reduceIte, vret, rvAll, rvVal, resv_1, eq_self, Bool.false_eq_true, List.contains_cons, List.contains_nil, Nat.reduceBEq, Bool.or_false, put_box_ne neb.symm, put_box_ne ndb.symm, decide_eq_false k1, decide_eq_false k2]
      exact ⟨_, _, Wk.refl _, by repeat (first | exact hwf.weak | refine weak_putS ?_ hds | refine weak_putS ?_ hes | refine weak_put ?_ hb), by simp [], rfl⟩
end
end Go.Proofs.Ytmomebkfaibmgaa
