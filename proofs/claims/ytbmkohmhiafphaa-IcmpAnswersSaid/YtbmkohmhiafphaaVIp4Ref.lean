/- catwalkref13: Parse and Same. (Printed by tools/gen_ip4r.py.) -/
import Derived.Test.YtbmkohmhiafphaaVIp4Law
import Derived.Test.YtbmkohmhiafphaaVGreh4
namespace Go.Proofs.Ytbmkohmhiafphaa
open Go

section
variable {tk tk' : Tk} {st : St} {L : List Int}
theorem dt1 : (L.take 4).drop 2 = (L.drop 2).take 2 := by rw [List.drop_take]
theorem dt2 : (L.take 6).drop 4 = (L.drop 4).take 2 := by rw [List.drop_take]
theorem dt3 : (L.take 8).drop 6 = (L.drop 6).take 2 := by rw [List.drop_take]
theorem dt4 : (L.take 16).drop 12 = (L.drop 12).take 4 := by rw [List.drop_take]
theorem dt5 : (L.take 20).drop 16 = (L.drop 16).take 4 := by rw [List.drop_take]
theorem ref13Parse_v (hB : IsB L) (hL : L.length ≤ 1000000000) : VCalls Try.prog 29 [.sl tk (bs L)] st fun r st' => (∃ tk1 tk2, r = .tup [(ipD L).v tk1 tk2, .sc (.int .i64 (ipE L))]) ∧ st = st' := by
  refine vcalls_enter vc29 (Nat.le_of_ble_eq_true rfl) fun hwf hok => ?_
  show Run _ Vc29.body (.fin (finQ Vc29.res _)) _ _
  unfold Vc29
  have bad : ∀ k : Int, ipE L = k → k ≠ 0 → ipD L = dg0 := fun k h1 h2 => if_neg (by rw [h1]; exact h2)
  simp (config := {maxSteps := 3000000}) only [run_reg, run_seq, run_cond, at_code_n, ops_nil, ops_mv, ops_bin, ops_len, ops_bld, ops_alc, ops_store, ev_t, ev_c, put_get, put_none, opv_mk, stb_some, sto_ptr, Stp, vbld, put_box_same, put_sz, put_put, args0, List.getD_cons_zero, vbin, vbinI, vlen, fillV, splice, V.cells, ptrV, obsOk, List.map_nil, List.length_cons, List.length_nil, List.take_zero, List.drop_succ_cons, List.nil_append, List.append_nil, List.drop_nil, true_and, Nat.reduceEqDiff, Nat.reduceAdd, Nat.reduceLT, Nat.reduceLeDiff, Nat.reduceLT, Nat.zero_add, ↓reduceIte, eq_self, reduceCtorEq]
  intro c hc d hd
  obtain ⟨hd1, hcd⟩ : st.sz ≤ d ∧ c < d := by omega
  clear hd
  repeat (apply And.intro; focus (first | omega | (simp; done)))
  by_cases h20 : L.length < 20
  · have hE : ipE L = 10 := if_pos h20
    have hD := bad _ hE (by decide)
    simp (config := {maxSteps := 3000000}) only [run_reg, run_seq, run_ret, if_true, at_code_n, at_code_r, at_fin_r, ops_nil, ops_mv, ops_load, ops_store, ev_t, ev_c, put_get, put_none, opv_mk, stb_some, sto_ptr, Stp, put_box_same, args0, vload, takeV, splice, V.cells, obsOk, List.map_cons, List.map_nil, List.length_cons, List.length_nil, List.take_succ_cons, List.take_zero, List.drop_succ_cons, List.drop_zero, List.nil_append, List.append_nil, List.take_nil, List.drop_nil, and_true, true_and, Nat.reduceEqDiff, Nat.reduceAdd, Nat.reduceLT, Nat.reduceLeDiff, Nat.reduceLT, Nat.zero_add, ↓reduceIte, vret, rvAll, rvVal, resv_2, eq_self, put_box_ne (Nat.ne_of_lt hcd), bs_len, decide_eq_true (show (L.length : Int) < 20 by omega)]
    exact ⟨_, _, Wk.refl _, (by repeat (first | exact hwf.weak | refine weak_put ?_ (by assumption))), ⟨.nil, .nil, by rw [hE, hD]; rfl⟩, rfl⟩
  obtain ⟨x, hx⟩ := get_ex (L := L) (i := 0) (by omega)
  obtain ⟨x0, x1⟩ := hB.get hx
  have hx' := ipN_byte hx
  have hH : ipH L = 4 * (x % 16) := by rw [ipH, hx']
  obtain ⟨t0, t1⟩ := ipT_range hB
  simp (config := {maxSteps := 3000000}) only [run_skip, run_reg, run_seq, if_false, at_code_n, ops_mv, ops_bin, ops_conv, ops_ix, ops_load, ops_slc, ops_call, ev_t, ev_c, put_get, opv_mk, args0, List.getD_cons_zero, vbin, vbinI, vconv, norm, vix, vload, takeV, vslc, V.cells, List.map_cons, List.map_nil, List.length_cons, List.length_nil, List.getElem?_cons_zero, Option.map_some, and_true, true_and, Int.reduceToNat, Int.reduceLE, Int.reduceLT, Int.reduceNeg, Nat.zero_add, ↓reduceIte, eq_self, reduceCtorEq, bs_len, bs_take, bs_drop, bs_get, allSz_bs', dt1, decide_eq_false (show ¬ (L.length : Int) < 20 by omega), hx]
  repeat (apply And.intro; focus (first | omega | (simp; done)))
  refine Cal.mk (rNum_v ((hB.drop _).take _) (by simp; omega)) ?_
  rw [show numL ((L.drop 2).take 2) = ipT L from rfl, ← hH]
  rintro _ _ ⟨rfl, rfl⟩ -
  have hE1 := show ipE L = _ from if_neg h20
  rw [hx'] at hE1
  generalize hHH : ipH L = H at *
  generalize hTT : ipT L = T at *
  by_cases a1 : x / 16 = 4
  case neg =>
    have hE : ipE L = 11 := by rw [hE1, if_pos (.inl a1)]
    have hD := bad _ hE (by decide)
    simp (config := {maxSteps := 3000000}) only [run_reg, run_seq, run_ret, run_cond, if_true, at_code_n, at_code_r, at_fin_r, ops_nil, ops_grd, grd_tf, ops_mv, ops_pick, ops_bin, ops_conv, ops_ix, ops_load, ops_store, ev_t, ev_c, put_get, put_none, opv_mk, stb_some, sto_ptr, Stp, put_box_same, args0, List.getD_cons_zero, vpick, vbin, vbinI, vconv, norm, vix, vload, takeV, splice, V.cells, obsOk, List.map_cons, List.map_nil, List.length_cons, List.length_nil, List.getElem?_cons_zero, List.take_succ_cons, List.take_zero, List.drop_succ_cons, List.drop_zero, List.nil_append, List.append_nil, List.take_nil, List.drop_nil, Option.map_some, and_true, true_and, Nat.reduceEqDiff, Nat.reduceAdd, Nat.reduceLT, Nat.reduceLeDiff, Nat.reduceLT, Int.reduceToNat, Int.reduceLE, Int.reduceLT, Int.reduceNeg, Nat.zero_add, ↓reduceIte, vret, rvAll, rvVal, resv_2, ne_eq, eq_self, reduceCtorEq, put_box_ne (Nat.ne_of_lt hcd), bs_get, List.drop_zero, hx, decide_eq_true a1]
    repeat (apply And.intro; focus (first | omega | (simp; done)))
    exact ⟨_, _, Wk.refl _, (by repeat (first | exact hwf.weak | refine weak_put ?_ (by assumption))), ⟨.nil, .nil, by rw [hE, hD]; rfl⟩, rfl⟩
  by_cases a2 : H < 20
  · have hE : ipE L = 11 := by rw [hE1, if_pos (.inr (.inl a2))]
    have hD := bad _ hE (by decide)
    simp (config := {maxSteps := 3000000}) only [run_reg, run_seq, run_ret, run_cond, if_true, at_code_n, at_code_r, at_fin_r, ops_nil, ops_grd, grd_ff, grd_tf, ops_mv, ops_pick, ops_bin, ops_conv, ops_ix, ops_load, ops_store, ev_t, ev_c, put_get, put_none, opv_mk, stb_some, sto_ptr, Stp, put_box_same, args0, List.getD_cons_zero, vpick, vbin, vbinI, vconv, norm, vix, vload, takeV, splice, V.cells, obsOk, List.map_cons, List.map_nil, List.length_cons, List.length_nil, List.getElem?_cons_zero, List.take_succ_cons, List.take_zero, List.drop_succ_cons, List.drop_zero, List.nil_append, List.append_nil, List.take_nil, List.drop_nil, Option.map_some, and_true, true_and, Nat.reduceEqDiff, Nat.reduceAdd, Nat.reduceLT, Nat.reduceLeDiff, Nat.reduceLT, Int.reduceToNat, Int.reduceLE, Int.reduceLT, Int.reduceNeg, Nat.zero_add, ↓reduceIte, vret, rvAll, rvVal, resv_2, decide_false, ne_eq, not_true_eq_false, eq_self, reduceCtorEq, Bool.false_eq_true, put_box_ne (Nat.ne_of_lt hcd), bs_get, List.drop_zero, hx, a1, decide_eq_true a2]
    repeat (apply And.intro; focus (first | omega | (simp; done)))
    exact ⟨_, _, Wk.refl _, (by repeat (first | exact hwf.weak | refine weak_put ?_ (by assumption))), ⟨.nil, .nil, by rw [hE, hD]; rfl⟩, rfl⟩
  by_cases a3 : T < H
  · have hE : ipE L = 11 := by rw [hE1, if_pos (.inr (.inr a3))]
    have hD := bad _ hE (by decide)
    simp (config := {maxSteps := 3000000}) only [run_reg, run_seq, run_ret, run_cond, if_true, at_code_n, at_code_r, at_fin_r, ops_nil, ops_grd, grd_ff, ops_mv, ops_pick, ops_bin, ops_conv, ops_ix, ops_load, ops_store, ev_t, ev_c, put_get, put_none, opv_mk, stb_some, sto_ptr, Stp, put_box_same, args0, List.getD_cons_zero, vpick, vbin, vbinI, vconv, norm, vix, vload, takeV, splice, V.cells, obsOk, List.map_cons, List.map_nil, List.length_cons, List.length_nil, List.getElem?_cons_zero, List.take_succ_cons, List.take_zero, List.drop_succ_cons, List.drop_zero, List.nil_append, List.append_nil, List.take_nil, List.drop_nil, Option.map_some, and_true, true_and, Nat.reduceEqDiff, Nat.reduceAdd, Nat.reduceLT, Nat.reduceLeDiff, Nat.reduceLT, Int.reduceToNat, Int.reduceLE, Int.reduceLT, Int.reduceNeg, Nat.zero_add, ↓reduceIte, vret, rvAll, rvVal, resv_2, decide_false, ne_eq, not_true_eq_false, eq_self, reduceCtorEq, Bool.false_eq_true, put_box_ne (Nat.ne_of_lt hcd), bs_get, List.drop_zero, hx, a1, decide_eq_false a2, decide_eq_true a3]
    repeat (apply And.intro; focus (first | omega | (simp; done)))
    exact ⟨_, _, Wk.refl _, (by repeat (first | exact hwf.weak | refine weak_put ?_ (by assumption))), ⟨.nil, .nil, by rw [hE, hD]; rfl⟩, rfl⟩
  rw [if_neg (by exact fun h => h.elim (fun h => h a1) (fun h => h.elim a2 a3))] at hE1
  by_cases a4 : (L.length : Int) < T
  · have hE : ipE L = 10 := by rw [hE1, if_pos a4]
    have hD := bad _ hE (by decide)
    simp (config := {maxSteps := 3000000}) only [run_skip, run_reg, run_seq, run_ret, run_cond, if_true, if_false, at_code_n, at_code_r, at_fin_r, ops_nil, ops_grd, grd_ff, ops_mv, ops_pick, ops_bin, ops_conv, ops_ix, ops_load, ops_len, ops_store, ev_t, ev_c, put_get, put_none, opv_mk, stb_some, sto_ptr, Stp, put_box_same, args0, List.getD_cons_zero, vpick, vbin, vbinI, vconv, norm, vlen, vix, vload, takeV, splice, V.cells, obsOk, List.map_cons, List.map_nil, List.length_cons, List.length_nil, List.getElem?_cons_zero, List.take_succ_cons, List.take_zero, List.drop_succ_cons, List.drop_zero, List.nil_append, List.append_nil, List.take_nil, List.drop_nil, Option.map_some, and_true, true_and, Nat.reduceEqDiff, Nat.reduceAdd, Nat.reduceLT, Nat.reduceLeDiff, Nat.reduceLT, Int.reduceToNat, Int.reduceLE, Int.reduceLT, Int.reduceNeg, Nat.zero_add, ↓reduceIte, vret, rvAll, rvVal, resv_2, decide_false, ne_eq, not_true_eq_false, eq_self, reduceCtorEq, Bool.false_eq_true, put_box_ne (Nat.ne_of_lt hcd), bs_len, bs_get, List.drop_zero, hx, a1, decide_eq_false a2, decide_eq_false a3, decide_eq_true a4]
    repeat (apply And.intro; focus (first | omega | (simp; done)))
    exact ⟨_, _, Wk.refl _, (by repeat (first | exact hwf.weak | refine weak_put ?_ (by assumption))), ⟨.nil, .nil, by rw [hE, hD]; rfl⟩, rfl⟩
  rw [if_neg a4] at hE1
  simp (config := {maxSteps := 3000000}) only [run_skip, run_reg, run_seq, run_cond, if_false, at_code_n, ops_nil, ops_grd, grd_ff, ops_mv, ops_pick, ops_bin, ops_conv, ops_ix, ops_load, ops_len, ops_slc, ops_call, ev_t, ev_c, put_get, opv_mk, args0, List.getD_cons_zero, vpick, vbin, vbinI, vconv, norm, vlen, vix, vload, takeV, vslc, V.cells, obsOk, List.map_cons, List.map_nil, List.length_cons, List.length_nil, List.getElem?_cons_zero, Option.map_some, Option.map_none, and_true, true_and, Nat.reduceEqDiff, Int.reduceToNat, Int.reduceLE, Int.reduceLT, Int.reduceNeg, Nat.zero_add, ↓reduceIte, decide_false, ne_eq, not_true_eq_false, eq_self, reduceCtorEq, Bool.false_eq_true, bs_len, bs_take, bs_get, allSz_bs', hx, a1, decide_eq_false a2, decide_eq_false a3, decide_eq_false a4]
  repeat (apply And.intro; focus (first | omega | (simp; done)))
  refine Cal.mk (ref05Of_v (hB.take _) (by simp; omega)) ?_
  rintro _ _ ⟨rfl, rfl⟩ -
  by_cases a5 : ckS (L.take H.toNat) = 0
  case neg =>
    have hE : ipE L = 50 := by rw [hE1, if_pos a5]
    have hD := bad _ hE (by decide)
    simp (config := {maxSteps := 3000000}) only [run_reg, run_seq, run_ret, run_cond, if_true, at_code_n, at_code_r, at_fin_r, ops_nil, ops_mv, ops_bin, ops_load, ops_store, ev_t, ev_c, put_get, put_none, opv_mk, stb_some, sto_ptr, Stp, put_box_same, args0, vbin, vbinI, vload, takeV, splice, V.cells, obsOk, List.map_cons, List.map_nil, List.length_cons, List.length_nil, List.take_succ_cons, List.take_zero, List.drop_succ_cons, List.drop_zero, List.nil_append, List.append_nil, List.take_nil, List.drop_nil, and_true, true_and, Nat.reduceEqDiff, Nat.reduceAdd, Nat.reduceLT, Nat.reduceLeDiff, Nat.reduceLT, Nat.zero_add, ↓reduceIte, vret, rvAll, rvVal, resv_2, ne_eq, eq_self, put_box_ne (Nat.ne_of_lt hcd), decide_eq_true a5]
    exact ⟨_, _, Wk.refl _, (by repeat (first | exact hwf.weak | refine weak_put ?_ (by assumption))), ⟨.nil, .nil, by rw [hE, hD]; rfl⟩, rfl⟩
  have hE : ipE L = 0 := by rw [hE1, if_neg (by simp [a5])]
  have hD : ipD L = ipX L := if_pos hE
  obtain ⟨y1, hy1⟩ := get_ex (L := L) (i := 1) (by omega)
  obtain ⟨y2, hy2⟩ := get_ex (L := L) (i := 8) (by omega)
  obtain ⟨y3, hy3⟩ := get_ex (L := L) (i := 9) (by omega)
  simp (config := {maxSteps := 3000000}) only [run_skip, run_reg, run_seq, run_cond, if_false, at_code_n, ops_nil, ops_mv, ops_bin, ops_ix, ops_load, ops_bld, ops_slc, ops_alc, ops_store, ops_call, ev_t, ev_c, put_get, put_none, opv_mk, stb_some, sto_ptr, Stp, vbld, put_box_same, put_sz, put_put, args0, List.getD_cons_zero, vbin, vbinI, vix, vload, takeV, vslc, fillV, splice, V.cells, ptrV, obsOk, List.map_cons, List.map_nil, List.length_cons, List.length_nil, List.getElem?_cons_zero, List.take_succ_cons, List.take_zero, List.drop_succ_cons, List.drop_zero, List.cons_append, List.nil_append, List.append_nil, List.drop_nil, Option.map_some, and_true, true_and, Nat.reduceEqDiff, Nat.reduceAdd, Nat.reduceLT, Nat.reduceLeDiff, Nat.reduceLT, Int.reduceToNat, Int.reduceLE, Nat.zero_add, ↓reduceIte, decide_false, ne_eq, not_true_eq_false, eq_self, reduceCtorEq, bs_len, bs_take, bs_drop, bs_get, allSz_bs', List.drop_zero, dt2, a5, hy1, hy2, hy3]
  repeat (apply And.intro; focus (first | omega | (simp; done)))
  intro e he
  obtain ⟨he1, hce, hde⟩ : st.sz ≤ e ∧ c < e ∧ d < e := by omega
  clear he
  repeat (apply And.intro; focus (first | omega | (simp; done)))
  refine Cal.mk (rNum_v ((hB.drop _).take _) (by simp; omega)) ?_
  rintro _ _ ⟨rfl, rfl⟩ -
  obtain ⟨u4, v4⟩ := num2 hB 4
  generalize w4 : numL ((L.drop 4).take 2) = z4 at u4 v4 ⊢
  simp (config := {maxSteps := 3000000}) only [run_reg, run_seq, at_code_n, ops_nil, ops_mv, ops_conv, ops_fld, ops_slc, ops_store, ops_call, ev_t, ev_c, put_get, put_none, opv_mk, stb_some, sto_ptr, Stp, put_box_same, put_put, args0, List.getD_cons_zero, vconv, norm, vfld, vslc, splice, V.cells, obsOk, List.map_cons, List.map_nil, List.length_cons, List.length_nil, List.take_succ_cons, List.take_zero, List.drop_succ_cons, List.drop_zero, List.cons_append, List.nil_append, Option.map_some, true_and, Nat.reduceEqDiff, Nat.reduceAdd, Nat.reduceLT, Nat.reduceLeDiff, Nat.reduceLT, Int.reduceToNat, Int.reduceLE, Nat.zero_add, ↓reduceIte, eq_self, reduceCtorEq, bs_len, bs_take, bs_drop, allSz_bs', List.drop_zero, dt3, emod_small u4 v4]
  repeat (apply And.intro; focus (first | omega | (simp; done)))
  refine Cal.mk (rNum_v ((hB.drop _).take _) (by simp; omega)) ?_
  rintro _ _ ⟨rfl, rfl⟩ -
  obtain ⟨u6, v6⟩ := num2 hB 6
  generalize w6 : numL ((L.drop 6).take 2) = z6 at u6 v6 ⊢
  simp (config := {maxSteps := 3000000}) only [run_reg, run_seq, at_code_n, ops_nil, ops_mv, ops_conv, ops_fld, ops_slc, ops_store, ops_call, ev_t, ev_c, put_get, put_none, opv_mk, stb_some, sto_ptr, Stp, put_box_same, put_put, args0, List.getD_cons_zero, vconv, norm, vfld, vslc, splice, V.cells, obsOk, List.map_cons, List.map_nil, List.length_cons, List.length_nil, List.take_succ_cons, List.take_zero, List.drop_succ_cons, List.drop_zero, List.cons_append, List.nil_append, Option.map_some, true_and, Nat.reduceEqDiff, Nat.reduceAdd, Nat.reduceLT, Nat.reduceLeDiff, Nat.reduceLT, Int.reduceToNat, Int.reduceLE, Nat.zero_add, ↓reduceIte, eq_self, reduceCtorEq, bs_len, bs_take, bs_drop, allSz_bs', List.drop_zero, dt4, emod_small u6 v6]
  repeat (apply And.intro; focus (first | omega | (simp; done)))
  refine Cal.mk (rNum_v ((hB.drop _).take _) (by simp; omega)) ?_
  rintro _ _ ⟨rfl, rfl⟩ -
  obtain ⟨u12, v12⟩ := num4 hB 12
  generalize w12 : numL ((L.drop 12).take 4) = z12 at u12 v12 ⊢
  simp (config := {maxSteps := 3000000}) only [run_reg, run_seq, at_code_n, ops_nil, ops_mv, ops_conv, ops_fld, ops_slc, ops_store, ops_call, ev_t, ev_c, put_get, put_none, opv_mk, stb_some, sto_ptr, Stp, put_box_same, put_put, args0, List.getD_cons_zero, vconv, norm, vfld, vslc, splice, V.cells, obsOk, List.map_cons, List.map_nil, List.length_cons, List.length_nil, List.take_succ_cons, List.take_zero, List.drop_succ_cons, List.drop_zero, List.cons_append, List.nil_append, Option.map_some, true_and, Nat.reduceEqDiff, Nat.reduceAdd, Nat.reduceLT, Nat.reduceLeDiff, Nat.reduceLT, Int.reduceToNat, Int.reduceLE, Nat.zero_add, ↓reduceIte, eq_self, reduceCtorEq, bs_len, bs_take, bs_drop, allSz_bs', List.drop_zero, dt5, emod_small u12 v12]
  repeat (apply And.intro; focus (first | omega | (simp; done)))
  refine Cal.mk (rNum_v ((hB.drop _).take _) (by simp; omega)) ?_
  rintro _ _ ⟨rfl, rfl⟩ -
  obtain ⟨u16, v16⟩ := num4 hB 16
  generalize w16 : numL ((L.drop 16).take 4) = z16 at u16 v16 ⊢
  simp (config := {maxSteps := 3000000}) only [run_reg, run_seq, at_code_n, ops_nil, ops_mv, ops_conv, ops_fld, ops_load, ops_slc, ops_store, ops_app, ev_t, ev_c, put_get, put_none, opv_mk, stb_some, sto_ptr, Stp, put_box_same, put_put, args0, List.getD_cons_zero, vconv, norm, vfld, vload, takeV, vslc, splice, V.cells, obsOk, List.length_cons, List.length_nil, List.getElem?_cons_zero, List.getElem?_cons_succ, List.take_succ_cons, List.take_zero, List.drop_succ_cons, List.drop_zero, List.cons_append, List.nil_append, Option.map_some, true_and, Nat.reduceEqDiff, Nat.reduceAdd, Nat.reduceLT, Nat.reduceLeDiff, Nat.reduceLT, Int.reduceToNat, Int.reduceLE, Nat.zero_add, ↓reduceIte, eq_self, reduceCtorEq, bs_len, bs_take, bs_drop, allSz_bs', List.drop_zero, emod_small u16 v16]
  repeat (apply And.intro; focus (first | omega | (simp; done)))
  refine App.mk Own.nil (allSz_bs _) (by simp [bs_len, maxLen]; omega) (by simp [bs_len]; omega) ?_
  intro r1 s1 k1 k2
  rw [List.nil_append] at k1
  obtain ⟨tk1, rfl⟩ := k1.sl
  simp (config := {maxSteps := 3000000}) only [run_reg, run_seq, at_code_n, ops_nil, ops_mv, ops_fld, ops_load, ops_slc, ops_store, ops_app, ev_t, put_get, put_none, opv_mk, stb_some, sto_ptr, Stp, put_box_same, args0, List.getD_cons_zero, vfld, vload, takeV, vslc, splice, V.cells, obsOk, List.length_cons, List.length_nil, List.getElem?_cons_zero, List.getElem?_cons_succ, List.take_succ_cons, List.take_zero, List.drop_succ_cons, List.drop_zero, List.cons_append, List.nil_append, Option.map_some, true_and, Nat.reduceEqDiff, Nat.reduceAdd, Nat.reduceLT, Nat.reduceLeDiff, Nat.reduceLT, Nat.zero_add, ↓reduceIte, eq_self, reduceCtorEq, bs_len, bs_take, bs_drop, allSz_bs', List.drop_zero, k2.box]
  repeat (apply And.intro; focus (first | omega | (simp; done)))
  refine App.mk Own.nil (allSz_bs _) (by simp [bs_len, maxLen]; omega) (by simp [bs_len]; omega) ?_
  intro r2 s2 k3 k4
  rw [List.nil_append] at k3
  obtain ⟨tk2, rfl⟩ := k3.sl
  simp (config := {maxSteps := 3000000}) only [run_reg, run_seq, run_ret, at_code_n, at_fin_r, ops_nil, ops_mv, ops_fld, ops_load, ops_store, ev_t, ev_c, put_get, put_none, opv_mk, stb_some, sto_ptr, Stp, put_box_same, args0, vfld, vload, takeV, splice, V.cells, obsOk, List.map_cons, List.map_nil, List.length_cons, List.length_nil, List.take_succ_cons, List.take_zero, List.drop_succ_cons, List.drop_zero, List.cons_append, List.nil_append, List.append_nil, List.take_nil, List.drop_nil, and_true, true_and, Nat.reduceEqDiff, Nat.reduceAdd, Nat.reduceLT, Nat.reduceLeDiff, Nat.reduceLT, Nat.zero_add, ↓reduceIte, vret, rvAll, rvVal, resv_2, eq_self, put_box_ne (Nat.ne_of_lt hcd), put_box_ne (Nat.ne_of_lt hce), List.drop_zero, k2.box, k4.box]
  exact ⟨_, _, Wk.refl _, weak_put (weak_put (k4.keeps (weak_put (k2.keeps (by repeat (first | exact hwf.weak | refine weak_put ?_ (by assumption))) (fun g k l e => by cases e)) he1) (fun g k l e => by cases e)) he1) hc, ⟨tk1, tk2, by rw [hE, hD]; simp only [ipX, DG.v, hHH, hTT, ipN_byte hy1, ipN_byte hy2, ipN_byte hy3]; simp only [ipN, w4, w6, w12, w16, List.drop_take]⟩, rfl⟩
theorem ref13Same_v {tk1 tk2 tk3 tk4 : Tk} (t : DG) : VCalls Try.prog 30 [t.v tk1 tk2, t.v tk3 tk4] st fun r st' => r = .sc (.bool true) ∧ st = st' := by
  obtain ⟨tos, ttl, proto, id, frag, src, dst, O, D⟩ := t
  refine vcalls_enter vc30 (Nat.le_of_ble_eq_true rfl) fun hwf hok => ?_
  show Run _ Vc30.body (.fin (finQ Vc30.res _)) _ _
  unfold Vc30
  simp (config := {maxSteps := 3000000}) only [run_reg, run_seq, at_code_n, ops_nil, ops_mv, ops_fld, ops_load, ops_box, ev_t, ev_c, put_get, opv_mk, Bx, put_sz, args0, List.getD_cons_zero, List.getD_cons_succ, vfld, vload, takeV, V.cells, ptrV, obsOk, List.length_cons, List.length_nil, true_and, Nat.reduceEqDiff, Nat.reduceAdd, Nat.zero_add, Nat.add_zero, ↓reduceIte, ne_eq, not_false_eq_true, eq_self, reduceCtorEq, DG.v]
  intro b hb d hd
  obtain ⟨hd1, hbd⟩ : st.sz ≤ d ∧ b < d := by omega
  clear hd
  simp (config := {maxSteps := 3000000}) only [run_ret, at_code_n, at_fin_r, ops_nil, ops_grd, grd_tt, ops_mv, ops_pick, ops_bin, ops_b2s, vb2s, ops_fld, ops_load, ev_t, put_get, opv_mk, put_box_same, vpick, vbin, vbinI, vbinS, vfld, vload, takeV, V.cells, List.length_cons, List.length_nil, List.getElem?_cons_zero, List.getElem?_cons_succ, and_true, true_and, Nat.reduceEqDiff, Nat.zero_add, Nat.add_zero, ↓reduceIte, vret, rvAll, rvVal, resv_1, decide_true, eq_self, put_box_ne (Nat.ne_of_lt hbd), u8sOf_bs]
  exact ⟨_, _, Wk.refl _, weak_put (weak_put hwf.weak hb) hd1, rfl, rfl⟩
end
end Go.Proofs.Ytbmkohmhiafphaa
