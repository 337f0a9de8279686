/- Package ip4: Parse. (Printed by tools/gen_ip4.py.) -/
import Derived.Test.YtbmkohmhiafphaaVIp4Law
namespace Go.Proofs.Ytbmkohmhiafphaa
open Go

section
variable {tk tk' : Tk} {st : St} {L : List Int}
theorem ip4Parse_v (hB : IsB L) (hL : L.length ≤ 1000000000) : VCalls Try.prog 28 [.sl tk (bs L)] st fun r st' => (∃ tk1 tk2, r = .tup [(ipD L).v tk1 tk2, .sc (.int .i64 (ipE L))]) ∧ st = st' := by
  refine vcalls_enter vc28 (Nat.le_of_ble_eq_true rfl) fun hwf hok => ?_
  show Run _ Vc28.body (.fin (finQ Vc28.res _)) _ _
  unfold Vc28
  have bad : ∀ k : Int, ipE L = k → k ≠ 0 → ipD L = dg0 := fun k h1 h2 => if_neg (by rw [h1]; exact h2)
  by_cases h20 : L.length < 20
  · have hE : ipE L = 10 := if_pos h20
    have hD := bad _ hE (by decide)
    simp (config := {maxSteps := 3000000}) only [run_reg, run_seq, run_ret, run_cond, if_true, at_code_n, at_code_r, at_fin_r, ops_nil, ops_mv, ops_bin, ops_len, ops_bld, ops_alc, ops_store, ev_t, ev_c, put_get, put_none, opv_mk, stb_some, sto_ptr, Stp, vbld, put_box_same, put_put, args0, List.getD_cons_zero, vbin, vbinI, vlen, vload, takeV, fillV, splice, V.cells, ptrV, obsOk, List.map_cons, List.map_nil, List.length_cons, List.length_nil, List.take_succ_cons, List.take_zero, List.drop_succ_cons, List.drop_zero, List.nil_append, List.append_nil, List.take_nil, List.drop_nil, and_true, true_and, Nat.reduceEqDiff, Nat.reduceAdd, Nat.reduceLT, Nat.reduceLeDiff, Nat.reduceLT, Nat.zero_add, ↓reduceIte, vret, rvAll, rvVal, resv_2, eq_self, reduceCtorEq, bs_len, decide_eq_true (show (L.length : Int) < 20 by omega)]
    intro c hc
    exact ⟨_, _, Wk.refl _, (by repeat (first | exact hwf.weak | refine weak_put ?_ (by assumption))), ⟨.nil, .nil, by rw [hE, hD]; rfl⟩, rfl⟩
  obtain ⟨x, hx⟩ := get_ex (L := L) (i := 0) (by omega)
  obtain ⟨x0, x1⟩ := hB.get hx
  have hx' := ipN_byte hx
  have hH : ipH L = 4 * (x % 16) := by rw [ipH, hx']
  obtain ⟨t0, t1⟩ := ipT_range hB
  simp (config := {maxSteps := 3000000}) only [run_skip, run_reg, run_seq, run_cond, if_false, at_code_n, ops_nil, ops_mv, ops_bin, ops_conv, ops_ix, ops_load, ops_len, ops_slc, ops_alc, ops_call, ev_t, ev_c, put_get, opv_mk, args0, List.getD_cons_zero, vbin, vbinI, vconv, norm, vlen, vix, vload, takeV, vslc, V.cells, ptrV, obsOk, List.map_cons, List.map_nil, List.length_cons, List.length_nil, List.getElem?_cons_zero, Option.map_some, Option.map_none, and_true, true_and, Int.reduceToNat, Int.reduceLE, Int.reduceNeg, Nat.zero_add, ↓reduceIte, eq_self, reduceCtorEq, bs_len, decide_eq_false (show ¬ (L.length : Int) < 20 by omega), bs_get, hx, u8_low x0 x1]
  intro c hc
  repeat (apply And.intro; focus (first | omega | (simp; done)))
  simp (config := {maxSteps := 3000000}) only [true_and, bs_drop, allSz_bs']
  repeat (apply And.intro; focus (first | omega | (simp; done)))
  refine Cal.mk (Get16_v (hB.drop _)) ?_
  rw [if_neg (by simp; omega), show numL ((L.drop 2).take 2) = ipT L from rfl, ← hH]
  rintro _ _ ⟨rfl, rfl⟩ -
  have hE1 := show ipE L = _ from if_neg h20
  rw [hx'] at hE1
  generalize hHH : ipH L = H at *
  generalize hTT : ipT L = T at *
  simp (config := {maxSteps := 3000000}) only [run_reg, run_seq, run_blk, at_code_n, ops_nil, ops_grd, ops_mv, ops_bin, ops_conv, ops_ix, ops_load, ev_t, ev_c, put_get, opv_mk, args0, List.getD_cons_zero, vbin, vbinI, vconv, norm, vix, vload, takeV, V.cells, obsOk, shAmt, IntKind.bits, List.length_cons, List.length_nil, List.getElem?_cons_zero, Option.map_some, and_true, true_and, Nat.reduceLeDiff, Int.reduceToNat, Int.reduceLE, Int.reducePow, Int.reduceNeg, Nat.min_def, Nat.zero_add, ↓reduceIte, ne_eq, eq_self, reduceCtorEq, bs_get, hx]
  repeat (apply And.intro; focus (first | omega | (simp; done)))
  by_cases a1 : x / 16 = 4
  case neg =>
    have hE : ipE L = 11 := by rw [hE1, if_pos (.inl a1)]
    have hD := bad _ hE (by decide)
    simp (config := {maxSteps := 3000000}) only [run_reg, run_seq, run_ret, run_cond, if_true, at_code_n, at_code_r, at_blk_r, at_fin_r, ops_nil, ops_grd, grd_tf, ops_mv, ops_pick, ops_bld, ops_store, ev_t, ev_c, put_get, put_none, opv_mk, stb_some, sto_ptr, Stp, vbld, put_box_same, put_put, args0, vpick, vload, takeV, fillV, splice, V.cells, obsOk, List.map_cons, List.map_nil, List.length_cons, List.length_nil, List.take_succ_cons, List.take_zero, List.drop_succ_cons, List.drop_zero, List.nil_append, List.append_nil, List.take_nil, List.drop_nil, and_true, true_and, Nat.reduceEqDiff, Nat.reduceAdd, Nat.reduceLT, Nat.reduceLeDiff, Nat.reduceLT, Nat.zero_add, ↓reduceIte, vret, rvAll, rvVal, resv_2, eq_self, decide_eq_true a1]
    exact ⟨_, _, Wk.refl _, (by repeat (first | exact hwf.weak | refine weak_put ?_ (by assumption))), ⟨.nil, .nil, by rw [hE, hD]; rfl⟩, rfl⟩
  by_cases a2 : H < 20
  · have hE : ipE L = 11 := by rw [hE1, if_pos (.inr (.inl a2))]
    have hD := bad _ hE (by decide)
    simp (config := {maxSteps := 3000000}) only [run_reg, run_seq, run_ret, run_cond, if_true, at_code_n, at_code_r, at_blk_r, at_fin_r, ops_nil, ops_grd, grd_ff, grd_tf, ops_mv, ops_pick, ops_bin, ops_bld, ops_store, ev_t, ev_c, put_get, put_none, opv_mk, stb_some, sto_ptr, Stp, vbld, put_box_same, put_put, args0, vpick, vbin, vbinI, vload, takeV, fillV, splice, V.cells, obsOk, List.map_cons, List.map_nil, List.length_cons, List.length_nil, List.take_succ_cons, List.take_zero, List.drop_succ_cons, List.drop_zero, List.nil_append, List.append_nil, List.take_nil, List.drop_nil, and_true, true_and, Nat.reduceEqDiff, Nat.reduceAdd, Nat.reduceLT, Nat.reduceLeDiff, Nat.reduceLT, Nat.zero_add, ↓reduceIte, vret, rvAll, rvVal, resv_2, decide_false, not_true_eq_false, eq_self, Bool.false_eq_true, a1, decide_eq_true a2]
    exact ⟨_, _, Wk.refl _, (by repeat (first | exact hwf.weak | refine weak_put ?_ (by assumption))), ⟨.nil, .nil, by rw [hE, hD]; rfl⟩, rfl⟩
  by_cases a3 : T < H
  · have hE : ipE L = 11 := by rw [hE1, if_pos (.inr (.inr a3))]
    have hD := bad _ hE (by decide)
    simp (config := {maxSteps := 3000000}) only [run_reg, run_seq, run_ret, run_cond, if_true, at_code_n, at_code_r, at_blk_r, at_fin_r, ops_nil, ops_grd, grd_ff, ops_mv, ops_pick, ops_bin, ops_bld, ops_store, ev_t, ev_c, put_get, put_none, opv_mk, stb_some, sto_ptr, Stp, vbld, put_box_same, put_put, args0, vpick, vbin, vbinI, vload, takeV, fillV, splice, V.cells, obsOk, List.map_cons, List.map_nil, List.length_cons, List.length_nil, List.take_succ_cons, List.take_zero, List.drop_succ_cons, List.drop_zero, List.nil_append, List.append_nil, List.take_nil, List.drop_nil, and_true, true_and, Nat.reduceEqDiff, Nat.reduceAdd, Nat.reduceLT, Nat.reduceLeDiff, Nat.reduceLT, Nat.zero_add, ↓reduceIte, vret, rvAll, rvVal, resv_2, decide_false, not_true_eq_false, eq_self, Bool.false_eq_true, a1, decide_eq_false a2, decide_eq_true a3]
    exact ⟨_, _, Wk.refl _, (by repeat (first | exact hwf.weak | refine weak_put ?_ (by assumption))), ⟨.nil, .nil, by rw [hE, hD]; rfl⟩, rfl⟩
  rw [if_neg (by exact fun h => h.elim (fun h => h a1) (fun h => h.elim a2 a3))] at hE1
  by_cases a4 : (L.length : Int) < T
  · have hE : ipE L = 10 := by rw [hE1, if_pos a4]
    have hD := bad _ hE (by decide)
    simp (config := {maxSteps := 3000000}) only [run_reg, run_seq, run_ret, run_cond, if_true, if_false, at_code_n, at_code_r, at_blk_r, at_fin_r, ops_nil, ops_grd, grd_ff, ops_mv, ops_pick, ops_bin, ops_len, ops_bld, ops_store, ev_t, ev_c, put_get, put_none, opv_mk, stb_some, sto_ptr, Stp, vbld, put_box_same, put_put, args0, List.getD_cons_zero, vpick, vbin, vbinI, vlen, vload, takeV, fillV, splice, V.cells, obsOk, List.map_cons, List.map_nil, List.length_cons, List.length_nil, List.take_succ_cons, List.take_zero, List.drop_succ_cons, List.drop_zero, List.nil_append, List.append_nil, List.take_nil, List.drop_nil, and_true, true_and, Nat.reduceEqDiff, Nat.reduceAdd, Nat.reduceLT, Nat.reduceLeDiff, Nat.reduceLT, Nat.zero_add, ↓reduceIte, vret, rvAll, rvVal, resv_2, decide_false, not_true_eq_false, eq_self, reduceCtorEq, Bool.false_eq_true, a1, decide_eq_false a2, decide_eq_false a3, bs_len, decide_eq_true a4]
    exact ⟨_, _, Wk.refl _, (by repeat (first | exact hwf.weak | refine weak_put ?_ (by assumption))), ⟨.nil, .nil, by rw [hE, hD]; rfl⟩, rfl⟩
  rw [if_neg a4] at hE1
  simp (config := {maxSteps := 3000000}) only [run_reg, run_seq, run_cond, if_false, at_code_n, ops_nil, ops_grd, grd_ff, ops_mv, ops_pick, ops_bin, ops_len, ops_slc, ops_call, ev_t, ev_c, put_get, opv_mk, args0, List.getD_cons_zero, vpick, vbin, vbinI, vlen, vslc, List.map_cons, List.map_nil, Option.map_some, Option.map_none, true_and, Nat.reduceEqDiff, ↓reduceIte, decide_false, not_true_eq_false, eq_self, reduceCtorEq, Bool.false_eq_true, a1, decide_eq_false a2, decide_eq_false a3, bs_len, decide_eq_false a4, bs_take, allSz_bs']
  repeat (apply And.intro; focus (first | omega | (simp; done)))
  refine Cal.mk (sumRight_v (hB.take _)) ?_
  rintro _ _ ⟨rfl, rfl⟩ -
  by_cases a5 : ckS (L.take H.toNat) = 0
  case neg =>
    have hE : ipE L = 50 := by rw [hE1, if_pos a5]
    have hD := bad _ hE (by decide)
    simp (config := {maxSteps := 3000000}) only [run_reg, run_seq, run_ret, run_cond, if_true, at_code_n, at_code_r, at_blk_r, at_fin_r, ops_nil, ops_mv, ops_un, ops_bld, ops_store, ev_t, ev_c, put_get, put_none, opv_mk, stb_some, sto_ptr, Stp, vbld, put_box_same, put_put, args0, vun, vload, takeV, fillV, splice, V.cells, obsOk, List.map_cons, List.map_nil, List.length_cons, List.length_nil, List.take_succ_cons, List.take_zero, List.drop_succ_cons, List.drop_zero, List.nil_append, List.append_nil, List.take_nil, List.drop_nil, and_true, true_and, Nat.reduceEqDiff, Nat.reduceAdd, Nat.reduceLT, Nat.reduceLeDiff, Nat.reduceLT, Nat.zero_add, ↓reduceIte, vret, rvAll, rvVal, resv_2, Bool.not_false, eq_self, decide_eq_false a5]
    exact ⟨_, _, Wk.refl _, (by repeat (first | exact hwf.weak | refine weak_put ?_ (by assumption))), ⟨.nil, .nil, by rw [hE, hD]; rfl⟩, rfl⟩
  have hE : ipE L = 0 := by rw [hE1, if_neg (by simp [a5])]
  have hD : ipD L = ipX L := if_pos hE
  simp (config := {maxSteps := 3000000}) only [run_skip, run_reg, run_seq, run_cond, if_false, at_code_n, at_blk_n, ops_nil, ops_mv, ops_un, ops_slc, ops_call, ev_t, put_get, opv_mk, args0, List.getD_cons_zero, vun, vslc, obsOk, List.map_cons, List.map_nil, Option.map_some, Option.map_none, true_and, Nat.reduceEqDiff, ↓reduceIte, Bool.not_true, eq_self, reduceCtorEq, decide_eq_true a5, bs_len, bs_take, allSz_bs']
  repeat (apply And.intro; focus (first | omega | (simp; done)))
  obtain ⟨T', rfl⟩ : ∃ n : Nat, T = n := ⟨T.toNat, by omega⟩
  rw [Int.toNat_natCast]
  have hT : T' ≤ L.length := by omega
  have hT20 : 20 ≤ T' := by omega
  have hlT : (L.take T').length = T' := by simp; omega
  refine Cal.mk New_v ?_
  rintro _ _ ⟨b, hb, rfl, rfl⟩ -
  obtain ⟨hb1, hcb⟩ : st.sz ≤ b ∧ c < b := by simp only [put_sz] at hb; omega
  clear hb
  simp (config := {maxSteps := 3000000}) only [run_reg, run_seq, at_code_n, ops_nil, ops_mv, ops_call, ev_t, put_get, opv_mk, ptrV, obsOk, List.map_cons, List.map_nil, true_and, ↓reduceIte, eq_self]
  refine Cal.mk (U8_v (by repeat (first | exact put_box_same | rw [put_box_ne (by omega)])) (by rw [hlT]; omega) (hB.take _)) ?_
  rw [rdGood1 hT (by omega)]
  rintro _ _ ⟨rfl, rfl⟩ -
  simp (config := {maxSteps := 3000000}) only [run_reg, run_seq, at_code_n, ops_nil, ops_mv, ops_call, ev_t, put_get, opv_mk, put_put, obsOk, List.map_cons, List.map_nil, true_and, Nat.reduceEqDiff, Nat.zero_add, ↓reduceIte, eq_self]
  refine Cal.mk (U8_v (by repeat (first | exact put_box_same | rw [put_box_ne (by omega)])) (by rw [hlT]; omega) (hB.take _)) ?_
  rw [rdGood1 hT (by omega)]
  rintro _ _ ⟨rfl, rfl⟩ -
  simp (config := {maxSteps := 3000000}) only [run_reg, run_seq, at_code_n, ops_nil, ops_mv, ops_bld, ops_alc, ops_store, ops_call, ev_t, put_get, put_none, opv_mk, stb_some, sto_ptr, Stp, vbld, put_box_same, put_sz, put_put, fillV, splice, V.cells, ptrV, obsOk, List.map_cons, List.map_nil, List.length_cons, List.length_nil, List.take_zero, List.drop_succ_cons, List.drop_zero, List.cons_append, List.nil_append, List.append_nil, List.drop_nil, and_true, true_and, Nat.reduceEqDiff, Nat.reduceAdd, Nat.reduceLT, Nat.reduceLeDiff, Nat.reduceLT, Nat.zero_add, ↓reduceIte, eq_self]
  intro d hd
  obtain ⟨hd1, hcd, hbd⟩ : st.sz ≤ d ∧ c < d ∧ b < d := by omega
  clear hd
  refine Cal.mk (U16_v (by repeat (first | exact put_box_same | rw [put_box_ne (by omega)])) (by rw [hlT]; omega) (hB.take _)) ?_
  rw [rdGood2 hT (by omega)]
  rintro _ _ ⟨rfl, rfl⟩ -
  simp (config := {maxSteps := 3000000}) only [run_reg, run_seq, at_code_n, ops_nil, ops_mv, ops_call, ev_t, put_get, opv_mk, obsOk, List.map_cons, List.map_nil, true_and, Nat.reduceEqDiff, Nat.reduceAdd, ↓reduceIte, eq_self]
  refine Cal.mk (U16_v (by repeat (first | exact put_box_same | rw [put_box_ne (by omega)])) (by rw [hlT]; omega) (hB.take _)) ?_
  rw [rdGood2 hT (by omega)]
  rintro _ _ ⟨rfl, rfl⟩ -
  simp (config := {maxSteps := 3000000}) only [ops_mv, ops_call, ev_t, put_get, opv_mk, put_put, obsOk, List.map_cons, List.map_nil, true_and, Nat.reduceEqDiff, Nat.reduceAdd, ↓reduceIte, eq_self]
  refine Cal.mk (U16_v (by repeat (first | exact put_box_same | rw [put_box_ne (by omega)])) (by rw [hlT]; omega) (hB.take _)) ?_
  rw [rdGood2 hT (by omega)]
  rintro _ _ ⟨rfl, rfl⟩ -
  simp (config := {maxSteps := 3000000}) only [run_reg, run_seq, at_code_n, ops_nil, ops_mv, ops_fld, ops_store, ops_call, ev_t, put_get, put_none, opv_mk, stb_some, sto_ptr, Stp, put_box_same, put_put, vfld, splice, V.cells, obsOk, List.map_cons, List.map_nil, List.length_cons, List.length_nil, List.take_succ_cons, List.take_zero, List.drop_succ_cons, List.drop_zero, List.cons_append, List.nil_append, true_and, Nat.reduceEqDiff, Nat.reduceAdd, Nat.reduceLT, Nat.reduceLeDiff, Nat.reduceLT, Nat.zero_add, ↓reduceIte, eq_self, put_box_ne (Nat.ne_of_gt hbd)]
  refine Cal.mk (U8_v (by repeat (first | exact put_box_same | rw [put_box_ne (by omega)])) (by rw [hlT]; omega) (hB.take _)) ?_
  rw [rdGood1 hT (by omega)]
  rintro _ _ ⟨rfl, rfl⟩ -
  simp (config := {maxSteps := 3000000}) only [ops_mv, ops_call, ev_t, put_get, opv_mk, obsOk, List.map_cons, List.map_nil, true_and, Nat.reduceEqDiff, Nat.reduceAdd, ↓reduceIte, eq_self]
  refine Cal.mk (U8_v (by repeat (first | exact put_box_same | rw [put_box_ne (by omega)])) (by rw [hlT]; omega) (hB.take _)) ?_
  rw [rdGood1 hT (by omega)]
  rintro _ _ ⟨rfl, rfl⟩ -
  simp (config := {maxSteps := 3000000}) only [run_reg, run_seq, at_code_n, ops_nil, ops_mv, ops_fld, ops_store, ops_call, ev_t, put_get, put_none, opv_mk, stb_some, sto_ptr, Stp, put_box_same, put_put, vfld, splice, V.cells, obsOk, List.map_cons, List.map_nil, List.length_cons, List.length_nil, List.take_succ_cons, List.take_zero, List.drop_succ_cons, List.drop_zero, List.cons_append, List.nil_append, true_and, Nat.reduceEqDiff, Nat.reduceAdd, Nat.reduceLT, Nat.reduceLeDiff, Nat.reduceLT, Nat.zero_add, ↓reduceIte, eq_self, put_box_ne (Nat.ne_of_gt hbd)]
  refine Cal.mk (U16_v (by repeat (first | exact put_box_same | rw [put_box_ne (by omega)])) (by rw [hlT]; omega) (hB.take _)) ?_
  rw [rdGood2 hT (by omega)]
  rintro _ _ ⟨rfl, rfl⟩ -
  simp (config := {maxSteps := 3000000}) only [run_reg, run_seq, at_code_n, ops_nil, ops_mv, ops_call, ev_t, put_get, opv_mk, obsOk, List.map_cons, List.map_nil, true_and, Nat.reduceEqDiff, Nat.reduceAdd, ↓reduceIte, eq_self]
  refine Cal.mk (U32_v (by repeat (first | exact put_box_same | rw [put_box_ne (by omega)])) (by rw [hlT]; omega) (hB.take _)) ?_
  rw [rdGood4 hT (by omega)]
  rintro _ _ ⟨rfl, rfl⟩ -
  simp (config := {maxSteps := 3000000}) only [ops_mv, ops_call, ev_t, put_get, opv_mk, put_put, obsOk, List.map_cons, List.map_nil, true_and, Nat.reduceEqDiff, Nat.reduceAdd, ↓reduceIte, eq_self]
  refine Cal.mk (U32_v (by repeat (first | exact put_box_same | rw [put_box_ne (by omega)])) (by rw [hlT]; omega) (hB.take _)) ?_
  rw [rdGood4 hT (by omega)]
  rintro _ _ ⟨rfl, rfl⟩ -
  simp (config := {maxSteps := 3000000}) only [run_reg, run_seq, at_code_n, ops_nil, ops_mv, ops_bin, ops_fld, ops_store, ops_call, ev_t, ev_c, put_get, put_none, opv_mk, stb_some, sto_ptr, Stp, put_box_same, put_put, vbin, vbinI, norm, vfld, splice, V.cells, obsOk, List.map_cons, List.map_nil, List.length_cons, List.length_nil, List.take_succ_cons, List.take_zero, List.drop_succ_cons, List.drop_zero, List.cons_append, List.nil_append, true_and, Nat.reduceEqDiff, Nat.reduceAdd, Nat.reduceLT, Nat.reduceLeDiff, Nat.reduceLT, Int.reduceNeg, Nat.zero_add, ↓reduceIte, eq_self, put_box_ne (Nat.ne_of_gt hbd)]
  repeat (apply And.intro; focus (first | omega | (simp; done)))
  refine Cal.mk (Take_v (by repeat (first | exact put_box_same | rw [put_box_ne (by omega)])) (by rw [hlT]; omega) (by rw [hlT]; omega) _) ?_
  rw [tkGood hT (by omega) (by omega)]
  rintro _ _ ⟨rfl, rfl⟩ -
  rw [show (20 + (H - 20).toNat : Nat) = H.toNat by omega]
  simp (config := {maxSteps := 3000000}) only [run_reg, run_seq, at_code_n, ops_nil, ops_mv, ops_fld, ops_store, ops_call, ev_t, put_get, put_none, opv_mk, stb_some, sto_ptr, Stp, put_box_same, vfld, splice, V.cells, obsOk, List.map_cons, List.map_nil, List.length_cons, List.length_nil, List.take_succ_cons, List.take_zero, List.drop_succ_cons, List.drop_zero, List.cons_append, List.nil_append, true_and, Nat.reduceEqDiff, Nat.reduceAdd, Nat.reduceLT, Nat.reduceLeDiff, Nat.reduceLT, Nat.zero_add, ↓reduceIte, eq_self, put_box_ne (Nat.ne_of_gt hbd)]
  refine Cal.mk (Rest_v (by repeat (first | exact put_box_same | rw [put_box_ne (by omega)])) (by rw [hlT]; omega) (by rw [hlT]; omega)) ?_
  rw [hlT, tkGood hT (by omega) (by omega)]
  rintro _ _ ⟨rfl, rfl⟩ -
  simp (config := {maxSteps := 3000000}) only [run_reg, run_seq, run_ret, at_code_n, at_fin_r, ops_nil, ops_mv, ops_fld, ops_load, ops_store, ev_t, ev_c, put_get, put_none, opv_mk, stb_some, sto_ptr, Stp, put_box_same, args0, vfld, vload, takeV, splice, V.cells, obsOk, List.map_cons, List.map_nil, List.length_cons, List.length_nil, List.take_succ_cons, List.take_zero, List.drop_succ_cons, List.drop_zero, List.cons_append, List.nil_append, List.append_nil, List.take_nil, List.drop_nil, and_true, true_and, Nat.reduceEqDiff, Nat.reduceAdd, Nat.reduceLT, Nat.reduceLeDiff, Nat.reduceLT, Nat.zero_add, ↓reduceIte, vret, rvAll, rvVal, resv_2, eq_self, put_box_ne (Nat.ne_of_lt hcb), put_box_ne (Nat.ne_of_lt hcd), put_box_ne (Nat.ne_of_gt hbd)]
  have f1 : (H - 20).toNat = H.toNat - 20 := by omega
  have f2 : ((T' : Int) - (H.toNat : Int)).toNat = T' - H.toNat := by omega
  exact ⟨_, _, Wk.refl _, (by repeat (first | exact hwf.weak | refine weak_put ?_ (by assumption))), ⟨.no, .no, by rw [hE, hD]; simp only [ipX, DG.v, hHH, hTT, Int.toNat_natCast, f1, f2]⟩, rfl⟩
end
end Go.Proofs.Ytbmkohmhiafphaa
