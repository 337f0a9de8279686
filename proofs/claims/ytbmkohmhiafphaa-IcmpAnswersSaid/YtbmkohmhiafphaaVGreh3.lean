/- catwalkref11: Parse. (Printed by tools/gen_greh3.py.) -/
import Derived.Test.YtbmkohmhiafphaaVGreh2
namespace Go.Proofs.Ytbmkohmhiafphaa
open Go

section
variable {tk tk' : Tk} {st : St} {L : List Int}
theorem drop_take1 : (L.take 4).drop 2 = (L.drop 2).take 2 := by rw [List.drop_take]
theorem drop_take2 : (L.take 6).drop 4 = (L.drop 4).take 2 := by rw [List.drop_take]
theorem drop_take3 : (L.take 8).drop 6 = (L.drop 6).take 2 := by rw [List.drop_take]
theorem refParse_v (hB : IsB L) (hL : L.length ≤ 1000000000000) : VCalls Try.prog 27 [.sl tk (bs L)] st fun r st' => (∃ tk', r = .tup [(grehD L).v tk', .sc (.int .i64 (grehE L))]) ∧ st = st' := by
  refine vcalls_enter vc27 (Nat.le_of_ble_eq_true rfl) fun hwf hok => ?_
  show Run _ Vc27.body (.fin (finQ Vc27.res _)) _ _
  unfold Vc27
  simp (config := {maxSteps := 3000000}) only [run_reg, run_seq, run_cond, at_code_n, ops_nil, ops_mv, ops_bin, ops_len, ops_bld, ops_alc, ops_store, ev_t, ev_c, put_get, put_none, opv_mk, stb_some, sto_ptr, Stp, vbld, put_box_same, put_sz, put_put, args0, List.getD_cons_zero, vbin, vbinI, vlen, fillV, splice, V.cells, ptrV, obsOk, List.map_nil, List.length_cons, List.length_nil, List.take_zero, List.drop_succ_cons, List.nil_append, List.append_nil, List.drop_nil, true_and, Nat.reduceEqDiff, Nat.reduceAdd, Nat.reduceLT, Nat.reduceLeDiff, Nat.reduceLT, Nat.zero_add, ↓reduceIte, eq_self, reduceCtorEq]
  intro c hc d hd
  obtain ⟨hd1, hcd⟩ : st.sz ≤ d ∧ c < d := by omega
  clear hd
  repeat (apply And.intro; focus (first | omega | (simp; done)))
  by_cases h8 : L.length < 8
  · have hE : grehE L = 10 := if_pos h8
    have hD : grehD L = ⟨0, false, 0, false, 0, []⟩ := if_neg (by rw [hE]; decide)
    simp (config := {maxSteps := 3000000}) only [run_reg, run_seq, run_ret, if_true, at_code_n, at_code_r, at_fin_r, ops_nil, ops_mv, ops_load, ops_store, ev_t, ev_c, put_get, put_none, opv_mk, stb_some, sto_ptr, Stp, put_box_same, args0, vload, takeV, splice, V.cells, obsOk, List.map_cons, List.map_nil, List.length_cons, List.length_nil, List.take_succ_cons, List.take_zero, List.drop_succ_cons, List.drop_zero, List.nil_append, List.append_nil, List.take_nil, List.drop_nil, and_true, true_and, Nat.reduceEqDiff, Nat.reduceAdd, Nat.reduceLT, Nat.reduceLeDiff, Nat.reduceLT, Nat.zero_add, ↓reduceIte, vret, rvAll, rvVal, resv_2, eq_self, put_box_ne (Nat.ne_of_lt hcd), bs_len, decide_eq_true (show (L.length : Int) < 8 by omega)]
    exact ⟨_, _, Wk.refl _, (by repeat (first | exact hwf.weak | refine weak_put ?_ (by assumption))), ⟨.nil, by rw [hE, hD]; rfl⟩, rfl⟩
  obtain ⟨u1, v1⟩ := num2 hB 0
  obtain ⟨u2, v2⟩ := num2 hB 2
  obtain ⟨u3, v3⟩ := num2 hB 4
  obtain ⟨u4, v4⟩ := num2 hB 6
  rw [List.drop_zero] at u1 v1
  simp (config := {maxSteps := 3000000}) only [run_skip, run_reg, run_seq, if_false, at_code_n, ops_mv, ops_slc, ops_call, ev_t, ev_c, put_get, opv_mk, args0, List.getD_cons_zero, vslc, List.map_cons, List.map_nil, Option.map_some, Option.map_none, true_and, Int.reduceToNat, Int.reduceLE, ↓reduceIte, eq_self, reduceCtorEq, bs_len, bs_take, allSz_bs', decide_eq_false (show ¬ (L.length : Int) < 8 by omega)]
  repeat (apply And.intro; focus (first | omega | (simp; done)))
  refine Cal.mk (rNum_v (hB.take _) (by simp; omega)) ?_
  rintro _ _ ⟨rfl, rfl⟩ -
  have q2 := rNum_v (tk := .no) (L := (L.drop 2).take 2) (st := (st.put c [.sc (.int .u16 0), .sc (.bool false), .sc (.int .u32 0), .sc (.bool false), .sc (.int .u32 0), .sl .nil []]).put d [.sc (.int .u16 0), .sc (.bool false), .sc (.int .u32 0), .sc (.bool false), .sc (.int .u32 0), .sl .nil []]) ((hB.drop _).take _) (by simp; omega)
  have q3 := rNum_v (tk := .no) (L := (L.drop 4).take 2) (st := (st.put c [.sc (.int .u16 0), .sc (.bool false), .sc (.int .u32 0), .sc (.bool false), .sc (.int .u32 0), .sl .nil []]).put d [.sc (.int .u16 0), .sc (.bool false), .sc (.int .u32 0), .sc (.bool false), .sc (.int .u32 0), .sl .nil []]) ((hB.drop _).take _) (by simp; omega)
  have q4 := rNum_v (tk := .no) (L := (L.drop 6).take 2) (st := (st.put c [.sc (.int .u16 0), .sc (.bool false), .sc (.int .u32 0), .sc (.bool false), .sc (.int .u32 0), .sl .nil []]).put d [.sc (.int .u16 0), .sc (.bool false), .sc (.int .u32 0), .sc (.bool false), .sc (.int .u32 0), .sl .nil []]) ((hB.drop _).take _) (by simp; omega)
  generalize w1 : numL (L.take 2) = x1 at u1 v1 q2 q3 q4 ⊢
  generalize w2 : numL ((L.drop 2).take 2) = x2 at u2 v2 q2 q3 q4 ⊢
  generalize w3 : numL ((L.drop 4).take 2) = x3 at u3 v3 q2 q3 q4 ⊢
  generalize w4 : numL ((L.drop 6).take 2) = x4 at u4 v4 q2 q3 q4 ⊢
  by_cases hh : gHead L = true
  · have hp : x2 = 34827 := by simp [gHead, gP, w2] at hh; exact hh.2
    have hn : x1 = 8193 ∨ x1 = 8321 ∨ x1 = 12289 ∨ x1 = 12417 := by simp [gHead, gN, w1] at hh; exact hh.1
    have hN : gN L = x1 := w1
    have hZ : gZ L = x3 := w3
    have hC : gC L = x4 := w4
    rcases hn with hn | hn | hn | hn
    all_goals subst hn hp
    · have hS : gS L = false := by simp [gS, hN]
      have hA : gA L = false := by simp [gA, hN]
      have hA1 : gAt1 L = 8 := by simp [gAt1, hS]
      have hA2 : gAt2 L = 8 := by simp [gAt2, gAt1, hS, hA]
      simp (config := {maxSteps := 3000000}) only [run_reg, run_seq, at_code_n, ops_nil, ops_grd, grd_ff, grd_ft, ops_mv, ops_pick, ops_bin, ops_slc, ops_call, ev_t, ev_c, put_get, opv_mk, args0, List.getD_cons_zero, vpick, vbin, vbinI, vslc, obsOk, List.map_cons, List.map_nil, Option.map_some, true_and, Nat.reduceEqDiff, Int.reduceToNat, Int.reduceLE, ↓reduceIte, decide_false, ne_eq, not_true_eq_false, eq_self, reduceCtorEq, Bool.false_eq_true, bs_len, bs_take, bs_drop, allSz_bs', drop_take1]
      repeat (apply And.intro; focus (first | omega | (simp; done)))
      refine Cal.mk q2 ?_
      rintro _ _ ⟨rfl, rfl⟩ -
      simp (config := {maxSteps := 3000000}) only [run_skip, run_reg, run_seq, run_cond, if_false, at_code_n, ops_nil, ops_grd, grd_ff, ops_mv, ops_pick, ops_bin, ops_slc, ops_call, ev_t, ev_c, put_get, opv_mk, args0, List.getD_cons_zero, vpick, vbin, vbinI, vslc, obsOk, List.map_cons, List.map_nil, Option.map_some, true_and, Nat.reduceEqDiff, Int.reduceToNat, Int.reduceLE, ↓reduceIte, decide_false, ne_eq, not_true_eq_false, eq_self, reduceCtorEq, Bool.false_eq_true, bs_len, bs_take, bs_drop, allSz_bs', drop_take2]
      repeat (apply And.intro; focus (first | omega | (simp; done)))
      refine Cal.mk q3 ?_
      rintro _ _ ⟨rfl, rfl⟩ -
      simp (config := {maxSteps := 3000000}) only [run_reg, run_seq, at_code_n, ops_nil, ops_mv, ops_conv, ops_slc, ops_call, ev_t, ev_c, put_get, opv_mk, args0, List.getD_cons_zero, vconv, norm, vslc, obsOk, List.map_cons, List.map_nil, Option.map_some, true_and, Int.reduceToNat, Int.reduceLE, Int.reduceNeg, ↓reduceIte, eq_self, reduceCtorEq, bs_len, bs_take, bs_drop, allSz_bs', drop_take3]
      repeat (apply And.intro; focus (first | omega | (simp; done)))
      refine Cal.mk q4 ?_
      rintro _ _ ⟨rfl, rfl⟩ -
      simp (config := {maxSteps := 3000000}) only [run_skip, run_reg, run_seq, run_cond, if_false, at_code_n, ops_nil, ops_grd, grd_ff, ops_mv, ops_pick, ops_bin, ops_conv, ops_fld, ops_load, ops_len, ops_bld, ops_slc, ops_alc, ops_store, ev_t, ev_c, put_get, put_none, opv_mk, stb_some, sto_ptr, Stp, vbld, put_box_same, put_sz, put_put, args0, List.getD_cons_zero, vpick, vbin, vbinI, vconv, norm, vfld, vlen, vload, takeV, vslc, fillV, splice, V.cells, ptrV, obsOk, List.map_cons, List.map_nil, List.length_cons, List.length_nil, List.getElem?_cons_zero, List.getElem?_cons_succ, List.take_succ_cons, List.take_zero, List.drop_succ_cons, List.drop_zero, List.cons_append, List.nil_append, List.append_nil, List.drop_nil, Option.map_some, Option.map_none, and_true, true_and, Nat.reduceEqDiff, Nat.reduceAdd, Nat.reduceLT, Nat.reduceLeDiff, Nat.reduceLT, Int.reduceToNat, Int.reduceLE, Int.reduceEq, Nat.zero_add, ↓reduceIte, decide_false, eq_self, reduceCtorEq, Bool.false_eq_true, bs_len, bs_drop, allSz_bs', List.length_drop, emod_small u4 v4]
      intro e he
      obtain ⟨he1, hce, hde⟩ : st.sz ≤ e ∧ c < e ∧ d < e := by omega
      clear he
      repeat (apply And.intro; focus (first | omega | (simp; done)))
      by_cases h1 : (L.length : Int) - 8 < x3
      · have hE : grehE L = 10 := by simp only [grehE, hh, hA2, hZ, hS]; rw [if_neg h8, if_neg (by decide), if_pos (by omega)]
        have hD : grehD L = ⟨0, false, 0, false, 0, []⟩ := if_neg (by rw [hE]; decide)
        simp (config := {maxSteps := 3000000}) only [run_reg, run_seq, run_ret, if_true, at_code_n, at_code_r, at_fin_r, ops_nil, ops_mv, ops_load, ops_store, ev_t, ev_c, put_get, put_none, opv_mk, stb_some, sto_ptr, Stp, put_box_same, args0, vload, takeV, splice, V.cells, obsOk, List.map_cons, List.map_nil, List.length_cons, List.length_nil, List.take_succ_cons, List.take_zero, List.drop_succ_cons, List.drop_zero, List.nil_append, List.append_nil, List.take_nil, List.drop_nil, and_true, true_and, Nat.reduceEqDiff, Nat.reduceAdd, Nat.reduceLT, Nat.reduceLeDiff, Nat.reduceLT, Nat.zero_add, ↓reduceIte, vret, rvAll, rvVal, resv_2, eq_self, reduceCtorEq, put_box_ne (Nat.ne_of_lt hcd), put_box_ne (Nat.ne_of_lt hce), put_box_ne (Nat.ne_of_lt hde), decide_eq_true (show ((L.length - 8 : Nat) : Int) < x3 by omega)]
        exact ⟨_, _, Wk.refl _, (by repeat (first | exact hwf.weak | refine weak_put ?_ (by assumption))), ⟨.nil, by rw [hE, hD]; rfl⟩, rfl⟩
      by_cases h2 : x3 < (L.length : Int) - 8
      · have hE : grehE L = 11 := by simp only [grehE, hh, hA2, hZ, hS]; rw [if_neg h8, if_neg (by decide), if_neg (by omega), if_pos (.inl (by omega))]
        have hD : grehD L = ⟨0, false, 0, false, 0, []⟩ := if_neg (by rw [hE]; decide)
        simp (config := {maxSteps := 3000000}) only [run_skip, run_reg, run_seq, run_ret, run_cond, if_true, if_false, at_code_n, at_code_r, at_fin_r, ops_nil, ops_grd, grd_tf, ops_mv, ops_pick, ops_bin, ops_load, ops_len, ops_store, ev_t, ev_c, put_get, put_none, opv_mk, stb_some, sto_ptr, Stp, put_box_same, args0, vpick, vbin, vbinI, vlen, vload, takeV, splice, V.cells, obsOk, List.map_cons, List.map_nil, List.length_cons, List.length_nil, List.take_succ_cons, List.take_zero, List.drop_succ_cons, List.drop_zero, List.nil_append, List.append_nil, List.take_nil, List.drop_nil, and_true, true_and, Nat.reduceEqDiff, Nat.reduceAdd, Nat.reduceLT, Nat.reduceLeDiff, Nat.reduceLT, Nat.zero_add, ↓reduceIte, vret, rvAll, rvVal, resv_2, eq_self, reduceCtorEq, put_box_ne (Nat.ne_of_lt hcd), put_box_ne (Nat.ne_of_lt hce), put_box_ne (Nat.ne_of_lt hde), bs_len, List.length_drop, decide_eq_false (show ¬ ((L.length - 8 : Nat) : Int) < x3 by omega), decide_eq_true (show x3 < ((L.length - 8 : Nat) : Int) by omega)]
        exact ⟨_, _, Wk.refl _, (by repeat (first | exact hwf.weak | refine weak_put ?_ (by assumption))), ⟨.nil, by rw [hE, hD]; rfl⟩, rfl⟩
      by_cases h3 : 0 < x3
      · have hE : grehE L = 11 := by simp only [grehE, hh, hA2, hZ, hS]; rw [if_neg h8, if_neg (by decide), if_neg (by omega), if_pos (.inr (by simp; omega))]
        have hD : grehD L = ⟨0, false, 0, false, 0, []⟩ := if_neg (by rw [hE]; decide)
        simp (config := {maxSteps := 3000000}) only [run_skip, run_reg, run_seq, run_ret, run_cond, if_true, if_false, at_code_n, at_code_r, at_fin_r, ops_nil, ops_grd, grd_ff, ops_mv, ops_pick, ops_bin, ops_binb, vbinb, ops_fld, ops_load, ops_len, ops_store, ev_t, ev_c, put_get, put_none, opv_mk, stb_some, sto_ptr, Stp, put_box_same, args0, vpick, vbin, vbinI, vfld, vlen, vload, takeV, splice, V.cells, obsOk, List.map_cons, List.map_nil, List.length_cons, List.length_nil, List.getElem?_cons_zero, List.getElem?_cons_succ, List.take_succ_cons, List.take_zero, List.drop_succ_cons, List.drop_zero, List.nil_append, List.append_nil, List.take_nil, List.drop_nil, and_true, true_and, Nat.reduceEqDiff, Nat.reduceAdd, Nat.reduceLT, Nat.reduceLeDiff, Nat.reduceLT, Nat.zero_add, ↓reduceIte, vret, rvAll, rvVal, resv_2, Bool.not_false, eq_self, reduceCtorEq, Bool.false_eq_true, put_box_ne (Nat.ne_of_lt hcd), put_box_ne (Nat.ne_of_lt hce), put_box_ne (Nat.ne_of_lt hde), bs_len, List.length_drop, beqT, decide_eq_false (show ¬ ((L.length - 8 : Nat) : Int) < x3 by omega), decide_eq_false (show ¬ x3 < ((L.length - 8 : Nat) : Int) by omega), decide_eq_true h3]
        exact ⟨_, _, Wk.refl _, (by repeat (first | exact hwf.weak | refine weak_put ?_ (by assumption))), ⟨.nil, by rw [hE, hD]; rfl⟩, rfl⟩
      · have hE : grehE L = 0 := by simp only [grehE, hh, hA2, hZ, hS]; rw [if_neg h8, if_neg (by decide), if_neg (by omega), if_neg (by simp; omega)]
        have hD : grehD L = grehT L := if_pos hE
        simp (config := {maxSteps := 3000000}) only [run_skip, run_reg, run_seq, run_cond, if_false, at_code_n, ops_nil, ops_grd, grd_ff, ops_mv, ops_pick, ops_bin, ops_binb, vbinb, ops_fld, ops_load, ops_len, ops_app, ev_t, ev_c, put_get, opv_mk, put_box_same, vpick, vbin, vbinI, vfld, vlen, vload, takeV, V.cells, List.length_cons, List.length_nil, List.getElem?_cons_zero, List.getElem?_cons_succ, true_and, Nat.reduceEqDiff, Nat.zero_add, ↓reduceIte, Bool.not_true, Bool.not_false, eq_self, reduceCtorEq, Bool.false_eq_true, bs_len, List.length_drop, beqF, decide_eq_false (show ¬ ((L.length - 8 : Nat) : Int) < x3 by omega), decide_eq_false (show ¬ x3 < ((L.length - 8 : Nat) : Int) by omega), decide_eq_false h3]
        refine App.mk Own.nil (allSz_bs _) (by simp [bs_len, maxLen]; omega) (by simp [bs_len]; omega) ?_
        intro r s k1 k2
        rw [List.nil_append] at k1
        obtain ⟨tk1, rfl⟩ := k1.sl
        simp (config := {maxSteps := 3000000}) only [run_reg, run_seq, run_ret, at_code_n, at_fin_r, ops_nil, ops_mv, ops_fld, ops_load, ops_store, ev_t, ev_c, put_get, put_none, opv_mk, stb_some, sto_ptr, Stp, put_box_same, args0, vfld, vload, takeV, splice, V.cells, obsOk, List.map_cons, List.map_nil, List.length_cons, List.length_nil, List.take_succ_cons, List.take_zero, List.drop_succ_cons, List.drop_zero, List.cons_append, List.nil_append, List.append_nil, List.take_nil, List.drop_nil, and_true, true_and, Nat.reduceEqDiff, Nat.reduceAdd, Nat.reduceLT, Nat.reduceLeDiff, Nat.reduceLT, Nat.zero_add, ↓reduceIte, vret, rvAll, rvVal, resv_2, eq_self, reduceCtorEq, put_box_ne (Nat.ne_of_lt hcd), put_box_ne (Nat.ne_of_lt hce), k2.box]
        exact ⟨_, _, Wk.refl _, weak_put (weak_put (k2.keeps (by repeat (first | exact hwf.weak | refine weak_put ?_ (by assumption))) (fun g k l e => by cases e)) he1) hc, ⟨tk1, by rw [hE, hD]; simp only [grehT, TD.v, hS, hA, hA2, hC, ↓reduceIte, Bool.false_eq_true]⟩, rfl⟩
    · have hS : gS L = false := by simp [gS, hN]
      have hA : gA L = true := by simp [gA, hN]
      have hA1 : gAt1 L = 8 := by simp [gAt1, hS]
      have hA2 : gAt2 L = 12 := by simp [gAt2, gAt1, hS, hA]
      simp (config := {maxSteps := 3000000}) only [run_reg, run_seq, at_code_n, ops_nil, ops_grd, grd_tt, grd_ff, grd_ft, ops_mv, ops_pick, ops_bin, ops_slc, ops_call, ev_t, ev_c, put_get, opv_mk, args0, List.getD_cons_zero, vpick, vbin, vbinI, vslc, obsOk, List.map_cons, List.map_nil, Option.map_some, true_and, Nat.reduceEqDiff, Int.reduceToNat, Int.reduceLE, Int.reduceEq, ↓reduceIte, decide_true, decide_false, ne_eq, not_true_eq_false, not_false_eq_true, eq_self, reduceCtorEq, Bool.false_eq_true, bs_len, bs_take, bs_drop, allSz_bs', drop_take1]
      repeat (apply And.intro; focus (first | omega | (simp; done)))
      refine Cal.mk q2 ?_
      rintro _ _ ⟨rfl, rfl⟩ -
      simp (config := {maxSteps := 3000000}) only [run_skip, run_reg, run_seq, run_cond, if_false, at_code_n, ops_nil, ops_grd, grd_ff, ops_mv, ops_pick, ops_bin, ops_slc, ops_call, ev_t, ev_c, put_get, opv_mk, args0, List.getD_cons_zero, vpick, vbin, vbinI, vslc, obsOk, List.map_cons, List.map_nil, Option.map_some, true_and, Nat.reduceEqDiff, Int.reduceToNat, Int.reduceLE, ↓reduceIte, decide_false, ne_eq, not_true_eq_false, eq_self, reduceCtorEq, Bool.false_eq_true, bs_len, bs_take, bs_drop, allSz_bs', drop_take2]
      repeat (apply And.intro; focus (first | omega | (simp; done)))
      refine Cal.mk q3 ?_
      rintro _ _ ⟨rfl, rfl⟩ -
      simp (config := {maxSteps := 3000000}) only [run_reg, run_seq, at_code_n, ops_nil, ops_mv, ops_conv, ops_slc, ops_call, ev_t, ev_c, put_get, opv_mk, args0, List.getD_cons_zero, vconv, norm, vslc, obsOk, List.map_cons, List.map_nil, Option.map_some, true_and, Int.reduceToNat, Int.reduceLE, Int.reduceNeg, ↓reduceIte, eq_self, reduceCtorEq, bs_len, bs_take, bs_drop, allSz_bs', drop_take3]
      repeat (apply And.intro; focus (first | omega | (simp; done)))
      refine Cal.mk q4 ?_
      rintro _ _ ⟨rfl, rfl⟩ -
      simp (config := {maxSteps := 3000000}) only [run_skip, run_reg, run_seq, run_cond, if_true, if_false, at_code_n, ops_nil, ops_grd, grd_tf, ops_mv, ops_pick, ops_bin, ops_conv, ops_fld, ops_load, ops_len, ops_bld, ops_slc, ops_alc, ops_store, ev_t, ev_c, put_get, put_none, opv_mk, stb_some, sto_ptr, Stp, vbld, put_box_same, put_sz, put_put, args0, List.getD_cons_zero, vpick, vbin, vbinI, vconv, norm, vfld, vlen, vload, takeV, vslc, fillV, splice, V.cells, ptrV, obsOk, List.map_cons, List.map_nil, List.length_cons, List.length_nil, List.getElem?_cons_zero, List.getElem?_cons_succ, List.take_succ_cons, List.take_zero, List.drop_succ_cons, List.drop_zero, List.cons_append, List.nil_append, List.append_nil, List.drop_nil, Option.map_some, Option.map_none, and_true, true_and, Nat.reduceEqDiff, Nat.reduceAdd, Nat.reduceLT, Nat.reduceLeDiff, Nat.reduceLT, Int.reduceToNat, Int.reduceLE, Nat.zero_add, ↓reduceIte, decide_true, decide_false, eq_self, reduceCtorEq, bs_len, bs_drop, allSz_bs', List.length_drop, emod_small u4 v4]
      intro e he
      obtain ⟨he1, hce, hde⟩ : st.sz ≤ e ∧ c < e ∧ d < e := by omega
      clear he
      repeat (apply And.intro; focus (first | omega | (simp; done)))
      by_cases hk0 : L.length < 12
      · have hE : grehE L = 10 := by simp only [grehE, hh, hA2, hZ, hS]; rw [if_neg h8, if_neg (by decide), if_pos (by omega)]
        have hD : grehD L = ⟨0, false, 0, false, 0, []⟩ := if_neg (by rw [hE]; decide)
        simp (config := {maxSteps := 3000000}) only [run_reg, run_seq, run_ret, if_true, at_code_n, at_code_r, at_fin_r, ops_nil, ops_mv, ops_load, ops_store, ev_t, ev_c, put_get, put_none, opv_mk, stb_some, sto_ptr, Stp, put_box_same, args0, vload, takeV, splice, V.cells, obsOk, List.map_cons, List.map_nil, List.length_cons, List.length_nil, List.take_succ_cons, List.take_zero, List.drop_succ_cons, List.drop_zero, List.nil_append, List.append_nil, List.take_nil, List.drop_nil, and_true, true_and, Nat.reduceEqDiff, Nat.reduceAdd, Nat.reduceLT, Nat.reduceLeDiff, Nat.reduceLT, Nat.zero_add, ↓reduceIte, vret, rvAll, rvVal, resv_2, eq_self, reduceCtorEq, put_box_ne (Nat.ne_of_lt hcd), put_box_ne (Nat.ne_of_lt hce), put_box_ne (Nat.ne_of_lt hde), decide_eq_true (show ((L.length - 8 : Nat) : Int) < 4 by omega)]
        repeat (apply And.intro; focus (first | omega | (simp; done)))
        exact ⟨_, _, Wk.refl _, (by repeat (first | exact hwf.weak | refine weak_put ?_ (by assumption))), ⟨.nil, by rw [hE, hD]; rfl⟩, rfl⟩
      simp (config := {maxSteps := 3000000}) only [run_skip, run_reg, run_seq, if_false, at_code_n, ops_mv, ops_slc, ops_call, ev_t, ev_c, put_get, opv_mk, vslc, List.map_cons, List.map_nil, Option.map_some, Option.map_none, true_and, Int.reduceToNat, Int.reduceLE, ↓reduceIte, eq_self, reduceCtorEq, bs_len, bs_take, allSz_bs', List.length_drop, decide_eq_false (show ¬ ((L.length - 8 : Nat) : Int) < 4 by omega)]
      repeat (apply And.intro; focus (first | omega | (simp; done)))
      refine Cal.mk (rNum_v ((hB.drop _).take _) (by simp; omega)) ?_
      rintro _ _ ⟨rfl, rfl⟩ -
      obtain ⟨u5, v5⟩ := num4 hB 8
      generalize w5 : numL ((L.drop 8).take 4) = x5 at u5 v5 ⊢
      simp (config := {maxSteps := 3000000}) only [run_reg, run_seq, run_cond, at_code_n, ops_nil, ops_mv, ops_bin, ops_conv, ops_fld, ops_len, ops_slc, ops_store, ev_t, ev_c, put_get, put_none, opv_mk, stb_some, sto_ptr, Stp, put_box_same, put_put, vbin, vbinI, vconv, norm, vfld, vlen, vslc, splice, V.cells, obsOk, List.length_cons, List.length_nil, List.take_succ_cons, List.take_zero, List.drop_succ_cons, List.drop_zero, List.cons_append, List.nil_append, Option.map_some, Option.map_none, true_and, Nat.reduceEqDiff, Nat.reduceAdd, Nat.reduceLT, Nat.reduceLeDiff, Nat.reduceLT, Int.reduceToNat, Int.reduceLE, Nat.zero_add, ↓reduceIte, eq_self, reduceCtorEq, bs_len, bs_drop, allSz_bs', List.drop_drop, List.length_drop, emod_small u5 v5]
      repeat (apply And.intro; focus (first | omega | (simp; done)))
      by_cases h1 : (L.length : Int) - 12 < x3
      · have hE : grehE L = 10 := by simp only [grehE, hh, hA2, hZ, hS]; rw [if_neg h8, if_neg (by decide), if_pos (by omega)]
        have hD : grehD L = ⟨0, false, 0, false, 0, []⟩ := if_neg (by rw [hE]; decide)
        simp (config := {maxSteps := 3000000}) only [run_reg, run_seq, run_ret, if_true, at_code_n, at_code_r, at_fin_r, ops_nil, ops_mv, ops_load, ops_store, ev_t, ev_c, put_get, put_none, opv_mk, stb_some, sto_ptr, Stp, put_box_same, args0, vload, takeV, splice, V.cells, obsOk, List.map_cons, List.map_nil, List.length_cons, List.length_nil, List.take_succ_cons, List.take_zero, List.drop_succ_cons, List.drop_zero, List.nil_append, List.append_nil, List.take_nil, List.drop_nil, and_true, true_and, Nat.reduceEqDiff, Nat.reduceAdd, Nat.reduceLT, Nat.reduceLeDiff, Nat.reduceLT, Nat.zero_add, ↓reduceIte, vret, rvAll, rvVal, resv_2, eq_self, reduceCtorEq, put_box_ne (Nat.ne_of_lt hcd), put_box_ne (Nat.ne_of_lt hce), put_box_ne (Nat.ne_of_lt hde), decide_eq_true (show ((L.length - 12 : Nat) : Int) < x3 by omega)]
        exact ⟨_, _, Wk.refl _, (by repeat (first | exact hwf.weak | refine weak_put ?_ (by assumption))), ⟨.nil, by rw [hE, hD]; rfl⟩, rfl⟩
      by_cases h2 : x3 < (L.length : Int) - 12
      · have hE : grehE L = 11 := by simp only [grehE, hh, hA2, hZ, hS]; rw [if_neg h8, if_neg (by decide), if_neg (by omega), if_pos (.inl (by omega))]
        have hD : grehD L = ⟨0, false, 0, false, 0, []⟩ := if_neg (by rw [hE]; decide)
        simp (config := {maxSteps := 3000000}) only [run_skip, run_reg, run_seq, run_ret, run_cond, if_true, if_false, at_code_n, at_code_r, at_fin_r, ops_nil, ops_grd, grd_tf, ops_mv, ops_pick, ops_bin, ops_load, ops_len, ops_store, ev_t, ev_c, put_get, put_none, opv_mk, stb_some, sto_ptr, Stp, put_box_same, args0, vpick, vbin, vbinI, vlen, vload, takeV, splice, V.cells, obsOk, List.map_cons, List.map_nil, List.length_cons, List.length_nil, List.take_succ_cons, List.take_zero, List.drop_succ_cons, List.drop_zero, List.nil_append, List.append_nil, List.take_nil, List.drop_nil, and_true, true_and, Nat.reduceEqDiff, Nat.reduceAdd, Nat.reduceLT, Nat.reduceLeDiff, Nat.reduceLT, Nat.zero_add, ↓reduceIte, vret, rvAll, rvVal, resv_2, eq_self, reduceCtorEq, put_box_ne (Nat.ne_of_lt hcd), put_box_ne (Nat.ne_of_lt hce), put_box_ne (Nat.ne_of_lt hde), bs_len, List.length_drop, decide_eq_false (show ¬ ((L.length - 12 : Nat) : Int) < x3 by omega), decide_eq_true (show x3 < ((L.length - 12 : Nat) : Int) by omega)]
        exact ⟨_, _, Wk.refl _, (by repeat (first | exact hwf.weak | refine weak_put ?_ (by assumption))), ⟨.nil, by rw [hE, hD]; rfl⟩, rfl⟩
      by_cases h3 : 0 < x3
      · have hE : grehE L = 11 := by simp only [grehE, hh, hA2, hZ, hS]; rw [if_neg h8, if_neg (by decide), if_neg (by omega), if_pos (.inr (by simp; omega))]
        have hD : grehD L = ⟨0, false, 0, false, 0, []⟩ := if_neg (by rw [hE]; decide)
        simp (config := {maxSteps := 3000000}) only [run_skip, run_reg, run_seq, run_ret, run_cond, if_true, if_false, at_code_n, at_code_r, at_fin_r, ops_nil, ops_grd, grd_ff, ops_mv, ops_pick, ops_bin, ops_binb, vbinb, ops_fld, ops_load, ops_len, ops_store, ev_t, ev_c, put_get, put_none, opv_mk, stb_some, sto_ptr, Stp, put_box_same, args0, vpick, vbin, vbinI, vfld, vlen, vload, takeV, splice, V.cells, obsOk, List.map_cons, List.map_nil, List.length_cons, List.length_nil, List.getElem?_cons_zero, List.getElem?_cons_succ, List.take_succ_cons, List.take_zero, List.drop_succ_cons, List.drop_zero, List.nil_append, List.append_nil, List.take_nil, List.drop_nil, and_true, true_and, Nat.reduceEqDiff, Nat.reduceAdd, Nat.reduceLT, Nat.reduceLeDiff, Nat.reduceLT, Nat.zero_add, ↓reduceIte, vret, rvAll, rvVal, resv_2, Bool.not_false, eq_self, reduceCtorEq, Bool.false_eq_true, put_box_ne (Nat.ne_of_lt hcd), put_box_ne (Nat.ne_of_lt hce), put_box_ne (Nat.ne_of_lt hde), bs_len, List.length_drop, beqT, decide_eq_false (show ¬ ((L.length - 12 : Nat) : Int) < x3 by omega), decide_eq_false (show ¬ x3 < ((L.length - 12 : Nat) : Int) by omega), decide_eq_true h3]
        exact ⟨_, _, Wk.refl _, (by repeat (first | exact hwf.weak | refine weak_put ?_ (by assumption))), ⟨.nil, by rw [hE, hD]; rfl⟩, rfl⟩
      · have hE : grehE L = 0 := by simp only [grehE, hh, hA2, hZ, hS]; rw [if_neg h8, if_neg (by decide), if_neg (by omega), if_neg (by simp; omega)]
        have hD : grehD L = grehT L := if_pos hE
        simp (config := {maxSteps := 3000000}) only [run_skip, run_reg, run_seq, run_cond, if_false, at_code_n, ops_nil, ops_grd, grd_ff, ops_mv, ops_pick, ops_bin, ops_binb, vbinb, ops_fld, ops_load, ops_len, ops_app, ev_t, ev_c, put_get, opv_mk, put_box_same, vpick, vbin, vbinI, vfld, vlen, vload, takeV, V.cells, List.length_cons, List.length_nil, List.getElem?_cons_zero, List.getElem?_cons_succ, true_and, Nat.reduceEqDiff, Nat.zero_add, ↓reduceIte, Bool.not_true, Bool.not_false, eq_self, reduceCtorEq, Bool.false_eq_true, bs_len, List.length_drop, beqF, decide_eq_false (show ¬ ((L.length - 12 : Nat) : Int) < x3 by omega), decide_eq_false (show ¬ x3 < ((L.length - 12 : Nat) : Int) by omega), decide_eq_false h3]
        refine App.mk Own.nil (allSz_bs _) (by simp [bs_len, maxLen]; omega) (by simp [bs_len]; omega) ?_
        intro r s k1 k2
        rw [List.nil_append] at k1
        obtain ⟨tk1, rfl⟩ := k1.sl
        simp (config := {maxSteps := 3000000}) only [run_reg, run_seq, run_ret, at_code_n, at_fin_r, ops_nil, ops_mv, ops_fld, ops_load, ops_store, ev_t, ev_c, put_get, put_none, opv_mk, stb_some, sto_ptr, Stp, put_box_same, args0, vfld, vload, takeV, splice, V.cells, obsOk, List.map_cons, List.map_nil, List.length_cons, List.length_nil, List.take_succ_cons, List.take_zero, List.drop_succ_cons, List.drop_zero, List.cons_append, List.nil_append, List.append_nil, List.take_nil, List.drop_nil, and_true, true_and, Nat.reduceEqDiff, Nat.reduceAdd, Nat.reduceLT, Nat.reduceLeDiff, Nat.reduceLT, Nat.zero_add, ↓reduceIte, vret, rvAll, rvVal, resv_2, eq_self, reduceCtorEq, put_box_ne (Nat.ne_of_lt hcd), put_box_ne (Nat.ne_of_lt hce), k2.box]
        exact ⟨_, _, Wk.refl _, weak_put (weak_put (k2.keeps (by repeat (first | exact hwf.weak | refine weak_put ?_ (by assumption))) (fun g k l e => by cases e)) he1) hc, ⟨tk1, by rw [hE, hD]; simp only [grehT, TD.v, hS, hA, hA1, hA2, hC, w5, ↓reduceIte, Bool.false_eq_true]⟩, rfl⟩
    · have hS : gS L = true := by simp [gS, hN]
      have hA : gA L = false := by simp [gA, hN]
      have hA1 : gAt1 L = 12 := by simp [gAt1, hS]
      have hA2 : gAt2 L = 12 := by simp [gAt2, gAt1, hS, hA]
      simp (config := {maxSteps := 3000000}) only [run_reg, run_seq, at_code_n, ops_nil, ops_grd, grd_tt, grd_ff, grd_ft, ops_mv, ops_pick, ops_bin, ops_slc, ops_call, ev_t, ev_c, put_get, opv_mk, args0, List.getD_cons_zero, vpick, vbin, vbinI, vslc, obsOk, List.map_cons, List.map_nil, Option.map_some, true_and, Nat.reduceEqDiff, Int.reduceToNat, Int.reduceLE, Int.reduceEq, ↓reduceIte, decide_true, decide_false, ne_eq, not_true_eq_false, not_false_eq_true, eq_self, reduceCtorEq, Bool.false_eq_true, bs_len, bs_take, bs_drop, allSz_bs', drop_take1]
      repeat (apply And.intro; focus (first | omega | (simp; done)))
      refine Cal.mk q2 ?_
      rintro _ _ ⟨rfl, rfl⟩ -
      simp (config := {maxSteps := 3000000}) only [run_skip, run_reg, run_seq, run_cond, if_false, at_code_n, ops_nil, ops_grd, grd_ff, ops_mv, ops_pick, ops_bin, ops_slc, ops_call, ev_t, ev_c, put_get, opv_mk, args0, List.getD_cons_zero, vpick, vbin, vbinI, vslc, obsOk, List.map_cons, List.map_nil, Option.map_some, true_and, Nat.reduceEqDiff, Int.reduceToNat, Int.reduceLE, ↓reduceIte, decide_false, ne_eq, not_true_eq_false, eq_self, reduceCtorEq, Bool.false_eq_true, bs_len, bs_take, bs_drop, allSz_bs', drop_take2]
      repeat (apply And.intro; focus (first | omega | (simp; done)))
      refine Cal.mk q3 ?_
      rintro _ _ ⟨rfl, rfl⟩ -
      simp (config := {maxSteps := 3000000}) only [run_reg, run_seq, at_code_n, ops_nil, ops_mv, ops_conv, ops_slc, ops_call, ev_t, ev_c, put_get, opv_mk, args0, List.getD_cons_zero, vconv, norm, vslc, obsOk, List.map_cons, List.map_nil, Option.map_some, true_and, Int.reduceToNat, Int.reduceLE, Int.reduceNeg, ↓reduceIte, eq_self, reduceCtorEq, bs_len, bs_take, bs_drop, allSz_bs', drop_take3]
      repeat (apply And.intro; focus (first | omega | (simp; done)))
      refine Cal.mk q4 ?_
      rintro _ _ ⟨rfl, rfl⟩ -
      simp (config := {maxSteps := 3000000}) only [run_reg, run_seq, run_cond, if_true, at_code_n, ops_nil, ops_grd, grd_ff, ops_mv, ops_pick, ops_bin, ops_conv, ops_fld, ops_load, ops_len, ops_bld, ops_slc, ops_alc, ops_store, ev_t, ev_c, put_get, put_none, opv_mk, stb_some, sto_ptr, Stp, vbld, put_box_same, put_sz, put_put, args0, List.getD_cons_zero, vpick, vbin, vbinI, vconv, norm, vfld, vlen, vload, takeV, vslc, fillV, splice, V.cells, ptrV, obsOk, List.map_cons, List.map_nil, List.length_cons, List.length_nil, List.getElem?_cons_zero, List.getElem?_cons_succ, List.take_succ_cons, List.take_zero, List.drop_succ_cons, List.drop_zero, List.cons_append, List.nil_append, List.append_nil, List.drop_nil, Option.map_some, Option.map_none, and_true, true_and, Nat.reduceEqDiff, Nat.reduceAdd, Nat.reduceLT, Nat.reduceLeDiff, Nat.reduceLT, Int.reduceToNat, Int.reduceLE, Int.reduceEq, Nat.zero_add, ↓reduceIte, decide_true, decide_false, eq_self, reduceCtorEq, Bool.false_eq_true, bs_len, bs_drop, allSz_bs', List.length_drop, emod_small u4 v4]
      intro e he
      obtain ⟨he1, hce, hde⟩ : st.sz ≤ e ∧ c < e ∧ d < e := by omega
      clear he
      repeat (apply And.intro; focus (first | omega | (simp; done)))
      by_cases hk0 : L.length < 12
      · have hE : grehE L = 10 := by simp only [grehE, hh, hA2, hZ, hS]; rw [if_neg h8, if_neg (by decide), if_pos (by omega)]
        have hD : grehD L = ⟨0, false, 0, false, 0, []⟩ := if_neg (by rw [hE]; decide)
        simp (config := {maxSteps := 3000000}) only [run_reg, run_seq, run_ret, if_true, at_code_n, at_code_r, at_fin_r, ops_nil, ops_mv, ops_load, ops_store, ev_t, ev_c, put_get, put_none, opv_mk, stb_some, sto_ptr, Stp, put_box_same, args0, vload, takeV, splice, V.cells, obsOk, List.map_cons, List.map_nil, List.length_cons, List.length_nil, List.take_succ_cons, List.take_zero, List.drop_succ_cons, List.drop_zero, List.nil_append, List.append_nil, List.take_nil, List.drop_nil, and_true, true_and, Nat.reduceEqDiff, Nat.reduceAdd, Nat.reduceLT, Nat.reduceLeDiff, Nat.reduceLT, Nat.zero_add, ↓reduceIte, vret, rvAll, rvVal, resv_2, eq_self, reduceCtorEq, put_box_ne (Nat.ne_of_lt hcd), put_box_ne (Nat.ne_of_lt hce), put_box_ne (Nat.ne_of_lt hde), decide_eq_true (show ((L.length - 8 : Nat) : Int) < 4 by omega)]
        repeat (apply And.intro; focus (first | omega | (simp; done)))
        exact ⟨_, _, Wk.refl _, (by repeat (first | exact hwf.weak | refine weak_put ?_ (by assumption))), ⟨.nil, by rw [hE, hD]; rfl⟩, rfl⟩
      simp (config := {maxSteps := 3000000}) only [run_skip, run_reg, run_seq, if_false, at_code_n, ops_mv, ops_slc, ops_call, ev_t, ev_c, put_get, opv_mk, vslc, List.map_cons, List.map_nil, Option.map_some, Option.map_none, true_and, Int.reduceToNat, Int.reduceLE, ↓reduceIte, eq_self, reduceCtorEq, bs_len, bs_take, allSz_bs', List.length_drop, decide_eq_false (show ¬ ((L.length - 8 : Nat) : Int) < 4 by omega)]
      repeat (apply And.intro; focus (first | omega | (simp; done)))
      refine Cal.mk (rNum_v ((hB.drop _).take _) (by simp; omega)) ?_
      rintro _ _ ⟨rfl, rfl⟩ -
      obtain ⟨u5, v5⟩ := num4 hB 8
      generalize w5 : numL ((L.drop 8).take 4) = x5 at u5 v5 ⊢
      simp (config := {maxSteps := 3000000}) only [run_skip, run_reg, run_seq, run_cond, if_false, at_code_n, ops_nil, ops_mv, ops_bin, ops_conv, ops_fld, ops_load, ops_len, ops_slc, ops_store, ev_t, ev_c, put_get, put_none, opv_mk, stb_some, sto_ptr, Stp, put_box_same, put_put, vbin, vbinI, vconv, norm, vfld, vlen, vload, takeV, vslc, splice, V.cells, obsOk, List.length_cons, List.length_nil, List.getElem?_cons_zero, List.getElem?_cons_succ, List.take_succ_cons, List.take_zero, List.drop_succ_cons, List.drop_zero, List.cons_append, List.nil_append, Option.map_some, Option.map_none, true_and, Nat.reduceEqDiff, Nat.reduceAdd, Nat.reduceLT, Nat.reduceLeDiff, Nat.reduceLT, Int.reduceToNat, Int.reduceLE, Nat.zero_add, ↓reduceIte, eq_self, reduceCtorEq, bs_len, bs_drop, allSz_bs', List.drop_drop, List.length_drop, emod_small u5 v5]
      repeat (apply And.intro; focus (first | omega | (simp; done)))
      by_cases h1 : (L.length : Int) - 12 < x3
      · have hE : grehE L = 10 := by simp only [grehE, hh, hA2, hZ, hS]; rw [if_neg h8, if_neg (by decide), if_pos (by omega)]
        have hD : grehD L = ⟨0, false, 0, false, 0, []⟩ := if_neg (by rw [hE]; decide)
        simp (config := {maxSteps := 3000000}) only [run_reg, run_seq, run_ret, if_true, at_code_n, at_code_r, at_fin_r, ops_nil, ops_mv, ops_load, ops_store, ev_t, ev_c, put_get, put_none, opv_mk, stb_some, sto_ptr, Stp, put_box_same, args0, vload, takeV, splice, V.cells, obsOk, List.map_cons, List.map_nil, List.length_cons, List.length_nil, List.take_succ_cons, List.take_zero, List.drop_succ_cons, List.drop_zero, List.nil_append, List.append_nil, List.take_nil, List.drop_nil, and_true, true_and, Nat.reduceEqDiff, Nat.reduceAdd, Nat.reduceLT, Nat.reduceLeDiff, Nat.reduceLT, Nat.zero_add, ↓reduceIte, vret, rvAll, rvVal, resv_2, eq_self, reduceCtorEq, put_box_ne (Nat.ne_of_lt hcd), put_box_ne (Nat.ne_of_lt hce), put_box_ne (Nat.ne_of_lt hde), decide_eq_true (show ((L.length - 12 : Nat) : Int) < x3 by omega)]
        exact ⟨_, _, Wk.refl _, (by repeat (first | exact hwf.weak | refine weak_put ?_ (by assumption))), ⟨.nil, by rw [hE, hD]; rfl⟩, rfl⟩
      by_cases h2 : x3 < (L.length : Int) - 12
      · have hE : grehE L = 11 := by simp only [grehE, hh, hA2, hZ, hS]; rw [if_neg h8, if_neg (by decide), if_neg (by omega), if_pos (.inl (by omega))]
        have hD : grehD L = ⟨0, false, 0, false, 0, []⟩ := if_neg (by rw [hE]; decide)
        simp (config := {maxSteps := 3000000}) only [run_skip, run_reg, run_seq, run_ret, run_cond, if_true, if_false, at_code_n, at_code_r, at_fin_r, ops_nil, ops_grd, grd_tf, ops_mv, ops_pick, ops_bin, ops_load, ops_len, ops_store, ev_t, ev_c, put_get, put_none, opv_mk, stb_some, sto_ptr, Stp, put_box_same, args0, vpick, vbin, vbinI, vlen, vload, takeV, splice, V.cells, obsOk, List.map_cons, List.map_nil, List.length_cons, List.length_nil, List.take_succ_cons, List.take_zero, List.drop_succ_cons, List.drop_zero, List.nil_append, List.append_nil, List.take_nil, List.drop_nil, and_true, true_and, Nat.reduceEqDiff, Nat.reduceAdd, Nat.reduceLT, Nat.reduceLeDiff, Nat.reduceLT, Nat.zero_add, ↓reduceIte, vret, rvAll, rvVal, resv_2, eq_self, reduceCtorEq, put_box_ne (Nat.ne_of_lt hcd), put_box_ne (Nat.ne_of_lt hce), put_box_ne (Nat.ne_of_lt hde), bs_len, List.length_drop, decide_eq_false (show ¬ ((L.length - 12 : Nat) : Int) < x3 by omega), decide_eq_true (show x3 < ((L.length - 12 : Nat) : Int) by omega)]
        exact ⟨_, _, Wk.refl _, (by repeat (first | exact hwf.weak | refine weak_put ?_ (by assumption))), ⟨.nil, by rw [hE, hD]; rfl⟩, rfl⟩
      by_cases h3 : 0 < x3
      · have hE : grehE L = 0 := by simp only [grehE, hh, hA2, hZ, hS]; rw [if_neg h8, if_neg (by decide), if_neg (by omega), if_neg (by simp; omega)]
        have hD : grehD L = grehT L := if_pos hE
        simp (config := {maxSteps := 3000000}) only [run_skip, run_reg, run_seq, run_cond, if_false, at_code_n, ops_nil, ops_grd, grd_ff, ops_mv, ops_pick, ops_bin, ops_binb, vbinb, ops_fld, ops_load, ops_len, ops_app, ev_t, ev_c, put_get, opv_mk, put_box_same, vpick, vbin, vbinI, vfld, vlen, vload, takeV, V.cells, List.length_cons, List.length_nil, List.getElem?_cons_zero, List.getElem?_cons_succ, true_and, Nat.reduceEqDiff, Nat.zero_add, ↓reduceIte, Bool.not_true, eq_self, reduceCtorEq, Bool.false_eq_true, bs_len, List.length_drop, beqT, decide_eq_false (show ¬ ((L.length - 12 : Nat) : Int) < x3 by omega), decide_eq_false (show ¬ x3 < ((L.length - 12 : Nat) : Int) by omega), decide_eq_true h3]
        refine App.mk Own.nil (allSz_bs _) (by simp [bs_len, maxLen]; omega) (by simp [bs_len]; omega) ?_
        intro r s k1 k2
        rw [List.nil_append] at k1
        obtain ⟨tk1, rfl⟩ := k1.sl
        simp (config := {maxSteps := 3000000}) only [run_reg, run_seq, run_ret, at_code_n, at_fin_r, ops_nil, ops_mv, ops_fld, ops_load, ops_store, ev_t, ev_c, put_get, put_none, opv_mk, stb_some, sto_ptr, Stp, put_box_same, args0, vfld, vload, takeV, splice, V.cells, obsOk, List.map_cons, List.map_nil, List.length_cons, List.length_nil, List.take_succ_cons, List.take_zero, List.drop_succ_cons, List.drop_zero, List.cons_append, List.nil_append, List.append_nil, List.take_nil, List.drop_nil, and_true, true_and, Nat.reduceEqDiff, Nat.reduceAdd, Nat.reduceLT, Nat.reduceLeDiff, Nat.reduceLT, Nat.zero_add, ↓reduceIte, vret, rvAll, rvVal, resv_2, eq_self, reduceCtorEq, put_box_ne (Nat.ne_of_lt hcd), put_box_ne (Nat.ne_of_lt hce), k2.box]
        exact ⟨_, _, Wk.refl _, weak_put (weak_put (k2.keeps (by repeat (first | exact hwf.weak | refine weak_put ?_ (by assumption))) (fun g k l e => by cases e)) he1) hc, ⟨tk1, by rw [hE, hD]; simp only [grehT, TD.v, hS, hA, hA2, hC, w5, ↓reduceIte, Bool.false_eq_true]⟩, rfl⟩
      · have hE : grehE L = 11 := by simp only [grehE, hh, hA2, hZ, hS]; rw [if_neg h8, if_neg (by decide), if_neg (by omega), if_pos (.inr (by simp; omega))]
        have hD : grehD L = ⟨0, false, 0, false, 0, []⟩ := if_neg (by rw [hE]; decide)
        simp (config := {maxSteps := 3000000}) only [run_skip, run_reg, run_seq, run_ret, run_cond, if_true, if_false, at_code_n, at_code_r, at_fin_r, ops_nil, ops_grd, grd_ff, ops_mv, ops_pick, ops_bin, ops_binb, vbinb, ops_fld, ops_load, ops_len, ops_store, ev_t, ev_c, put_get, put_none, opv_mk, stb_some, sto_ptr, Stp, put_box_same, args0, vpick, vbin, vbinI, vfld, vlen, vload, takeV, splice, V.cells, obsOk, List.map_cons, List.map_nil, List.length_cons, List.length_nil, List.getElem?_cons_zero, List.getElem?_cons_succ, List.take_succ_cons, List.take_zero, List.drop_succ_cons, List.drop_zero, List.nil_append, List.append_nil, List.take_nil, List.drop_nil, and_true, true_and, Nat.reduceEqDiff, Nat.reduceAdd, Nat.reduceLT, Nat.reduceLeDiff, Nat.reduceLT, Nat.zero_add, ↓reduceIte, vret, rvAll, rvVal, resv_2, Bool.not_true, Bool.not_false, eq_self, reduceCtorEq, Bool.false_eq_true, put_box_ne (Nat.ne_of_lt hcd), put_box_ne (Nat.ne_of_lt hce), put_box_ne (Nat.ne_of_lt hde), bs_len, List.length_drop, beqF, decide_eq_false (show ¬ ((L.length - 12 : Nat) : Int) < x3 by omega), decide_eq_false (show ¬ x3 < ((L.length - 12 : Nat) : Int) by omega), decide_eq_false h3]
        exact ⟨_, _, Wk.refl _, (by repeat (first | exact hwf.weak | refine weak_put ?_ (by assumption))), ⟨.nil, by rw [hE, hD]; rfl⟩, rfl⟩
    · have hS : gS L = true := by simp [gS, hN]
      have hA : gA L = true := by simp [gA, hN]
      have hA1 : gAt1 L = 12 := by simp [gAt1, hS]
      have hA2 : gAt2 L = 16 := by simp [gAt2, gAt1, hS, hA]
      simp (config := {maxSteps := 3000000}) only [run_reg, run_seq, at_code_n, ops_nil, ops_grd, grd_tt, grd_ff, ops_mv, ops_pick, ops_bin, ops_slc, ops_call, ev_t, ev_c, put_get, opv_mk, args0, List.getD_cons_zero, vpick, vbin, vbinI, vslc, obsOk, List.map_cons, List.map_nil, Option.map_some, true_and, Nat.reduceEqDiff, Int.reduceToNat, Int.reduceLE, Int.reduceEq, ↓reduceIte, decide_true, decide_false, ne_eq, not_true_eq_false, not_false_eq_true, eq_self, reduceCtorEq, bs_len, bs_take, bs_drop, allSz_bs', drop_take1]
      repeat (apply And.intro; focus (first | omega | (simp; done)))
      refine Cal.mk q2 ?_
      rintro _ _ ⟨rfl, rfl⟩ -
      simp (config := {maxSteps := 3000000}) only [run_skip, run_reg, run_seq, run_cond, if_false, at_code_n, ops_nil, ops_grd, grd_ff, ops_mv, ops_pick, ops_bin, ops_slc, ops_call, ev_t, ev_c, put_get, opv_mk, args0, List.getD_cons_zero, vpick, vbin, vbinI, vslc, obsOk, List.map_cons, List.map_nil, Option.map_some, true_and, Nat.reduceEqDiff, Int.reduceToNat, Int.reduceLE, ↓reduceIte, decide_false, ne_eq, not_true_eq_false, eq_self, reduceCtorEq, Bool.false_eq_true, bs_len, bs_take, bs_drop, allSz_bs', drop_take2]
      repeat (apply And.intro; focus (first | omega | (simp; done)))
      refine Cal.mk q3 ?_
      rintro _ _ ⟨rfl, rfl⟩ -
      simp (config := {maxSteps := 3000000}) only [run_reg, run_seq, at_code_n, ops_nil, ops_mv, ops_conv, ops_slc, ops_call, ev_t, ev_c, put_get, opv_mk, args0, List.getD_cons_zero, vconv, norm, vslc, obsOk, List.map_cons, List.map_nil, Option.map_some, true_and, Int.reduceToNat, Int.reduceLE, Int.reduceNeg, ↓reduceIte, eq_self, reduceCtorEq, bs_len, bs_take, bs_drop, allSz_bs', drop_take3]
      repeat (apply And.intro; focus (first | omega | (simp; done)))
      refine Cal.mk q4 ?_
      rintro _ _ ⟨rfl, rfl⟩ -
      simp (config := {maxSteps := 3000000}) only [run_reg, run_seq, run_cond, if_true, at_code_n, ops_nil, ops_grd, grd_ff, ops_mv, ops_pick, ops_bin, ops_conv, ops_fld, ops_load, ops_len, ops_bld, ops_slc, ops_alc, ops_store, ev_t, ev_c, put_get, put_none, opv_mk, stb_some, sto_ptr, Stp, vbld, put_box_same, put_sz, put_put, args0, List.getD_cons_zero, vpick, vbin, vbinI, vconv, norm, vfld, vlen, vload, takeV, vslc, fillV, splice, V.cells, ptrV, obsOk, List.map_cons, List.map_nil, List.length_cons, List.length_nil, List.getElem?_cons_zero, List.getElem?_cons_succ, List.take_succ_cons, List.take_zero, List.drop_succ_cons, List.drop_zero, List.cons_append, List.nil_append, List.append_nil, List.drop_nil, Option.map_some, Option.map_none, and_true, true_and, Nat.reduceEqDiff, Nat.reduceAdd, Nat.reduceLT, Nat.reduceLeDiff, Nat.reduceLT, Int.reduceToNat, Int.reduceLE, Int.reduceEq, Nat.zero_add, ↓reduceIte, decide_true, decide_false, eq_self, reduceCtorEq, Bool.false_eq_true, bs_len, bs_drop, allSz_bs', List.length_drop, emod_small u4 v4]
      intro e he
      obtain ⟨he1, hce, hde⟩ : st.sz ≤ e ∧ c < e ∧ d < e := by omega
      clear he
      repeat (apply And.intro; focus (first | omega | (simp; done)))
      by_cases hk0 : L.length < 12
      · have hE : grehE L = 10 := by simp only [grehE, hh, hA2, hZ, hS]; rw [if_neg h8, if_neg (by decide), if_pos (by omega)]
        have hD : grehD L = ⟨0, false, 0, false, 0, []⟩ := if_neg (by rw [hE]; decide)
        simp (config := {maxSteps := 3000000}) only [run_reg, run_seq, run_ret, if_true, at_code_n, at_code_r, at_fin_r, ops_nil, ops_mv, ops_load, ops_store, ev_t, ev_c, put_get, put_none, opv_mk, stb_some, sto_ptr, Stp, put_box_same, args0, vload, takeV, splice, V.cells, obsOk, List.map_cons, List.map_nil, List.length_cons, List.length_nil, List.take_succ_cons, List.take_zero, List.drop_succ_cons, List.drop_zero, List.nil_append, List.append_nil, List.take_nil, List.drop_nil, and_true, true_and, Nat.reduceEqDiff, Nat.reduceAdd, Nat.reduceLT, Nat.reduceLeDiff, Nat.reduceLT, Nat.zero_add, ↓reduceIte, vret, rvAll, rvVal, resv_2, eq_self, reduceCtorEq, put_box_ne (Nat.ne_of_lt hcd), put_box_ne (Nat.ne_of_lt hce), put_box_ne (Nat.ne_of_lt hde), decide_eq_true (show ((L.length - 8 : Nat) : Int) < 4 by omega)]
        repeat (apply And.intro; focus (first | omega | (simp; done)))
        exact ⟨_, _, Wk.refl _, (by repeat (first | exact hwf.weak | refine weak_put ?_ (by assumption))), ⟨.nil, by rw [hE, hD]; rfl⟩, rfl⟩
      simp (config := {maxSteps := 3000000}) only [run_skip, run_reg, run_seq, if_false, at_code_n, ops_mv, ops_slc, ops_call, ev_t, ev_c, put_get, opv_mk, vslc, List.map_cons, List.map_nil, Option.map_some, Option.map_none, true_and, Int.reduceToNat, Int.reduceLE, ↓reduceIte, eq_self, reduceCtorEq, bs_len, bs_take, allSz_bs', List.length_drop, decide_eq_false (show ¬ ((L.length - 8 : Nat) : Int) < 4 by omega)]
      repeat (apply And.intro; focus (first | omega | (simp; done)))
      refine Cal.mk (rNum_v ((hB.drop _).take _) (by simp; omega)) ?_
      rintro _ _ ⟨rfl, rfl⟩ -
      obtain ⟨u5, v5⟩ := num4 hB 8
      generalize w5 : numL ((L.drop 8).take 4) = x5 at u5 v5 ⊢
      simp (config := {maxSteps := 3000000}) only [run_reg, run_seq, run_cond, if_true, at_code_n, ops_nil, ops_mv, ops_bin, ops_conv, ops_fld, ops_load, ops_len, ops_slc, ops_store, ev_t, ev_c, put_get, put_none, opv_mk, stb_some, sto_ptr, Stp, put_box_same, put_put, vbin, vbinI, vconv, norm, vfld, vlen, vload, takeV, vslc, splice, V.cells, obsOk, List.length_cons, List.length_nil, List.getElem?_cons_zero, List.getElem?_cons_succ, List.take_succ_cons, List.take_zero, List.drop_succ_cons, List.drop_zero, List.cons_append, List.nil_append, Option.map_some, Option.map_none, true_and, Nat.reduceEqDiff, Nat.reduceAdd, Nat.reduceLT, Nat.reduceLeDiff, Nat.reduceLT, Int.reduceToNat, Int.reduceLE, Nat.zero_add, ↓reduceIte, eq_self, reduceCtorEq, bs_len, bs_drop, allSz_bs', List.drop_drop, List.length_drop, emod_small u5 v5]
      repeat (apply And.intro; focus (first | omega | (simp; done)))
      by_cases hk1 : L.length < 16
      · have hE : grehE L = 10 := by simp only [grehE, hh, hA2, hZ, hS]; rw [if_neg h8, if_neg (by decide), if_pos (by omega)]
        have hD : grehD L = ⟨0, false, 0, false, 0, []⟩ := if_neg (by rw [hE]; decide)
        simp (config := {maxSteps := 3000000}) only [run_reg, run_seq, run_ret, if_true, at_code_n, at_code_r, at_fin_r, ops_nil, ops_mv, ops_load, ops_store, ev_t, ev_c, put_get, put_none, opv_mk, stb_some, sto_ptr, Stp, put_box_same, args0, vload, takeV, splice, V.cells, obsOk, List.map_cons, List.map_nil, List.length_cons, List.length_nil, List.take_succ_cons, List.take_zero, List.drop_succ_cons, List.drop_zero, List.nil_append, List.append_nil, List.take_nil, List.drop_nil, and_true, true_and, Nat.reduceEqDiff, Nat.reduceAdd, Nat.reduceLT, Nat.reduceLeDiff, Nat.reduceLT, Nat.zero_add, ↓reduceIte, vret, rvAll, rvVal, resv_2, eq_self, reduceCtorEq, put_box_ne (Nat.ne_of_lt hcd), put_box_ne (Nat.ne_of_lt hce), put_box_ne (Nat.ne_of_lt hde), decide_eq_true (show ((L.length - 12 : Nat) : Int) < 4 by omega)]
        repeat (apply And.intro; focus (first | omega | (simp; done)))
        exact ⟨_, _, Wk.refl _, (by repeat (first | exact hwf.weak | refine weak_put ?_ (by assumption))), ⟨.nil, by rw [hE, hD]; rfl⟩, rfl⟩
      simp (config := {maxSteps := 3000000}) only [run_skip, run_reg, run_seq, if_false, at_code_n, ops_mv, ops_slc, ops_call, ev_t, ev_c, put_get, opv_mk, vslc, List.map_cons, List.map_nil, Option.map_some, Option.map_none, true_and, Int.reduceToNat, Int.reduceLE, ↓reduceIte, eq_self, reduceCtorEq, bs_len, bs_take, allSz_bs', List.length_drop, decide_eq_false (show ¬ ((L.length - 12 : Nat) : Int) < 4 by omega)]
      repeat (apply And.intro; focus (first | omega | (simp; done)))
      refine Cal.mk (rNum_v ((hB.drop _).take _) (by simp; omega)) ?_
      rintro _ _ ⟨rfl, rfl⟩ -
      obtain ⟨u6, v6⟩ := num4 hB 12
      generalize w6 : numL ((L.drop 12).take 4) = x6 at u6 v6 ⊢
      simp (config := {maxSteps := 3000000}) only [run_reg, run_seq, run_cond, at_code_n, ops_nil, ops_mv, ops_bin, ops_conv, ops_fld, ops_len, ops_slc, ops_store, ev_t, ev_c, put_get, put_none, opv_mk, stb_some, sto_ptr, Stp, put_box_same, put_put, vbin, vbinI, vconv, norm, vfld, vlen, vslc, splice, V.cells, obsOk, List.length_cons, List.length_nil, List.take_succ_cons, List.take_zero, List.drop_succ_cons, List.drop_zero, List.cons_append, List.nil_append, Option.map_some, Option.map_none, true_and, Nat.reduceEqDiff, Nat.reduceAdd, Nat.reduceLT, Nat.reduceLeDiff, Nat.reduceLT, Int.reduceToNat, Int.reduceLE, Nat.zero_add, ↓reduceIte, eq_self, reduceCtorEq, bs_len, bs_drop, allSz_bs', List.drop_drop, List.length_drop, emod_small u6 v6]
      repeat (apply And.intro; focus (first | omega | (simp; done)))
      by_cases h1 : (L.length : Int) - 16 < x3
      · have hE : grehE L = 10 := by simp only [grehE, hh, hA2, hZ, hS]; rw [if_neg h8, if_neg (by decide), if_pos (by omega)]
        have hD : grehD L = ⟨0, false, 0, false, 0, []⟩ := if_neg (by rw [hE]; decide)
        simp (config := {maxSteps := 3000000}) only [run_reg, run_seq, run_ret, if_true, at_code_n, at_code_r, at_fin_r, ops_nil, ops_mv, ops_load, ops_store, ev_t, ev_c, put_get, put_none, opv_mk, stb_some, sto_ptr, Stp, put_box_same, args0, vload, takeV, splice, V.cells, obsOk, List.map_cons, List.map_nil, List.length_cons, List.length_nil, List.take_succ_cons, List.take_zero, List.drop_succ_cons, List.drop_zero, List.nil_append, List.append_nil, List.take_nil, List.drop_nil, and_true, true_and, Nat.reduceEqDiff, Nat.reduceAdd, Nat.reduceLT, Nat.reduceLeDiff, Nat.reduceLT, Nat.zero_add, ↓reduceIte, vret, rvAll, rvVal, resv_2, eq_self, reduceCtorEq, put_box_ne (Nat.ne_of_lt hcd), put_box_ne (Nat.ne_of_lt hce), put_box_ne (Nat.ne_of_lt hde), decide_eq_true (show ((L.length - 16 : Nat) : Int) < x3 by omega)]
        exact ⟨_, _, Wk.refl _, (by repeat (first | exact hwf.weak | refine weak_put ?_ (by assumption))), ⟨.nil, by rw [hE, hD]; rfl⟩, rfl⟩
      by_cases h2 : x3 < (L.length : Int) - 16
      · have hE : grehE L = 11 := by simp only [grehE, hh, hA2, hZ, hS]; rw [if_neg h8, if_neg (by decide), if_neg (by omega), if_pos (.inl (by omega))]
        have hD : grehD L = ⟨0, false, 0, false, 0, []⟩ := if_neg (by rw [hE]; decide)
        simp (config := {maxSteps := 3000000}) only [run_skip, run_reg, run_seq, run_ret, run_cond, if_true, if_false, at_code_n, at_code_r, at_fin_r, ops_nil, ops_grd, grd_tf, ops_mv, ops_pick, ops_bin, ops_load, ops_len, ops_store, ev_t, ev_c, put_get, put_none, opv_mk, stb_some, sto_ptr, Stp, put_box_same, args0, vpick, vbin, vbinI, vlen, vload, takeV, splice, V.cells, obsOk, List.map_cons, List.map_nil, List.length_cons, List.length_nil, List.take_succ_cons, List.take_zero, List.drop_succ_cons, List.drop_zero, List.nil_append, List.append_nil, List.take_nil, List.drop_nil, and_true, true_and, Nat.reduceEqDiff, Nat.reduceAdd, Nat.reduceLT, Nat.reduceLeDiff, Nat.reduceLT, Nat.zero_add, ↓reduceIte, vret, rvAll, rvVal, resv_2, eq_self, reduceCtorEq, put_box_ne (Nat.ne_of_lt hcd), put_box_ne (Nat.ne_of_lt hce), put_box_ne (Nat.ne_of_lt hde), bs_len, List.length_drop, decide_eq_false (show ¬ ((L.length - 16 : Nat) : Int) < x3 by omega), decide_eq_true (show x3 < ((L.length - 16 : Nat) : Int) by omega)]
        exact ⟨_, _, Wk.refl _, (by repeat (first | exact hwf.weak | refine weak_put ?_ (by assumption))), ⟨.nil, by rw [hE, hD]; rfl⟩, rfl⟩
      by_cases h3 : 0 < x3
      · have hE : grehE L = 0 := by simp only [grehE, hh, hA2, hZ, hS]; rw [if_neg h8, if_neg (by decide), if_neg (by omega), if_neg (by simp; omega)]
        have hD : grehD L = grehT L := if_pos hE
        simp (config := {maxSteps := 3000000}) only [run_skip, run_reg, run_seq, run_cond, if_false, at_code_n, ops_nil, ops_grd, grd_ff, ops_mv, ops_pick, ops_bin, ops_binb, vbinb, ops_fld, ops_load, ops_len, ops_app, ev_t, ev_c, put_get, opv_mk, put_box_same, vpick, vbin, vbinI, vfld, vlen, vload, takeV, V.cells, List.length_cons, List.length_nil, List.getElem?_cons_zero, List.getElem?_cons_succ, true_and, Nat.reduceEqDiff, Nat.zero_add, ↓reduceIte, Bool.not_true, eq_self, reduceCtorEq, Bool.false_eq_true, bs_len, List.length_drop, beqT, decide_eq_false (show ¬ ((L.length - 16 : Nat) : Int) < x3 by omega), decide_eq_false (show ¬ x3 < ((L.length - 16 : Nat) : Int) by omega), decide_eq_true h3]
        refine App.mk Own.nil (allSz_bs _) (by simp [bs_len, maxLen]; omega) (by simp [bs_len]; omega) ?_
        intro r s k1 k2
        rw [List.nil_append] at k1
        obtain ⟨tk1, rfl⟩ := k1.sl
        simp (config := {maxSteps := 3000000}) only [run_reg, run_seq, run_ret, at_code_n, at_fin_r, ops_nil, ops_mv, ops_fld, ops_load, ops_store, ev_t, ev_c, put_get, put_none, opv_mk, stb_some, sto_ptr, Stp, put_box_same, args0, vfld, vload, takeV, splice, V.cells, obsOk, List.map_cons, List.map_nil, List.length_cons, List.length_nil, List.take_succ_cons, List.take_zero, List.drop_succ_cons, List.drop_zero, List.cons_append, List.nil_append, List.append_nil, List.take_nil, List.drop_nil, and_true, true_and, Nat.reduceEqDiff, Nat.reduceAdd, Nat.reduceLT, Nat.reduceLeDiff, Nat.reduceLT, Nat.zero_add, ↓reduceIte, vret, rvAll, rvVal, resv_2, eq_self, reduceCtorEq, put_box_ne (Nat.ne_of_lt hcd), put_box_ne (Nat.ne_of_lt hce), k2.box]
        exact ⟨_, _, Wk.refl _, weak_put (weak_put (k2.keeps (by repeat (first | exact hwf.weak | refine weak_put ?_ (by assumption))) (fun g k l e => by cases e)) he1) hc, ⟨tk1, by rw [hE, hD]; simp only [grehT, TD.v, hS, hA, hA1, hA2, hC, w5, w6, ↓reduceIte]⟩, rfl⟩
      · have hE : grehE L = 11 := by simp only [grehE, hh, hA2, hZ, hS]; rw [if_neg h8, if_neg (by decide), if_neg (by omega), if_pos (.inr (by simp; omega))]
        have hD : grehD L = ⟨0, false, 0, false, 0, []⟩ := if_neg (by rw [hE]; decide)
        simp (config := {maxSteps := 3000000}) only [run_skip, run_reg, run_seq, run_ret, run_cond, if_true, if_false, at_code_n, at_code_r, at_fin_r, ops_nil, ops_grd, grd_ff, ops_mv, ops_pick, ops_bin, ops_binb, vbinb, ops_fld, ops_load, ops_len, ops_store, ev_t, ev_c, put_get, put_none, opv_mk, stb_some, sto_ptr, Stp, put_box_same, args0, vpick, vbin, vbinI, vfld, vlen, vload, takeV, splice, V.cells, obsOk, List.map_cons, List.map_nil, List.length_cons, List.length_nil, List.getElem?_cons_zero, List.getElem?_cons_succ, List.take_succ_cons, List.take_zero, List.drop_succ_cons, List.drop_zero, List.nil_append, List.append_nil, List.take_nil, List.drop_nil, and_true, true_and, Nat.reduceEqDiff, Nat.reduceAdd, Nat.reduceLT, Nat.reduceLeDiff, Nat.reduceLT, Nat.zero_add, ↓reduceIte, vret, rvAll, rvVal, resv_2, Bool.not_true, Bool.not_false, eq_self, reduceCtorEq, Bool.false_eq_true, put_box_ne (Nat.ne_of_lt hcd), put_box_ne (Nat.ne_of_lt hce), put_box_ne (Nat.ne_of_lt hde), bs_len, List.length_drop, beqF, decide_eq_false (show ¬ ((L.length - 16 : Nat) : Int) < x3 by omega), decide_eq_false (show ¬ x3 < ((L.length - 16 : Nat) : Int) by omega), decide_eq_false h3]
        exact ⟨_, _, Wk.refl _, (by repeat (first | exact hwf.weak | refine weak_put ?_ (by assumption))), ⟨.nil, by rw [hE, hD]; rfl⟩, rfl⟩
  · have hE : grehE L = 11 := by unfold grehE; rw [if_neg h8, if_pos (by simpa using hh)]
    have hD : grehD L = ⟨0, false, 0, false, 0, []⟩ := if_neg (by rw [hE]; decide)
    by_cases hn : x1 = 8193 ∨ x1 = 8321 ∨ x1 = 12289 ∨ x1 = 12417
    · have hp : ¬ x2 = 34827 := fun e => hh (by simp only [gHead, gN, gP, w1, w2, e]; simpa using hn)
      rcases hn with hn | hn | hn | hn
      all_goals
        subst hn
        simp (config := {maxSteps := 3000000}) only [run_reg, run_seq, at_code_n, ops_nil, ops_grd, grd_tt, grd_ff, grd_ft, ops_mv, ops_pick, ops_bin, ops_slc, ops_call, ev_t, ev_c, put_get, opv_mk, args0, List.getD_cons_zero, vpick, vbin, vbinI, vslc, obsOk, List.map_cons, List.map_nil, Option.map_some, true_and, Nat.reduceEqDiff, Int.reduceToNat, Int.reduceLE, Int.reduceEq, ↓reduceIte, decide_true, decide_false, ne_eq, not_true_eq_false, not_false_eq_true, eq_self, reduceCtorEq, Bool.false_eq_true, bs_len, bs_take, bs_drop, allSz_bs', drop_take1]
        repeat (apply And.intro; focus (first | omega | (simp; done)))
        refine Cal.mk q2 ?_
        rintro _ _ ⟨rfl, rfl⟩ -
        simp (config := {maxSteps := 3000000}) only [run_reg, run_seq, run_ret, run_cond, if_true, at_code_n, at_code_r, at_fin_r, ops_nil, ops_grd, grd_ff, ops_mv, ops_pick, ops_bin, ops_load, ops_store, ev_t, ev_c, put_get, put_none, opv_mk, stb_some, sto_ptr, Stp, put_box_same, args0, vpick, vbin, vbinI, vload, takeV, splice, V.cells, obsOk, List.map_cons, List.map_nil, List.length_cons, List.length_nil, List.take_succ_cons, List.take_zero, List.drop_succ_cons, List.drop_zero, List.nil_append, List.append_nil, List.take_nil, List.drop_nil, and_true, true_and, Nat.reduceEqDiff, Nat.reduceAdd, Nat.reduceLT, Nat.reduceLeDiff, Nat.reduceLT, Nat.zero_add, ↓reduceIte, vret, rvAll, rvVal, resv_2, ne_eq, eq_self, Bool.false_eq_true, put_box_ne (Nat.ne_of_lt hcd), decide_eq_true hp]
        exact ⟨_, _, Wk.refl _, (by repeat (first | exact hwf.weak | refine weak_put ?_ (by assumption))), ⟨.nil, by rw [hE, hD]; rfl⟩, rfl⟩
    · simp only [not_or] at hn
      simp (config := {maxSteps := 3000000}) only [run_reg, run_seq, run_ret, run_cond, if_true, at_code_n, at_code_r, at_fin_r, ops_nil, ops_grd, grd_tt, grd_tf, ops_mv, ops_pick, ops_bin, ops_load, ops_store, ev_t, ev_c, put_get, put_none, opv_mk, stb_some, sto_ptr, Stp, put_box_same, args0, vpick, vbin, vbinI, vload, takeV, splice, V.cells, obsOk, List.map_cons, List.map_nil, List.length_cons, List.length_nil, List.take_succ_cons, List.take_zero, List.drop_succ_cons, List.drop_zero, List.nil_append, List.append_nil, List.take_nil, List.drop_nil, and_true, true_and, Nat.reduceEqDiff, Nat.reduceAdd, Nat.reduceLT, Nat.reduceLeDiff, Nat.reduceLT, Nat.zero_add, ↓reduceIte, vret, rvAll, rvVal, resv_2, ne_eq, eq_self, put_box_ne (Nat.ne_of_lt hcd), decide_eq_true hn.1, decide_eq_true hn.2.1, decide_eq_true hn.2.2.1, decide_eq_true hn.2.2.2]
      exact ⟨_, _, Wk.refl _, (by repeat (first | exact hwf.weak | refine weak_put ?_ (by assumption))), ⟨.nil, by rw [hE, hD]; rfl⟩, rfl⟩
end
end Go.Proofs.Ytbmkohmhiafphaa
