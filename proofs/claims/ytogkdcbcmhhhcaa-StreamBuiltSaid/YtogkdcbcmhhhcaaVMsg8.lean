/- The document's Parse of a message: contract. -/
import Derived.Test.YtogkdcbcmhhhcaaVMsg6
import Derived.Test.YtogkdcbcmhhhcaaVMsg7
namespace Go.Proofs.Ytogkdcbcmhhhcaa
open Go

theorem stripN_all (L : List Int) : stripN L L.length = 0 ↔ L.all (fun x => decide (x = 0)) = true := by
  constructor
  · intro h
    rw [List.all_eq_true]
    intro x hx
    obtain ⟨i, hi, rfl⟩ := List.mem_iff_getElem.1 hx
    have := stripN_zero L L.length i (by omega) hi
    rw [List.getElem?_eq_getElem hi] at this
    simpa using this
  · intro h
    rcases Nat.eq_zero_or_pos (stripN L L.length) with h0 | h0
    · exact h0
    · have h1 := stripN_idem L L.length
      have h2 := stripN_le L L.length
      obtain ⟨n, hn⟩ : ∃ n, stripN L L.length = n + 1 := ⟨stripN L L.length - 1, by omega⟩
      rw [hn, stripN] at h1
      have hz : L[n]? = some 0 := by
        have hlt : n < L.length := by omega
        rw [List.getElem?_eq_getElem hlt]
        have := List.all_eq_true.1 h L[n] (List.getElem_mem hlt)
        simpa using this
      rw [if_pos hz] at h1
      have := stripN_le L n
      omega
section
variable {tk : Tk} {st : St} {L : List Int}
set_option maxRecDepth 100000 in
set_option maxHeartbeats 4000000 in
theorem refParse_v (hB : IsB L) (hL : L.length ≤ 1000000) : VCalls Try.prog 56 [.sl tk (bs L)] st fun r st' => r = .tup [(parseM L).1.v, .sc (.int .i64 (parseM L).2)] ∧ st = st' := by
  refine vcalls_enter vc56 (Nat.le_of_ble_eq_true rfl) fun hwf hok => ?_
  show Run _ Vc56.body (.fin (finQ Vc56.res _)) _ _
  unfold Vc56
  simp (config := {maxSteps := 3000000}) only [run_reg, run_seq, run_cond, at_code_n, ops_nil, ops_mv, ops_bin, ops_len, ops_bld, ops_alc, ops_store, ev_t, ev_c, put_get, put_none, opv_mk, stb_some, sto_ptr, Stp, vbld, put_box_same, put_sz, put_put, args0, List.getD_cons_zero, vbin, vbinI, vlen, fillV, splice, V.cells, ptrV, obsOk, List.map_nil, List.length_cons, List.length_nil, List.take_zero, List.drop_succ_cons, List.nil_append, List.append_nil, List.drop_nil, true_and, Nat.reduceEqDiff, Nat.reduceAdd, Nat.reduceLT, Nat.reduceLeDiff, Nat.reduceLT, Nat.zero_add, ↓reduceIte, eq_self, reduceCtorEq, bs_len]
  intro b hb c hc
  obtain ⟨hc1, hbc⟩ : st.sz ≤ c ∧ b < c := by first | omega | (simp only [put_sz] at hc; omega)
  clear hc
  have hw3 : ∀ cs ds es : List V, st.weak (((st.put b cs).put c ds).put b es) := fun cs ds es => weak_put (weak_put (weak_put hwf.weak hb) hc1) hb
  by_cases h12 : L.length < 12
  · have e : parseM L = (zM, 10) := if_pos h12
    rw [e]
    simp (config := {maxSteps := 3000000}) only [run_reg, run_seq, run_ret, if_true, at_code_n, at_code_r, at_fin_r, ops_nil, ops_mv, ops_load, ops_store, ev_t, ev_c, put_get, put_none, opv_mk, stb_some, sto_ptr, Stp, put_box_same, args0, vload, takeV, splice, V.cells, obsOk, List.map_cons, List.map_nil, List.length_cons, List.length_nil, List.take_succ_cons, List.take_zero, List.drop_succ_cons, List.drop_zero, List.nil_append, List.append_nil, List.take_nil, List.drop_nil, and_true, true_and, Nat.reduceEqDiff, Nat.reduceAdd, Nat.reduceLT, Nat.reduceLeDiff, Nat.reduceLT, Nat.zero_add, ↓reduceIte, vret, rvAll, rvVal, resv_2, eq_self, decide_eq_true (show (L.length : Int) < 12 by omega), put_box_ne (Nat.ne_of_lt hbc)]
    exact ⟨_, _, Wk.refl _, hw3 _ _ _, rfl, rfl⟩
  have r2 : ∀ n, 0 ≤ numL ((L.drop n).take 2) ∧ numL ((L.drop n).take 2) < 65536 := fun n => by
    have h := numL_range _ ((L.drop n).take 2) rfl ((hB.drop _).take _)
    have hl : ((L.drop n).take 2).length ≤ 2 := by simp; omega
    have hp : (256 : Int) ^ ((L.drop n).take 2).length ≤ 256 ^ 2 := by
      have : ∀ k : Nat, k ≤ 2 → (256 : Int) ^ k ≤ 256 ^ 2 := by decide
      exact this _ hl
    rw [show (256 : Int) ^ 2 = 65536 from rfl] at hp
    omega
  have r0 := r2 0
  rw [List.drop_zero] at r0
  have r28 := r2 8
  obtain ⟨z1, hz1⟩ := get_ex (L := L) (i := 10) (by omega)
  obtain ⟨z2, hz2⟩ := get_ex (L := L) (i := 11) (by omega)
  have hzb1 := hB.get hz1
  have hzb2 := hB.get hz2
  have hz12 : numL ((L.drop 10).take 2) = 256 * z1 + z2 := by
    rw [drop_cons hz1, drop_cons hz2]
    simp [numL]
  have hp : parseM L = (if numL ((L.drop 4).take 4) ≠ 439041101 then (zM, 140) else
    if numL ((L.drop 2).take 2) ≠ 1 ∨ sizeT (numL ((L.drop 8).take 2)) = 0 then (zM, 141) else
    if numL (L.take 2) ≠ sizeT (numL ((L.drop 8).take 2)) ∨ (L.length : Int) ≠ sizeT (numL ((L.drop 8).take 2)) then (zM, 12) else
    if numL ((L.drop 10).take 2) ≠ 0 then (zM, 11) else
    match pK (layoutL (numL ((L.drop 8).take 2))) (L.drop 12) with
    | none => (zM, 11)
    | some (a, b) => (mkM (numL ((L.drop 8).take 2)) a b, 0) : MB × Int) := if_neg h12
  rw [hp]
  clear hp r2
  have hS := fun st : St => refSize_v (st := st) (numL ((L.drop 8).take 2))
  have hLy := fun st : St => parts16_v (st := st) (numL ((L.drop 8).take 2))
  have hK4 := layout_kOk (numL ((L.drop 8).take 2))
  have hkl := layout_len (numL ((L.drop 8).take 2))
  have hcn := layout_cnt (numL ((L.drop 8).take 2))
  have hct := layout_txt (numL ((L.drop 8).take 2))
  have hsz := sizeT_le (numL ((L.drop 8).take 2))
  have hsd : sizeT (numL ((L.drop 8).take 2)) ≠ 0 → sizeT (numL ((L.drop 8).take 2)) = 12 + (sumN (layoutL (numL ((L.drop 8).take 2))) : Int) := fun h => by
    have := sizeT_pos (t := numL ((L.drop 8).take 2))
    exact if_neg (this.1 (by omega))
  have n4 := fun st : St => rNum_v (tk := .no) (st := st) (L := (L.drop 4).take 4) ((hB.drop _).take _) (by simp; omega)
  have n8 := fun st : St => rNum_v (tk := .no) (st := st) (L := (L.drop 8).take 2) ((hB.drop _).take _) (by simp; omega)
  have n2 := fun st : St => rNum_v (tk := .no) (st := st) (L := (L.drop 2).take 2) ((hB.drop _).take _) (by simp; omega)
  have n0 := fun st : St => rNum_v (tk := .no) (st := st) (L := L.take 2) (hB.take _) (by simp; omega)
  generalize numL ((L.drop 8).take 2) = t at *
  generalize numL ((L.drop 10).take 2) = z0 at *
  generalize numL ((L.drop 4).take 4) = ck at *
  generalize numL ((L.drop 2).take 2) = kd at *
  generalize numL (L.take 2) = sz0 at *
  generalize sizeT t = Z at *
  generalize layoutL t = K at *
  have e48 : (L.take 8).drop 4 = (L.drop 4).take 4 := by rw [List.drop_take]
  have e810 : (L.take 10).drop 8 = (L.drop 8).take 2 := by rw [List.drop_take]
  have e24 : (L.take 4).drop 2 = (L.drop 2).take 2 := by rw [List.drop_take]
  simp (config := {maxSteps := 3000000}) only [run_skip, run_reg, run_seq, if_false, at_code_n, ops_mv, ops_slc, ops_call, ev_t, ev_c, put_get, opv_mk, args0, List.getD_cons_zero, vslc, List.map_cons, List.map_nil, Option.map_some, true_and, Int.reduceToNat, Int.reduceLE, ↓reduceIte, ne_eq, eq_self, reduceCtorEq, bs_len, decide_eq_false (show ¬ (L.length : Int) < 12 by omega), bs_take, bs_drop, e48, allSz_bs']
  repeat (apply And.intro; focus (first | omega | (simp; done)))
  refine Cal.mk (n4 _) ?_
  rintro _ _ ⟨rfl, rfl⟩ -
  by_cases c1 : ck = 439041101
  case neg =>
    rw [if_pos c1]
    simp (config := {maxSteps := 3000000}) only [run_reg, run_seq, run_ret, run_cond, if_true, at_code_n, at_code_r, at_fin_r, ops_nil, ops_mv, ops_bin, ops_load, ops_store, ev_t, ev_c, put_get, put_none, opv_mk, stb_some, sto_ptr, Stp, put_box_same, args0, vbin, vbinI, vload, takeV, splice, V.cells, obsOk, List.map_cons, List.map_nil, List.length_cons, List.length_nil, List.take_succ_cons, List.take_zero, List.drop_succ_cons, List.drop_zero, List.nil_append, List.append_nil, List.take_nil, List.drop_nil, and_true, true_and, Nat.reduceEqDiff, Nat.reduceAdd, Nat.reduceLT, Nat.reduceLeDiff, Nat.reduceLT, Nat.zero_add, ↓reduceIte, vret, rvAll, rvVal, resv_2, ne_eq, eq_self, decide_eq_true c1, put_box_ne (Nat.ne_of_lt hbc)]
    repeat (apply And.intro; focus (first | omega | (simp; done)))
    exact ⟨_, _, Wk.refl _, hw3 _ _ _, rfl, rfl⟩
  rw [if_neg (fun h => h c1)]
  simp (config := {maxSteps := 3000000}) only [run_skip, run_reg, run_seq, run_cond, if_false, at_code_n, ops_nil, ops_mv, ops_bin, ops_slc, ops_call, ev_t, ev_c, put_get, opv_mk, args0, List.getD_cons_zero, vbin, vbinI, vslc, obsOk, List.map_cons, List.map_nil, Option.map_some, true_and, Int.reduceToNat, Int.reduceLE, ↓reduceIte, ne_eq, eq_self, reduceCtorEq, decide_eq_false (show ¬ ¬ ck = 439041101 from fun h => h c1), bs_len, bs_take, bs_drop, e810, allSz_bs']
  repeat (apply And.intro; focus (first | omega | (simp; done)))
  refine Cal.mk (n8 _) ?_
  rintro _ _ ⟨rfl, rfl⟩ -
  simp (config := {maxSteps := 3000000}) only [run_reg, run_seq, at_code_n, ops_nil, ops_mv, ops_conv, ops_slc, ops_call, ev_t, ev_c, put_get, opv_mk, args0, List.getD_cons_zero, vconv, norm, vslc, obsOk, List.map_cons, List.map_nil, Option.map_some, true_and, Int.reduceToNat, Int.reduceLE, Int.reduceNeg, ↓reduceIte, eq_self, reduceCtorEq, bs_len, bs_take, bs_drop, e24, allSz_bs']
  repeat (apply And.intro; focus (first | omega | (simp; done)))
  refine Cal.mk (n2 _) ?_
  rintro _ _ ⟨rfl, rfl⟩ -
  by_cases c2 : kd = 1
  case neg =>
    rw [if_pos (Or.inl c2)]
    simp (config := {maxSteps := 3000000}) only [run_reg, run_seq, run_ret, run_cond, if_true, at_code_n, at_code_r, at_fin_r, ops_nil, ops_grd, grd_tf, ops_mv, ops_pick, ops_bin, ops_load, ops_store, ev_t, ev_c, put_get, put_none, opv_mk, stb_some, sto_ptr, Stp, put_box_same, args0, vpick, vbin, vbinI, vload, takeV, splice, V.cells, obsOk, List.map_cons, List.map_nil, List.length_cons, List.length_nil, List.take_succ_cons, List.take_zero, List.drop_succ_cons, List.drop_zero, List.nil_append, List.append_nil, List.take_nil, List.drop_nil, and_true, true_and, Nat.reduceEqDiff, Nat.reduceAdd, Nat.reduceLT, Nat.reduceLeDiff, Nat.reduceLT, Nat.zero_add, ↓reduceIte, vret, rvAll, rvVal, resv_2, ne_eq, eq_self, decide_eq_true c2, put_box_ne (Nat.ne_of_lt hbc)]
    repeat (apply And.intro; focus (first | omega | (simp; done)))
    exact ⟨_, _, Wk.refl _, hw3 _ _ _, rfl, rfl⟩
  simp (config := {maxSteps := 3000000}) only [ops_grd, grd_ff, ops_mv, ops_bin, ops_call, ev_t, ev_c, put_get, opv_mk, vbin, vbinI, obsOk, List.map_cons, List.map_nil, true_and, Nat.reduceEqDiff, ↓reduceIte, ne_eq, eq_self, decide_eq_false (show ¬ ¬ kd = 1 from fun h => h c2)]
  refine Cal.mk (hS _) ?_
  rintro _ _ ⟨rfl, rfl⟩ -
  by_cases c3 : Z = 0
  · rw [if_pos (Or.inr c3)]
    simp (config := {maxSteps := 3000000}) only [run_reg, run_seq, run_ret, run_cond, if_true, at_code_n, at_code_r, at_fin_r, ops_nil, ops_grd, grd_ff, ops_mv, ops_pick, ops_bin, ops_load, ops_store, ev_t, ev_c, put_get, put_none, opv_mk, stb_some, sto_ptr, Stp, put_box_same, args0, vpick, vbin, vbinI, vload, takeV, splice, V.cells, obsOk, List.map_cons, List.map_nil, List.length_cons, List.length_nil, List.take_succ_cons, List.take_zero, List.drop_succ_cons, List.drop_zero, List.nil_append, List.append_nil, List.take_nil, List.drop_nil, and_true, true_and, Nat.reduceEqDiff, Nat.reduceAdd, Nat.reduceLT, Nat.reduceLeDiff, Nat.reduceLT, Nat.zero_add, ↓reduceIte, vret, rvAll, rvVal, resv_2, eq_self, Bool.false_eq_true, decide_eq_true c3, put_box_ne (Nat.ne_of_lt hbc)]
    exact ⟨_, _, Wk.refl _, hw3 _ _ _, rfl, rfl⟩
  rw [if_neg (show ¬ (kd ≠ 1 ∨ Z = 0) by omega)]
  simp (config := {maxSteps := 3000000}) only [run_skip, run_reg, run_seq, run_cond, if_false, at_code_n, ops_nil, ops_grd, grd_ff, ops_mv, ops_pick, ops_bin, ops_len, ops_call, ev_t, ev_c, put_get, opv_mk, args0, List.getD_cons_zero, vpick, vbin, vbinI, vlen, obsOk, List.map_cons, List.map_nil, true_and, Nat.reduceEqDiff, ↓reduceIte, eq_self, reduceCtorEq, Bool.false_eq_true, decide_eq_false c3]
  refine Cal.mk (hS _) ?_
  rintro _ _ ⟨rfl, rfl⟩ -
  by_cases c5 : (L.length : Int) = Z
  case neg =>
    rw [if_pos (Or.inr c5)]
    simp (config := {maxSteps := 3000000}) only [run_reg, run_seq, run_ret, run_cond, if_true, at_code_n, at_code_r, at_fin_r, ops_nil, ops_grd, grd_tf, ops_mv, ops_pick, ops_bin, ops_load, ops_store, ev_t, ev_c, put_get, put_none, opv_mk, stb_some, sto_ptr, Stp, put_box_same, args0, vpick, vbin, vbinI, vload, takeV, splice, V.cells, obsOk, List.map_cons, List.map_nil, List.length_cons, List.length_nil, List.take_succ_cons, List.take_zero, List.drop_succ_cons, List.drop_zero, List.nil_append, List.append_nil, List.take_nil, List.drop_nil, and_true, true_and, Nat.reduceEqDiff, Nat.reduceAdd, Nat.reduceLT, Nat.reduceLeDiff, Nat.reduceLT, Nat.zero_add, ↓reduceIte, vret, rvAll, rvVal, resv_2, ne_eq, eq_self, decide_eq_true c5, bs_len, put_box_ne (Nat.ne_of_lt hbc)]
    exact ⟨_, _, Wk.refl _, hw3 _ _ _, rfl, rfl⟩
  simp (config := {maxSteps := 3000000}) only [ops_grd, grd_ff, ops_mv, ops_bin, ops_slc, ops_call, ev_t, ev_c, put_get, opv_mk, args0, List.getD_cons_zero, vbin, vbinI, vslc, obsOk, List.map_cons, List.map_nil, Option.map_some, Option.map_none, true_and, Nat.reduceEqDiff, Int.reduceToNat, Int.reduceLE, ↓reduceIte, ne_eq, eq_self, reduceCtorEq, bs_len, bs_take, allSz_bs', decide_eq_false (show ¬ ¬ (L.length : Int) = Z from fun h => h c5)]
  repeat (apply And.intro; focus (first | omega | (simp; done)))
  refine Cal.mk (n0 _) ?_
  rintro _ _ ⟨rfl, rfl⟩ -
  by_cases c4 : sz0 = L.length
  case neg =>
    rw [if_pos (Or.inl (by omega))]
    simp (config := {maxSteps := 3000000}) only [run_reg, run_seq, run_ret, run_cond, if_true, at_code_n, at_code_r, at_fin_r, ops_nil, ops_grd, grd_ff, ops_mv, ops_pick, ops_bin, ops_conv, ops_load, ops_len, ops_store, ev_t, ev_c, put_get, put_none, opv_mk, stb_some, sto_ptr, Stp, put_box_same, args0, List.getD_cons_zero, vpick, vbin, vbinI, vconv, norm, vlen, vload, takeV, splice, V.cells, obsOk, List.map_cons, List.map_nil, List.length_cons, List.length_nil, List.take_succ_cons, List.take_zero, List.drop_succ_cons, List.drop_zero, List.nil_append, List.append_nil, List.take_nil, List.drop_nil, and_true, true_and, Nat.reduceEqDiff, Nat.reduceAdd, Nat.reduceLT, Nat.reduceLeDiff, Nat.reduceLT, Int.reduceNeg, Nat.zero_add, ↓reduceIte, vret, rvAll, rvVal, resv_2, ne_eq, eq_self, reduceCtorEq, Bool.false_eq_true, decide_eq_true c4, bs_len, put_box_ne (Nat.ne_of_lt hbc)]
    repeat (apply And.intro; focus (first | omega | (simp; done)))
    exact ⟨_, _, Wk.refl _, hw3 _ _ _, rfl, rfl⟩
  rw [if_neg (show ¬ (sz0 ≠ Z ∨ (L.length : Int) ≠ Z) by omega)]
  have hsum := hsd c3
  simp (config := {maxSteps := 3000000}) only [run_skip, run_reg, run_seq, run_cond, if_false, at_code_n, ops_nil, ops_grd, grd_ff, ops_mv, ops_pick, ops_bin, ops_conv, ops_ix, ops_len, ops_bld, ops_alc, ops_store, ev_t, ev_c, put_get, put_none, opv_mk, stb_some, sto_ptr, Stp, vbld, put_box_same, put_sz, put_put, args0, List.getD_cons_zero, vpick, vbin, vbinI, vconv, norm, vlen, vix, fillV, splice, V.cells, ptrV, obsOk, List.map_cons, List.map_nil, List.length_cons, List.length_nil, List.take_zero, List.drop_succ_cons, List.drop_zero, List.cons_append, List.nil_append, List.append_nil, List.drop_nil, and_true, true_and, Nat.reduceEqDiff, Nat.reduceAdd, Nat.reduceLT, Nat.reduceLeDiff, Nat.reduceLT, Int.reduceToNat, Int.reduceLE, Int.reduceNeg, Nat.zero_add, ↓reduceIte, ne_eq, eq_self, reduceCtorEq, Bool.false_eq_true, decide_eq_false (show ¬ ¬ sz0 = L.length from fun h => h c4), bs_len]
  repeat (apply And.intro; focus (first | omega | (simp; done)))
  intro d hd
  obtain ⟨hd1, hcd⟩ : st.sz ≤ d ∧ c < d := by first | omega | (simp only [put_sz] at hd; omega)
  clear hd
  have hw4 : ∀ cs ds es fs : List V, st.weak ((((st.put b cs).put c ds).put d fs).put b es) := fun cs ds es fs => weak_put (weak_put (weak_put (weak_put hwf.weak hb) hc1) hd1) hb
  have hbd : b < d := by omega
  by_cases c6 : z1 = 0
  case neg =>
    rw [if_pos (by omega)]
    simp (config := {maxSteps := 3000000}) only [run_reg, run_seq, run_ret, run_cond, if_true, at_code_n, at_code_r, at_fin_r, ops_nil, ops_grd, grd_tf, ops_mv, ops_pick, ops_bin, ops_load, ops_store, ev_t, ev_c, put_get, put_none, opv_mk, stb_some, sto_ptr, Stp, put_box_same, args0, vpick, vbin, vbinI, vload, takeV, splice, V.cells, obsOk, List.map_cons, List.map_nil, List.length_cons, List.length_nil, List.getElem?_cons_zero, List.take_succ_cons, List.take_zero, List.drop_succ_cons, List.drop_zero, List.nil_append, List.append_nil, List.take_nil, List.drop_nil, Option.map_some, and_true, true_and, Nat.reduceEqDiff, Nat.reduceAdd, Nat.reduceLT, Nat.reduceLeDiff, Nat.reduceLT, Nat.zero_add, ↓reduceIte, vret, rvAll, rvVal, resv_2, ne_eq, eq_self, bs_get, hz1, decide_eq_true c6, put_box_ne (Nat.ne_of_lt hbc), put_box_ne (Nat.ne_of_lt hbd), put_box_ne (Nat.ne_of_lt hcd)]
    exact ⟨_, _, Wk.refl _, hw4 _ _ _ _, rfl, rfl⟩
  by_cases c7 : z2 = 0
  case neg =>
    rw [if_pos (by omega)]
    simp (config := {maxSteps := 3000000}) only [run_reg, run_seq, run_ret, run_cond, if_true, at_code_n, at_code_r, at_fin_r, ops_nil, ops_grd, grd_ff, ops_mv, ops_pick, ops_bin, ops_ix, ops_load, ops_store, ev_t, ev_c, put_get, put_none, opv_mk, stb_some, sto_ptr, Stp, put_box_same, args0, List.getD_cons_zero, vpick, vbin, vbinI, vix, vload, takeV, splice, V.cells, obsOk, List.map_cons, List.map_nil, List.length_cons, List.length_nil, List.getElem?_cons_zero, List.take_succ_cons, List.take_zero, List.drop_succ_cons, List.drop_zero, List.nil_append, List.append_nil, List.take_nil, List.drop_nil, Option.map_some, and_true, true_and, Nat.reduceEqDiff, Nat.reduceAdd, Nat.reduceLT, Nat.reduceLeDiff, Nat.reduceLT, Int.reduceToNat, Int.reduceLE, Nat.zero_add, ↓reduceIte, vret, rvAll, rvVal, resv_2, ne_eq, eq_self, reduceCtorEq, Bool.false_eq_true, bs_get, hz1, hz2, decide_eq_false (show ¬ ¬ z1 = 0 from fun h => h c6), decide_eq_true c7, put_box_ne (Nat.ne_of_lt hbc), put_box_ne (Nat.ne_of_lt hbd), put_box_ne (Nat.ne_of_lt hcd)]
    exact ⟨_, _, Wk.refl _, hw4 _ _ _ _, rfl, rfl⟩
  rw [if_neg (by omega)]
  simp (config := {maxSteps := 3000000}) only [run_skip, run_reg, run_seq, run_cond, if_false, at_code_n, ops_nil, ops_grd, grd_ff, ops_mv, ops_pick, ops_bin, ops_ix, ops_load, ops_call, ev_t, ev_c, put_get, opv_mk, args0, List.getD_cons_zero, vpick, vbin, vbinI, vix, vload, takeV, V.cells, List.map_cons, List.map_nil, List.length_cons, List.length_nil, List.getElem?_cons_zero, Option.map_some, and_true, true_and, Nat.reduceEqDiff, Int.reduceToNat, Int.reduceLE, Nat.zero_add, ↓reduceIte, ne_eq, eq_self, reduceCtorEq, Bool.false_eq_true, bs_get, hz1, hz2, decide_eq_false (show ¬ ¬ z1 = 0 from fun h => h c6), decide_eq_false (show ¬ ¬ z2 = 0 from fun h => h c7)]
  refine Cal.mk (hLy _) ?_
  rintro _ _ ⟨rfl, rfl⟩ -
  simp (config := {maxSteps := 3000000}) only [run_reg, run_seq, run_blk, at_code_n, ops_nil, ops_mv, ev_t, ev_c, put_get, opv_mk, obsOk, true_and, ↓reduceIte, eq_self]
  obtain ⟨X, hX⟩ : ∃ X, pK K (L.drop 12) = X := ⟨_, rfl⟩
  rw [hX]
  refine run_loop [3, 8, 9, 10, 11, 12, 13, 68, 69, 70, 71, 72, 73, 74, 75, 76, 77, 78, 79, 80, 81, 82, 83, 84, 85, 86, 87, 88, 89, 90, 91, 92, 93, 94, 95, 96, 97, 98, 99, 100, 101, 102, 103, 104, 105, 106, 107, 108, 109, 110, 111, 112, 113, 114, 115, 116, 117, 118, 119, 120, 121, 122, 123, 124, 125, 126, 127, 128, 129, 130, 131, 132, 133, 134, 135, 136] (fun B s => ∃ (i at_ : Nat) (A : List Int) (T : List (List Int)), i ≤ K.length ∧ B 11 = .sc (.int .i64 i) ∧ B 10 = .sc (.int .i64 at_) ∧ B 8 = .sc (.int .i64 A.length) ∧ B 9 = .sc (.int .i64 T.length) ∧ P3 st s b c d zCells zCells (mkM t A T).cells ∧
    X = (pK (K.drop i) (L.drop at_)).map (fun p => (A ++ p.1, T ++ p.2)) ∧ A.length + (K.drop i).countP isNum ≤ 9 ∧ T.length + (K.drop i).countP isTxt ≤ 3 ∧ at_ + sumN (K.drop i) = L.length) (fun B _ => K.length - vnat (B 11)) rfl ?_ ?_
  · simp (config := {maxSteps := 3000000}) only [put_get, Nat.reduceEqDiff, ↓reduceIte, eq_self]
    refine ⟨0, 12, [], [], by omega, by simp, by simp, by simp, by simp, ?_, by rw [List.drop_zero, hX]; cases X <;> rfl, by simpa using hcn, by simpa using hct, by simp; omega⟩
    exact ⟨weak_put (weak_put (weak_put hwf.weak hb) hc1) hd1, hwf.lt.put.put.put, hb, hbc, hcd, by rw [put_box_ne (by omega), put_box_ne (by omega)]; exact put_box_same, by rw [put_box_ne (by omega)]; exact put_box_same, put_box_same⟩
  · rintro B s ⟨i, at_, A, T, hi, h11, h10, h8, h9, hP, he, hn, hq, hat⟩
    clear hX
    have hx3 := hP.x
    have hy3 := hP.y
    have hbz := hP.z
    have hz13 : zCells.length = 13 := rfl
    have htk0 : zCells.take 13 = zCells := rfl
    have hdr : zCells.drop 13 = [] := rfl
    have hw5 := fun cs => weak_put (cs := cs) hP.weak hb
    by_cases hlt : i < K.length
    · obtain ⟨k, hk⟩ := get_ex hlt
      have hko' := hK4 k (List.mem_of_getElem? hk)
      have hpn := toPart_num hko'
      have hpt := toPart_txt hko'
      have hps := toPart_sz k hko'
      have hko := hko'
      unfold kOk at hko
      have hlt' := decide_eq_true (show (i : Int) < (K.length : Int) by omega)
      have hsd2 : K.drop i = k :: K.drop (i + 1) := drop_cons hk
      rw [hsd2, List.countP_cons] at hn hq
      rw [hsd2] at he hat
      simp only [sumN] at hat
      have eto : ((at_ : Int) + (k.natAbs : Int)).toNat = at_ + k.natAbs := by omega
      have esl : (L.take (at_ + k.natAbs)).drop at_ = (L.drop at_).take k.natAbs := by rw [List.drop_take]; congr 1; omega
      have hxl : ((L.drop at_).take k.natAbs).length = k.natAbs := by simp; omega
      have hxB : IsB ((L.drop at_).take k.natAbs) := (hB.drop _).take _
      by_cases d1 : 0 < k ∧ k ≤ 4
      · have e1' : isTxt k = false := by simp [isTxt]; omega
        have e2' : isNum k = true := by simp [isNum]; omega
        rw [e2'] at hn hpn; rw [e1'] at hq
        simp only [↓reduceIte] at hn
        rw [pS_num (by omega) (by omega)] at he
        have hkt : k.toNat = k.natAbs := by omega
        rw [hkt] at he
        have hr8 := fun st : St => rNum_v (tk := .no) (st := st) hxB (by omega)
        have hnr : 0 ≤ numL ((L.drop at_).take k.natAbs) ∧ numL ((L.drop at_).take k.natAbs) < 4294967296 := by
          have h := numL_range _ _ hxl hxB
          rw [hxl] at h
          refine ⟨h.1, Int.lt_of_lt_of_le h.2 ?_⟩
          have : k.natAbs = 1 ∨ k.natAbs = 2 ∨ k.natAbs = 4 := by omega
          rcases this with e | e | e <;> rw [e] <;> decide
        generalize hxx : (L.drop at_).take k.natAbs = x at *
        have em : numL x % 4294967296 = numL x := by omega
        have hD13 : (mkM t A T).cells.length = 13 := MB.len (mkM_n (by omega)) (mkM_t (by omega))
        have hset := mkM_setN (t := t) (A := A) (B := T) (by omega) (numL x)
        simp (config := {maxSteps := 3000000}) only [run_skip, run_reg, run_seq, run_blk, run_cond, if_true, at_code_n, ops_nil, ops_mv, ops_bin, ops_fld, ops_ix, ops_load, ops_len, ops_slc, ops_call, ev_t, ev_c, put_get, opv_mk, over_get, vnat, args0, List.getD_cons_zero, vbin, vbinI, norm, vfld, vlen, vix, vload, takeV, vslc, V.cells, List.map_cons, List.map_nil, List.length_cons, List.length_nil, List.getElem?_cons_zero, List.getElem?_cons_succ, Option.map_some, and_true, true_and, Nat.reduceEqDiff, Nat.reduceAdd, Int.toNat_natCast, Int.reduceNeg, Nat.zero_add, Nat.add_zero, ↓reduceIte, eq_self, reduceCtorEq, Bool.false_eq_true, List.contains_cons, List.contains_nil, Nat.reduceBEq, Bool.or_false, Bool.or_true, h11, h10, h8, ps_len, List.length_map, ps_get, List.getElem?_map, hk, hlt', hps, hpn, bs_len, bs_take, bs_drop, allSz_bs', eto, esl]
        repeat (apply And.intro; focus (first | omega | (simp; done)))
        refine Cal.mk (hr8 _) ?_
        rintro _ _ ⟨rfl, rfl⟩ -
        simp (config := {maxSteps := 3000000}) only [run_reg, run_seq, run_exit, at_code_n, at_code_x, at_blk_x, at_rnd_n, ops_nil, ops_mv, ops_bin, ops_conv, ops_fld, ops_ixa, ops_store, ev_t, ev_c, put_get, put_none, opv_mk, stb_some, sto_ptr, over_get, rel_mk, Stp, vbin, vbinI, vconv, norm, vfld, vixa, splice, V.cells, obsOk, List.length_cons, List.length_nil, true_and, Nat.reduceEqDiff, Nat.reduceLT, Nat.reduceLeDiff, Nat.reduceLT, Int.toNat_natCast, Int.reduceNeg, Nat.zero_add, Nat.mul_one, ↓reduceIte, eq_self, Bool.false_eq_true, List.contains_cons, List.contains_nil, Nat.reduceBEq, Bool.or_false, Bool.or_true, h11, h8, h9, em, hbz, hD13]
        repeat (apply And.intro; focus (first | omega | (simp; done)))
        exact ⟨⟨i + 1, at_ + k.natAbs, A ++ [numL x], T, by omega, by simp, by simp, by simp, by first | exact h9 | simp, by rw [← hset]; exact hP.pz, by rw [he, List.drop_drop], by simp; omega, by simpa using hq, by omega⟩, by omega⟩
      · have e2' : isNum k = false := by simp [isNum]; omega
        rw [e2'] at hn hpn
        generalize hxx : (L.drop at_).take k.natAbs = x at *
        simp (config := {maxSteps := 3000000}) only [run_skip, run_reg, run_seq, run_blk, run_cond, if_true, if_false, at_code_n, ops_nil, ops_mv, ops_bin, ops_fld, ops_ix, ops_load, ops_len, ops_slc, ev_t, ev_c, put_get, opv_mk, over_get, vnat, args0, List.getD_cons_zero, vbin, vbinI, norm, vfld, vlen, vix, vload, takeV, vslc, V.cells, List.length_cons, List.length_nil, List.getElem?_cons_zero, List.getElem?_cons_succ, Option.map_some, and_true, true_and, Nat.reduceEqDiff, Nat.reduceAdd, Int.toNat_natCast, Int.reduceNeg, Nat.zero_add, Nat.add_zero, ↓reduceIte, eq_self, reduceCtorEq, Bool.false_eq_true, List.contains_cons, List.contains_nil, Nat.reduceBEq, Bool.or_false, Bool.or_true, h11, h10, ps_len, List.length_map, ps_get, List.getElem?_map, hk, hlt', hps, hpn, bs_len, bs_take, bs_drop, allSz_bs', eto, esl]
        repeat (apply And.intro; focus (first | omega | (simp; done)))
        refine run_loop [13, 107, 108, 109, 110, 111, 112, 113, 114, 115, 116, 117, 118] (fun B s' => s' = s ∧ ∃ e : Nat, e ≤ x.length ∧ B 13 = .sc (.int .i64 e) ∧ stripN x x.length = stripN x e) (fun B _ => vnat (B 13)) rfl ?_ ?_
        · simp (config := {maxSteps := 3000000}) only [put_get, true_and, ↓reduceIte, eq_self]
          exact ⟨x.length, by omega, rfl, rfl⟩
        · rintro B2 s2 ⟨rfl, e, hel, h13, hst⟩
          by_cases h0 : e = 0
          · have hfin : stripN x x.length = e := by rw [hst, h0]; rfl
            by_cases d2 : 4 < k
            · have e1' : isTxt k = true := by simp [isTxt, d2]
              rw [e1'] at hq hpt
              simp only [↓reduceIte] at hq
              rw [pS_txt d2] at he
              have hkt : k.toNat = k.natAbs := by omega
              rw [hkt, hxx] at he
              have hD13 : (mkM t A T).cells.length = 13 := MB.len (mkM_n (by omega)) (mkM_t (by omega))
              have hset := mkM_setT (t := t) (A := A) (B := T) (by omega) (by omega) (stripL x)
              have hsl : x.take e = stripL x := by unfold stripL; rw [hfin]
              simp (config := {maxSteps := 3000000}) only [run_reg, run_seq, run_exit, run_cond, if_true, if_false, at_code_n, at_code_x, at_blk_n, at_blk_x, at_rnd_n, at_rnd_x, ops_nil, ops_grd, grd_ft, ops_mv, ops_pick, ops_bin, ops_b2s, vb2s, ops_fld, ops_ix, ops_ixa, ops_load, ops_slc, ops_store, ev_t, ev_c, put_get, put_none, opv_mk, stb_some, sto_ptr, over_get, rel_mk, vnat, Stp, vpick, vbin, vbinI, norm, vfld, vix, vixa, vload, takeV, vslc, splice, V.cells, obsOk, List.length_cons, List.length_nil, List.getElem?_cons_zero, Option.map_some, Option.map_none, and_true, true_and, Nat.reduceEqDiff, Nat.reduceAdd, Nat.reduceLT, Nat.reduceLeDiff, Nat.reduceLT, Int.toNat_natCast, Int.reduceNeg, Nat.zero_add, Nat.add_zero, Nat.mul_one, ↓reduceIte, eq_self, Bool.false_eq_true, List.contains_cons, List.contains_nil, Nat.reduceBEq, Bool.or_false, Bool.or_true, h13, h11, h8, h9, decide_eq_false (show ¬ (0 : Int) < (e : Int) by omega), ps_get, List.getElem?_map, hk, hpt, bs_len, bs_take, allSz_bs', u8s_bs, hsl, hbz, hD13]
              repeat (apply And.intro; focus (first | omega | (simp; done)))
              exact ⟨⟨i + 1, at_ + k.natAbs, A, T ++ [stripL x], by omega, by simp, by first | exact h10 | simp, by first | exact h8 | simp, by simp, by rw [← hset]; exact hP.pz, by rw [he, List.drop_drop], by simpa using hn, by simp; omega, by omega⟩, by omega⟩
            · have e1' : isTxt k = false := by simp [isTxt]; omega
              rw [e1'] at hq hpt
              rw [pK_neg (by omega)] at he
              have hkt : (-k).toNat = k.natAbs := by omega
              rw [hkt, hxx] at he
              have hall := stripN_all x
              rw [hfin] at hall
              by_cases d3 : e = 0
              · rw [hall.1 d3] at he
                simp only [↓reduceIte] at he
                simp (config := {maxSteps := 3000000}) only [run_skip, run_reg, run_seq, run_exit, run_cond, if_false, at_code_n, at_code_x, at_blk_n, at_blk_x, at_rnd_n, at_rnd_x, ops_nil, ops_grd, grd_ft, ops_mv, ops_pick, ops_bin, ops_fld, ops_ix, ops_load, ev_t, ev_c, put_get, opv_mk, over_get, rel_mk, vnat, vpick, vbin, vbinI, norm, vfld, vix, vload, takeV, V.cells, List.length_cons, List.length_nil, List.getElem?_cons_zero, Option.map_some, and_true, true_and, Nat.reduceEqDiff, Nat.reduceAdd, Int.toNat_natCast, Int.reduceNeg, Nat.zero_add, Nat.add_zero, ↓reduceIte, eq_self, Bool.false_eq_true, List.contains_cons, List.contains_nil, Nat.reduceBEq, Bool.or_false, Bool.or_true, h13, h11, h8, h9, ps_get, List.getElem?_map, hk, hpt, decide_eq_false (show ¬ (0 : Int) < (e : Int) by omega)]
                repeat (apply And.intro; focus (first | omega | (simp; done)))
                exact ⟨⟨i + 1, at_ + k.natAbs, A, T, by omega, by simp, by first | exact h10 | simp, by first | exact h8 | simp, by first | exact h9 | simp, hP, by rw [he, List.drop_drop], by simpa using hn, by simpa using hq, by omega⟩, by omega⟩
              · exact absurd h0 d3
          · obtain ⟨z, hz⟩ := get_ex (L := x) (i := e - 1) (by omega)
            have e1 : ((e : Int) - 1).toNat = e - 1 := by omega
            have hs1 : stripN x e = if x[e - 1]? = some 0 then stripN x (e - 1) else e := by
              obtain ⟨e', rfl⟩ : ∃ e', e = e' + 1 := ⟨e - 1, by omega⟩
              rfl
            by_cases z0' : z = 0
            · rw [hz, z0', if_pos rfl] at hs1
              simp (config := {maxSteps := 3000000}) only [run_skip, run_reg, run_seq, run_blk, run_cond, if_true, at_code_n, at_blk_n, at_rnd_n, ops_nil, ops_grd, grd_tt, ops_mv, ops_pick, ops_bin, ops_ix, ops_load, ev_t, ev_c, put_get, opv_mk, over_get, rel_mk, vnat, vpick, vbin, vbinI, norm, vix, vload, takeV, V.cells, List.length_cons, List.length_nil, List.getElem?_cons_zero, Option.map_some, and_true, true_and, Nat.reduceEqDiff, Int.toNat_natCast, Int.reduceNeg, Nat.zero_add, ↓reduceIte, eq_self, Bool.false_eq_true, List.contains_cons, List.contains_nil, Nat.reduceBEq, Bool.or_false, h13, bs_get, e1, hz, decide_eq_true (show (0 : Int) < (e : Int) by omega), decide_eq_true z0']
              repeat (apply And.intro; focus (first | omega | (simp; done)))
              exact ⟨⟨e - 1, by omega, congrArg (fun v => V.sc (.int .i64 v)) (by omega), by rw [hst, hs1]⟩, by omega⟩
            · rw [hz, if_neg (fun h => z0' (by cases h; rfl))] at hs1
              have hfin : stripN x x.length = e := by rw [hst, hs1]
              by_cases d2 : 4 < k
              · have e1' : isTxt k = true := by simp [isTxt, d2]
                rw [e1'] at hq hpt
                simp only [↓reduceIte] at hq
                rw [pS_txt d2] at he
                have hkt : k.toNat = k.natAbs := by omega
                rw [hkt, hxx] at he
                have hD13 : (mkM t A T).cells.length = 13 := MB.len (mkM_n (by omega)) (mkM_t (by omega))
                have hset := mkM_setT (t := t) (A := A) (B := T) (by omega) (by omega) (stripL x)
                have hsl : x.take e = stripL x := by unfold stripL; rw [hfin]
                simp (config := {maxSteps := 3000000}) only [run_reg, run_seq, run_exit, run_cond, if_true, if_false, at_code_n, at_code_x, at_blk_n, at_blk_x, at_rnd_n, at_rnd_x, ops_nil, ops_grd, grd_tt, ops_mv, ops_pick, ops_bin, ops_b2s, vb2s, ops_fld, ops_ix, ops_ixa, ops_load, ops_slc, ops_store, ev_t, ev_c, put_get, put_none, opv_mk, stb_some, sto_ptr, over_get, rel_mk, vnat, Stp, vpick, vbin, vbinI, norm, vfld, vix, vixa, vload, takeV, vslc, splice, V.cells, obsOk, List.length_cons, List.length_nil, List.getElem?_cons_zero, Option.map_some, Option.map_none, and_true, true_and, Nat.reduceEqDiff, Nat.reduceAdd, Nat.reduceLT, Nat.reduceLeDiff, Nat.reduceLT, Int.toNat_natCast, Int.reduceNeg, Nat.zero_add, Nat.add_zero, Nat.mul_one, ↓reduceIte, eq_self, Bool.false_eq_true, List.contains_cons, List.contains_nil, Nat.reduceBEq, Bool.or_false, Bool.or_true, h13, h11, h8, h9, bs_get, e1, hz, decide_eq_true (show (0 : Int) < (e : Int) by omega), decide_eq_false z0', ps_get, List.getElem?_map, hk, hpt, bs_len, bs_take, allSz_bs', u8s_bs, hsl, hbz, hD13]
                repeat (apply And.intro; focus (first | omega | (simp; done)))
                exact ⟨⟨i + 1, at_ + k.natAbs, A, T ++ [stripL x], by omega, by simp, by first | exact h10 | simp, by first | exact h8 | simp, by simp, by rw [← hset]; exact hP.pz, by rw [he, List.drop_drop], by simpa using hn, by simp; omega, by omega⟩, by omega⟩
              · have e1' : isTxt k = false := by simp [isTxt]; omega
                rw [e1'] at hq hpt
                rw [pK_neg (by omega)] at he
                have hkt : (-k).toNat = k.natAbs := by omega
                rw [hkt, hxx] at he
                have hall := stripN_all x
                rw [hfin] at hall
                by_cases d3 : e = 0
                · exact absurd d3 h0
                · have hnz : x.all (fun x => decide (x = 0)) = false := by
                    cases hh : x.all (fun x => decide (x = 0))
                    · rfl
                    · exact absurd (hall.2 hh) d3
                  rw [hnz] at he
                  simp only [Bool.false_eq_true, ↓reduceIte, Option.map_none] at he
                  simp (config := {maxSteps := 3000000}) only [run_reg, run_seq, run_exit, run_ret, run_cond, if_true, if_false, at_code_n, at_code_x, at_code_r, at_blk_x, at_blk_r, at_rnd_x, at_rnd_r, at_fin_r, ops_nil, ops_grd, grd_tt, ops_mv, ops_pick, ops_bin, ops_fld, ops_ix, ops_load, ops_store, ev_t, ev_c, put_get, put_none, opv_mk, stb_some, sto_ptr, over_get, vnat, Stp, put_box_same, args0, vpick, vbin, vbinI, norm, vfld, vix, vload, takeV, splice, V.cells, obsOk, List.map_cons, List.map_nil, List.length_cons, List.length_nil, List.getElem?_cons_zero, List.take_zero, List.drop_zero, List.nil_append, List.append_nil, Option.map_some, and_true, true_and, Nat.reduceEqDiff, Nat.reduceAdd, Nat.reduceLT, Nat.reduceLeDiff, Nat.reduceLT, Int.toNat_natCast, Int.reduceNeg, Nat.zero_add, Nat.add_zero, ↓reduceIte, vret, rvAll, rvVal, resv_2, eq_self, Bool.false_eq_true, List.contains_cons, List.contains_nil, Nat.reduceBEq, Bool.or_false, Bool.or_true, h13, h11, bs_get, e1, hz, decide_eq_false z0', ps_get, List.getElem?_map, hk, hpt, decide_eq_true (show (0 : Int) < (e : Int) by omega), hx3, hy3, htk0, hdr, hz13]
                  repeat (apply And.intro; focus (first | omega | (simp; done)))
                  exact ⟨_, _, Wk.refl _, hw5 _, by rw [he]; rfl, rfl⟩
    · obtain rfl : i = K.length := by omega
      rw [List.drop_of_length_le (Nat.le_refl _)] at he hn hq hat
      simp only [pK, Option.map_some, List.append_nil] at he
      simp only [List.countP_nil, Nat.add_zero] at hn hq
      have hD13 : (mkM t A T).cells.length = 13 := MB.len (mkM_n (by omega)) (mkM_t (by omega))
      have htk : (mkM t A T).cells.take 13 = (mkM t A T).cells := List.take_of_length_le (by omega)
      simp (config := {maxSteps := 3000000}) only [run_reg, run_seq, run_exit, run_ret, run_cond, if_false, at_code_n, at_code_x, at_blk_x, at_rnd_x, at_fin_r, ops_nil, ops_mv, ops_bin, ops_load, ops_len, ops_store, ev_t, ev_c, put_get, put_none, opv_mk, stb_some, sto_ptr, over_get, vnat, Stp, put_box_same, args0, vbin, vbinI, vlen, vload, takeV, splice, V.cells, obsOk, List.map_cons, List.map_nil, List.take_zero, List.drop_zero, List.nil_append, List.append_nil, and_true, true_and, Nat.reduceEqDiff, Nat.reduceLT, Nat.reduceLeDiff, Nat.reduceLT, Int.toNat_natCast, Nat.zero_add, ↓reduceIte, vret, rvAll, rvVal, resv_2, decide_false, Int.lt_irrefl, eq_self, Bool.false_eq_true, List.contains_cons, List.contains_nil, Nat.reduceBEq, Bool.or_false, Bool.or_true, h11, ps_len, List.length_map, hx3, hbz, hD13, htk, hdr, hz13]
      exact ⟨_, _, Wk.refl _, hw5 _, by rw [he]; rfl, rfl⟩
end
end Go.Proofs.Ytogkdcbcmhhhcaa
