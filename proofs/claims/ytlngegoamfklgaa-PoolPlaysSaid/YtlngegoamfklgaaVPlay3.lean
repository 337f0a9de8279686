/- The pool's law, call by call: why there is none, who leases, a step. -/
import Derived.Test.YtlngegoamfklgaaVPlay2
namespace Go.Proofs.Ytlngegoamfklgaa
open Go

theorem Wk.tupS {a a' : V} {x : Value} (h : Wk a a') : Wk (.tup [a, .sc x]) (.tup [a', .sc x]) := fun G v hv => by
  cases hv with
  | tup _ vs hl hg =>
    refine .tup _ vs hl fun i c u hc hu => ?_
    match i, hc with
    | 0, hc => simp at hc; subst hc; exact h G u (hg 0 a u rfl hu)
    | 1, hc => exact hg 1 c u hc hu
section
variable {st : St} {first many : Int} {S : List (ByteArray × Int)} {l : List (Int × ByteArray)} {tk t2 : Tk}
set_option maxRecDepth 100000 in
theorem refBytesP_v {a : Int} (h0 : 0 ≤ a) (h1 : a < 4294967296) : VCalls Try.prog 122 [.sc (.int .u32 a)] st fun r s => (∃ x y z, r = .agg [.sc (.int .u8 (a / 16777216)), .sc x, .sc y, .sc z]) ∧ st = s := by
  have e1 : a / 16777216 % 4294967296 % 256 = a / 16777216 := by omega
  refine vcalls_enter vc122 (Nat.le_of_ble_eq_true rfl) fun hwf hok => ?_
  show Run _ Vc122.body (.fin (finQ Vc122.res _)) _ _
  unfold Vc122
  simp (config := {maxSteps := 3000000}) only [run_reg, run_seq, run_ret, at_code_n, at_fin_r, ops_nil, ops_mv, ops_bin, ops_conv, ops_bld, ops_alc, ops_store, ev_t, ev_c, put_get, put_none, opv_mk, stb_some, sto_ptr, Stp, vbld, put_box_same, put_put, args0, List.getD_cons_zero, vbin, vbinI, vconv, norm, vload, takeV, takeB, mono_two, fillV, splice, V.cells, ptrV, obsOk, List.map_cons, List.map_nil, List.length_cons, List.length_nil, List.take_succ_cons, List.take_zero, List.drop_succ_cons, List.drop_zero, List.cons_append, List.nil_append, List.append_nil, List.take_nil, List.drop_nil, and_true, true_and, Nat.reduceEqDiff, Nat.reduceAdd, Nat.reduceLT, Nat.reduceLeDiff, Nat.reduceLT, Int.reduceLT, Nat.zero_add, ↓reduceIte, vret, rvAll, rvVal, resv_1, eq_self, reduceCtorEq, e1]
  intro b hb
  repeat (apply And.intro; focus (first | omega | (simp; done)))
  exact ⟨_, _, Wk.refl _, weak_put hwf.weak hb, ⟨_, _, _, rfl⟩, rfl⟩
set_option maxRecDepth 100000 in
theorem refHostP_v {a : Int} (h0 : 0 ≤ a) (h1 : a < 4294967296) : VCalls Try.prog 74 [.sc (.int .u32 a)] st fun r s => r = .sc (.bool (hostB a)) ∧ st = s := by
  refine vcalls_enter vc74 (Nat.le_of_ble_eq_true rfl) fun hwf hok => ?_
  show Run _ Vc74.body (.fin (finQ Vc74.res _)) _ _
  unfold Vc74
  simp (config := {maxSteps := 3000000}) only [run_reg, run_seq, at_code_n, ops_nil, ops_mv, ops_call, ev_t, ev_c, put_get, opv_mk, args0, List.getD_cons_zero, List.map_cons, List.map_nil, true_and, ↓reduceIte, eq_self, reduceCtorEq]
  refine Cal.mk (refBytesP_v h0 h1) ?_
  rintro _ _ ⟨⟨x, y, z, rfl⟩, rfl⟩ -
  simp (config := {maxSteps := 3000000}) only [run_reg, run_seq, at_code_n, ops_nil, ops_grd, ops_mv, ops_bin, ops_ixa, ops_load, ops_alc, ops_store, ev_t, ev_c, put_get, put_none, opv_mk, stb_some, sto_ptr, Stp, put_box_same, put_put, vbin, vbinI, vixa, vload, takeV, takeB, mono_two, splice, V.cells, ptrV, obsOk, List.length_cons, List.length_nil, List.getElem?_cons_zero, List.take_zero, List.drop_succ_cons, List.nil_append, List.append_nil, List.drop_nil, true_and, Nat.reduceEqDiff, Nat.reduceAdd, Nat.reduceLT, Nat.reduceLeDiff, Nat.reduceLT, Int.reduceToNat, Int.reduceLE, Nat.zero_add, Nat.add_zero, Nat.mul_one, ↓reduceIte, ne_eq, eq_self]
  intro b hb
  unfold hostB
  by_cases c1 : a / 16777216 = 0
  · simp (config := {maxSteps := 3000000}) only [run_ret, at_code_n, at_fin_r, ops_nil, ops_grd, grd_ft, ops_mv, ops_pick, ev_t, ev_c, put_get, opv_mk, vpick, and_true, true_and, Nat.reduceEqDiff, Int.reduceLT, Int.reduceEq, ↓reduceIte, vret, rvAll, rvVal, resv_1, decide_true, decide_false, ne_eq, not_true_eq_false, not_false_eq_true, eq_self, Bool.false_eq_true, c1, decide_false, decide_true]
    repeat (apply And.intro; focus (first | omega | (simp; done)))
    exact ⟨_, _, Wk.refl _, weak_put hwf.weak hb, by simp, rfl⟩
  by_cases c2 : a / 16777216 = 127
  · simp (config := {maxSteps := 3000000}) only [run_ret, at_code_n, at_fin_r, ops_nil, ops_grd, grd_tt, grd_ft, ops_mv, ops_pick, ops_bin, ops_ixa, ops_load, ev_t, ev_c, put_get, opv_mk, put_box_same, vpick, vbin, vbinI, vixa, vload, takeV, takeB, V.cells, List.length_cons, List.length_nil, List.getElem?_cons_zero, and_true, true_and, Nat.reduceEqDiff, Int.reduceToNat, Int.reduceLE, Int.reduceLT, Int.reduceEq, Nat.zero_add, Nat.add_zero, Nat.mul_one, ↓reduceIte, vret, rvAll, rvVal, resv_1, decide_true, decide_false, ne_eq, not_true_eq_false, not_false_eq_true, eq_self, Bool.false_eq_true, c2, decide_false, decide_true]
    repeat (apply And.intro; focus (first | omega | (simp; done)))
    exact ⟨_, _, Wk.refl _, weak_put hwf.weak hb, by simp, rfl⟩
  by_cases c3 : a / 16777216 < 224
  · simp (config := {maxSteps := 3000000}) only [run_ret, at_code_n, at_fin_r, ops_nil, ops_grd, grd_tt, ops_mv, ops_pick, ops_bin, ops_ixa, ops_load, ev_t, ev_c, put_get, opv_mk, put_box_same, vpick, vbin, vbinI, vixa, vload, takeV, takeB, V.cells, List.length_cons, List.length_nil, List.getElem?_cons_zero, and_true, true_and, Nat.reduceEqDiff, Int.reduceToNat, Int.reduceLE, Nat.zero_add, Nat.add_zero, Nat.mul_one, ↓reduceIte, vret, rvAll, rvVal, resv_1, ne_eq, eq_self, decide_eq_true (show a / 16777216 ≠ 0 from c1), decide_eq_true (show a / 16777216 ≠ 127 from c2), decide_eq_true c3]
    repeat (apply And.intro; focus (first | omega | (simp; done)))
    exact ⟨_, _, Wk.refl _, weak_put hwf.weak hb, by simp, rfl⟩
  · simp (config := {maxSteps := 3000000}) only [run_ret, at_code_n, at_fin_r, ops_nil, ops_grd, grd_tt, ops_mv, ops_pick, ops_bin, ops_ixa, ops_load, ev_t, ev_c, put_get, opv_mk, put_box_same, vpick, vbin, vbinI, vixa, vload, takeV, takeB, V.cells, List.length_cons, List.length_nil, List.getElem?_cons_zero, and_true, true_and, Nat.reduceEqDiff, Int.reduceToNat, Int.reduceLE, Nat.zero_add, Nat.add_zero, Nat.mul_one, ↓reduceIte, vret, rvAll, rvVal, resv_1, ne_eq, eq_self, decide_eq_true (show a / 16777216 ≠ 0 from c1), decide_eq_true (show a / 16777216 ≠ 127 from c2), decide_eq_false c3]
    repeat (apply And.intro; focus (first | omega | (simp; done)))
    exact ⟨_, _, Wk.refl _, weak_put hwf.weak hb, by simp, rfl⟩
theorem twice_iff {i : Nat} {x : ByteArray × Int} : ((aget x.2 (swp (S.take i))).isSome = true ∨ hasN x.1 (swp (S.take i)) = true) ↔ ∃ (j : Nat) (y : ByteArray × Int), j < i ∧ S[j]? = some y ∧ (y.2 = x.2 ∨ y.1 = x.1) := by
  constructor
  · rintro (h | h)
    · obtain ⟨v, hv⟩ := Option.isSome_iff_exists.1 h
      obtain ⟨y, hy, e⟩ := List.mem_map.1 (aget_mem hv)
      obtain ⟨j, hj⟩ := List.mem_iff_getElem?.1 hy
      rw [List.getElem?_take] at hj
      split at hj
      · rename_i hji
        simp only [Prod.mk.injEq] at e
        exact ⟨j, y, hji, hj, .inl e.1⟩
      · cases hj
    · unfold hasN at h
      rw [List.any_eq_true] at h
      obtain ⟨p, hp, he⟩ := h
      obtain ⟨y, hy, rfl⟩ := List.mem_map.1 hp
      obtain ⟨j, hj⟩ := List.mem_iff_getElem?.1 hy
      rw [List.getElem?_take] at hj
      split at hj
      · rename_i hji
        simp only [decide_eq_true_eq] at he
        exact ⟨j, y, hji, hj, .inr he.symm⟩
      · cases hj
  · rintro ⟨j, y, hj, hy, h | h⟩
    · have hm : (y.2, y.1) ∈ swp (S.take i) := List.mem_map.2 ⟨y, List.mem_of_getElem? (i := j) (by rw [List.getElem?_take, if_pos hj]; exact hy), rfl⟩
      obtain ⟨v, hv⟩ := aget_some (a := x.2) (l := swp (S.take i)) ⟨_, hm, h⟩
      rw [hv]; exact .inl rfl
    · refine .inr ?_
      unfold hasN
      rw [List.any_eq_true]
      exact ⟨(y.2, y.1), List.mem_map.2 ⟨y, List.mem_of_getElem? (i := j) (by rw [List.getElem?_take, if_pos hj]; exact hy), rfl⟩, by simp [h]⟩
set_option maxRecDepth 100000 in
set_option maxHeartbeats 4000000 in
theorem why29_v (h0 : 0 ≤ first) (h1 : first ≤ 4294967295) (hS : ∀ s ∈ S, 0 ≤ s.2 ∧ s.2 ≤ 4294967295) : VCalls Try.prog 33 [shapeV first many tk S] st fun r s => r = .sc (.int .i64 (newE first many S)) ∧ st = s := by
  refine vcalls_enter vc33 (Nat.le_of_ble_eq_true rfl) fun hwf hok => ?_
  show Run _ Vc33.body (.fin (finQ Vc33.res _)) _ _
  unfold Vc33
  have hsm : (S.length : Int) ≤ 9223372036854775807 := by
    have := hok (shapeV first many tk S) (by simp)
    have := vlen_max (this.part (i := 2) rfl)
    rwa [sts_len] at this
  simp (config := {maxSteps := 3000000}) only [run_reg, run_seq, at_code_n, ops_nil, ops_grd, ops_mv, ops_bin, ops_fld, ops_load, ops_box, ev_t, ev_c, put_get, opv_mk, Bx, put_box_same, args0, List.getD_cons_zero, vbin, vbinI, vfld, vload, takeV, takeB, V.cells, ptrV, obsOk, List.length_cons, List.length_nil, List.getElem?_cons_zero, List.getElem?_cons_succ, true_and, Nat.reduceEqDiff, Nat.reduceAdd, Nat.zero_add, ↓reduceIte, ne_eq, not_false_eq_true, eq_self, reduceCtorEq, shapeV]
  intro b hb
  by_cases c1 : many < 0
  · simp (config := {maxSteps := 3000000}) only [run_reg, run_seq, run_ret, run_cond, if_true, at_code_n, at_code_r, at_fin_r, ops_nil, ops_grd, grd_tf, ops_mv, ops_pick, ev_t, ev_c, put_get, opv_mk, vpick, and_true, true_and, Nat.reduceEqDiff, ↓reduceIte, vret, rvAll, rvVal, resv_1, eq_self, decide_eq_true c1]
    exact ⟨_, _, Wk.refl _, weak_put hwf.weak hb, by simp [newE, c1], rfl⟩
  by_cases c2 : 64 < many
  · simp (config := {maxSteps := 3000000}) only [run_reg, run_seq, run_ret, run_cond, if_true, at_code_n, at_code_r, at_fin_r, ops_nil, ops_grd, grd_ff, ops_mv, ops_pick, ops_bin, ops_fld, ops_load, ev_t, ev_c, put_get, opv_mk, put_box_same, vpick, vbin, vbinI, vfld, vload, takeV, takeB, V.cells, List.length_cons, List.length_nil, List.getElem?_cons_zero, List.getElem?_cons_succ, and_true, true_and, Nat.reduceEqDiff, Nat.zero_add, ↓reduceIte, vret, rvAll, rvVal, resv_1, eq_self, Bool.false_eq_true, decide_eq_false c1, decide_eq_true c2]
    exact ⟨_, _, Wk.refl _, weak_put hwf.weak hb, by simp [newE, c2], rfl⟩
  have e1 : newE first many S = if (List.range many.toNat).any (badAt first) = true then 13 else if 8 < S.length then 12 else statE [] S := by
    unfold newE
    rw [if_neg (by omega)]
  simp (config := {maxSteps := 3000000}) only [run_skip, run_reg, run_seq, run_blk, run_cond, if_false, at_code_n, ops_nil, ops_grd, grd_ff, ops_mv, ops_pick, ops_bin, ops_fld, ops_load, ev_t, ev_c, put_get, opv_mk, put_box_same, vpick, vbin, vbinI, vfld, vload, takeV, takeB, V.cells, List.length_cons, List.length_nil, List.getElem?_cons_zero, List.getElem?_cons_succ, true_and, Nat.reduceEqDiff, Nat.zero_add, ↓reduceIte, eq_self, Bool.false_eq_true, decide_eq_false c1, decide_eq_false c2]
  refine run_loop [2, 3, 4, 15, 16, 17, 18, 19, 20, 21, 22, 23, 24, 25, 26, 27, 28, 29, 30, 31, 32, 33] (fun B s => ∃ i : Nat, (i : Int) ≤ many ∧ B 3 = .sc (.int .i64 i) ∧ (∀ j < i, badAt first j = false) ∧ s = st.put b [.sc (.int .u32 first), .sc (.int .i64 many), .sl tk (sts S)]) (fun B _ => 64 - vnat (B 3)) rfl ?_ ?_
  · simp (config := {maxSteps := 3000000}) only [put_get, and_true, ↓reduceIte, eq_self]
    exact ⟨0, by omega, rfl, fun j hj => by omega⟩
  · rintro B s ⟨i, hi, h3, hgood, rfl⟩
    by_cases c3 : (i : Int) < many
    · have bad13 : badAt first i = true → newE first many S = 13 := fun hb => by
        rw [e1, if_pos]
        rw [List.any_eq_true]
        exact ⟨i, List.mem_range.2 (by omega), hb⟩
      by_cases c4 : 4294967295 < first + (i : Int)
      · have hbad := bad13 (by simp [badAt]; omega)
        simp (config := {maxSteps := 3000000}) only [run_skip, run_reg, run_seq, run_blk, run_ret, run_cond, if_true, at_code_n, at_code_r, at_blk_r, at_rnd_r, at_fin_r, ops_nil, ops_grd, grd_tf, ops_mv, ops_pick, ops_bin, ops_conv, ops_fld, ops_load, ev_t, ev_c, put_get, opv_mk, over_get, vnat, put_box_same, vpick, vbin, vbinI, vconv, norm, vfld, vload, takeV, takeB, V.cells, List.length_cons, List.length_nil, List.getElem?_cons_zero, List.getElem?_cons_succ, and_true, true_and, Nat.reduceEqDiff, Int.toNat_natCast, Int.reduceNeg, Nat.zero_add, Nat.add_zero, ↓reduceIte, vret, rvAll, rvVal, resv_1, eq_self, Bool.false_eq_true, List.contains_cons, List.contains_nil, Nat.reduceBEq, Bool.or_false, Bool.or_true, h3, decide_eq_true c3, decide_eq_true c4]
        repeat (apply And.intro; focus (first | omega | (simp; done)))
        exact ⟨_, _, Wk.refl _, weak_put hwf.weak hb, by rw [hbad], rfl⟩
      · have em : (first + (i : Int)) % 4294967296 = first + (i : Int) := by omega
        simp (config := {maxSteps := 3000000}) only [run_skip, run_reg, run_seq, run_blk, run_cond, if_true, at_code_n, ops_nil, ops_grd, grd_ff, ops_mv, ops_bin, ops_conv, ops_fld, ops_load, ops_call, ev_t, ev_c, put_get, opv_mk, over_get, vnat, put_box_same, vbin, vbinI, vconv, norm, vfld, vload, takeV, takeB, V.cells, List.map_cons, List.map_nil, List.length_cons, List.length_nil, List.getElem?_cons_zero, List.getElem?_cons_succ, true_and, Nat.reduceEqDiff, Int.toNat_natCast, Int.reduceNeg, Nat.zero_add, Nat.add_zero, ↓reduceIte, eq_self, Bool.false_eq_true, List.contains_cons, List.contains_nil, Nat.reduceBEq, Bool.or_false, Bool.or_true, h3, decide_eq_true c3, decide_eq_false c4, em]
        repeat (apply And.intro; focus (first | omega | (simp; done)))
        refine Cal.mk (refHostP_v (by omega) (by omega)) ?_
        rintro _ _ ⟨rfl, rfl⟩ -
        cases c5 : hostB (first + (i : Int))
        · have hbad := bad13 (by simp [badAt, c5])
          simp (config := {maxSteps := 3000000}) only [run_reg, run_seq, run_ret, run_cond, if_true, at_code_n, at_code_r, at_blk_r, at_rnd_r, at_fin_r, ops_nil, ops_grd, grd_ff, ops_mv, ops_pick, ops_un, ev_t, ev_c, put_get, opv_mk, vpick, vun, obsOk, and_true, true_and, Nat.reduceEqDiff, ↓reduceIte, vret, rvAll, rvVal, resv_1, Bool.not_false, eq_self, Bool.false_eq_true]
          exact ⟨_, _, Wk.refl _, weak_put hwf.weak hb, by rw [hbad], rfl⟩
        · simp (config := {maxSteps := 3000000}) only [run_skip, run_reg, run_cond, if_false, at_code_n, at_blk_n, at_rnd_n, ops_nil, ops_grd, grd_ff, ops_mv, ops_pick, ops_bin, ops_un, ev_t, ev_c, put_get, opv_mk, over_get, rel_mk, vpick, vbin, vbinI, vun, norm, obsOk, and_true, true_and, Nat.reduceEqDiff, Int.reduceNeg, ↓reduceIte, Bool.not_true, eq_self, Bool.false_eq_true, List.contains_cons, List.contains_nil, Nat.reduceBEq, Bool.or_false, Bool.or_true, h3]
          repeat (apply And.intro; focus (first | omega | (simp; done)))
          refine ⟨⟨i + 1, by omega, by simp, fun j hj => ?_⟩, by omega⟩
          by_cases e : j = i
          · subst e
            have : first + (j : Int) ≤ 4294967295 := by omega
            simp [badAt, c5, this]
          · exact hgood j (by omega)
    · have hin : (i : Int) = many := by omega
      have e2 : newE first many S = if 8 < S.length then 12 else statE [] S := by
        rw [e1, if_neg]
        rw [List.any_eq_true]
        rintro ⟨j, hj, hb⟩
        rw [List.mem_range] at hj
        rw [hgood j (by omega)] at hb
        cases hb
      by_cases c6 : 8 < S.length
      · rw [if_pos c6] at e2
        simp (config := {maxSteps := 3000000}) only [run_reg, run_seq, run_exit, run_ret, run_cond, if_true, if_false, at_code_n, at_code_x, at_code_r, at_blk_x, at_rnd_x, at_fin_r, ops_nil, ops_mv, ops_bin, ops_fld, ops_load, ops_len, ev_t, ev_c, put_get, opv_mk, over_get, vnat, put_box_same, vbin, vbinI, vfld, vlen, vload, takeV, takeB, V.cells, List.length_cons, List.length_nil, List.getElem?_cons_zero, List.getElem?_cons_succ, and_true, true_and, Nat.reduceEqDiff, Int.toNat_natCast, Nat.zero_add, ↓reduceIte, vret, rvAll, rvVal, resv_1, eq_self, Bool.false_eq_true, List.contains_cons, List.contains_nil, Nat.reduceBEq, Bool.or_false, Bool.or_true, h3, decide_eq_false c3, sts_len, decide_eq_true (show (8 : Int) < (S.length : Int) by omega)]
        exact ⟨_, _, Wk.refl _, weak_put hwf.weak hb, by rw [e2], rfl⟩
      rw [if_neg c6] at e2
      simp (config := {maxSteps := 3000000}) only [run_skip, run_reg, run_seq, run_blk, run_exit, run_cond, if_false, at_code_n, at_code_x, at_blk_x, at_rnd_x, ops_nil, ops_mv, ops_bin, ops_fld, ops_load, ops_len, ev_t, ev_c, put_get, opv_mk, over_get, vnat, put_box_same, vbin, vbinI, vfld, vlen, vload, takeV, takeB, V.cells, List.length_cons, List.length_nil, List.getElem?_cons_zero, List.getElem?_cons_succ, true_and, Nat.reduceEqDiff, Int.toNat_natCast, Nat.zero_add, ↓reduceIte, eq_self, Bool.false_eq_true, List.contains_cons, List.contains_nil, Nat.reduceBEq, Bool.or_false, Bool.or_true, h3, decide_eq_false c3, sts_len, decide_eq_false (show ¬ (8 : Int) < (S.length : Int) by omega)]
      refine run_loop [2, 5, 6, 38, 39, 40, 41, 42, 43, 44, 45, 46, 47, 48, 49, 50, 51, 52, 53, 54, 55, 56, 57, 58, 59, 60, 61, 62, 63, 64, 65, 66, 67, 68, 69, 70, 71, 72, 73, 74, 75, 76, 77, 78, 79, 80, 81, 82, 83, 84, 85] (fun C s' => ∃ i : Nat, i ≤ S.length ∧ C 5 = .sc (.int .i64 i) ∧ statE [] S = statE (swp (S.take i)) (S.drop i) ∧ s' = st.put b [.sc (.int .u32 first), .sc (.int .i64 many), .sl tk (sts S)]) (fun C _ => S.length - vnat (C 5)) rfl ?_ ?_
      · simp (config := {maxSteps := 3000000}) only [put_get, and_true, ↓reduceIte, eq_self]
        exact ⟨0, by omega, rfl, rfl⟩
      · clear hi h3 hgood c3 hin
        rintro C s' ⟨i, hi, h5, hE, rfl⟩
        by_cases hlt' : i < S.length
        · obtain ⟨x, hx⟩ := get_ex hlt'
          have hdr : S.drop i = x :: S.drop (i + 1) := by
            rw [List.drop_eq_getElem_cons hlt']
            have := (List.getElem?_eq_some_iff.1 hx).2
            rw [this]
          have htk : swp (S.take (i + 1)) = swp (S.take i) ++ [(x.2, x.1)] := by
            rw [List.take_add_one, hx]
            simp [swp]
          rw [hdr] at hE
          simp only [statE] at hE
          have hx0 := hS x (List.mem_of_getElem? hx)
          simp (config := {maxSteps := 3000000}) only [run_skip, run_reg, run_seq, run_blk, run_cond, if_true, at_code_n, ops_nil, ops_mv, ops_bin, ops_fld, ops_ix, ops_load, ops_len, ops_call, ev_t, put_get, opv_mk, over_get, vnat, put_box_same, vbin, vbinI, vfld, vlen, vix, vload, takeV, takeB, V.cells, List.map_cons, List.map_nil, List.length_cons, List.length_nil, List.getElem?_cons_zero, List.getElem?_cons_succ, and_true, true_and, Nat.reduceEqDiff, Nat.reduceAdd, Int.toNat_natCast, Nat.zero_add, ↓reduceIte, eq_self, Bool.false_eq_true, List.contains_cons, List.contains_nil, Nat.reduceBEq, Bool.or_false, Bool.or_true, h5, sts_get hx, sts_len, decide_eq_true (show (i : Int) < (S.length : Int) by omega)]
          repeat (apply And.intro; focus (first | omega | (simp; done)))
          refine Cal.mk (refHostP_v hx0.1 (by omega)) ?_
          rintro _ _ ⟨rfl, rfl⟩ -
          cases c7 : hostB x.2
          · rw [if_pos c7] at hE
            simp (config := {maxSteps := 3000000}) only [run_reg, run_seq, run_ret, run_cond, if_true, at_code_n, at_code_r, at_blk_r, at_rnd_r, at_fin_r, ops_nil, ops_mv, ops_un, ev_t, ev_c, put_get, opv_mk, vun, obsOk, and_true, true_and, ↓reduceIte, vret, rvAll, rvVal, resv_1, Bool.not_false, eq_self]
            exact ⟨_, _, Wk.refl _, weak_put hwf.weak hb, by rw [e2, hE], rfl⟩
          rw [if_neg (by rw [c7]; simp)] at hE
          simp (config := {maxSteps := 3000000}) only [run_skip, run_reg, run_seq, run_blk, run_cond, if_false, at_code_n, ops_nil, ops_mv, ops_un, ev_t, ev_c, put_get, opv_mk, vun, obsOk, true_and, ↓reduceIte, Bool.not_true, eq_self]
          refine run_loop [2, 6, 53, 54, 55, 56, 57, 58, 59, 60, 61, 62, 63, 64, 65, 66, 67, 68, 69, 70, 71, 72, 73, 74, 75, 76, 77, 78, 79, 80, 81, 82, 83, 84, 85] (fun D s' => ∃ k : Nat, k ≤ i ∧ D 6 = .sc (.int .i64 k) ∧ (∀ (j : Nat) (y : ByteArray × Int), j < k → S[j]? = some y → y.2 ≠ x.2 ∧ y.1 ≠ x.1) ∧ s' = st.put b [.sc (.int .u32 first), .sc (.int .i64 many), .sl tk (sts S)]) (fun D _ => i - vnat (D 6)) rfl ?_ ?_
          · simp (config := {maxSteps := 3000000}) only [put_get, and_true, ↓reduceIte, ne_eq, eq_self]
            exact ⟨0, by omega, rfl, fun j y hj => by omega⟩
          · rintro D s' ⟨k, hk, h6, hno, rfl⟩
            by_cases ck : k < i
            · obtain ⟨y, hy⟩ := get_ex (show k < S.length by omega)
              by_cases d1 : y.2 = x.2
              · rw [if_pos (twice_iff.2 ⟨k, y, ck, hy, .inl d1⟩)] at hE
                simp (config := {maxSteps := 3000000}) only [run_skip, run_reg, run_seq, run_blk, run_ret, run_cond, if_true, at_code_n, at_code_r, at_blk_r, at_rnd_r, at_fin_r, ops_nil, ops_grd, grd_tf, ops_mv, ops_pick, ops_bin, ops_fld, ops_ix, ops_load, ev_t, ev_c, put_get, opv_mk, over_get, vnat, put_box_same, vpick, vbin, vbinI, vfld, vix, vload, takeV, takeB, V.cells, List.length_cons, List.length_nil, List.getElem?_cons_zero, List.getElem?_cons_succ, and_true, true_and, Nat.reduceEqDiff, Nat.reduceAdd, Int.toNat_natCast, Nat.zero_add, ↓reduceIte, vret, rvAll, rvVal, resv_1, ne_eq, eq_self, Bool.false_eq_true, List.contains_cons, List.contains_nil, Nat.reduceBEq, Bool.or_false, Bool.or_true, h6, h5, sts_get hx, sts_get hy, decide_eq_true (show (k : Int) < (i : Int) by omega), decide_eq_true d1]
                repeat (apply And.intro; focus (first | omega | (simp; done)))
                exact ⟨_, _, Wk.refl _, weak_put hwf.weak hb, by rw [e2, hE], rfl⟩
              by_cases d2 : y.1 = x.1
              · rw [if_pos (twice_iff.2 ⟨k, y, ck, hy, .inr d2⟩)] at hE
                simp (config := {maxSteps := 3000000}) only [run_skip, run_reg, run_seq, run_blk, run_ret, run_cond, if_true, at_code_n, at_code_r, at_blk_r, at_rnd_r, at_fin_r, ops_nil, ops_grd, grd_ff, ops_mv, ops_pick, ops_bin, ops_fld, ops_ix, ops_load, ev_t, ev_c, put_get, opv_mk, over_get, vnat, put_box_same, vpick, vbin, vbinI, vbinS, vfld, vix, vload, takeV, takeB, V.cells, List.length_cons, List.length_nil, List.getElem?_cons_zero, List.getElem?_cons_succ, and_true, true_and, Nat.reduceEqDiff, Nat.reduceAdd, Int.toNat_natCast, Nat.zero_add, Nat.add_zero, ↓reduceIte, vret, rvAll, rvVal, resv_1, ne_eq, eq_self, Bool.false_eq_true, List.contains_cons, List.contains_nil, Nat.reduceBEq, Bool.or_false, Bool.or_true, h6, h5, sts_get hx, sts_get hy, decide_eq_true (show (k : Int) < (i : Int) by omega), decide_eq_false d1, decide_eq_true d2]
                repeat (apply And.intro; focus (first | omega | (simp; done)))
                exact ⟨_, _, Wk.refl _, weak_put hwf.weak hb, by rw [e2, hE], rfl⟩
              · simp (config := {maxSteps := 3000000}) only [run_skip, run_reg, run_seq, run_blk, run_cond, if_true, if_false, at_code_n, at_blk_n, at_rnd_n, ops_nil, ops_grd, grd_ff, ops_mv, ops_pick, ops_bin, ops_fld, ops_ix, ops_load, ev_t, ev_c, put_get, opv_mk, over_get, rel_mk, vnat, put_box_same, vpick, vbin, vbinI, vbinS, norm, vfld, vix, vload, takeV, takeB, V.cells, List.length_cons, List.length_nil, List.getElem?_cons_zero, List.getElem?_cons_succ, and_true, true_and, Nat.reduceEqDiff, Nat.reduceAdd, Int.toNat_natCast, Int.reduceNeg, Nat.zero_add, Nat.add_zero, ↓reduceIte, ne_eq, eq_self, Bool.false_eq_true, List.contains_cons, List.contains_nil, Nat.reduceBEq, Bool.or_false, Bool.or_true, h6, h5, sts_get hx, sts_get hy, decide_eq_true (show (k : Int) < (i : Int) by omega), decide_eq_false d1, decide_eq_false d2]
                repeat (apply And.intro; focus (first | omega | (simp; done)))
                refine ⟨⟨k + 1, by omega, by simp, fun j z hj hz => ?_⟩, by omega⟩
                by_cases e : j = k
                · subst e
                  rw [hy] at hz
                  cases hz
                  exact ⟨d1, d2⟩
                · exact hno j z (by omega) hz
            · have ek : k = i := by omega
              subst ek
              rw [if_neg (fun h => by
                obtain ⟨j, y, hj, hy, h⟩ := twice_iff.1 h
                have := hno j y hj hy
                rcases h with h | h
                · exact this.1 h
                · exact this.2 h)] at hE
              simp (config := {maxSteps := 3000000}) only [run_reg, run_seq, run_exit, run_cond, if_false, at_code_n, at_code_x, at_blk_n, at_blk_x, at_rnd_n, at_rnd_x, ops_nil, ops_mv, ops_bin, ev_t, ev_c, put_get, opv_mk, over_get, rel_mk, vnat, vbin, vbinI, norm, and_true, true_and, Nat.reduceEqDiff, Int.toNat_natCast, Int.reduceNeg, ↓reduceIte, decide_false, Int.lt_irrefl, ne_eq, eq_self, Bool.false_eq_true, List.contains_cons, List.contains_nil, Nat.reduceBEq, Bool.or_false, Bool.or_true, h6, h5]
              repeat (apply And.intro; focus (first | omega | (simp; done)))
              exact ⟨⟨k + 1, by omega, by simp, by rw [htk]; exact hE⟩, by omega⟩
        · obtain rfl : i = S.length := by omega
          rw [List.drop_length, List.take_length] at hE
          simp (config := {maxSteps := 3000000}) only [run_reg, run_seq, run_exit, run_ret, run_cond, if_false, at_code_n, at_code_x, at_blk_x, at_rnd_x, at_fin_r, ops_nil, ops_mv, ops_bin, ops_fld, ops_load, ops_len, ev_t, ev_c, put_get, opv_mk, over_get, vnat, put_box_same, vbin, vbinI, vfld, vlen, vload, takeV, takeB, V.cells, List.length_cons, List.length_nil, List.getElem?_cons_zero, List.getElem?_cons_succ, and_true, true_and, Nat.reduceEqDiff, Int.toNat_natCast, Nat.zero_add, ↓reduceIte, vret, rvAll, rvVal, resv_1, decide_false, Int.lt_irrefl, eq_self, Bool.false_eq_true, List.contains_cons, List.contains_nil, Nat.reduceBEq, Bool.or_false, Bool.or_true, h5, sts_len]
          exact ⟨_, _, Wk.refl _, weak_put hwf.weak hb, by rw [e2, hE]; rfl, rfl⟩
/-- What the law's lease answers. -/
def LsQ (first many : Int) (S : List (ByteArray × Int)) (l : List (Int × ByteArray)) (name : ByteArray) (v : V) : Prop :=
  (∃ x ∈ S, x.1 = name ∧ aget x.2 l = none ∧ v = .tup [.sc (.int .u32 x.2), .sc (.bool true)]) ∨
  ((∀ x ∈ S, x.1 = name → aget x.2 l ≠ none) ∧ ((freeN first (swp S) l many.toNat = [] ∧ v = .tup [.sc (.int .u32 0), .sc (.bool false)]) ∨ ∃ f fs, freeN first (swp S) l many.toNat = f :: fs ∧ v = .tup [.sc (.int .u32 f), .sc (.bool true)]))
set_option maxRecDepth 100000 in
set_option maxHeartbeats 4000000 in
theorem lease29_v (hm : many ≤ 64) {name : ByteArray} : VCalls Try.prog 75 [shapeV first many tk S, .sl t2 (ones l), .sc (.string name)] st fun v s => LsQ first many S l name v ∧ st = s := by
  refine vcalls_enter vc75 (Nat.le_of_ble_eq_true rfl) fun hwf hok => ?_
  show Run _ Vc75.body (.fin (finQ Vc75.res _)) _ _
  unfold Vc75
  have hsm : (S.length : Int) ≤ 9223372036854775807 := by
    have := hok (shapeV first many tk S) (by simp)
    have := vlen_max (this.part (i := 2) rfl)
    rwa [sts_len] at this
  simp (config := {maxSteps := 3000000}) only [run_reg, run_seq, run_blk, at_code_n, ops_nil, ops_mv, ops_box, ev_t, ev_c, opv_mk, Bx, args0, List.getD_cons_zero, V.cells, ptrV, obsOk, List.length_cons, List.length_nil, true_and, Nat.reduceAdd, Nat.zero_add, ne_eq, not_false_eq_true, reduceCtorEq, shapeV]
  intro b hb
  refine run_loop [6, 7, 8, 10, 11, 12, 13, 14, 15, 16, 17, 18, 19, 20, 21, 22, 23, 24, 25, 26, 27, 28, 29, 30, 31, 32, 33, 34, 35, 36, 37, 38, 39, 40, 41] (fun B s => ∃ i : Nat, i ≤ S.length ∧ B 8 = .sc (.int .i64 i) ∧ (∀ (j : Nat) (y : ByteArray × Int), j < i → S[j]? = some y → y.1 = name → aget y.2 l ≠ none) ∧ s = st.put b [.sc (.int .u32 first), .sc (.int .i64 many), .sl tk (sts S)]) (fun B _ => S.length - vnat (B 8)) rfl ?_ ?_
  · simp (config := {maxSteps := 3000000}) only [put_get, and_true, ↓reduceIte, ne_eq, eq_self]
    exact ⟨0, by omega, rfl, fun j y hj => by omega⟩
  · rintro B s ⟨i, hi, h8, hno, rfl⟩
    by_cases c1 : i < S.length
    · obtain ⟨x, hx⟩ := get_ex c1
      by_cases c2 : x.1 = name
      · simp (config := {maxSteps := 3000000}) only [run_skip, run_reg, run_seq, run_blk, run_cond, if_true, at_code_n, ops_nil, ops_grd, grd_tt, ops_mv, ops_bin, ops_fld, ops_ix, ops_load, ops_len, ops_call, ev_t, put_get, opv_mk, over_get, vnat, put_box_same, args0, List.getD_cons_zero, List.getD_cons_succ, vbin, vbinI, vbinS, vfld, vlen, vix, vload, takeV, takeB, V.cells, List.map_cons, List.map_nil, List.length_cons, List.length_nil, List.getElem?_cons_zero, List.getElem?_cons_succ, and_true, true_and, Nat.reduceEqDiff, Nat.reduceAdd, Int.toNat_natCast, Nat.zero_add, Nat.add_zero, ↓reduceIte, ne_eq, eq_self, Bool.false_eq_true, List.contains_cons, List.contains_nil, Nat.reduceBEq, Bool.or_false, Bool.or_true, h8, sts_get hx, sts_len, decide_eq_true (show (i : Int) < (S.length : Int) by omega), decide_eq_true c2]
        repeat (apply And.intro; focus (first | omega | (simp; done)))
        refine Cal.mk has29_v ?_
        rintro _ _ ⟨r, hr, rfl, rfl⟩ -
        by_cases c3 : r < 0
        · simp (config := {maxSteps := 3000000}) only [run_reg, run_seq, run_ret, run_cond, if_true, at_code_n, at_code_r, at_blk_r, at_rnd_r, at_fin_r, ops_nil, ops_grd, grd_tt, ops_mv, ops_pick, ops_bin, ops_fld, ops_ix, ops_load, ev_t, ev_c, put_get, opv_mk, over_get, put_box_same, args0, vpick, vbin, vbinI, vfld, vix, vload, takeV, takeB, V.cells, obsOk, List.map_cons, List.map_nil, List.length_cons, List.length_nil, List.getElem?_cons_zero, List.getElem?_cons_succ, and_true, true_and, Nat.reduceEqDiff, Nat.reduceAdd, Int.toNat_natCast, Nat.zero_add, ↓reduceIte, vret, rvAll, rvVal, resv_2, eq_self, Bool.false_eq_true, List.contains_cons, List.contains_nil, Nat.reduceBEq, Bool.or_false, Bool.or_true, h8, sts_get hx, decide_eq_true c3]
          repeat (apply And.intro; focus (first | omega | (simp; done)))
          exact ⟨_, _, Wk.refl _, weak_put hwf.weak hb, .inl ⟨x, List.mem_of_getElem? hx, c2, hr.neg.1 c3, rfl⟩, rfl⟩
        · simp (config := {maxSteps := 3000000}) only [run_skip, run_reg, run_cond, if_false, at_code_n, at_blk_n, at_rnd_n, ops_nil, ops_grd, grd_tt, ops_mv, ops_pick, ops_bin, ev_t, ev_c, put_get, opv_mk, over_get, rel_mk, vpick, vbin, vbinI, norm, obsOk, and_true, true_and, Nat.reduceEqDiff, Int.reduceNeg, ↓reduceIte, eq_self, List.contains_cons, List.contains_nil, Nat.reduceBEq, Bool.or_false, Bool.or_true, h8, decide_eq_false c3]
          repeat (apply And.intro; focus (first | omega | (simp; done)))
          refine ⟨⟨i + 1, by omega, by simp, fun j y hj hy hn => ?_⟩, by omega⟩
          by_cases e : j = i
          · subst e
            rw [hx] at hy
            cases hy
            exact fun h => c3 (hr.neg.2 h)
          · exact hno j y (by omega) hy hn
      · simp (config := {maxSteps := 3000000}) only [run_skip, run_reg, run_seq, run_blk, run_cond, if_true, if_false, at_code_n, at_blk_n, at_rnd_n, ops_nil, ops_grd, grd_ft, ops_mv, ops_pick, ops_bin, ops_fld, ops_ix, ops_load, ops_len, ev_t, ev_c, put_get, opv_mk, over_get, rel_mk, vnat, put_box_same, args0, List.getD_cons_zero, List.getD_cons_succ, vpick, vbin, vbinI, vbinS, norm, vfld, vlen, vix, vload, takeV, takeB, V.cells, List.length_cons, List.length_nil, List.getElem?_cons_zero, List.getElem?_cons_succ, and_true, true_and, Nat.reduceEqDiff, Nat.reduceAdd, Int.toNat_natCast, Int.reduceNeg, Nat.zero_add, Nat.add_zero, ↓reduceIte, ne_eq, eq_self, Bool.false_eq_true, List.contains_cons, List.contains_nil, Nat.reduceBEq, Bool.or_false, Bool.or_true, h8, sts_get hx, sts_len, decide_eq_true (show (i : Int) < (S.length : Int) by omega), decide_eq_false c2]
        repeat (apply And.intro; focus (first | omega | (simp; done)))
        refine ⟨⟨i + 1, by omega, by simp, fun j y hj hy hn => ?_⟩, by omega⟩
        by_cases e : j = i
        · subst e
          rw [hx] at hy
          cases hy
          exact absurd hn c2
        · exact hno j y (by omega) hy hn
    · have hall : ∀ x ∈ S, x.1 = name → aget x.2 l ≠ none := fun x hx hn => by
        obtain ⟨j, hj⟩ := List.mem_iff_getElem?.1 hx
        exact hno j x (by have := (List.getElem?_eq_some_iff.1 hj).1; omega) hj hn
      simp (config := {maxSteps := 3000000}) only [run_reg, run_seq, run_exit, run_cond, if_false, at_code_n, at_code_x, at_blk_x, at_rnd_x, ops_nil, ops_mv, ops_bin, ops_fld, ops_load, ops_len, ops_call, ev_t, put_get, opv_mk, over_get, vnat, put_box_same, args0, List.getD_cons_zero, List.getD_cons_succ, vbin, vbinI, vfld, vlen, vload, takeV, takeB, mono_two, V.cells, List.map_cons, List.map_nil, List.length_cons, List.length_nil, List.getElem?_cons_zero, List.getElem?_cons_succ, List.take_succ_cons, List.drop_zero, List.take_nil, and_true, true_and, Nat.reduceEqDiff, Nat.reduceAdd, Nat.reduceLeDiff, Int.toNat_natCast, Nat.zero_add, ↓reduceIte, ne_eq, eq_self, Bool.false_eq_true, List.contains_cons, List.contains_nil, Nat.reduceBEq, Bool.or_false, Bool.or_true, h8, sts_len, decide_eq_false (show ¬ (i : Int) < (S.length : Int) by omega)]
      refine Cal.mk (free29_v hm) ?_
      rintro _ _ ⟨rfl, rfl⟩ -
      cases hF : freeN first (swp S) l many.toNat with
      | nil =>
        have u0 : us ([] : List Int) = [] := rfl
        have nc0 : ((0 : Nat) : Int) = 0 := rfl
        simp (config := {maxSteps := 3000000}) only [run_reg, run_seq, run_ret, run_cond, if_true, at_code_n, at_code_r, at_fin_r, ops_nil, ops_mv, ops_bin, ops_len, ev_t, ev_c, put_get, opv_mk, over_get, args0, vbin, vbinI, vlen, vload, takeV, takeB, V.cells, obsOk, List.map_cons, List.map_nil, List.length_nil, and_true, true_and, Nat.reduceEqDiff, ↓reduceIte, vret, rvAll, rvVal, resv_2, decide_true, eq_self, List.contains_cons, List.contains_nil, Bool.or_false, u0, nc0]
        exact ⟨_, _, Wk.refl _, weak_put hwf.weak hb, .inr ⟨hall, .inl ⟨hF, rfl⟩⟩, rfl⟩
      | cons f fs =>
        have hne : ¬ ((fs.length + 1 : Nat) : Int) = 0 := by omega
        have u1 : us (f :: fs) = .sc (.int .u32 f) :: us fs := rfl
        simp (config := {maxSteps := 3000000}) only [run_skip, run_reg, run_seq, run_ret, run_cond, if_false, at_code_n, at_fin_r, ops_nil, ops_mv, ops_bin, ops_ix, ops_load, ops_len, ev_t, ev_c, put_get, opv_mk, over_get, args0, vbin, vbinI, vlen, vix, vload, takeV, takeB, V.cells, obsOk, List.map_cons, List.map_nil, List.length_cons, List.length_nil, List.getElem?_cons_zero, and_true, true_and, Nat.reduceEqDiff, Int.reduceToNat, Int.reduceLE, Nat.zero_add, ↓reduceIte, vret, rvAll, rvVal, resv_2, eq_self, List.contains_cons, List.contains_nil, Bool.or_false, us_len, u1, decide_eq_false hne]
        repeat (apply And.intro; focus (first | omega | (simp; done)))
        exact ⟨_, _, Wk.refl _, weak_put hwf.weak hb, .inr ⟨hall, .inr ⟨f, fs, hF, rfl⟩⟩, rfl⟩
end
end Go.Proofs.Ytlngegoamfklgaa
