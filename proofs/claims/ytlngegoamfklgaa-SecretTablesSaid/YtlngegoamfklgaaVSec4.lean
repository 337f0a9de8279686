/- Secrets: the statement. -/
import Derived.Test.YtlngegoamfklgaaVSec3
namespace Go.Proofs.Ytlngegoamfklgaa
open Go

section
variable {st : St} {S : List Sec} {tk : Tk}
theorem where_get {n : ByteArray} (h : aget n S = none) : getS n S = ⟨#[]⟩ := by simp [getS, h]
theorem where_got {n k : ByteArray} (h : aget n S = some k) : getS n S = k := by simp [getS, h]
set_option maxRecDepth 100000 in
set_option maxHeartbeats 8000000 in
theorem secretTables_v {n : ByteArray} : VCalls Try.prog 4 [.sl tk (secs S), .sc (.string n)] st fun r s => r = .sc (.bool true) ∧ st = s := by
  have bT : (true == true) = true := rfl
  have bF : (false == false) = true := rfl
  refine vcalls_enter vc4 (Nat.le_of_ble_eq_true rfl) fun hwf hok => ?_
  show Run _ Vc4.body (.fin (finQ Vc4.res _)) _ _
  unfold Vc4
  have hsm := vlen_max (hok (.sl tk (secs S)) (by simp))
  rw [secs_len] at hsm
  by_cases c20 : 20 < S.length
  · simp (config := {maxSteps := 3000000}) only [run_reg, run_seq, run_ret, run_cond, if_true, at_code_n, at_code_r, at_fin_r, ops_nil, ops_mv, ops_bin, ops_len, ev_t, ev_c, put_get, opv_mk, args0, List.getD_cons_zero, vbin, vbinI, vlen, and_true, true_and, ↓reduceIte, vret, rvAll, rvVal, resv_1, eq_self, reduceCtorEq, secs_len, decide_eq_true (show (20 : Int) < (S.length : Int) by omega)]
    exact ⟨_, _, Wk.refl _, hwf.weak, rfl, rfl⟩
  simp (config := {maxSteps := 3000000}) only [run_skip, run_reg, run_seq, run_cond, if_false, at_code_n, ops_nil, ops_mv, ops_bin, ops_len, ops_call, ev_t, ev_c, put_get, opv_mk, args0, List.getD_cons_zero, vbin, vbinI, vlen, List.map_cons, List.map_nil, true_and, ↓reduceIte, eq_self, reduceCtorEq, secs_len, decide_eq_false (show ¬ (20 : Int) < (S.length : Int) by omega)]
  refine Cal.mk (secNew_v (S := S)) ?_
  rintro _ s1 (⟨h, rfl, rfl⟩ | ⟨h, mb, es, c, rfl, T, hw, hl, hm⟩) -
  · simp (config := {maxSteps := 3000000}) only [run_reg, run_seq, run_blk, at_code_n, ops_nil, ops_mv, ops_ext, ops_alc, ops_store, ev_t, ev_c, put_get, put_none, opv_mk, stb_some, sto_ptr, Stp, put_box_same, put_put, vext, mono_sc, splice, V.cells, ptrV, obsOk, List.length_cons, List.length_nil, List.getElem?_cons_zero, List.getElem?_cons_succ, List.take_zero, List.drop_succ_cons, List.nil_append, List.append_nil, List.drop_nil, true_and, Nat.reduceEqDiff, Nat.reduceLT, Nat.reduceLeDiff, Nat.reduceLT, Nat.zero_add, ↓reduceIte, eq_self]
    intro tb htb
    refine run_loop [4, 7, 21, 22, 23, 24, 25, 26, 27, 28, 29, 30, 31, 32, 33, 34, 35, 36, 37] (fun B s => ∃ i : Nat, i ≤ S.length ∧ B 7 = .sc (.int .i64 i) ∧ s = s1.put tb [.sc (.map none)]) (fun B _ => S.length - vnat (B 7)) rfl ?_ ?_
    · simp (config := {maxSteps := 3000000}) only [put_get, and_true, ↓reduceIte, eq_self]
      exact ⟨0, by omega, rfl⟩
    · rintro B s ⟨i, hi, h7, rfl⟩
      by_cases c1 : i < S.length
      · obtain ⟨x, hx⟩ := get_ex c1
        have bX : (rightS (x.1, x.2) == rightS (x.1, x.2)) = true := by simp
        simp (config := {maxSteps := 3000000}) only [run_skip, run_reg, run_seq, run_blk, run_cond, if_true, at_code_n, ops_nil, ops_mv, ops_bin, ops_ix, ops_load, ops_len, ops_call, ev_t, put_get, opv_mk, over_get, vnat, args0, List.getD_cons_zero, vbin, vbinI, vlen, vix, vload, takeV, V.cells, List.map_cons, List.map_nil, List.length_cons, List.length_nil, List.take_succ_cons, List.drop_zero, List.take_nil, and_true, true_and, Nat.reduceEqDiff, Nat.reduceAdd, Nat.reduceLeDiff, Int.toNat_natCast, Nat.zero_add, ↓reduceIte, eq_self, reduceCtorEq, Bool.false_eq_true, List.contains_cons, List.contains_nil, Nat.reduceBEq, Bool.or_false, Bool.or_true, h7, secs_get hx, secs_len, decide_eq_true (show (i : Int) < (S.length : Int) by omega)]
        repeat (apply And.intro; focus (first | omega | (simp; done)))
        refine Cal.mk secRight_v ?_
        rintro _ _ ⟨rfl, rfl⟩ -
        simp (config := {maxSteps := 3000000}) only [ops_call, ev_t, put_get, vload, takeV, obsOk, List.map_cons, List.map_nil, List.length_cons, List.length_nil, List.take_succ_cons, List.drop_zero, List.take_nil, and_true, true_and, Nat.reduceEqDiff, Nat.reduceAdd, Nat.reduceLeDiff, Nat.zero_add, ↓reduceIte, eq_self]
        repeat (apply And.intro; focus (first | omega | (simp; done)))
        refine Cal.mk lRight14_v ?_
        rintro _ _ ⟨rfl, rfl⟩ -
        simp (config := {maxSteps := 3000000}) only [run_skip, run_reg, run_cond, if_false, at_code_n, at_blk_n, at_rnd_n, ops_nil, ops_mv, ops_bin, ops_binb, vbinb, ev_t, ev_c, put_get, opv_mk, over_get, rel_mk, vbin, vbinI, norm, obsOk, and_true, true_and, Nat.reduceEqDiff, Int.reduceNeg, ↓reduceIte, Bool.not_true, eq_self, List.contains_cons, List.contains_nil, Nat.reduceBEq, Bool.or_false, Bool.or_true, h7, bX]
        repeat (apply And.intro; focus (first | omega | (simp; done)))
        exact ⟨⟨i + 1, by omega, by simp⟩, by omega⟩
      · simp (config := {maxSteps := 3000000}) only [run_reg, run_seq, run_exit, run_cond, if_false, at_code_n, at_code_x, at_blk_x, at_rnd_x, ops_nil, ops_mv, ops_bin, ops_load, ops_len, ops_call, ev_t, put_get, opv_mk, over_get, vnat, put_box_same, args0, List.getD_cons_zero, List.getD_cons_succ, vbin, vbinI, vlen, vload, takeV, takeB, mono_sc, List.map_cons, List.map_nil, List.length_cons, List.length_nil, List.take_succ_cons, List.drop_zero, List.take_nil, and_true, true_and, Nat.reduceEqDiff, Nat.reduceLeDiff, Int.toNat_natCast, Nat.zero_add, ↓reduceIte, eq_self, reduceCtorEq, Bool.false_eq_true, List.contains_cons, List.contains_nil, Nat.reduceBEq, Bool.or_false, Bool.or_true, h7, secs_len, decide_eq_false (show ¬ (i : Int) < (S.length : Int) by omega)]
        refine Cal.mk secFind0_v ?_
        rintro _ _ ⟨rfl, rfl⟩ -
        simp (config := {maxSteps := 3000000}) only [run_reg, run_seq, at_code_n, ops_nil, ops_mv, ops_ext, ops_call, ev_t, put_get, opv_mk, over_get, args0, List.getD_cons_zero, vext, obsOk, List.map_cons, List.map_nil, List.getElem?_cons_zero, List.getElem?_cons_succ, true_and, Nat.reduceEqDiff, ↓reduceIte, eq_self, reduceCtorEq, Bool.false_eq_true, List.contains_cons, List.contains_nil, Nat.reduceBEq, Bool.or_false]
        refine Cal.mk lWhy14_v ?_
        rintro _ _ ⟨rfl, rfl⟩ -
        simp (config := {maxSteps := 3000000}) only [run_reg, run_seq, run_cond, if_true, at_code_n, ops_nil, ops_mv, ops_bin, ops_call, ev_t, ev_c, put_get, opv_mk, over_get, args0, List.getD_cons_zero, vbin, vbinI, obsOk, List.map_cons, List.map_nil, true_and, Nat.reduceEqDiff, ↓reduceIte, ne_eq, eq_self, reduceCtorEq, Bool.false_eq_true, List.contains_cons, List.contains_nil, Nat.reduceBEq, Bool.or_false, decide_eq_true (show newS S ≠ 0 from h)]
        refine Cal.mk lWhy14_v ?_
        rintro _ _ ⟨rfl, rfl⟩ -
        simp (config := {maxSteps := 3000000}) only [ops_grd, grd_tt, ops_mv, ops_bin, ops_load, ops_call, ev_t, put_get, opv_mk, over_get, put_box_same, vbin, vbinI, vload, takeV, takeB, mono_sc, obsOk, List.map_cons, List.map_nil, List.length_cons, List.length_nil, List.take_succ_cons, List.drop_zero, List.take_nil, and_true, true_and, Nat.reduceEqDiff, Nat.reduceLeDiff, Nat.zero_add, ↓reduceIte, decide_true, eq_self, Bool.false_eq_true, List.contains_cons, List.contains_nil, Nat.reduceBEq, Bool.or_false]
        refine Cal.mk secLen0_v ?_
        rintro _ _ ⟨rfl, rfl⟩ -
        simp (config := {maxSteps := 3000000}) only [ops_grd, grd_tt, ops_mv, ops_pick, ops_bin, ops_un, ops_call, ev_t, ev_c, put_get, opv_mk, vpick, vbin, vbinI, vbinS, vun, obsOk, List.map_nil, true_and, Nat.reduceEqDiff, ↓reduceIte, decide_true, Bool.not_false, eq_self]
        refine Cal.mk lAlive14_v ?_
        rintro _ _ ⟨rfl, rfl⟩ -
        simp (config := {maxSteps := 3000000}) only [run_ret, at_code_n, at_code_r, at_fin_r, ops_nil, ops_mv, ops_pick, ev_t, put_get, opv_mk, vpick, obsOk, and_true, true_and, Nat.reduceEqDiff, ↓reduceIte, vret, rvAll, rvVal, resv_1, eq_self]
        exact ⟨_, _, Wk.refl _, weak_put hwf.weak htb, rfl, rfl⟩
  · simp (config := {maxSteps := 3000000}) only [run_reg, run_seq, run_blk, at_code_n, ops_nil, ops_mv, ops_ext, ops_alc, ops_store, ev_t, ev_c, put_get, put_none, opv_mk, stb_some, sto_ptr, Stp, put_box_same, put_put, vext, mono_sc, splice, V.cells, ptrV, obsOk, List.length_cons, List.length_nil, List.getElem?_cons_zero, List.getElem?_cons_succ, List.take_zero, List.drop_succ_cons, List.nil_append, List.append_nil, List.drop_nil, true_and, Nat.reduceEqDiff, Nat.reduceLT, Nat.reduceLeDiff, Nat.reduceLT, Nat.zero_add, ↓reduceIte, eq_self]
    intro tb htb
    have nb : mb ≠ tb := by have := hl.box mb _ T.box; omega
    have T := T.put (cs := [.sc (.map (some mb))]) nb
    have hl := hl.put (b := tb) (cs := [.sc (.map (some mb))])
    have hw := weak_put (b := tb) (cs := [.sc (.map (some mb))]) hw (by have := hw.sz; omega)
    have htb2 : (s1.put tb [.sc (.map (some mb))]).box tb = some [.sc (.map (some mb))] := put_box_same
    generalize s1.put tb [.sc (.map (some mb))] = s2 at T hl hw htb2 ⊢
    refine run_loop [4, 7, 21, 22, 23, 24, 25, 26, 27, 28, 29, 30, 31, 32, 33, 34, 35, 36, 37] (fun B s => ∃ i : Nat, i ≤ S.length ∧ B 7 = .sc (.int .i64 i) ∧ s = s2) (fun B _ => S.length - vnat (B 7)) rfl ?_ ?_
    · simp (config := {maxSteps := 3000000}) only [put_get, and_true, ↓reduceIte, eq_self]
      exact ⟨0, by omega, rfl⟩
    · rintro B s ⟨i, hi, h7, rfl⟩
      by_cases c1 : i < S.length
      · obtain ⟨x, hx⟩ := get_ex c1
        have bX : (rightS (x.1, x.2) == rightS (x.1, x.2)) = true := by simp
        simp (config := {maxSteps := 3000000}) only [run_skip, run_reg, run_seq, run_blk, run_cond, if_true, at_code_n, ops_nil, ops_mv, ops_bin, ops_ix, ops_load, ops_len, ops_call, ev_t, put_get, opv_mk, over_get, vnat, args0, List.getD_cons_zero, vbin, vbinI, vlen, vix, vload, takeV, V.cells, List.map_cons, List.map_nil, List.length_cons, List.length_nil, List.take_succ_cons, List.drop_zero, List.take_nil, and_true, true_and, Nat.reduceEqDiff, Nat.reduceAdd, Nat.reduceLeDiff, Int.toNat_natCast, Nat.zero_add, ↓reduceIte, eq_self, reduceCtorEq, Bool.false_eq_true, List.contains_cons, List.contains_nil, Nat.reduceBEq, Bool.or_false, Bool.or_true, h7, secs_get hx, secs_len, decide_eq_true (show (i : Int) < (S.length : Int) by omega)]
        repeat (apply And.intro; focus (first | omega | (simp; done)))
        refine Cal.mk secRight_v ?_
        rintro _ _ ⟨rfl, rfl⟩ -
        simp (config := {maxSteps := 3000000}) only [ops_call, ev_t, put_get, vload, takeV, obsOk, List.map_cons, List.map_nil, List.length_cons, List.length_nil, List.take_succ_cons, List.drop_zero, List.take_nil, and_true, true_and, Nat.reduceEqDiff, Nat.reduceAdd, Nat.reduceLeDiff, Nat.zero_add, ↓reduceIte, eq_self]
        repeat (apply And.intro; focus (first | omega | (simp; done)))
        refine Cal.mk lRight14_v ?_
        rintro _ _ ⟨rfl, rfl⟩ -
        simp (config := {maxSteps := 3000000}) only [run_skip, run_reg, run_cond, if_false, at_code_n, at_blk_n, at_rnd_n, ops_nil, ops_mv, ops_bin, ops_binb, vbinb, ev_t, ev_c, put_get, opv_mk, over_get, rel_mk, vbin, vbinI, norm, obsOk, and_true, true_and, Nat.reduceEqDiff, Int.reduceNeg, ↓reduceIte, Bool.not_true, eq_self, List.contains_cons, List.contains_nil, Nat.reduceBEq, Bool.or_false, Bool.or_true, h7, bX]
        repeat (apply And.intro; focus (first | omega | (simp; done)))
        exact ⟨⟨i + 1, by omega, by simp⟩, by omega⟩
      · simp (config := {maxSteps := 3000000}) only [run_reg, run_seq, run_exit, run_cond, if_false, at_code_n, at_code_x, at_blk_x, at_rnd_x, ops_nil, ops_mv, ops_bin, ops_load, ops_len, ops_call, ev_t, put_get, opv_mk, over_get, vnat, args0, List.getD_cons_zero, List.getD_cons_succ, vbin, vbinI, vlen, vload, takeV, takeB, mono_sc, List.map_cons, List.map_nil, List.length_cons, List.length_nil, List.take_succ_cons, List.drop_zero, List.take_nil, and_true, true_and, Nat.reduceEqDiff, Nat.reduceLeDiff, Int.toNat_natCast, Nat.zero_add, ↓reduceIte, eq_self, reduceCtorEq, Bool.false_eq_true, List.contains_cons, List.contains_nil, Nat.reduceBEq, Bool.or_false, Bool.or_true, h7, secs_len, htb2, decide_eq_false (show ¬ (i : Int) < (S.length : Int) by omega)]
        refine Cal.mk (secFind_v T) ?_
        rintro _ _ ⟨rfl, rfl⟩ -
        simp (config := {maxSteps := 3000000}) only [run_reg, run_seq, at_code_n, ops_nil, ops_mv, ops_ext, ops_call, ev_t, put_get, opv_mk, over_get, args0, List.getD_cons_zero, vext, obsOk, List.map_cons, List.map_nil, List.getElem?_cons_zero, List.getElem?_cons_succ, true_and, Nat.reduceEqDiff, ↓reduceIte, eq_self, reduceCtorEq, Bool.false_eq_true, List.contains_cons, List.contains_nil, Nat.reduceBEq, Bool.or_false]
        refine Cal.mk lWhy14_v ?_
        rintro _ _ ⟨rfl, rfl⟩ -
        rw [h]
        simp (config := {maxSteps := 3000000}) only [run_skip, run_reg, run_seq, run_cond, if_false, at_code_n, ops_nil, ops_mv, ops_bin, ops_call, ev_t, ev_c, put_get, opv_mk, over_get, args0, List.getD_cons_zero, List.getD_cons_succ, vbin, vbinI, obsOk, List.map_cons, List.map_nil, true_and, Nat.reduceEqDiff, ↓reduceIte, decide_false, ne_eq, not_true_eq_false, eq_self, reduceCtorEq, Bool.false_eq_true, List.contains_cons, List.contains_nil, Nat.reduceBEq, Bool.or_false]
        refine Cal.mk lFind14_v ?_
        rintro _ _ ⟨rfl, rfl⟩ -
        -- what is asked about the name holds
        rcases where_cases n S with ⟨w1, w2⟩ | ⟨k, x, w1, wx, w3, w2, _⟩
        · simp (config := {maxSteps := 3000000}) only [run_skip, run_reg, run_seq, run_blk, run_cond, if_false, at_code_n, ops_nil, ops_grd, grd_tt, grd_ff, grd_ft, ops_mv, ops_pick, ops_bin, ops_un, ops_binb, vbinb, ev_t, ev_c, put_get, opv_mk, vpick, vbin, vbinI, vbinS, vun, obsOk, true_and, Nat.reduceEqDiff, Int.reduceLE, Int.reduceNeg, ↓reduceIte, decide_false, Bool.not_true, Bool.not_false, ne_eq, not_true_eq_false, eq_self, Bool.false_eq_true, w1, w2, where_get w2, Option.isSome_none, bF]
          refine run_loop [11, 12, 94, 95, 96, 97, 98, 99, 100, 101, 102, 103, 104, 105, 106, 107] (fun C s' => ∃ i : Nat, i ≤ S.length ∧ C 12 = .sc (.int .i64 i) ∧ ((i = 0 ∧ C 11 = .sl .nil [] ∧ s' = s) ∨ (0 < i ∧ ∃ b cap sp, C 11 = dataV b ((S.take i).map (·.1)).length cap ∧ RB sval s s' b cap ((S.take i).map (·.1)) sp))) (fun C _ => S.length - vnat (C 12)) rfl ?_ ?_
          · simp (config := {maxSteps := 3000000}) only [put_get, and_true, Nat.reduceEqDiff, Int.reduceNeg, ↓reduceIte, eq_self]
            exact ⟨0, by omega, rfl, .inl rfl⟩
          · clear hi h7 c1
            rintro C s' ⟨i, hi, h12, hI⟩
            by_cases c1 : i < S.length
            · obtain ⟨x, hx⟩ := get_ex c1
              have htk : (S.take (i + 1)).map (·.1) = (S.take i).map (·.1) ++ [x.1] := by rw [List.take_add_one, hx]; simp
              have hlen : ((S.take i).map (·.1)).length = i := by simp; omega
              rcases hI with ⟨rfl, h11, rfl⟩ | ⟨h0, b, cap, sp, h11, R⟩
              · simp (config := {maxSteps := 3000000}) only [run_skip, run_reg, run_seq, run_blk, run_cond, if_true, at_code_n, ops_nil, ops_mv, ops_bin, ops_fld, ops_ix, ops_load, ops_len, ops_bsl, ops_app, ev_t, put_get, opv_mk, over_get, vnat, vbsl, args0, List.getD_cons_zero, vbin, vbinI, vfld, vlen, vix, vload, takeV, V.cells, strip, strip1, allLen, List.map_cons, List.map_nil, List.length_cons, List.length_nil, List.getElem?_cons_zero, and_true, true_and, Nat.reduceEqDiff, Nat.reduceAdd, Int.toNat_natCast, Int.reduceNeg, Nat.zero_add, Nat.add_zero, ↓reduceIte, eq_self, reduceCtorEq, Bool.false_eq_true, List.contains_cons, List.contains_nil, Nat.reduceBEq, Bool.or_false, Bool.or_true, h12, h11, secs_get hx, secs_len, decide_eq_true (show ((0 : Nat) : Int) < (S.length : Int) by omega)]
                repeat (apply And.intro; focus (first | omega | (simp; done)))
                refine App.push0 (bytes := 16) (val := sval) (x := x.1) (by omega) ?_
                intro b' cap' sp' k1 k2 k3 k4
                have R2 := RB.mk0 (base := s') hl.weak hl k1 k2 k3 k4
                simp (config := {maxSteps := 3000000}) only [run_reg, at_code_n, at_blk_n, at_rnd_n, ops_nil, ops_mv, ops_bin, ev_t, ev_c, put_get, opv_mk, over_get, rel_mk, vbin, vbinI, norm, obsOk, List.length_cons, List.length_nil, true_and, Nat.reduceEqDiff, Int.reduceNeg, Nat.zero_add, ↓reduceIte, eq_self, List.contains_cons, List.contains_nil, Nat.reduceBEq, Bool.or_false, Bool.or_true, h12]
                repeat (apply And.intro; focus (first | omega | (simp; done)))
                exact ⟨⟨1, by omega, rfl, .inr ⟨by omega, b', cap', sp', by rw [htk]; rfl, by rw [htk]; exact R2⟩⟩, by omega⟩
              · simp (config := {maxSteps := 3000000}) only [run_skip, run_reg, run_seq, run_blk, run_cond, if_true, at_code_n, ops_nil, ops_mv, ops_bin, ops_fld, ops_ix, ops_load, ops_len, ops_bsl, ops_app, ev_t, put_get, opv_mk, over_get, vnat, vbsl, args0, List.getD_cons_zero, vbin, vbinI, vfld, vlen, vix, vload, takeV, V.cells, strip, strip1, allLen, List.map_cons, List.map_nil, List.length_cons, List.length_nil, List.getElem?_cons_zero, and_true, true_and, Nat.reduceEqDiff, Nat.reduceAdd, Int.toNat_natCast, Int.reduceNeg, Nat.zero_add, Nat.add_zero, ↓reduceIte, eq_self, reduceCtorEq, Bool.false_eq_true, List.contains_cons, List.contains_nil, Nat.reduceBEq, Bool.or_false, Bool.or_true, h12, h11, secs_get hx, secs_len, decide_eq_true (show (i : Int) < (S.length : Int) by omega)]
                repeat (apply And.intro; focus (first | omega | (simp; done)))
                refine App.push (bytes := 16) (val := sval) (x := x.1) R.box R.len R.mono R.max (by rw [hlen]; unfold maxLen; omega) (by rw [hlen]; omega) ?_
                intro b' cap' sp' k1 k2 k3 k4 k5
                have R2 := R.push k1 k3 k4 k5
                simp (config := {maxSteps := 3000000}) only [run_reg, at_code_n, at_blk_n, at_rnd_n, ops_nil, ops_mv, ops_bin, ev_t, ev_c, put_get, opv_mk, over_get, rel_mk, vbin, vbinI, norm, obsOk, true_and, Nat.reduceEqDiff, Int.reduceNeg, ↓reduceIte, eq_self, List.contains_cons, List.contains_nil, Nat.reduceBEq, Bool.or_false, Bool.or_true, h12]
                repeat (apply And.intro; focus (first | omega | (simp; done)))
                exact ⟨⟨i + 1, by omega, by simp, .inr ⟨by omega, b', cap', sp', by rw [htk], by rw [htk]; exact R2⟩⟩, by omega⟩
            · obtain rfl : i = S.length := by omega
              have htk : S.take S.length = S := List.take_length
              rcases hI with ⟨h0, h11, rfl⟩ | ⟨h0, b, cap, sp, h11, R⟩
              · have hS0 : S = [] := List.eq_nil_of_length_eq_zero h0
                simp (config := {maxSteps := 3000000}) only [run_reg, run_seq, run_exit, run_cond, if_false, at_code_n, at_code_x, at_blk_x, at_rnd_x, ops_nil, ops_mv, ops_bin, ops_len, ops_call, ev_t, put_get, opv_mk, over_get, vnat, args0, List.getD_cons_zero, vbin, vbinI, vlen, List.map_cons, List.map_nil, true_and, Nat.reduceEqDiff, Int.toNat_natCast, Int.reduceNeg, ↓reduceIte, decide_false, Int.lt_irrefl, eq_self, reduceCtorEq, Bool.false_eq_true, List.contains_cons, List.contains_nil, Nat.reduceBEq, Bool.or_false, Bool.or_true, h12, h11, secs_len]
                refine Cal.mk sortS0_v ?_
                rintro _ _ rfl -
                simp (config := {maxSteps := 3000000}) only [run_reg, run_seq, at_code_n, ops_nil, ops_grd, grd_tt, ops_mv, ops_bin, ops_load, ops_call, ev_t, ev_c, put_get, opv_mk, over_get, vbin, vbinI, vload, takeV, takeB, mono_sc, obsOk, List.map_cons, List.map_nil, List.length_cons, List.length_nil, List.take_succ_cons, List.drop_zero, List.take_nil, and_true, true_and, Nat.reduceEqDiff, Nat.reduceLeDiff, Int.reduceNeg, Nat.zero_add, ↓reduceIte, decide_true, eq_self, Bool.false_eq_true, List.contains_cons, List.contains_nil, Nat.reduceBEq, Bool.or_false, htb2]
                refine Cal.mk (secLen_v T) ?_
                rintro _ _ ⟨rfl, rfl⟩ -
                simp (config := {maxSteps := 3000000}) only [ops_grd, grd_tt, ops_mv, ops_pick, ops_bin, ops_load, ops_len, ops_call, ev_t, put_get, opv_mk, over_get, args0, List.getD_cons_zero, vpick, vbin, vbinI, vlen, vload, takeV, takeB, mono_sc, obsOk, List.map_cons, List.map_nil, List.length_cons, List.length_nil, List.take_succ_cons, List.drop_zero, List.take_nil, and_true, true_and, Nat.reduceEqDiff, Nat.reduceLeDiff, Int.reduceNeg, Nat.zero_add, ↓reduceIte, decide_true, eq_self, reduceCtorEq, Bool.false_eq_true, List.contains_cons, List.contains_nil, Nat.reduceBEq, Bool.or_false, htb2, secs_len]
                refine Cal.mk (secNames_v T (by omega)) ?_
                rintro _ s3 ⟨b2, M, sp2, p1, p2, rfl, R3⟩ -
                have hM0 : M.length = 0 := by rw [p1.length_eq, hS0]; rfl
                rw [hM0]
                simp (config := {maxSteps := 3000000}) only [ops_grd, grd_tt, ops_mv, ops_call, ev_t, put_get, opv_mk, over_get, obsOk, List.map_cons, List.map_nil, true_and, Nat.reduceEqDiff, Int.reduceNeg, ↓reduceIte, eq_self, List.contains_cons, List.contains_nil, Nat.reduceBEq, Bool.or_false, h11]
                refine Cal.mk eqStr0_v ?_
                rintro _ _ ⟨rfl, rfl⟩ -
                simp (config := {maxSteps := 3000000}) only [ops_grd, grd_tt, ops_mv, ops_pick, ops_call, ev_t, put_get, opv_mk, vpick, obsOk, List.map_nil, true_and, Nat.reduceEqDiff, Int.reduceNeg, ↓reduceIte, eq_self]
                refine Cal.mk lAlive14_v ?_
                rintro _ _ ⟨rfl, rfl⟩ -
                simp (config := {maxSteps := 3000000}) only [run_ret, at_code_n, at_fin_r, ops_nil, ops_mv, ops_pick, ev_t, put_get, opv_mk, vpick, obsOk, and_true, true_and, Nat.reduceEqDiff, Int.reduceNeg, ↓reduceIte, vret, rvAll, rvVal, resv_1, eq_self]
                exact ⟨_, _, Wk.refl _, weak_tr hw R3.weak, rfl, rfl⟩
              · rw [htk] at h11 R
                have hb1 := R.weak.box mb _ T.box
                simp (config := {maxSteps := 3000000}) only [run_reg, run_seq, run_exit, run_cond, if_false, at_code_n, at_code_x, at_blk_x, at_rnd_x, ops_nil, ops_mv, ops_bin, ops_len, ops_call, ev_t, put_get, opv_mk, over_get, vnat, args0, List.getD_cons_zero, vbin, vbinI, vlen, List.map_cons, List.map_nil, true_and, Nat.reduceEqDiff, Int.toNat_natCast, Int.reduceNeg, ↓reduceIte, decide_false, Int.lt_irrefl, eq_self, reduceCtorEq, Bool.false_eq_true, List.contains_cons, List.contains_nil, Nat.reduceBEq, Bool.or_false, Bool.or_true, h12, h11, secs_len]
                have cc := sortS_v (st := s') (b := b) (cap := cap) (L := S.map (·.1)) (sp := sp) R.mono (by simp; omega)
                rw [R.self] at cc
                refine Cal.mk cc ?_
                rintro _ _ ⟨N, n1, n2, rfl⟩ -
                have hN := n1.length_eq
                have R2 := R.mix hN
                have T2 : TabS (s'.put b (row sval N sp)) mb S es c := ⟨(R2.weak.box mb _ T.box).1, T.mp⟩
                have htb3 := (R2.weak.box tb _ htb2).1
                generalize s'.put b (row sval N sp) = s4 at R2 T2 htb3 ⊢
                simp (config := {maxSteps := 3000000}) only [run_reg, run_seq, at_code_n, ops_nil, ops_grd, grd_tt, ops_mv, ops_bin, ops_load, ops_call, ev_t, ev_c, put_get, opv_mk, over_get, vbin, vbinI, vload, takeV, takeB, mono_sc, obsOk, List.map_cons, List.map_nil, List.length_cons, List.length_nil, List.take_succ_cons, List.drop_zero, List.take_nil, and_true, true_and, Nat.reduceEqDiff, Nat.reduceLeDiff, Int.reduceNeg, Nat.zero_add, ↓reduceIte, decide_true, eq_self, Bool.false_eq_true, List.contains_cons, List.contains_nil, Nat.reduceBEq, Bool.or_false, htb3]
                refine Cal.mk (secLen_v T2) ?_
                rintro _ _ ⟨rfl, rfl⟩ -
                simp (config := {maxSteps := 3000000}) only [ops_grd, grd_tt, ops_mv, ops_pick, ops_bin, ops_load, ops_len, ops_call, ev_t, put_get, opv_mk, over_get, args0, List.getD_cons_zero, vpick, vbin, vbinI, vlen, vload, takeV, takeB, mono_sc, obsOk, List.map_cons, List.map_nil, List.length_cons, List.length_nil, List.take_succ_cons, List.drop_zero, List.take_nil, and_true, true_and, Nat.reduceEqDiff, Nat.reduceLeDiff, Int.reduceNeg, Nat.zero_add, ↓reduceIte, decide_true, eq_self, reduceCtorEq, Bool.false_eq_true, List.contains_cons, List.contains_nil, Nat.reduceBEq, Bool.or_false, htb3, secs_len]
                refine Cal.mk (secNames_v T2 (by omega)) ?_
                rintro _ s3 ⟨b2, M, sp2, p1, p2, rfl, R3⟩ -
                have hMN : M = N := sort_uniq p1 n1 p2 n2
                subst hMN
                rw [← hN] at h11
                simp (config := {maxSteps := 3000000}) only [ops_grd, grd_tt, ops_mv, ops_call, ev_t, put_get, opv_mk, over_get, obsOk, List.map_cons, List.map_nil, true_and, Nat.reduceEqDiff, Int.reduceNeg, ↓reduceIte, eq_self, List.contains_cons, List.contains_nil, Nat.reduceBEq, Bool.or_false, h11]
                refine Cal.mk (eqStr_v R3.box (R3.weak.box b _ R2.box).1 (by have := R3.len; have := R3.max; unfold maxLen at this; omega)) ?_
                rintro _ _ ⟨rfl, rfl⟩ -
                simp (config := {maxSteps := 3000000}) only [ops_grd, grd_tt, ops_mv, ops_pick, ops_call, ev_t, put_get, opv_mk, vpick, obsOk, List.map_nil, true_and, Nat.reduceEqDiff, Int.reduceNeg, ↓reduceIte, eq_self]
                refine Cal.mk lAlive14_v ?_
                rintro _ _ ⟨rfl, rfl⟩ -
                simp (config := {maxSteps := 3000000}) only [run_ret, at_code_n, at_fin_r, ops_nil, ops_mv, ops_pick, ev_t, put_get, opv_mk, vpick, obsOk, and_true, true_and, Nat.reduceEqDiff, Int.reduceNeg, ↓reduceIte, vret, rvAll, rvVal, resv_1, eq_self]
                exact ⟨_, _, Wk.refl _, weak_tr hw (weak_tr R2.weak R3.weak), rfl, rfl⟩
        · have hk0 : (0 : Int) ≤ (k : Int) := by omega
          simp (config := {maxSteps := 3000000}) only [run_skip, run_reg, run_seq, run_blk, run_cond, if_false, at_code_n, ops_nil, ops_grd, grd_tt, grd_ff, grd_ft, ops_mv, ops_pick, ops_bin, ops_un, ops_binb, vbinb, ops_fld, ops_ix, ops_load, ev_t, ev_c, put_get, opv_mk, over_get, args0, List.getD_cons_zero, vpick, vbin, vbinI, vbinS, vun, vfld, vix, vload, takeV, V.cells, obsOk, List.length_cons, List.length_nil, List.getElem?_cons_zero, List.getElem?_cons_succ, and_true, true_and, Nat.reduceEqDiff, Nat.reduceAdd, Int.toNat_natCast, Nat.zero_add, ↓reduceIte, decide_true, decide_false, Bool.not_true, ne_eq, not_true_eq_false, eq_self, reduceCtorEq, Bool.false_eq_true, List.contains_cons, List.contains_nil, Nat.reduceBEq, Bool.or_false, w1, w2, where_got w2, Option.isSome_some, bT, secs_get wx, hk0]
          refine run_loop [11, 12, 94, 95, 96, 97, 98, 99, 100, 101, 102, 103, 104, 105, 106, 107] (fun C s' => ∃ i : Nat, i ≤ S.length ∧ C 12 = .sc (.int .i64 i) ∧ ((i = 0 ∧ C 11 = .sl .nil [] ∧ s' = s) ∨ (0 < i ∧ ∃ b cap sp, C 11 = dataV b ((S.take i).map (·.1)).length cap ∧ RB sval s s' b cap ((S.take i).map (·.1)) sp))) (fun C _ => S.length - vnat (C 12)) rfl ?_ ?_
          · simp (config := {maxSteps := 3000000}) only [put_get, and_true, Nat.reduceEqDiff, ↓reduceIte, eq_self]
            exact ⟨0, by omega, rfl, .inl rfl⟩
          · clear hi h7 c1
            rintro C s' ⟨i, hi, h12, hI⟩
            by_cases c1 : i < S.length
            · obtain ⟨x, hx⟩ := get_ex c1
              have htk : (S.take (i + 1)).map (·.1) = (S.take i).map (·.1) ++ [x.1] := by rw [List.take_add_one, hx]; simp
              have hlen : ((S.take i).map (·.1)).length = i := by simp; omega
              rcases hI with ⟨rfl, h11, rfl⟩ | ⟨h0, b, cap, sp, h11, R⟩
              · simp (config := {maxSteps := 3000000}) only [run_skip, run_reg, run_seq, run_blk, run_cond, if_true, at_code_n, ops_nil, ops_mv, ops_bin, ops_fld, ops_ix, ops_load, ops_len, ops_bsl, ops_app, ev_t, put_get, opv_mk, over_get, vnat, vbsl, args0, List.getD_cons_zero, vbin, vbinI, vfld, vlen, vix, vload, takeV, V.cells, strip, strip1, allLen, List.map_cons, List.map_nil, List.length_cons, List.length_nil, List.getElem?_cons_zero, and_true, true_and, Nat.reduceEqDiff, Nat.reduceAdd, Int.toNat_natCast, Nat.zero_add, Nat.add_zero, ↓reduceIte, eq_self, reduceCtorEq, Bool.false_eq_true, List.contains_cons, List.contains_nil, Nat.reduceBEq, Bool.or_false, Bool.or_true, h12, h11, secs_get hx, secs_len, decide_eq_true (show ((0 : Nat) : Int) < (S.length : Int) by omega)]
                repeat (apply And.intro; focus (first | omega | (simp; done)))
                refine App.push0 (bytes := 16) (val := sval) (x := x.1) (by omega) ?_
                intro b' cap' sp' k1 k2 k3 k4
                have R2 := RB.mk0 (base := s') hl.weak hl k1 k2 k3 k4
                simp (config := {maxSteps := 3000000}) only [run_reg, at_code_n, at_blk_n, at_rnd_n, ops_nil, ops_mv, ops_bin, ev_t, ev_c, put_get, opv_mk, over_get, rel_mk, vbin, vbinI, norm, obsOk, List.length_cons, List.length_nil, true_and, Nat.reduceEqDiff, Int.reduceNeg, Nat.zero_add, ↓reduceIte, eq_self, List.contains_cons, List.contains_nil, Nat.reduceBEq, Bool.or_false, Bool.or_true, h12]
                repeat (apply And.intro; focus (first | omega | (simp; done)))
                exact ⟨⟨1, by omega, rfl, .inr ⟨by omega, b', cap', sp', by rw [htk]; rfl, by rw [htk]; exact R2⟩⟩, by omega⟩
              · simp (config := {maxSteps := 3000000}) only [run_skip, run_reg, run_seq, run_blk, run_cond, if_true, at_code_n, ops_nil, ops_mv, ops_bin, ops_fld, ops_ix, ops_load, ops_len, ops_bsl, ops_app, ev_t, put_get, opv_mk, over_get, vnat, vbsl, args0, List.getD_cons_zero, vbin, vbinI, vfld, vlen, vix, vload, takeV, V.cells, strip, strip1, allLen, List.map_cons, List.map_nil, List.length_cons, List.length_nil, List.getElem?_cons_zero, and_true, true_and, Nat.reduceEqDiff, Nat.reduceAdd, Int.toNat_natCast, Nat.zero_add, Nat.add_zero, ↓reduceIte, eq_self, reduceCtorEq, Bool.false_eq_true, List.contains_cons, List.contains_nil, Nat.reduceBEq, Bool.or_false, Bool.or_true, h12, h11, secs_get hx, secs_len, decide_eq_true (show (i : Int) < (S.length : Int) by omega)]
                repeat (apply And.intro; focus (first | omega | (simp; done)))
                refine App.push (bytes := 16) (val := sval) (x := x.1) R.box R.len R.mono R.max (by rw [hlen]; unfold maxLen; omega) (by rw [hlen]; omega) ?_
                intro b' cap' sp' k1 k2 k3 k4 k5
                have R2 := R.push k1 k3 k4 k5
                simp (config := {maxSteps := 3000000}) only [run_reg, at_code_n, at_blk_n, at_rnd_n, ops_nil, ops_mv, ops_bin, ev_t, ev_c, put_get, opv_mk, over_get, rel_mk, vbin, vbinI, norm, obsOk, true_and, Nat.reduceEqDiff, Int.reduceNeg, ↓reduceIte, eq_self, List.contains_cons, List.contains_nil, Nat.reduceBEq, Bool.or_false, Bool.or_true, h12]
                repeat (apply And.intro; focus (first | omega | (simp; done)))
                exact ⟨⟨i + 1, by omega, by simp, .inr ⟨by omega, b', cap', sp', by rw [htk], by rw [htk]; exact R2⟩⟩, by omega⟩
            · obtain rfl : i = S.length := by omega
              have htk : S.take S.length = S := List.take_length
              rcases hI with ⟨h0, h11, rfl⟩ | ⟨h0, b, cap, sp, h11, R⟩
              · have hS0 : S = [] := List.eq_nil_of_length_eq_zero h0
                simp (config := {maxSteps := 3000000}) only [run_reg, run_seq, run_exit, run_cond, if_false, at_code_n, at_code_x, at_blk_x, at_rnd_x, ops_nil, ops_mv, ops_bin, ops_len, ops_call, ev_t, put_get, opv_mk, over_get, vnat, args0, List.getD_cons_zero, vbin, vbinI, vlen, List.map_cons, List.map_nil, true_and, Nat.reduceEqDiff, Int.toNat_natCast, ↓reduceIte, decide_false, Int.lt_irrefl, eq_self, reduceCtorEq, Bool.false_eq_true, List.contains_cons, List.contains_nil, Nat.reduceBEq, Bool.or_false, Bool.or_true, h12, h11, secs_len]
                refine Cal.mk sortS0_v ?_
                rintro _ _ rfl -
                simp (config := {maxSteps := 3000000}) only [run_reg, run_seq, at_code_n, ops_nil, ops_grd, grd_tt, ops_mv, ops_bin, ops_load, ops_call, ev_t, ev_c, put_get, opv_mk, over_get, vbin, vbinI, vload, takeV, takeB, mono_sc, obsOk, List.map_cons, List.map_nil, List.length_cons, List.length_nil, List.take_succ_cons, List.drop_zero, List.take_nil, and_true, true_and, Nat.reduceEqDiff, Nat.reduceLeDiff, Nat.zero_add, ↓reduceIte, decide_true, eq_self, Bool.false_eq_true, List.contains_cons, List.contains_nil, Nat.reduceBEq, Bool.or_false, htb2]
                refine Cal.mk (secLen_v T) ?_
                rintro _ _ ⟨rfl, rfl⟩ -
                simp (config := {maxSteps := 3000000}) only [ops_grd, grd_tt, ops_mv, ops_pick, ops_bin, ops_load, ops_len, ops_call, ev_t, put_get, opv_mk, over_get, args0, List.getD_cons_zero, vpick, vbin, vbinI, vlen, vload, takeV, takeB, mono_sc, obsOk, List.map_cons, List.map_nil, List.length_cons, List.length_nil, List.take_succ_cons, List.drop_zero, List.take_nil, and_true, true_and, Nat.reduceEqDiff, Nat.reduceLeDiff, Nat.zero_add, ↓reduceIte, decide_true, eq_self, reduceCtorEq, Bool.false_eq_true, List.contains_cons, List.contains_nil, Nat.reduceBEq, Bool.or_false, htb2, secs_len]
                refine Cal.mk (secNames_v T (by omega)) ?_
                rintro _ s3 ⟨b2, M, sp2, p1, p2, rfl, R3⟩ -
                have hM0 : M.length = 0 := by rw [p1.length_eq, hS0]; rfl
                rw [hM0]
                simp (config := {maxSteps := 3000000}) only [ops_grd, grd_tt, ops_mv, ops_call, ev_t, put_get, opv_mk, over_get, obsOk, List.map_cons, List.map_nil, true_and, Nat.reduceEqDiff, ↓reduceIte, eq_self, List.contains_cons, List.contains_nil, Nat.reduceBEq, Bool.or_false, h11]
                refine Cal.mk eqStr0_v ?_
                rintro _ _ ⟨rfl, rfl⟩ -
                simp (config := {maxSteps := 3000000}) only [ops_grd, grd_tt, ops_mv, ops_pick, ops_call, ev_t, put_get, opv_mk, vpick, obsOk, List.map_nil, true_and, Nat.reduceEqDiff, ↓reduceIte, eq_self]
                refine Cal.mk lAlive14_v ?_
                rintro _ _ ⟨rfl, rfl⟩ -
                simp (config := {maxSteps := 3000000}) only [run_ret, at_code_n, at_fin_r, ops_nil, ops_mv, ops_pick, ev_t, put_get, opv_mk, vpick, obsOk, and_true, true_and, Nat.reduceEqDiff, ↓reduceIte, vret, rvAll, rvVal, resv_1, eq_self]
                exact ⟨_, _, Wk.refl _, weak_tr hw R3.weak, rfl, rfl⟩
              · rw [htk] at h11 R
                have hb1 := R.weak.box mb _ T.box
                simp (config := {maxSteps := 3000000}) only [run_reg, run_seq, run_exit, run_cond, if_false, at_code_n, at_code_x, at_blk_x, at_rnd_x, ops_nil, ops_mv, ops_bin, ops_len, ops_call, ev_t, put_get, opv_mk, over_get, vnat, args0, List.getD_cons_zero, vbin, vbinI, vlen, List.map_cons, List.map_nil, true_and, Nat.reduceEqDiff, Int.toNat_natCast, ↓reduceIte, decide_false, Int.lt_irrefl, eq_self, reduceCtorEq, Bool.false_eq_true, List.contains_cons, List.contains_nil, Nat.reduceBEq, Bool.or_false, Bool.or_true, h12, h11, secs_len]
                have cc := sortS_v (st := s') (b := b) (cap := cap) (L := S.map (·.1)) (sp := sp) R.mono (by simp; omega)
                rw [R.self] at cc
                refine Cal.mk cc ?_
                rintro _ _ ⟨N, n1, n2, rfl⟩ -
                have hN := n1.length_eq
                have R2 := R.mix hN
                have T2 : TabS (s'.put b (row sval N sp)) mb S es c := ⟨(R2.weak.box mb _ T.box).1, T.mp⟩
                have htb3 := (R2.weak.box tb _ htb2).1
                generalize s'.put b (row sval N sp) = s4 at R2 T2 htb3 ⊢
                simp (config := {maxSteps := 3000000}) only [run_reg, run_seq, at_code_n, ops_nil, ops_grd, grd_tt, ops_mv, ops_bin, ops_load, ops_call, ev_t, ev_c, put_get, opv_mk, over_get, vbin, vbinI, vload, takeV, takeB, mono_sc, obsOk, List.map_cons, List.map_nil, List.length_cons, List.length_nil, List.take_succ_cons, List.drop_zero, List.take_nil, and_true, true_and, Nat.reduceEqDiff, Nat.reduceLeDiff, Nat.zero_add, ↓reduceIte, decide_true, eq_self, Bool.false_eq_true, List.contains_cons, List.contains_nil, Nat.reduceBEq, Bool.or_false, htb3]
                refine Cal.mk (secLen_v T2) ?_
                rintro _ _ ⟨rfl, rfl⟩ -
                simp (config := {maxSteps := 3000000}) only [ops_grd, grd_tt, ops_mv, ops_pick, ops_bin, ops_load, ops_len, ops_call, ev_t, put_get, opv_mk, over_get, args0, List.getD_cons_zero, vpick, vbin, vbinI, vlen, vload, takeV, takeB, mono_sc, obsOk, List.map_cons, List.map_nil, List.length_cons, List.length_nil, List.take_succ_cons, List.drop_zero, List.take_nil, and_true, true_and, Nat.reduceEqDiff, Nat.reduceLeDiff, Nat.zero_add, ↓reduceIte, decide_true, eq_self, reduceCtorEq, Bool.false_eq_true, List.contains_cons, List.contains_nil, Nat.reduceBEq, Bool.or_false, htb3, secs_len]
                refine Cal.mk (secNames_v T2 (by omega)) ?_
                rintro _ s3 ⟨b2, M, sp2, p1, p2, rfl, R3⟩ -
                have hMN : M = N := sort_uniq p1 n1 p2 n2
                subst hMN
                rw [← hN] at h11
                simp (config := {maxSteps := 3000000}) only [ops_grd, grd_tt, ops_mv, ops_call, ev_t, put_get, opv_mk, over_get, obsOk, List.map_cons, List.map_nil, true_and, Nat.reduceEqDiff, ↓reduceIte, eq_self, List.contains_cons, List.contains_nil, Nat.reduceBEq, Bool.or_false, h11]
                refine Cal.mk (eqStr_v R3.box (R3.weak.box b _ R2.box).1 (by have := R3.len; have := R3.max; unfold maxLen at this; omega)) ?_
                rintro _ _ ⟨rfl, rfl⟩ -
                simp (config := {maxSteps := 3000000}) only [ops_grd, grd_tt, ops_mv, ops_pick, ops_call, ev_t, put_get, opv_mk, vpick, obsOk, List.map_nil, true_and, Nat.reduceEqDiff, ↓reduceIte, eq_self]
                refine Cal.mk lAlive14_v ?_
                rintro _ _ ⟨rfl, rfl⟩ -
                simp (config := {maxSteps := 3000000}) only [run_ret, at_code_n, at_fin_r, ops_nil, ops_mv, ops_pick, ev_t, put_get, opv_mk, vpick, obsOk, and_true, true_and, Nat.reduceEqDiff, ↓reduceIte, vret, rvAll, rvVal, resv_1, eq_self]
                exact ⟨_, _, Wk.refl _, weak_tr hw (weak_tr R2.weak R3.weak), rfl, rfl⟩
end
end Go.Proofs.Ytlngegoamfklgaa
