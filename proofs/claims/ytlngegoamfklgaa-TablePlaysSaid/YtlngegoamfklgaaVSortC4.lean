/- Go's own sort by a function: the sort of what is nearly sorted: contract. Printed by a program (gen_sort4.py). No program here. -/
import Derived.Test.YtlngegoamfklgaaVSortC2
import Derived.Test.YtlngegoamfklgaaVSortLaw2
namespace Go.Proofs.Ytlngegoamfklgaa
open Go

section
variable {P : Program} {α : Type} [Inhabited α] {val : α → V × V} {lt : α → α → Bool} {g f fsift : FuncId} {st : St} {b cap a c : Nat} {L : List α} {sp : List V}
set_option maxRecDepth 100000 in
set_option maxHeartbeats 16000000 in
theorem cpart_v (hf : cFun P f = some (CPart)) (E : EltC P g val lt) (hmo : mono (rowc val L sp)) (h1 : a < c) (h2 : c ≤ L.length) (hl : L.length < 4611686018427387904) (hLB : LB lt a c L) :
    VCalls P f [dataV b L.length cap, .sc (.int .i64 a), .sc (.int .i64 c), cmpV g] (st.put b (rowc val L sp)) fun r s => ∃ (B : Bool) (M : List α), Mix a c L M ∧ (B = true → Srt lt a c M) ∧ r = .sc (.bool B) ∧ s = st.put b (rowc val M sp) := by
  refine vcalls_enter hf (Nat.le_of_ble_eq_true rfl) fun hwf hok => ?_
  show Run _ (CPart).body (.fin (finQ (CPart).res _)) _ _
  unfold CPart
  simp (config := {maxSteps := 3000000}) only [run_reg, run_seq, run_blk, at_code_n, ops_nil, ops_mv, ops_bin, ev_t, ev_c, put_get, opv_mk, args0, List.getD_cons_zero, List.getD_cons_succ, vbin, vbinI, norm, true_and, Nat.reduceEqDiff, Int.reduceNeg, ↓reduceIte, eq_self, dataV, cmpV]
  repeat (apply And.intro; focus (first | omega | (simp; done)))
  refine run_loop [8, 9, 10, 11, 12, 15, 16, 17, 18, 19, 20, 21, 22, 23, 24, 25, 26, 27, 28, 29, 30, 31, 32, 33, 34, 35, 36, 37, 38, 39, 40, 41, 42, 43, 44, 45, 46, 47, 48, 49, 50, 51, 52, 53, 54, 55, 56, 57, 58, 59, 60, 61, 62, 63, 64, 65, 66, 67, 68, 69, 70, 71, 72, 73, 74, 75, 76, 77, 78, 79, 80, 81, 82, 83, 84, 85, 86, 87, 88, 89, 90, 91, 92, 93, 94, 95, 96, 97, 98, 99, 100, 101, 102, 103, 104, 105, 106, 107, 108, 109, 110, 111, 112, 113, 114, 115, 116, 117, 118, 119, 120, 121, 122, 123, 124, 125, 126, 127, 128, 129, 130, 131, 132, 133, 134, 135, 136, 137, 138, 139, 140] (fun B s => ∃ (n i : Nat) (M : List α), B 10 = .sc (.int .i64 n) ∧ B 9 = .sc (.int .i64 i) ∧ a + 1 ≤ i ∧ i ≤ c ∧ Mix a c L M ∧ Srt lt a i M ∧ s = st.put b (rowc val M sp)) (fun B _ => 5 - vnat (B 10)) rfl ?_ ?_
  · simp (config := {maxSteps := 3000000}) only [put_get, Nat.reduceEqDiff, ↓reduceIte, eq_self]
    exact ⟨0, a + 1, L, rfl, by simp, by omega, by omega, .refl, Srt.one (by omega), rfl⟩
  · rintro B s ⟨n, i, M, h8, h7, hi1, hi2, hM, hS, rfl⟩
    have hlen := hM.len
    by_cases cn : n < 5
    · simp (config := {maxSteps := 3000000}) only [run_skip, run_reg, run_seq, run_blk, run_cond, if_true, at_code_n, ops_nil, ops_mv, ops_bin, ev_t, ev_c, put_get, opv_mk, over_get, vnat, vbin, vbinI, true_and, Int.toNat_natCast, ↓reduceIte, eq_self, List.contains_cons, List.contains_nil, Nat.reduceBEq, Bool.or_false, Bool.or_true, h8, decide_eq_true (show (n : Int) < 5 by omega)]
      refine run_loop [9, 19, 20, 21, 22, 23, 24, 25, 26, 27, 28, 29, 30, 31, 32, 33, 34, 35, 36, 37, 38] (fun C s' => ∃ (i : Nat), C 9 = .sc (.int .i64 i) ∧ a + 1 ≤ i ∧ i ≤ c ∧ Srt lt a i M ∧ s' = st.put b (rowc val M sp)) (fun C _ => c - vnat (C 9)) rfl ?_ ?_
      · simp (config := {maxSteps := 3000000}) only [put_get, over_get, and_true, Nat.reduceEqDiff, ↓reduceIte, eq_self, List.contains_cons, List.contains_nil, Nat.reduceBEq, Bool.or_false, Bool.or_true, h7]
        exact ⟨i, rfl, hi1, hi2, hS⟩
      · clear hi1 hi2 hS
        rintro C s' ⟨i, h7, hi1, hi2, hS, rfl⟩
        have e1 : ((i : Int) - 1).toNat = i - 1 := by omega
        have hLM := hLB.mix hM h2
        by_cases ci : i < c
        · simp (config := {maxSteps := 3000000}) only [run_reg, run_seq, ops_grd, grd_tt, ops_mv, ops_bin, ops_ix, ops_load, ev_t, ev_c, put_get, opv_mk, over_get, vnat, put_box_same, args0, List.getD_cons_zero, List.getD_cons_succ, vbin, vbinI, norm, vix, vload, takeV, takeB, ops_calv, clv_func, List.map_cons, List.map_nil, List.nil_append, List.append_nil, and_true, true_and, Nat.reduceEqDiff, Int.toNat_natCast, Int.reduceNeg, Nat.zero_add, ↓reduceIte, eq_self, reduceCtorEq, Bool.false_eq_true, List.contains_cons, List.contains_nil, Nat.reduceBEq, Bool.or_false, List.not_mem_nil, h7, e1, decide_eq_true (show (i : Int) < (c : Int) by omega), rowc_get (show i < M.length by omega), rowc_get (show i - 1 < M.length by omega), rowc_len, rowc_mono hmo hlen, E.call, List.map_nil]
          repeat (apply And.intro; focus (first | omega | (simp; done)))
          refine Cal.mk (E.less _ _ _) ?_
          rintro _ _ ⟨z1, hz1, rfl, rfl⟩ -
          simp (config := {maxSteps := 3000000}) only [run_cond, at_code_n, ops_nil, ops_grd, grd_tt, ops_pick, ops_bin, ops_un, ev_t, ev_c, put_get, opv_mk, vpick, vbin, vbinI, vun, obsOk, true_and, Nat.reduceEqDiff, ↓reduceIte, eq_self, hz1]
          cases cq : lt M[i]! M[i - 1]!
          · simp (config := {maxSteps := 3000000}) only [run_skip, run_reg, run_blk, if_true, at_code_n, at_blk_n, at_rnd_n, ops_nil, ops_mv, ops_bin, ev_t, ev_c, put_get, opv_mk, over_get, rel_mk, vbin, vbinI, norm, and_true, true_and, Nat.reduceEqDiff, Int.reduceNeg, ↓reduceIte, Bool.not_false, eq_self, List.contains_cons, List.contains_nil, Nat.reduceBEq, Bool.or_false, h7]
            repeat (apply And.intro; focus (first | omega | (simp; done)))
            exact ⟨⟨i + 1, by simp, by omega, by omega, hS.next E.ord hi1 cq⟩, by omega⟩
          · simp (config := {maxSteps := 3000000}) only [run_skip, run_reg, run_seq, run_exit, run_cond, if_false, at_code_n, at_code_x, at_blk_x, at_rnd_x, ops_nil, ops_mv, ops_bin, ev_t, ev_c, put_get, opv_mk, over_get, args0, List.getD_cons_zero, List.getD_cons_succ, vbin, vbinI, norm, true_and, Nat.reduceEqDiff, Int.reduceNeg, ↓reduceIte, Bool.not_true, eq_self, Bool.false_eq_true, List.contains_cons, List.contains_nil, Nat.reduceBEq, Bool.or_false, h7, decide_eq_false (show ¬ (i : Int) = (c : Int) by omega)]
            repeat (apply And.intro; focus (first | omega | (simp; done)))
            by_cases c5 : (c : Int) - (a : Int) < 50
            · simp (config := {maxSteps := 3000000}) only [run_reg, run_seq, run_ret, if_true, at_code_n, at_code_r, at_blk_r, at_rnd_r, at_fin_r, ops_nil, ops_mv, ev_c, put_get, opv_mk, and_true, true_and, ↓reduceIte, vret, rvAll, rvVal, resv_1, eq_self, decide_eq_true c5]
              exact ⟨_, _, Wk.refl _, weak_re hwf, false, M, hM, (fun h => by cases h), rfl, rfl⟩
            · obtain ⟨g1, g2, s1, s2, m1, m2⟩ := swapC hmo hlen (i := i) (j := i - 1) (by omega) (by omega)
              have hex := hM.exch (i := i) (j := i - 1) (by omega) (by omega) (by omega) (by omega) h2
              have hS1 : Srt lt a (i - 1) (exch M i (i - 1)) := fun p q k1 k2 k3 => by
                rw [exch_get (by omega) (by omega), exch_get (by omega) (by omega), if_neg (by omega), if_neg (by omega), if_neg (by omega), if_neg (by omega)]
                exact hS p q k1 k2 (by omega)
              simp (config := {maxSteps := 3000000}) only [run_skip, run_reg, run_seq, run_cond, if_false, at_code_n, ops_nil, ops_mv, ops_bin, ops_ix, ops_load, ops_store, ev_t, ev_c, put_get, put_none, opv_mk, stb_some, sto_ptr, over_get, Stp, put_box_same, put_put, args0, List.getD_cons_zero, List.getD_cons_succ, vbin, vbinI, norm, vix, vload, takeV, takeB, splice, V.cells, obsOk, List.length_cons, List.length_nil, and_true, true_and, Nat.reduceEqDiff, Nat.reduceAdd, Nat.reduceLT, Nat.reduceLT, Int.toNat_natCast, Int.reduceNeg, Nat.zero_add, ↓reduceIte, eq_self, reduceCtorEq, Bool.false_eq_true, List.contains_cons, List.contains_nil, Nat.reduceBEq, Bool.or_false, h7, e1, decide_eq_false c5, g1, g2, s1, s2, m1, m2, rowc_len, List.length_set]
              repeat (apply And.intro; focus (first | omega | (simp; done)))
              clear hM hS hLM g1 g2 s1 s2 m1 m2 cq
              generalize exch M i (i - 1) = M at hex hS1 ⊢
              by_cases c2 : (2 : Int) ≤ (i : Int) - (a : Int)
              · simp (config := {maxSteps := 3000000}) only [run_reg, run_seq, run_blk, if_true, at_code_n, ops_nil, ops_mv, ops_bin, ev_t, ev_c, put_get, opv_mk, over_get, vbin, vbinI, norm, true_and, Nat.reduceEqDiff, Int.reduceNeg, ↓reduceIte, eq_self, List.contains_cons, List.contains_nil, Nat.reduceBEq, Bool.or_false, h7, decide_eq_true c2]
                repeat (apply And.intro; focus (first | omega | (simp; done)))
                refine run_loop [11, 68, 69, 70, 71, 72, 73, 74, 75, 76, 77, 78, 79, 80, 81, 82, 83, 84, 85, 86, 87, 88, 89, 90, 91, 92, 93, 94, 95, 96, 97, 98, 99, 100] (fun D s' => ∃ (j : Nat) (M : List α), D 11 = .sc (.int .i64 j) ∧ a ≤ j ∧ j ≤ i - 1 ∧ Mix a c L M ∧ Ins lt a (i - 1) j M ∧ s' = st.put b (rowc val M sp)) (fun D _ => vnat (D 11)) rfl ?_ ?_
                · simp (config := {maxSteps := 3000000}) only [put_get, ↓reduceIte, eq_self]
                  exact ⟨i - 1, M, by rw [show ((i : Int) - 1) = ((i - 1 : Nat) : Int) by omega], by omega, by omega, hex, Ins.start hS1, rfl⟩
                · clear hex hS1 hlen M
                  rintro D s' ⟨j, M, h9, hj1, hj2, hM, hI, rfl⟩
                  have hlen := hM.len
                  by_cases cj : 1 ≤ j
                  · have e2 : ((j : Int) - 1).toNat = j - 1 := by omega
                    simp (config := {maxSteps := 3000000}) only [run_skip, run_reg, run_seq, run_blk, run_cond, if_true, at_code_n, ops_nil, ops_mv, ops_bin, ops_ix, ops_load, ev_t, ev_c, put_get, opv_mk, over_get, vnat, put_box_same, args0, List.getD_cons_zero, List.getD_cons_succ, vbin, vbinI, norm, vix, vload, takeV, takeB, ops_calv, clv_func, List.map_cons, List.map_nil, List.nil_append, List.append_nil, and_true, true_and, Nat.reduceEqDiff, Int.toNat_natCast, Int.reduceNeg, Nat.zero_add, ↓reduceIte, eq_self, reduceCtorEq, Bool.false_eq_true, List.contains_cons, List.contains_nil, Nat.reduceBEq, Bool.or_false, List.not_mem_nil, h9, e2, decide_eq_true (show (1 : Int) ≤ (j : Int) by omega), rowc_get (show j < M.length by omega), rowc_get (show j - 1 < M.length by omega), rowc_len, rowc_mono hmo hlen, E.call, List.map_nil]
                    repeat (apply And.intro; focus (first | omega | (simp; done)))
                    refine Cal.mk (E.less _ _ _) ?_
                    rintro _ _ ⟨z2, hz2, rfl, rfl⟩ -
                    simp (config := {maxSteps := 3000000}) only [run_cond, at_code_n, ops_nil, ops_bin, ops_un, ev_t, ev_c, put_get, opv_mk, vbin, vbinI, vun, obsOk, true_and, ↓reduceIte, eq_self, hz2]
                    cases cq : lt M[j]! M[j - 1]!
                    · have hS : Srt lt a i M := by
                        have := hI.done E.ord (by omega) (if e : j = a then .inl e else .inr ⟨by omega, cq⟩)
                        rwa [Nat.sub_add_cancel (by omega)] at this
                      simp (config := {maxSteps := 3000000}) only [run_reg, run_seq, run_exit, run_cond, if_true, at_code_n, at_code_x, at_blk_x, at_rnd_x, ops_nil, ops_mv, ops_bin, ev_t, ev_c, put_get, opv_mk, over_get, args0, List.getD_cons_zero, List.getD_cons_succ, vbin, vbinI, norm, true_and, Nat.reduceEqDiff, Int.reduceNeg, ↓reduceIte, Bool.not_false, eq_self, Bool.false_eq_true, List.contains_cons, List.contains_nil, Nat.reduceBEq, Bool.or_false, h7]
                      repeat (apply And.intro; focus (first | omega | (simp; done)))
                      by_cases c3 : (2 : Int) ≤ (c : Int) - (i : Int)
                      · simp (config := {maxSteps := 3000000}) only [run_reg, run_seq, run_blk, if_true, at_code_n, ops_nil, ops_mv, ops_bin, ev_t, ev_c, put_get, opv_mk, over_get, vbin, vbinI, norm, true_and, Nat.reduceEqDiff, Int.reduceNeg, ↓reduceIte, eq_self, Bool.false_eq_true, List.contains_cons, List.contains_nil, Nat.reduceBEq, Bool.or_false, h7, decide_eq_true c3]
                        repeat (apply And.intro; focus (first | omega | (simp; done)))
                        refine run_loop [12, 107, 108, 109, 110, 111, 112, 113, 114, 115, 116, 117, 118, 119, 120, 121, 122, 123, 124, 125, 126, 127, 128, 129, 130, 131, 132, 133, 134, 135, 136, 137, 138, 139, 140] (fun G s' => ∃ (j : Nat) (M : List α), G 12 = .sc (.int .i64 j) ∧ i + 1 ≤ j ∧ j ≤ c ∧ Mix a c L M ∧ Srt lt a i M ∧ s' = st.put b (rowc val M sp)) (fun G _ => c - vnat (G 12)) rfl ?_ ?_
                        · simp (config := {maxSteps := 3000000}) only [put_get, ↓reduceIte, eq_self]
                          exact ⟨i + 1, M, by simp, by omega, by omega, hM, hS, rfl⟩
                        · rintro G s' ⟨j, M, h10, hj1, hj2, hM, hS, rfl⟩
                          have hlen := hM.len
                          by_cases cj : j < c
                          · have e2 : ((j : Int) - 1).toNat = j - 1 := by omega
                            simp (config := {maxSteps := 3000000}) only [run_skip, run_reg, run_seq, run_blk, run_cond, if_true, at_code_n, ops_nil, ops_mv, ops_bin, ops_ix, ops_load, ev_t, ev_c, put_get, opv_mk, over_get, vnat, put_box_same, args0, List.getD_cons_zero, List.getD_cons_succ, vbin, vbinI, norm, vix, vload, takeV, takeB, ops_calv, clv_func, List.map_cons, List.map_nil, List.nil_append, List.append_nil, and_true, true_and, Nat.reduceEqDiff, Int.toNat_natCast, Int.reduceNeg, Nat.zero_add, ↓reduceIte, eq_self, reduceCtorEq, Bool.false_eq_true, List.contains_cons, List.contains_nil, Nat.reduceBEq, Bool.or_false, List.not_mem_nil, h10, e2, decide_eq_true (show (j : Int) < (c : Int) by omega), rowc_get (show j < M.length by omega), rowc_get (show j - 1 < M.length by omega), rowc_len, rowc_mono hmo hlen, E.call, List.map_nil]
                            repeat (apply And.intro; focus (first | omega | (simp; done)))
                            refine Cal.mk (E.less _ _ _) ?_
                            rintro _ _ ⟨z3, hz3, rfl, rfl⟩ -
                            simp (config := {maxSteps := 3000000}) only [run_cond, at_code_n, ops_nil, ops_bin, ops_un, ev_t, ev_c, put_get, opv_mk, vbin, vbinI, vun, obsOk, true_and, ↓reduceIte, eq_self, hz3]
                            cases cr : lt M[j]! M[j - 1]!
                            · simp (config := {maxSteps := 3000000}) only [run_reg, run_exit, if_true, at_code_n, at_code_x, at_blk_n, at_blk_x, at_rnd_n, at_rnd_x, ops_nil, ops_mv, ops_bin, ev_t, ev_c, put_get, opv_mk, over_get, rel_mk, vbin, vbinI, norm, true_and, Nat.reduceEqDiff, Int.reduceNeg, ↓reduceIte, Bool.not_false, eq_self, Bool.false_eq_true, List.contains_cons, List.contains_nil, Nat.reduceBEq, Bool.or_false, Bool.or_true, h7, h8]
                              repeat (apply And.intro; focus (first | omega | (simp; done)))
                              first | exact ⟨⟨n + 1, i, M, by simp, rfl, hi1, hi2, hM, hS, rfl⟩, by omega⟩ | omega
                            · obtain ⟨g1, g2, s1, s2, m1, m2⟩ := swapC hmo hlen (i := j) (j := j - 1) (by omega) (by omega)
                              have hex := hM.exch (i := j) (j := j - 1) (by omega) (by omega) (by omega) (by omega) h2
                              have hS2 : Srt lt a i (exch M j (j - 1)) := hS.keep fun k k1 k2 => by rw [exch_get (by omega) (by omega), if_neg (by omega), if_neg (by omega)]
                              simp (config := {maxSteps := 3000000}) only [run_skip, run_reg, if_false, at_code_n, at_blk_n, at_rnd_n, ops_nil, ops_mv, ops_bin, ops_ix, ops_load, ops_store, ev_t, ev_c, put_get, put_none, opv_mk, stb_some, sto_ptr, over_get, rel_mk, Stp, put_box_same, put_put, args0, List.getD_cons_zero, vbin, vbinI, norm, vix, vload, takeV, takeB, splice, V.cells, obsOk, List.length_cons, List.length_nil, and_true, true_and, Nat.reduceEqDiff, Nat.reduceAdd, Nat.reduceLT, Nat.reduceLT, Int.toNat_natCast, Int.reduceNeg, Nat.zero_add, ↓reduceIte, Bool.not_true, eq_self, reduceCtorEq, Bool.false_eq_true, List.contains_cons, List.contains_nil, Nat.reduceBEq, Bool.or_false, h10, e2, g1, g2, s1, s2, m1, m2, rowc_len, List.length_set]
                              repeat (apply And.intro; focus (first | omega | (simp; done)))
                              exact ⟨⟨j + 1, _, by simp, by omega, by omega, hex, hS2, rfl⟩, by omega⟩
                          · simp (config := {maxSteps := 3000000}) only [run_reg, run_seq, run_exit, run_cond, if_false, at_code_n, at_code_x, at_blk_n, at_blk_x, at_rnd_n, at_rnd_x, ops_nil, ops_mv, ops_bin, ev_t, ev_c, put_get, opv_mk, over_get, rel_mk, vnat, args0, List.getD_cons_zero, List.getD_cons_succ, vbin, vbinI, norm, true_and, Nat.reduceEqDiff, Int.toNat_natCast, Int.reduceNeg, ↓reduceIte, eq_self, Bool.false_eq_true, List.contains_cons, List.contains_nil, Nat.reduceBEq, Bool.or_false, Bool.or_true, h7, h8, h10, decide_eq_false (show ¬ (j : Int) < (c : Int) by omega)]
                            repeat (apply And.intro; focus (first | omega | (simp; done)))
                            first | exact ⟨⟨n + 1, i, M, by simp, rfl, hi1, hi2, hM, hS, rfl⟩, by omega⟩ | omega
                      · simp (config := {maxSteps := 3000000}) only [run_skip, run_reg, if_false, at_code_n, at_blk_n, at_rnd_n, ops_nil, ops_mv, ops_bin, ev_t, ev_c, put_get, opv_mk, over_get, rel_mk, vbin, vbinI, norm, true_and, Nat.reduceEqDiff, Int.reduceNeg, ↓reduceIte, eq_self, Bool.false_eq_true, List.contains_cons, List.contains_nil, Nat.reduceBEq, Bool.or_false, Bool.or_true, h7, h8, decide_eq_false c3]
                        repeat (apply And.intro; focus (first | omega | (simp; done)))
                        first | exact ⟨⟨n + 1, i, M, by simp, rfl, hi1, hi2, hM, hS, rfl⟩, by omega⟩ | omega
                    · have haj : a < j := by
                        rcases Nat.lt_or_ge a j with h | h
                        · exact h
                        · have e : j = a := by omega
                          have := hLB.mix hM h2 (by omega) j (by omega) (by omega)
                          rw [e] at this cq
                          rw [this] at cq; cases cq
                      obtain ⟨g1, g2, s1, s2, m1, m2⟩ := swapC hmo hlen (i := j) (j := j - 1) (by omega) (by omega)
                      have hex := hM.exch (i := j) (j := j - 1) (by omega) (by omega) (by omega) (by omega) h2
                      have hst := hI.step E.ord haj (by omega) (by omega) cq
                      simp (config := {maxSteps := 3000000}) only [run_skip, run_reg, if_false, at_code_n, at_blk_n, at_rnd_n, ops_nil, ops_mv, ops_bin, ops_ix, ops_load, ops_store, ev_t, ev_c, put_get, put_none, opv_mk, stb_some, sto_ptr, over_get, rel_mk, Stp, put_box_same, put_put, args0, List.getD_cons_zero, vbin, vbinI, norm, vix, vload, takeV, takeB, splice, V.cells, obsOk, List.length_cons, List.length_nil, and_true, true_and, Nat.reduceEqDiff, Nat.reduceAdd, Nat.reduceLT, Nat.reduceLT, Int.toNat_natCast, Int.reduceNeg, Nat.zero_add, ↓reduceIte, Bool.not_true, eq_self, reduceCtorEq, Bool.false_eq_true, List.contains_cons, List.contains_nil, Nat.reduceBEq, Bool.or_false, h9, e2, g1, g2, s1, s2, m1, m2, rowc_len, List.length_set]
                      repeat (apply And.intro; focus (first | omega | (simp; done)))
                      exact ⟨⟨j - 1, _, by rw [show ((j : Int) - 1) = ((j - 1 : Nat) : Int) by omega], by omega, by omega, hex, hst, rfl⟩, by omega⟩
                  · have hS : Srt lt a i M := by
                      have := hI.done E.ord (by omega) (.inl (by omega))
                      rwa [Nat.sub_add_cancel (by omega)] at this
                    simp (config := {maxSteps := 3000000}) only [run_reg, run_seq, run_exit, run_cond, if_false, at_code_n, at_code_x, at_blk_x, at_rnd_x, ops_nil, ops_mv, ops_bin, ev_t, ev_c, put_get, opv_mk, over_get, vnat, args0, List.getD_cons_zero, List.getD_cons_succ, vbin, vbinI, norm, true_and, Nat.reduceEqDiff, Int.toNat_natCast, Int.reduceNeg, ↓reduceIte, eq_self, Bool.false_eq_true, List.contains_cons, List.contains_nil, Nat.reduceBEq, Bool.or_false, h9, h7, decide_eq_false (show ¬ (1 : Int) ≤ (j : Int) by omega)]
                    repeat (apply And.intro; focus (first | omega | (simp; done)))
                    by_cases c3 : (2 : Int) ≤ (c : Int) - (i : Int)
                    · simp (config := {maxSteps := 3000000}) only [run_reg, run_seq, run_blk, if_true, at_code_n, ops_nil, ops_mv, ops_bin, ev_t, ev_c, put_get, opv_mk, over_get, vbin, vbinI, norm, true_and, Nat.reduceEqDiff, Int.reduceNeg, ↓reduceIte, eq_self, Bool.false_eq_true, List.contains_cons, List.contains_nil, Nat.reduceBEq, Bool.or_false, h7, decide_eq_true c3]
                      repeat (apply And.intro; focus (first | omega | (simp; done)))
                      refine run_loop [12, 107, 108, 109, 110, 111, 112, 113, 114, 115, 116, 117, 118, 119, 120, 121, 122, 123, 124, 125, 126, 127, 128, 129, 130, 131, 132, 133, 134, 135, 136, 137, 138, 139, 140] (fun G s' => ∃ (j : Nat) (M : List α), G 12 = .sc (.int .i64 j) ∧ i + 1 ≤ j ∧ j ≤ c ∧ Mix a c L M ∧ Srt lt a i M ∧ s' = st.put b (rowc val M sp)) (fun G _ => c - vnat (G 12)) rfl ?_ ?_
                      · simp (config := {maxSteps := 3000000}) only [put_get, ↓reduceIte, eq_self]
                        exact ⟨i + 1, M, by simp, by omega, by omega, hM, hS, rfl⟩
                      · rintro G s' ⟨j, M, h10, hj1, hj2, hM, hS, rfl⟩
                        have hlen := hM.len
                        by_cases cj : j < c
                        · have e2 : ((j : Int) - 1).toNat = j - 1 := by omega
                          simp (config := {maxSteps := 3000000}) only [run_skip, run_reg, run_seq, run_blk, run_cond, if_true, at_code_n, ops_nil, ops_mv, ops_bin, ops_ix, ops_load, ev_t, ev_c, put_get, opv_mk, over_get, vnat, put_box_same, args0, List.getD_cons_zero, List.getD_cons_succ, vbin, vbinI, norm, vix, vload, takeV, takeB, ops_calv, clv_func, List.map_cons, List.map_nil, List.nil_append, List.append_nil, and_true, true_and, Nat.reduceEqDiff, Int.toNat_natCast, Int.reduceNeg, Nat.zero_add, ↓reduceIte, eq_self, reduceCtorEq, Bool.false_eq_true, List.contains_cons, List.contains_nil, Nat.reduceBEq, Bool.or_false, List.not_mem_nil, h10, e2, decide_eq_true (show (j : Int) < (c : Int) by omega), rowc_get (show j < M.length by omega), rowc_get (show j - 1 < M.length by omega), rowc_len, rowc_mono hmo hlen, E.call, List.map_nil]
                          repeat (apply And.intro; focus (first | omega | (simp; done)))
                          refine Cal.mk (E.less _ _ _) ?_
                          rintro _ _ ⟨z4, hz4, rfl, rfl⟩ -
                          simp (config := {maxSteps := 3000000}) only [run_cond, at_code_n, ops_nil, ops_bin, ops_un, ev_t, ev_c, put_get, opv_mk, vbin, vbinI, vun, obsOk, true_and, ↓reduceIte, eq_self, hz4]
                          cases cr : lt M[j]! M[j - 1]!
                          · simp (config := {maxSteps := 3000000}) only [run_reg, run_exit, if_true, at_code_n, at_code_x, at_blk_n, at_blk_x, at_rnd_n, at_rnd_x, ops_nil, ops_mv, ops_bin, ev_t, ev_c, put_get, opv_mk, over_get, rel_mk, vbin, vbinI, norm, true_and, Nat.reduceEqDiff, Int.reduceNeg, ↓reduceIte, Bool.not_false, eq_self, Bool.false_eq_true, List.contains_cons, List.contains_nil, Nat.reduceBEq, Bool.or_false, Bool.or_true, h7, h8]
                            repeat (apply And.intro; focus (first | omega | (simp; done)))
                            first | exact ⟨⟨n + 1, i, M, by simp, rfl, hi1, hi2, hM, hS, rfl⟩, by omega⟩ | omega
                          · obtain ⟨g1, g2, s1, s2, m1, m2⟩ := swapC hmo hlen (i := j) (j := j - 1) (by omega) (by omega)
                            have hex := hM.exch (i := j) (j := j - 1) (by omega) (by omega) (by omega) (by omega) h2
                            have hS2 : Srt lt a i (exch M j (j - 1)) := hS.keep fun k k1 k2 => by rw [exch_get (by omega) (by omega), if_neg (by omega), if_neg (by omega)]
                            simp (config := {maxSteps := 3000000}) only [run_skip, run_reg, if_false, at_code_n, at_blk_n, at_rnd_n, ops_nil, ops_mv, ops_bin, ops_ix, ops_load, ops_store, ev_t, ev_c, put_get, put_none, opv_mk, stb_some, sto_ptr, over_get, rel_mk, Stp, put_box_same, put_put, args0, List.getD_cons_zero, vbin, vbinI, norm, vix, vload, takeV, takeB, splice, V.cells, obsOk, List.length_cons, List.length_nil, and_true, true_and, Nat.reduceEqDiff, Nat.reduceAdd, Nat.reduceLT, Nat.reduceLT, Int.toNat_natCast, Int.reduceNeg, Nat.zero_add, ↓reduceIte, Bool.not_true, eq_self, reduceCtorEq, Bool.false_eq_true, List.contains_cons, List.contains_nil, Nat.reduceBEq, Bool.or_false, h10, e2, g1, g2, s1, s2, m1, m2, rowc_len, List.length_set]
                            repeat (apply And.intro; focus (first | omega | (simp; done)))
                            exact ⟨⟨j + 1, _, by simp, by omega, by omega, hex, hS2, rfl⟩, by omega⟩
                        · simp (config := {maxSteps := 3000000}) only [run_reg, run_seq, run_exit, run_cond, if_false, at_code_n, at_code_x, at_blk_n, at_blk_x, at_rnd_n, at_rnd_x, ops_nil, ops_mv, ops_bin, ev_t, ev_c, put_get, opv_mk, over_get, rel_mk, vnat, args0, List.getD_cons_zero, List.getD_cons_succ, vbin, vbinI, norm, true_and, Nat.reduceEqDiff, Int.toNat_natCast, Int.reduceNeg, ↓reduceIte, eq_self, Bool.false_eq_true, List.contains_cons, List.contains_nil, Nat.reduceBEq, Bool.or_false, Bool.or_true, h7, h8, h10, decide_eq_false (show ¬ (j : Int) < (c : Int) by omega)]
                          repeat (apply And.intro; focus (first | omega | (simp; done)))
                          first | exact ⟨⟨n + 1, i, M, by simp, rfl, hi1, hi2, hM, hS, rfl⟩, by omega⟩ | omega
                    · simp (config := {maxSteps := 3000000}) only [run_skip, run_reg, if_false, at_code_n, at_blk_n, at_rnd_n, ops_nil, ops_mv, ops_bin, ev_t, ev_c, put_get, opv_mk, over_get, rel_mk, vbin, vbinI, norm, true_and, Nat.reduceEqDiff, Int.reduceNeg, ↓reduceIte, eq_self, Bool.false_eq_true, List.contains_cons, List.contains_nil, Nat.reduceBEq, Bool.or_false, Bool.or_true, h7, h8, decide_eq_false c3]
                      repeat (apply And.intro; focus (first | omega | (simp; done)))
                      first | exact ⟨⟨n + 1, i, M, by simp, rfl, hi1, hi2, hM, hS, rfl⟩, by omega⟩ | omega
              · simp (config := {maxSteps := 3000000}) only [run_skip, run_reg, run_seq, run_cond, if_false, at_code_n, ops_nil, ops_mv, ops_bin, ev_t, ev_c, put_get, opv_mk, over_get, args0, List.getD_cons_zero, List.getD_cons_succ, vbin, vbinI, norm, true_and, Nat.reduceEqDiff, Int.reduceNeg, ↓reduceIte, eq_self, Bool.false_eq_true, List.contains_cons, List.contains_nil, Nat.reduceBEq, Bool.or_false, h7, decide_eq_false c2]
                have hS : Srt lt a i M := Srt.one (by omega)
                have hlen := hex.len
                have hM := hex
                by_cases c3 : (2 : Int) ≤ (c : Int) - (i : Int)
                · simp (config := {maxSteps := 3000000}) only [run_reg, run_seq, run_blk, if_true, at_code_n, ops_nil, ops_mv, ops_bin, ev_t, ev_c, put_get, opv_mk, over_get, vbin, vbinI, norm, true_and, Nat.reduceEqDiff, Int.reduceNeg, ↓reduceIte, eq_self, List.contains_cons, List.contains_nil, Nat.reduceBEq, Bool.or_false, h7, decide_eq_true c3]
                  repeat (apply And.intro; focus (first | omega | (simp; done)))
                  refine run_loop [12, 107, 108, 109, 110, 111, 112, 113, 114, 115, 116, 117, 118, 119, 120, 121, 122, 123, 124, 125, 126, 127, 128, 129, 130, 131, 132, 133, 134, 135, 136, 137, 138, 139, 140] (fun G s' => ∃ (j : Nat) (M : List α), G 12 = .sc (.int .i64 j) ∧ i + 1 ≤ j ∧ j ≤ c ∧ Mix a c L M ∧ Srt lt a i M ∧ s' = st.put b (rowc val M sp)) (fun G _ => c - vnat (G 12)) rfl ?_ ?_
                  · simp (config := {maxSteps := 3000000}) only [put_get, ↓reduceIte, eq_self]
                    exact ⟨i + 1, M, by simp, by omega, by omega, hM, hS, rfl⟩
                  · rintro G s' ⟨j, M, h10, hj1, hj2, hM, hS, rfl⟩
                    have hlen := hM.len
                    by_cases cj : j < c
                    · have e2 : ((j : Int) - 1).toNat = j - 1 := by omega
                      simp (config := {maxSteps := 3000000}) only [run_skip, run_reg, run_seq, run_blk, run_cond, if_true, at_code_n, ops_nil, ops_mv, ops_bin, ops_ix, ops_load, ev_t, ev_c, put_get, opv_mk, over_get, vnat, put_box_same, args0, List.getD_cons_zero, List.getD_cons_succ, vbin, vbinI, norm, vix, vload, takeV, takeB, ops_calv, clv_func, List.map_cons, List.map_nil, List.nil_append, List.append_nil, and_true, true_and, Nat.reduceEqDiff, Int.toNat_natCast, Int.reduceNeg, Nat.zero_add, ↓reduceIte, eq_self, reduceCtorEq, Bool.false_eq_true, List.contains_cons, List.contains_nil, Nat.reduceBEq, Bool.or_false, List.not_mem_nil, h10, e2, decide_eq_true (show (j : Int) < (c : Int) by omega), rowc_get (show j < M.length by omega), rowc_get (show j - 1 < M.length by omega), rowc_len, rowc_mono hmo hlen, E.call, List.map_nil]
                      repeat (apply And.intro; focus (first | omega | (simp; done)))
                      refine Cal.mk (E.less _ _ _) ?_
                      rintro _ _ ⟨z5, hz5, rfl, rfl⟩ -
                      simp (config := {maxSteps := 3000000}) only [run_cond, at_code_n, ops_nil, ops_bin, ops_un, ev_t, ev_c, put_get, opv_mk, vbin, vbinI, vun, obsOk, true_and, ↓reduceIte, eq_self, hz5]
                      cases cr : lt M[j]! M[j - 1]!
                      · simp (config := {maxSteps := 3000000}) only [run_reg, run_exit, if_true, at_code_n, at_code_x, at_blk_n, at_blk_x, at_rnd_n, at_rnd_x, ops_nil, ops_mv, ops_bin, ev_t, ev_c, put_get, opv_mk, over_get, rel_mk, vbin, vbinI, norm, true_and, Nat.reduceEqDiff, Int.reduceNeg, ↓reduceIte, Bool.not_false, eq_self, Bool.false_eq_true, List.contains_cons, List.contains_nil, Nat.reduceBEq, Bool.or_false, Bool.or_true, h7, h8]
                        repeat (apply And.intro; focus (first | omega | (simp; done)))
                        first | exact ⟨⟨n + 1, i, M, by simp, rfl, hi1, hi2, hM, hS, rfl⟩, by omega⟩ | omega
                      · obtain ⟨g1, g2, s1, s2, m1, m2⟩ := swapC hmo hlen (i := j) (j := j - 1) (by omega) (by omega)
                        have hex := hM.exch (i := j) (j := j - 1) (by omega) (by omega) (by omega) (by omega) h2
                        have hS2 : Srt lt a i (exch M j (j - 1)) := hS.keep fun k k1 k2 => by rw [exch_get (by omega) (by omega), if_neg (by omega), if_neg (by omega)]
                        simp (config := {maxSteps := 3000000}) only [run_skip, run_reg, if_false, at_code_n, at_blk_n, at_rnd_n, ops_nil, ops_mv, ops_bin, ops_ix, ops_load, ops_store, ev_t, ev_c, put_get, put_none, opv_mk, stb_some, sto_ptr, over_get, rel_mk, Stp, put_box_same, put_put, args0, List.getD_cons_zero, vbin, vbinI, norm, vix, vload, takeV, takeB, splice, V.cells, obsOk, List.length_cons, List.length_nil, and_true, true_and, Nat.reduceEqDiff, Nat.reduceAdd, Nat.reduceLT, Nat.reduceLT, Int.toNat_natCast, Int.reduceNeg, Nat.zero_add, ↓reduceIte, Bool.not_true, eq_self, reduceCtorEq, Bool.false_eq_true, List.contains_cons, List.contains_nil, Nat.reduceBEq, Bool.or_false, h10, e2, g1, g2, s1, s2, m1, m2, rowc_len, List.length_set]
                        repeat (apply And.intro; focus (first | omega | (simp; done)))
                        exact ⟨⟨j + 1, _, by simp, by omega, by omega, hex, hS2, rfl⟩, by omega⟩
                    · simp (config := {maxSteps := 3000000}) only [run_reg, run_seq, run_exit, run_cond, if_false, at_code_n, at_code_x, at_blk_n, at_blk_x, at_rnd_n, at_rnd_x, ops_nil, ops_mv, ops_bin, ev_t, ev_c, put_get, opv_mk, over_get, rel_mk, vnat, args0, List.getD_cons_zero, List.getD_cons_succ, vbin, vbinI, norm, true_and, Nat.reduceEqDiff, Int.toNat_natCast, Int.reduceNeg, ↓reduceIte, eq_self, Bool.false_eq_true, List.contains_cons, List.contains_nil, Nat.reduceBEq, Bool.or_false, Bool.or_true, h7, h8, h10, decide_eq_false (show ¬ (j : Int) < (c : Int) by omega)]
                      repeat (apply And.intro; focus (first | omega | (simp; done)))
                      first | exact ⟨⟨n + 1, i, M, by simp, rfl, hi1, hi2, hM, hS, rfl⟩, by omega⟩ | omega
                · simp (config := {maxSteps := 3000000}) only [run_skip, run_reg, if_false, at_code_n, at_blk_n, at_rnd_n, ops_nil, ops_mv, ops_bin, ev_t, ev_c, put_get, opv_mk, over_get, rel_mk, vbin, vbinI, norm, true_and, Nat.reduceEqDiff, Int.reduceNeg, ↓reduceIte, eq_self, Bool.false_eq_true, List.contains_cons, List.contains_nil, Nat.reduceBEq, Bool.or_false, Bool.or_true, h7, h8, decide_eq_false c3]
                  repeat (apply And.intro; focus (first | omega | (simp; done)))
                  first | exact ⟨⟨n + 1, i, M, by simp, rfl, hi1, hi2, hM, hS, rfl⟩, by omega⟩ | omega
        · have ei : i = c := by omega
          subst ei
          simp (config := {maxSteps := 3000000}) only [run_reg, run_seq, run_exit, run_ret, run_cond, if_true, if_false, at_code_n, at_code_x, at_code_r, at_blk_x, at_blk_r, at_rnd_x, at_rnd_r, at_fin_r, ops_nil, ops_grd, grd_ft, ops_mv, ops_pick, ops_bin, ev_t, ev_c, put_get, opv_mk, over_get, vnat, args0, List.getD_cons_zero, List.getD_cons_succ, vpick, vbin, vbinI, and_true, true_and, Nat.reduceEqDiff, Int.toNat_natCast, ↓reduceIte, vret, rvAll, rvVal, resv_1, decide_true, decide_false, Int.lt_irrefl, eq_self, Bool.false_eq_true, List.contains_cons, List.contains_nil, Nat.reduceBEq, Bool.or_false, h7]
          exact ⟨_, _, Wk.refl _, weak_re hwf, true, M, hM, fun _ => hS, rfl, rfl⟩
    · simp (config := {maxSteps := 3000000}) only [run_reg, run_seq, run_exit, run_ret, run_cond, if_false, at_code_n, at_code_x, at_blk_x, at_rnd_x, at_fin_r, ops_nil, ops_mv, ops_bin, ev_t, ev_c, put_get, opv_mk, over_get, vnat, vbin, vbinI, and_true, true_and, Int.toNat_natCast, ↓reduceIte, vret, rvAll, rvVal, resv_1, eq_self, List.contains_cons, List.contains_nil, Nat.reduceBEq, Bool.or_false, Bool.or_true, h8, decide_eq_false (show ¬ (n : Int) < 5 by omega)]
      exact ⟨_, _, Wk.refl _, weak_re hwf, false, M, hM, (fun h => by cases h), rfl, rfl⟩
end
end Go.Proofs.Ytlngegoamfklgaa
