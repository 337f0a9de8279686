/- Go's own sort by a function: heaps: contracts. Printed by a program (gen_sort2.py). No program here. -/
import Derived.Test.YtlngegoamfklgaaVSortC1
namespace Go.Proofs.Ytlngegoamfklgaa
open Go

section
variable {α : Type} [Inhabited α] {val : α → V × V} {L M : List α} {sp : List V}
/-- What an exchange wants to know. -/
theorem swapC (hmo : mono (rowc val L sp)) (hl : M.length = L.length) {i j : Nat} (hi : i < M.length) (hj : j < M.length) :
    List.take 2 (List.drop (i * 2) (rowc val M sp)) = [(val M[i]!).1, (val M[i]!).2] ∧ List.take 2 (List.drop (j * 2) (rowc val M sp)) = [(val M[j]!).1, (val M[j]!).2] ∧ List.take (i * 2) (rowc val M sp) ++ [(val M[j]!).1, (val M[j]!).2] ++ List.drop (i * 2 + 2) (rowc val M sp) = rowc val (M.set i M[j]!) sp ∧
    List.take (j * 2) (rowc val (M.set i M[j]!) sp) ++ [(val M[i]!).1, (val M[i]!).2] ++ List.drop (j * 2 + 2) (rowc val (M.set i M[j]!) sp) = rowc val (exch M i j) sp ∧ mono (rowc val M sp) ∧ mono (rowc val (M.set i M[j]!) sp) :=
  ⟨rowc_get hi, rowc_get hj, rowc_set hi, rowc_set (by simpa using hj), rowc_mono hmo hl, rowc_mono hmo (by simpa using hl)⟩
end
section
variable {P : Program} {α : Type} [Inhabited α] {val : α → V × V} {lt : α → α → Bool} {g f fsift : FuncId} {st : St} {b cap a c : Nat} {L : List α} {sp : List V}
set_option maxRecDepth 100000 in
set_option maxHeartbeats 4000000 in
theorem csift_v (hf : cFun P f = some (CSift)) (E : EltC P g val lt) (hmo : mono (rowc val L sp)) {lo hi fi : Nat} (h1 : fi + hi ≤ L.length) (hl : L.length < 4611686018427387904) (hlo : lo ≤ hi) (hH : Heap lt fi (lo + 1) hi L) :
    VCalls P f [dataV b L.length cap, .sc (.int .i64 lo), .sc (.int .i64 hi), .sc (.int .i64 fi), cmpV g] (st.put b (rowc val L sp)) fun _ s => ∃ M, Mix fi (fi + hi) L M ∧ Heap lt fi lo hi M ∧ s = st.put b (rowc val M sp) := by
  refine vcalls_enter hf (Nat.le_of_ble_eq_true rfl) fun hwf hok => ?_
  show Run _ (CSift).body (.fin (finQ (CSift).res _)) _ _
  unfold CSift
  simp (config := {maxSteps := 3000000}) only [run_reg, run_seq, run_blk, at_code_n, ops_nil, ops_mv, ev_t, put_get, opv_mk, args0, List.getD_cons_zero, List.getD_cons_succ, true_and, ↓reduceIte, eq_self, dataV, cmpV]
  refine run_loop [10, 11, 13, 14, 15, 16, 17, 18, 19, 20, 21, 22, 23, 24, 25, 26, 27, 28, 29, 30, 31, 32, 33, 34, 35, 36, 37, 38, 39, 40, 41, 42, 43, 44, 45, 46, 47, 48, 49, 50, 51, 52, 53, 54, 55, 56, 57, 58, 59, 60, 61, 62, 63, 64, 65, 66, 67, 68, 69, 70, 71, 72, 73, 74, 75, 76, 77, 78, 79, 80, 81] (fun B s => ∃ (r : Nat) (M : List α), lo ≤ r ∧ r ≤ hi ∧ B 10 = .sc (.int .i64 r) ∧ Mix fi (fi + hi) L M ∧ Sift lt fi lo hi r M ∧ s = st.put b (rowc val M sp)) (fun B _ => hi - vnat (B 10)) rfl ?_ ?_
  · simp (config := {maxSteps := 3000000}) only [put_get, ↓reduceIte, eq_self]
    exact ⟨lo, L, by omega, hlo, rfl, .refl, Sift.start hH, rfl⟩
  · rintro B s ⟨r, M, hr, hrh, h8, hM, hS, rfl⟩
    have hlen := hM.len
    by_cases c1 : hi ≤ 2 * r + 1
    · simp (config := {maxSteps := 3000000}) only [run_reg, run_seq, run_blk, run_exit, run_cond, if_true, at_code_n, at_code_x, at_blk_x, at_rnd_x, at_fin_n, ops_nil, ops_mv, ops_bin, ev_t, ev_c, put_get, opv_mk, over_get, vnat, args0, List.getD_cons_zero, List.getD_cons_succ, vbin, vbinI, norm, true_and, Nat.reduceEqDiff, Int.toNat_natCast, Int.reduceNeg, ↓reduceIte, vret, rvAll, eq_self, reduceCtorEq, Bool.false_eq_true, List.contains_cons, List.contains_nil, Nat.reduceBEq, Bool.or_false, h8, decide_eq_true (show (hi : Int) ≤ 2 * (r : Int) + 1 by omega)]
      repeat (apply And.intro; focus (first | omega | (simp; done)))
      exact ⟨_, _, Wk.refl _, weak_re hwf, M, hM, hS.done (fun ch hk hc => by rcases hk with h | h <;> omega), rfl⟩
    have i1 : ((fi : Int) + (2 * (r : Int) + 1)).toNat = fi + (2 * r + 1) := by omega
    have i2 : ((fi : Int) + (2 * (r : Int) + 1) + 1).toNat = fi + (2 * r + 2) := by omega
    have i3 : ((fi : Int) + (r : Int)).toNat = fi + r := by omega
    have i4 : ((fi : Int) + (2 * (r : Int) + 1 + 1)).toNat = fi + (2 * r + 2) := by omega
    by_cases c2 : 2 * r + 1 + 1 < hi
    · simp (config := {maxSteps := 3000000}) only [run_skip, run_reg, run_seq, run_blk, run_cond, if_false, at_code_n, ops_nil, ops_grd, grd_tt, ops_mv, ops_bin, ops_ix, ops_load, ev_t, ev_c, put_get, opv_mk, over_get, vnat, put_box_same, args0, List.getD_cons_zero, List.getD_cons_succ, vbin, vbinI, norm, vix, vload, takeV, takeB, ops_calv, clv_func, List.map_cons, List.map_nil, List.nil_append, List.append_nil, and_true, true_and, Nat.reduceEqDiff, Int.toNat_natCast, Int.reduceNeg, Nat.zero_add, ↓reduceIte, eq_self, reduceCtorEq, Bool.false_eq_true, List.contains_cons, List.contains_nil, Nat.reduceBEq, Bool.or_false, List.not_mem_nil, h8, decide_eq_false (show ¬ (hi : Int) ≤ 2 * (r : Int) + 1 by omega), decide_eq_true (show 2 * (r : Int) + 1 + 1 < (hi : Int) by omega), i1, i2, rowc_get (show fi + (2 * r + 1) < M.length by omega), rowc_get (show fi + (2 * r + 2) < M.length by omega), rowc_len, rowc_mono hmo hlen, E.call, List.map_nil]
      repeat (apply And.intro; focus (first | omega | (simp; done)))
      refine Cal.mk (E.less _ _ _) ?_
      rintro _ _ ⟨z1, hz1, rfl, rfl⟩ -
      simp (config := {maxSteps := 3000000}) only [run_cond, at_code_n, ops_nil, ops_grd, grd_tt, ops_pick, ops_bin, ev_t, ev_c, put_get, opv_mk, vpick, vbin, vbinI, obsOk, true_and, Nat.reduceEqDiff, ↓reduceIte, eq_self, hz1]
      cases c3 : lt M[fi + (2 * r + 1)]! M[fi + (2 * r + 2)]!
      · have hbig : ∀ k, kid r k → k < hi → lt M[fi + (2 * r + 1)]! M[fi + k]! = false := fun k hk _ => by
          rcases hk with rfl | rfl
          · exact E.ord.irr _
          · exact c3
        simp (config := {maxSteps := 3000000}) only [run_skip, run_reg, run_seq, if_false, at_code_n, ops_mv, ops_bin, ops_ix, ops_load, ev_t, put_get, opv_mk, over_get, put_box_same, args0, List.getD_cons_zero, List.getD_cons_succ, vbin, vbinI, norm, vix, vload, takeV, takeB, ops_calv, clv_func, List.map_cons, List.map_nil, List.nil_append, List.append_nil, and_true, true_and, Nat.reduceEqDiff, Int.reduceNeg, Nat.zero_add, ↓reduceIte, eq_self, reduceCtorEq, Bool.false_eq_true, List.contains_cons, List.contains_nil, Nat.reduceBEq, Bool.or_false, List.not_mem_nil, h8, i1, i3, rowc_get (show fi + (2 * r + 1) < M.length by omega), rowc_get (show fi + r < M.length by omega), rowc_len, rowc_mono hmo hlen, E.call, List.map_nil]
        repeat (apply And.intro; focus (first | omega | (simp; done)))
        refine Cal.mk (E.less _ _ _) ?_
        rintro _ _ ⟨z2, hz2, rfl, rfl⟩ -
        simp (config := {maxSteps := 3000000}) only [run_cond, at_code_n, ops_nil, ops_bin, ops_un, ev_t, ev_c, put_get, opv_mk, vbin, vbinI, vun, obsOk, true_and, ↓reduceIte, eq_self, hz2]
        cases c4 : lt M[fi + r]! M[fi + (2 * r + 1)]!
        · simp (config := {maxSteps := 3000000}) only [run_ret, if_true, at_code_r, at_blk_r, at_rnd_r, at_fin_r, true_and, vret, rvAll, Bool.not_false]
          exact ⟨_, _, Wk.refl _, weak_re hwf, M, hM, hS.done (fun k hk hkh => E.ord.trans (hbig k hk hkh) c4), rfl⟩
        · obtain ⟨g1, g2, s1, s2, m1, m2⟩ := swapC hmo hlen (i := fi + r) (j := fi + (2 * r + 1)) (by omega) (by omega)
          have hex := hM.exch (i := fi + r) (j := fi + (2 * r + 1)) (by omega) (by omega) (by omega) (by omega) h1
          have hst := hS.step E.ord (ch := 2 * r + 1) (by unfold kid; omega) (by omega) hr (by omega) hbig c4
          simp (config := {maxSteps := 3000000}) only [run_skip, run_reg, run_seq, if_false, at_code_n, at_blk_n, at_rnd_n, ops_nil, ops_mv, ops_bin, ops_ix, ops_load, ops_store, ev_t, put_get, put_none, opv_mk, stb_some, sto_ptr, over_get, rel_mk, Stp, put_box_same, put_put, args0, List.getD_cons_zero, List.getD_cons_succ, vbin, vbinI, norm, vix, vload, takeV, takeB, splice, V.cells, obsOk, List.length_cons, List.length_nil, and_true, true_and, Nat.reduceEqDiff, Nat.reduceAdd, Nat.reduceLT, Nat.reduceLT, Int.reduceNeg, Nat.zero_add, ↓reduceIte, Bool.not_true, eq_self, reduceCtorEq, Bool.false_eq_true, List.contains_cons, List.contains_nil, Nat.reduceBEq, Bool.or_false, h8, i1, i3, g1, g2, s1, s2, m1, m2, rowc_len, List.length_set]
          repeat (apply And.intro; focus (first | omega | (simp; done)))
          exact ⟨⟨2 * r + 1, _, by omega, by omega, by rw [show (2 * (r : Int) + 1) = ((2 * r + 1 : Nat) : Int) by omega], hex, hst, rfl⟩, by omega⟩
      · have hbig : ∀ k, kid r k → k < hi → lt M[fi + (2 * r + 2)]! M[fi + k]! = false := fun k hk _ => by
          rcases hk with rfl | rfl
          · exact E.ord.asymm c3
          · exact E.ord.irr _
        simp (config := {maxSteps := 3000000}) only [run_reg, run_seq, if_true, at_code_n, ops_nil, ops_mv, ops_bin, ops_ix, ops_load, ev_t, ev_c, put_get, opv_mk, over_get, put_box_same, args0, List.getD_cons_zero, List.getD_cons_succ, vbin, vbinI, norm, vix, vload, takeV, takeB, ops_calv, clv_func, List.map_cons, List.map_nil, List.nil_append, List.append_nil, and_true, true_and, Nat.reduceEqDiff, Int.reduceNeg, Nat.zero_add, ↓reduceIte, eq_self, reduceCtorEq, Bool.false_eq_true, List.contains_cons, List.contains_nil, Nat.reduceBEq, Bool.or_false, List.not_mem_nil, h8, i4, i3, rowc_get (show fi + (2 * r + 2) < M.length by omega), rowc_get (show fi + r < M.length by omega), rowc_len, rowc_mono hmo hlen, E.call, List.map_nil]
        repeat (apply And.intro; focus (first | omega | (simp; done)))
        refine Cal.mk (E.less _ _ _) ?_
        rintro _ _ ⟨z3, hz3, rfl, rfl⟩ -
        simp (config := {maxSteps := 3000000}) only [run_cond, at_code_n, ops_nil, ops_bin, ops_un, ev_t, ev_c, put_get, opv_mk, vbin, vbinI, vun, obsOk, true_and, ↓reduceIte, eq_self, hz3]
        cases c4 : lt M[fi + r]! M[fi + (2 * r + 2)]!
        · simp (config := {maxSteps := 3000000}) only [run_ret, if_true, at_code_r, at_blk_r, at_rnd_r, at_fin_r, true_and, vret, rvAll, Bool.not_false]
          exact ⟨_, _, Wk.refl _, weak_re hwf, M, hM, hS.done (fun k hk hkh => E.ord.trans (hbig k hk hkh) c4), rfl⟩
        · obtain ⟨g1, g2, s1, s2, m1, m2⟩ := swapC hmo hlen (i := fi + r) (j := fi + (2 * r + 2)) (by omega) (by omega)
          have hex := hM.exch (i := fi + r) (j := fi + (2 * r + 2)) (by omega) (by omega) (by omega) (by omega) h1
          have hst := hS.step E.ord (ch := 2 * r + 2) (by unfold kid; omega) (by omega) hr (by omega) hbig c4
          simp (config := {maxSteps := 3000000}) only [run_skip, run_reg, run_seq, if_false, at_code_n, at_blk_n, at_rnd_n, ops_nil, ops_mv, ops_bin, ops_ix, ops_load, ops_store, ev_t, put_get, put_none, opv_mk, stb_some, sto_ptr, over_get, rel_mk, Stp, put_box_same, put_put, args0, List.getD_cons_zero, List.getD_cons_succ, vbin, vbinI, norm, vix, vload, takeV, takeB, splice, V.cells, obsOk, List.length_cons, List.length_nil, and_true, true_and, Nat.reduceEqDiff, Nat.reduceAdd, Nat.reduceLT, Nat.reduceLT, Int.reduceNeg, Nat.zero_add, ↓reduceIte, Bool.not_true, eq_self, reduceCtorEq, Bool.false_eq_true, List.contains_cons, List.contains_nil, Nat.reduceBEq, Bool.or_false, h8, i4, i3, g1, g2, s1, s2, m1, m2, rowc_len, List.length_set]
          repeat (apply And.intro; focus (first | omega | (simp; done)))
          exact ⟨⟨2 * r + 2, _, by omega, by omega, by rw [show (2 * (r : Int) + 1 + 1) = ((2 * r + 2 : Nat) : Int) by omega], hex, hst, rfl⟩, by omega⟩
    · have hbig : ∀ k, kid r k → k < hi → lt M[fi + (2 * r + 1)]! M[fi + k]! = false := fun k hk hkh => by
        rcases hk with rfl | rfl
        · exact E.ord.irr _
        · omega
      simp (config := {maxSteps := 3000000}) only [run_skip, run_reg, run_seq, run_blk, run_cond, if_false, at_code_n, ops_nil, ops_grd, grd_ft, ops_mv, ops_pick, ops_bin, ops_ix, ops_load, ev_t, ev_c, put_get, opv_mk, over_get, vnat, put_box_same, args0, List.getD_cons_zero, List.getD_cons_succ, vpick, vbin, vbinI, norm, vix, vload, takeV, takeB, ops_calv, clv_func, List.map_cons, List.map_nil, List.nil_append, List.append_nil, and_true, true_and, Nat.reduceEqDiff, Int.toNat_natCast, Int.reduceNeg, Nat.zero_add, ↓reduceIte, eq_self, reduceCtorEq, Bool.false_eq_true, List.contains_cons, List.contains_nil, Nat.reduceBEq, Bool.or_false, List.not_mem_nil, h8, decide_eq_false (show ¬ (hi : Int) ≤ 2 * (r : Int) + 1 by omega), decide_eq_false (show ¬ 2 * (r : Int) + 1 + 1 < (hi : Int) by omega), i1, i3, rowc_get (show fi + (2 * r + 1) < M.length by omega), rowc_get (show fi + r < M.length by omega), rowc_len, rowc_mono hmo hlen, E.call, List.map_nil]
      repeat (apply And.intro; focus (first | omega | (simp; done)))
      refine Cal.mk (E.less _ _ _) ?_
      rintro _ _ ⟨z4, hz4, rfl, rfl⟩ -
      simp (config := {maxSteps := 3000000}) only [run_cond, at_code_n, ops_nil, ops_bin, ops_un, ev_t, ev_c, put_get, opv_mk, vbin, vbinI, vun, obsOk, true_and, ↓reduceIte, eq_self, hz4]
      cases c4 : lt M[fi + r]! M[fi + (2 * r + 1)]!
      · simp (config := {maxSteps := 3000000}) only [run_ret, if_true, at_code_r, at_blk_r, at_rnd_r, at_fin_r, true_and, vret, rvAll, Bool.not_false]
        exact ⟨_, _, Wk.refl _, weak_re hwf, M, hM, hS.done (fun k hk hkh => E.ord.trans (hbig k hk hkh) c4), rfl⟩
      · obtain ⟨g1, g2, s1, s2, m1, m2⟩ := swapC hmo hlen (i := fi + r) (j := fi + (2 * r + 1)) (by omega) (by omega)
        have hex := hM.exch (i := fi + r) (j := fi + (2 * r + 1)) (by omega) (by omega) (by omega) (by omega) h1
        have hst := hS.step E.ord (ch := 2 * r + 1) (by unfold kid; omega) (by omega) hr (by omega) hbig c4
        simp (config := {maxSteps := 3000000}) only [run_skip, run_reg, run_seq, if_false, at_code_n, at_blk_n, at_rnd_n, ops_nil, ops_mv, ops_bin, ops_ix, ops_load, ops_store, ev_t, put_get, put_none, opv_mk, stb_some, sto_ptr, over_get, rel_mk, Stp, put_box_same, put_put, args0, List.getD_cons_zero, List.getD_cons_succ, vbin, vbinI, norm, vix, vload, takeV, takeB, splice, V.cells, obsOk, List.length_cons, List.length_nil, and_true, true_and, Nat.reduceEqDiff, Nat.reduceAdd, Nat.reduceLT, Nat.reduceLT, Int.reduceNeg, Nat.zero_add, ↓reduceIte, Bool.not_true, eq_self, reduceCtorEq, Bool.false_eq_true, List.contains_cons, List.contains_nil, Nat.reduceBEq, Bool.or_false, h8, i1, i3, g1, g2, s1, s2, m1, m2, rowc_len, List.length_set]
        repeat (apply And.intro; focus (first | omega | (simp; done)))
        exact ⟨⟨2 * r + 1, _, by omega, by omega, by rw [show (2 * (r : Int) + 1) = ((2 * r + 1 : Nat) : Int) by omega], hex, hst, rfl⟩, by omega⟩
set_option maxRecDepth 100000 in
set_option maxHeartbeats 4000000 in
theorem crev_v (hf : cFun P f = some CRev) (hmo : mono (rowc val L sp)) (h1 : a < c) (h2 : c ≤ L.length) (hl : L.length < 4611686018427387904) :
    VCalls P f [dataV b L.length cap, .sc (.int .i64 a), .sc (.int .i64 c), cmpV g] (st.put b (rowc val L sp)) fun _ s => ∃ M, Mix a c L M ∧ s = st.put b (rowc val M sp) := by
  refine vcalls_enter hf (Nat.le_of_ble_eq_true rfl) fun hwf hok => ?_
  show Run _ (CRev).body (.fin (finQ (CRev).res _)) _ _
  unfold CRev
  simp (config := {maxSteps := 3000000}) only [run_reg, run_seq, run_blk, at_code_n, ops_nil, ops_mv, ops_bin, ev_t, ev_c, put_get, opv_mk, args0, List.getD_cons_zero, List.getD_cons_succ, vbin, vbinI, norm, true_and, Nat.reduceEqDiff, Int.reduceNeg, ↓reduceIte, eq_self, dataV, cmpV]
  repeat (apply And.intro; focus (first | omega | (simp; done)))
  refine run_loop [8, 9, 13, 14, 15, 16, 17, 18, 19, 20, 21, 22, 23, 24, 25, 26, 27, 28, 29, 30, 31, 32, 33] (fun B s => ∃ (i j : Nat) (M : List α), a ≤ i ∧ j < c ∧ i ≤ j + 1 ∧ B 8 = .sc (.int .i64 i) ∧ B 9 = .sc (.int .i64 j) ∧ Mix a c L M ∧ s = st.put b (rowc val M sp)) (fun B _ => vnat (B 9)) rfl ?_ ?_
  · simp (config := {maxSteps := 3000000}) only [put_get, Nat.reduceEqDiff, ↓reduceIte, eq_self]
    exact ⟨a, c - 1, L, by omega, by omega, by omega, rfl, by rw [show ((c : Int) - 1) = ((c - 1 : Nat) : Int) by omega], .refl, rfl⟩
  · rintro B s ⟨i, j, M, hi, hj, hij, h6, h7, hM, rfl⟩
    have hlen := hM.len
    by_cases c1 : i < j
    · obtain ⟨g1, g2, s1, s2, m1, m2⟩ := swapC hmo hlen (i := i) (j := j) (by omega) (by omega)
      have hex := hM.exch (i := i) (j := j) (by omega) (by omega) (by omega) (by omega) h2
      simp (config := {maxSteps := 3000000}) only [run_skip, run_reg, run_seq, run_blk, run_cond, if_true, at_code_n, at_blk_n, at_rnd_n, ops_nil, ops_mv, ops_bin, ops_ix, ops_load, ops_store, ev_t, ev_c, put_get, put_none, opv_mk, stb_some, sto_ptr, over_get, rel_mk, vnat, Stp, put_box_same, put_put, args0, List.getD_cons_zero, vbin, vbinI, norm, vix, vload, takeV, takeB, splice, V.cells, obsOk, List.length_cons, List.length_nil, and_true, true_and, Nat.reduceEqDiff, Nat.reduceAdd, Nat.reduceLT, Nat.reduceLT, Int.toNat_natCast, Int.reduceNeg, Nat.zero_add, ↓reduceIte, eq_self, reduceCtorEq, Bool.false_eq_true, List.contains_cons, List.contains_nil, Nat.reduceBEq, Bool.or_false, Bool.or_true, h6, h7, decide_eq_true (show (i : Int) < (j : Int) by omega), g1, g2, s1, s2, m1, m2, rowc_len, List.length_set]
      repeat (apply And.intro; focus (first | omega | (simp; done)))
      exact ⟨⟨i + 1, j - 1, _, by omega, by omega, by omega, by simp, by rw [show ((j : Int) - 1) = ((j - 1 : Nat) : Int) by omega], hex, rfl⟩, by omega⟩
    · simp (config := {maxSteps := 3000000}) only [run_reg, run_seq, run_exit, run_cond, if_false, at_code_n, at_code_x, at_blk_x, at_rnd_x, at_fin_n, ops_nil, ops_mv, ops_bin, ev_t, put_get, opv_mk, over_get, vnat, vbin, vbinI, true_and, Nat.reduceEqDiff, Int.toNat_natCast, ↓reduceIte, vret, rvAll, eq_self, List.contains_cons, List.contains_nil, Nat.reduceBEq, Bool.or_false, Bool.or_true, h6, h7, decide_eq_false (show ¬ (i : Int) < (j : Int) by omega)]
      exact ⟨_, _, Wk.refl _, weak_re hwf, M, hM, rfl⟩
set_option maxRecDepth 100000 in
set_option maxHeartbeats 4000000 in
theorem cheap_v (hf : cFun P f = some (CHeap fsift)) (hfs : cFun P fsift = some (CSift)) (E : EltC P g val lt) (hmo : mono (rowc val L sp)) (h1 : a < c) (h2 : c ≤ L.length) (hl : L.length < 4611686018427387904) :
    VCalls P f [dataV b L.length cap, .sc (.int .i64 a), .sc (.int .i64 c), cmpV g] (st.put b (rowc val L sp)) fun _ s => ∃ M, Mix a c L M ∧ Srt lt a c M ∧ s = st.put b (rowc val M sp) := by
  have e0 : (c : Int) - (a : Int) = ((c - a : Nat) : Int) := by omega
  refine vcalls_enter hf (Nat.le_of_ble_eq_true rfl) fun hwf hok => ?_
  show Run _ (CHeap fsift).body (.fin (finQ (CHeap fsift).res _)) _ _
  unfold CHeap
  simp (config := {maxSteps := 3000000}) only [run_reg, run_seq, run_blk, at_code_n, ops_nil, ops_mv, ops_bin, ev_t, ev_c, put_get, opv_mk, args0, List.getD_cons_zero, List.getD_cons_succ, vbin, vbinI, norm, true_and, Nat.reduceEqDiff, Int.reduceLT, Int.reduceNeg, ↓reduceIte, eq_self, dataV, cmpV, e0]
  repeat (apply And.intro; focus (first | omega | (simp; done)))
  refine run_loop [11, 20, 21, 22, 23, 24, 25, 26, 27, 28, 29] (fun B s => ∃ (i : Int) (M : List α), -1 ≤ i ∧ i < ((c - a : Nat) : Int) ∧ B 11 = .sc (.int .i64 i) ∧ Mix a c L M ∧ Heap lt a (i + 1).toNat (c - a) M ∧ s = st.put b (rowc val M sp)) (fun B _ => match B 11 with | .sc (.int _ n) => (n + 1).toNat | _ => 0) rfl ?_ ?_
  · simp (config := {maxSteps := 3000000}) only [put_get, Int.reduceNeg, ↓reduceIte, eq_self]
    refine ⟨(((c - a : Nat) : Int) - 1) / 2, L, by omega, by omega, rfl, .refl, fun r k hr hk hkh => ?_, rfl⟩
    exfalso
    rcases hk with h | h <;> omega
  · rintro B s ⟨i, M, hi, hi2, h9, hM, hH, rfl⟩
    have hlen := hM.len
    by_cases c1 : 0 ≤ i
    · obtain ⟨n, rfl⟩ : ∃ n : Nat, i = n := ⟨i.toNat, by omega⟩
      simp (config := {maxSteps := 3000000}) only [run_skip, run_reg, run_seq, run_blk, run_cond, if_true, at_code_n, ops_nil, ops_mv, ops_bin, ops_call, ev_t, ev_c, put_get, opv_mk, over_get, args0, List.getD_cons_zero, List.getD_cons_succ, vbin, vbinI, List.map_cons, List.map_nil, true_and, Nat.reduceEqDiff, Int.reduceNeg, ↓reduceIte, eq_self, reduceCtorEq, Bool.false_eq_true, List.contains_cons, List.contains_nil, Nat.reduceBEq, Bool.or_false, h9, decide_eq_true c1]
      have e1 : ((n : Int) + 1).toNat = n + 1 := by omega
      rw [e1] at hH
      have hmo' := rowc_mono hmo hlen
      have := csift_v (st := st) (b := b) (cap := cap) (sp := sp) hfs E hmo' (lo := n) (hi := c - a) (fi := a) (by omega) (by omega) (by omega) hH
      rw [hlen, dataV] at this
      refine Cal.mk this ?_
      rintro _ _ ⟨M2, k1, k2, rfl⟩ -
      have hM2 : Mix a c L M2 := hM.trans (k1.wide (Nat.le_refl _) (by omega))
      simp (config := {maxSteps := 3000000}) only [run_reg, at_code_n, at_blk_n, at_rnd_n, ops_nil, ops_mv, ops_bin, ev_t, ev_c, put_get, opv_mk, over_get, rel_mk, vbin, vbinI, norm, obsOk, true_and, Nat.reduceEqDiff, Int.reduceNeg, ↓reduceIte, eq_self, List.contains_cons, List.contains_nil, Nat.reduceBEq, Bool.or_false, h9]
      repeat (apply And.intro; focus (first | omega | (simp; done)))
      exact ⟨⟨(n : Int) - 1, M2, by omega, by omega, rfl, hM2, by rw [show ((n : Int) - 1 + 1).toNat = n by omega]; exact k2, rfl⟩, by omega⟩
    · have ei : i = -1 := by omega
      subst ei
      have hH0 : Heap lt a 0 (c - a) M := hH
      simp (config := {maxSteps := 3000000}) only [run_reg, run_seq, run_blk, run_exit, run_cond, if_false, at_code_n, at_code_x, at_blk_x, at_rnd_x, ops_nil, ops_mv, ops_bin, ev_t, ev_c, put_get, opv_mk, over_get, vbin, vbinI, norm, true_and, Nat.reduceEqDiff, Int.reduceToNat, Int.reduceLE, Int.reduceAdd, Int.reduceNeg, ↓reduceIte, decide_false, eq_self, Bool.false_eq_true, List.contains_cons, List.contains_nil, Nat.reduceBEq, Bool.or_false, h9]
      repeat (apply And.intro; focus (first | omega | (simp; done)))
      refine run_loop [12, 32, 33, 34, 35, 36, 37, 38, 39, 40, 41, 42, 43, 44, 45, 46, 47, 48, 49, 50, 51, 52, 53, 54, 55, 56, 57, 58, 59] (fun B s => ∃ (i : Int) (M : List α), -1 ≤ i ∧ i < ((c - a : Nat) : Int) ∧ B 12 = .sc (.int .i64 i) ∧ Mix a c L M ∧ Heap lt a 0 (i + 1).toNat M ∧ Srt lt (a + (i + 1).toNat) c M ∧ (∀ p q, p < (i + 1).toNat → a + (i + 1).toNat ≤ q → q < c → lt M[q]! M[a + p]! = false) ∧ s = st.put b (rowc val M sp)) (fun B _ => match B 12 with | .sc (.int _ n) => (n + 1).toNat | _ => 0) rfl ?_ ?_
      · simp (config := {maxSteps := 3000000}) only [put_get, Int.reduceNeg, ↓reduceIte, eq_self]
        have e2 : (((c - a : Nat) : Int) - 1 + 1).toNat = c - a := by omega
        refine ⟨((c - a : Nat) : Int) - 1, M, by omega, by omega, rfl, hM, by rw [e2]; exact hH0, by rw [e2]; exact Srt.one (by omega), ?_, rfl⟩
        rw [e2]
        intro p q h3 h4 h5
        omega
      · clear hM hH hH0 hlen M h9
        rintro C s ⟨i, M, hi, hi2, h10, hM, hH, hS, hB, rfl⟩
        have hlen := hM.len
        by_cases c2 : 0 ≤ i
        · obtain ⟨n, rfl⟩ : ∃ n : Nat, i = n := ⟨i.toNat, by omega⟩
          have e1 : ((n : Int) + 1).toNat = n + 1 := by omega
          rw [e1] at hH hS hB
          have e3 : ((a : Int) + (n : Int)).toNat = a + n := by omega
          obtain ⟨g1, g2, s1, s2, m1, m2⟩ := swapC hmo hlen (i := a) (j := a + n) (by omega) (by omega)
          have hex := hM.exch (i := a) (j := a + n) (by omega) (by omega) (by omega) (by omega) h2
          have hlen2 := hex.len
          simp (config := {maxSteps := 3000000}) only [run_skip, run_reg, run_seq, run_blk, run_cond, if_true, at_code_n, ops_nil, ops_mv, ops_bin, ops_ix, ops_load, ops_store, ops_call, ev_t, ev_c, put_get, put_none, opv_mk, stb_some, sto_ptr, over_get, Stp, put_box_same, put_put, args0, List.getD_cons_zero, List.getD_cons_succ, vbin, vbinI, norm, vix, vload, takeV, takeB, splice, V.cells, obsOk, List.map_cons, List.map_nil, List.length_cons, List.length_nil, and_true, true_and, Nat.reduceEqDiff, Nat.reduceAdd, Nat.reduceLT, Nat.reduceLT, Int.toNat_natCast, Int.reduceNeg, Nat.zero_add, ↓reduceIte, eq_self, reduceCtorEq, Bool.false_eq_true, List.contains_cons, List.contains_nil, Nat.reduceBEq, Bool.or_false, h10, decide_eq_true c2, e3, g1, g2, s1, s2, m1, m2, rowc_len, List.length_set]
          repeat (apply And.intro; focus (first | omega | (simp; done)))
          have gx := fun k => exch_get (L := M) (i := a) (j := a + n) (by omega) (by omega) k
          have hH2 : Heap lt a 1 n (exch M a (a + n)) := fun r k hr hk hkn => by
            have hrk : r < k := by rcases hk with h | h <;> omega
            rw [gx, gx, if_neg (by omega), if_neg (by omega), if_neg (by omega), if_neg (by omega)]
            exact hH r k (by omega) hk (by omega)
          have htop := hH.top E.ord
          have := csift_v (st := st) (b := b) (cap := cap) (sp := sp) hfs E (rowc_mono hmo hlen2) (lo := 0) (hi := n) (fi := a) (by omega) (by omega) (by omega) hH2
          rw [hlen2, dataV] at this
          refine Cal.mk this ?_
          rintro _ _ ⟨M2, k1, k2, rfl⟩ -
          have hM2 : Mix a c L M2 := hex.trans (k1.wide (Nat.le_refl _) (by omega))
          have hbig : ∀ q, a + n ≤ q → q < c → ∀ p, a ≤ p → p < a + n → lt M2[q]! M2[p]! = false := fun q h3 h4 p h5 h6 => by
            rw [k1.out q (by omega)]
            refine k1.all (by omega) (Q := fun v => lt (exch M a (a + n))[q]! v = false) (fun p h7 h8 => ?_) p h5 h6
            rw [gx q, gx p, if_neg (show ¬ p = a + n by omega)]
            by_cases eq : q = a + n
            · rw [if_pos eq]
              by_cases ep : p = a
              · rw [if_pos ep]
                exact htop n (by omega)
              · rw [if_neg ep]
                have := htop (p - a) (by omega)
                rwa [show a + (p - a) = p by omega] at this
            · rw [if_neg eq, if_neg (by omega)]
              by_cases ep : p = a
              · rw [if_pos ep]; exact hB n q (by omega) (by omega) h4
              · rw [if_neg ep]
                have := hB (p - a) q (by omega) (by omega) h4
                rwa [show a + (p - a) = p by omega] at this
          have hS2 : Srt lt (a + n) c M2 := fun p q h3 h4 h5 => by
            rw [k1.out p (by omega), k1.out q (by omega), gx p, gx q, if_neg (show ¬ q = a + n by omega), if_neg (show ¬ q = a by omega)]
            by_cases ep : p = a + n
            · rw [if_pos ep]
              have := hB 0 q (by omega) (by omega) h5
              rwa [Nat.add_zero] at this
            · rw [if_neg ep, if_neg (by omega)]; exact hS p q (by omega) h4 h5
          have e4 : ((n : Int) - 1 + 1).toNat = n := by omega
          simp (config := {maxSteps := 3000000}) only [run_reg, at_code_n, at_blk_n, at_rnd_n, ops_nil, ops_mv, ops_bin, ev_t, ev_c, put_get, opv_mk, over_get, rel_mk, vbin, vbinI, norm, obsOk, true_and, Nat.reduceEqDiff, Int.reduceNeg, ↓reduceIte, eq_self, List.contains_cons, List.contains_nil, Nat.reduceBEq, Bool.or_false, h10]
          repeat (apply And.intro; focus (first | omega | (simp; done)))
          refine ⟨⟨(n : Int) - 1, M2, by omega, by omega, rfl, hM2, by rw [e4]; exact k2, by rw [e4]; exact hS2, ?_, rfl⟩, by omega⟩
          rw [e4]
          exact fun p q h3 h4 h5 => hbig q h4 h5 (a + p) (by omega) (by omega)
        · have ei : i = -1 := by omega
          subst ei
          simp (config := {maxSteps := 3000000}) only [run_reg, run_seq, run_exit, run_cond, if_false, at_code_n, at_code_x, at_blk_x, at_rnd_x, at_fin_n, ops_nil, ops_mv, ops_bin, ev_t, ev_c, put_get, opv_mk, over_get, vbin, vbinI, true_and, Int.reduceToNat, Int.reduceLE, Int.reduceAdd, Int.reduceNeg, ↓reduceIte, vret, rvAll, decide_false, eq_self, List.contains_cons, List.contains_nil, Nat.reduceBEq, Bool.or_false, h10]
          exact ⟨_, _, Wk.refl _, weak_re hwf, M, hM, hS, rfl⟩
end
end Go.Proofs.Ytlngegoamfklgaa
