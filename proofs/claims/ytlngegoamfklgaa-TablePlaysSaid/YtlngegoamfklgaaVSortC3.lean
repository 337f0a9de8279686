/- Go's own sort by a function: parting by a pivot: contracts. Printed by a program (gen_sort3.py). No program here. -/
import Derived.Test.YtlngegoamfklgaaVSortC2
import Derived.Test.YtlngegoamfklgaaVSortLaw2
namespace Go.Proofs.Ytlngegoamfklgaa
open Go

section
variable {P : Program} {α : Type} [Inhabited α] {val : α → V × V} {lt : α → α → Bool} {g f fsift : FuncId} {st : St} {b cap a c : Nat} {L : List α} {sp : List V}
set_option maxRecDepth 100000 in
set_option maxHeartbeats 16000000 in
theorem csplit_v (hf : cFun P f = some (CSplit)) (E : EltC P g val lt) (hmo : mono (rowc val L sp)) {p : Nat} (h1 : a ≤ p) (h3 : p < c) (h2 : c ≤ L.length) (hl : L.length < 4611686018427387904) :
    VCalls P f [dataV b L.length cap, .sc (.int .i64 a), .sc (.int .i64 c), .sc (.int .i64 p), cmpV g] (st.put b (rowc val L sp)) fun r s => ∃ (m : Nat) (B : Bool) (M : List α), a ≤ m ∧ m < c ∧ Mix a c L M ∧ (∀ k, a ≤ k → k < m → lt M[m]! M[k]! = false) ∧ (∀ k, m < k → k < c → lt M[k]! M[m]! = false) ∧ r = .tup [.sc (.int .i64 m), .sc (.bool B)] ∧ s = st.put b (rowc val M sp) := by
  refine vcalls_enter hf (Nat.le_of_ble_eq_true rfl) fun hwf hok => ?_
  show Run _ (CSplit).body (.fin (finQ (CSplit).res _)) _ _
  unfold CSplit
  obtain ⟨g1, g2, s1, s2, m1, m2⟩ := swapC hmo (rfl : L.length = L.length) (i := a) (j := p) (by omega) (by omega)
  have hM := (Mix.refl (a := a) (b := c) (L := L)).exch (i := a) (j := p) (by omega) (by omega) (by omega) (by omega) h2
  simp (config := {maxSteps := 3000000}) only [run_reg, run_seq, run_blk, at_code_n, ops_nil, ops_mv, ops_bin, ops_ix, ops_load, ops_store, ev_t, ev_c, put_get, put_none, opv_mk, stb_some, sto_ptr, Stp, put_box_same, put_put, args0, List.getD_cons_zero, List.getD_cons_succ, vbin, vbinI, norm, vix, vload, takeV, takeB, splice, V.cells, obsOk, List.length_cons, List.length_nil, and_true, true_and, Nat.reduceEqDiff, Nat.reduceAdd, Nat.reduceLT, Nat.reduceLT, Int.toNat_natCast, Int.reduceNeg, Nat.zero_add, ↓reduceIte, eq_self, reduceCtorEq, dataV, cmpV, g1, g2, s1, s2, m1, m2, rowc_len, List.length_set]
  repeat (apply And.intro; focus (first | omega | (simp; done)))
  obtain ⟨M, eM⟩ : ∃ M, M = exch L a p := ⟨_, rfl⟩
  rw [← eM] at hM ⊢
  have hlen := hM.len
  have hP : Part (fun p x => lt x p) a c (a + 1) (c - 1) M := Part.start (by omega)
  have h10 : ((a : Int) + 1) = ((a + 1 : Nat) : Int) := by simp
  have h11 : ((c : Int) - 1) = ((c - 1 : Nat) : Int) := by omega
  rw [h10, h11]
  clear g1 g2 s1 s2 m1 m2 eM
  have h10 : True := trivial
  have h11 : True := trivial
  generalize a + 1 = i at hP ⊢
  generalize c - 1 = j at hP ⊢
  obtain ⟨i0, ei0⟩ : ∃ i0, i0 = i := ⟨_, rfl⟩
  obtain ⟨j0, ej0⟩ : ∃ j0, j0 = j := ⟨_, rfl⟩
  have ki := Nat.le_of_eq ei0
  have kj := Nat.le_of_eq ej0.symm
  have k10 := h10
  have k11 := h11
  refine run_loop [12, 32, 33, 34, 35, 36, 37, 38, 39, 40, 41, 42, 43, 44, 45, 46, 47, 48, 49] (fun C s' => ∃ (i : Nat), C 12 = .sc (.int .i64 i) ∧ i0 ≤ i ∧ Part (fun p x => lt x p) a c i j M ∧ s' = st.put b (rowc val M sp)) (fun C _ => j + 1 - vnat (C 12)) rfl ?_ ?_
  · simp (config := {maxSteps := 3000000}) only [put_get, and_true, Nat.reduceEqDiff, ↓reduceIte, eq_self]
    exact ⟨i, rfl, ki, hP⟩
  · rintro C s' ⟨i, h10, ki, hP, rfl⟩
    have ai := hP.ai
    have ij := hP.ij
    have jc := hP.jc
    by_cases ci : i ≤ j
    · simp (config := {maxSteps := 3000000}) only [run_reg, run_seq, ops_grd, grd_tt, ops_mv, ops_bin, ops_ix, ops_load, ev_t, put_get, opv_mk, over_get, vnat, put_box_same, args0, List.getD_cons_zero, List.getD_cons_succ, vbin, vbinI, vix, vload, takeV, takeB, ops_calv, clv_func, List.map_cons, List.map_nil, List.nil_append, List.append_nil, and_true, true_and, Nat.reduceEqDiff, Int.toNat_natCast, Nat.zero_add, ↓reduceIte, eq_self, reduceCtorEq, Bool.false_eq_true, List.contains_cons, List.contains_nil, Nat.reduceBEq, Bool.or_false, List.not_mem_nil, h10, decide_eq_true (show (i : Int) ≤ (j : Int) by omega), rowc_get (show i < M.length by omega), rowc_get (show a < M.length by omega), rowc_len, rowc_mono hmo hlen, E.call, List.map_nil]
      repeat (apply And.intro; focus (first | omega | (simp; done)))
      refine Cal.mk (E.less _ _ _) ?_
      rintro _ _ ⟨z1, hz1, rfl, rfl⟩ -
      simp (config := {maxSteps := 3000000}) only [run_cond, at_code_n, ops_nil, ops_grd, grd_tt, ops_pick, ops_bin, ev_t, ev_c, put_get, opv_mk, vpick, vbin, vbinI, obsOk, true_and, Nat.reduceEqDiff, ↓reduceIte, eq_self, hz1]
      cases cq : lt M[i]! M[a]!
      · simp (config := {maxSteps := 3000000}) only [run_seq, run_blk, run_exit, if_false, at_code_n, at_code_x, at_blk_x, at_rnd_x, ↓reduceIte, eq_self]
        repeat (apply And.intro; focus (first | omega | (simp; done)))
        refine run_loop [13, 50, 51, 52, 53, 54, 55, 56, 57, 58, 59, 60, 61, 62, 63, 64, 65, 66, 67, 68] (fun D s' => ∃ (j : Nat), D 13 = .sc (.int .i64 j) ∧ j ≤ j0 ∧ Part (fun p x => lt x p) a c i j M ∧ s' = st.put b (rowc val M sp)) (fun D _ => vnat (D 13)) rfl ?_ ?_
        · simp (config := {maxSteps := 3000000}) only [put_get, over_get, and_true, Nat.reduceEqDiff, ↓reduceIte, eq_self, Bool.false_eq_true, List.contains_cons, List.contains_nil, Nat.reduceBEq, Bool.or_false]
          exact ⟨j, rfl, kj, hP⟩
        · rintro D s' ⟨j, h11, kj, hP, rfl⟩
          have ij := hP.ij
          have jc := hP.jc
          by_cases cj : i ≤ j
          · simp (config := {maxSteps := 3000000}) only [run_reg, run_seq, ops_grd, grd_tt, ops_mv, ops_bin, ops_ix, ops_load, ev_t, put_get, opv_mk, over_get, vnat, put_box_same, args0, List.getD_cons_zero, List.getD_cons_succ, vbin, vbinI, vix, vload, takeV, takeB, ops_calv, clv_func, List.map_cons, List.map_nil, List.nil_append, List.append_nil, and_true, true_and, Nat.reduceEqDiff, Int.toNat_natCast, Nat.zero_add, ↓reduceIte, eq_self, reduceCtorEq, Bool.false_eq_true, List.contains_cons, List.contains_nil, Nat.reduceBEq, Bool.or_false, List.not_mem_nil, h10, h11, decide_eq_true (show (i : Int) ≤ (j : Int) by omega), rowc_get (show j < M.length by omega), rowc_get (show a < M.length by omega), rowc_len, rowc_mono hmo hlen, E.call, List.map_nil]
            repeat (apply And.intro; focus (first | omega | (simp; done)))
            refine Cal.mk (E.less _ _ _) ?_
            rintro _ _ ⟨z2, hz2, rfl, rfl⟩ -
            simp (config := {maxSteps := 3000000}) only [run_cond, at_code_n, ops_nil, ops_grd, grd_tt, ops_pick, ops_bin, ops_un, ev_t, ev_c, put_get, opv_mk, vpick, vbin, vbinI, vun, obsOk, true_and, Nat.reduceEqDiff, ↓reduceIte, eq_self, hz2]
            cases cr : lt M[j]! M[a]!
            · simp (config := {maxSteps := 3000000}) only [run_skip, run_reg, run_blk, if_true, at_code_n, at_blk_n, at_rnd_n, ops_nil, ops_mv, ops_bin, ev_t, ev_c, put_get, opv_mk, over_get, rel_mk, vbin, vbinI, norm, and_true, true_and, Nat.reduceEqDiff, Int.reduceNeg, ↓reduceIte, Bool.not_false, eq_self, List.contains_cons, List.contains_nil, Nat.reduceBEq, Bool.or_false, h11]
              repeat (apply And.intro; focus (first | omega | (simp; done)))
              exact ⟨⟨j - 1, by rw [show ((j : Int) - 1) = ((j - 1 : Nat) : Int) by omega], by omega, hP.down cj cr⟩, by omega⟩
            · obtain ⟨g1, g2, s1, s2, m1, m2⟩ := swapC hmo hlen (i := i) (j := j) (by omega) (by omega)
              have hex := hM.exch (i := i) (j := j) (by omega) (by omega) (by omega) (by omega) h2
              have hPs := hP.swap cj cq cr (by omega)
              have hlt := hP.lt cj cq cr
              have hhd := hP.head cj (by omega)
              simp (config := {maxSteps := 3000000}) only [run_skip, run_reg, run_seq, run_blk, run_exit, run_cond, if_false, at_code_n, at_code_x, at_blk_x, at_rnd_x, ops_nil, ops_mv, ops_bin, ops_ix, ops_load, ops_store, ev_t, ev_c, put_get, put_none, opv_mk, stb_some, sto_ptr, over_get, Stp, put_box_same, put_put, args0, List.getD_cons_zero, vbin, vbinI, norm, vix, vload, takeV, takeB, splice, V.cells, obsOk, List.length_cons, List.length_nil, and_true, true_and, Nat.reduceEqDiff, Nat.reduceAdd, Nat.reduceLT, Nat.reduceLT, Int.toNat_natCast, Int.reduceNeg, Nat.zero_add, ↓reduceIte, Bool.not_true, eq_self, reduceCtorEq, Bool.false_eq_true, List.contains_cons, List.contains_nil, Nat.reduceBEq, Bool.or_false, h10, h11, decide_eq_false (show ¬ ((j : Int) < (i : Int)) by omega), g1, g2, s1, s2, m1, m2, rowc_len, List.length_set]
              repeat (apply And.intro; focus (first | omega | (simp; done)))
              refine run_loop [12, 13, 105, 106, 107, 108, 109, 110, 111, 112, 113, 114, 115, 116, 117, 118, 119, 120, 121, 122, 123, 124, 125, 126, 127, 128, 129, 130, 131, 132, 133, 134, 135, 136, 137, 138, 139, 140, 141, 142, 143, 144, 145, 146, 147, 148, 149, 150, 151, 152, 153, 154, 155, 156, 157, 158, 159, 160, 161, 162] (fun B s => ∃ (i j : Nat) (M : List α), B 12 = .sc (.int .i64 i) ∧ B 13 = .sc (.int .i64 j) ∧ Part (fun p x => lt x p) a c i j M ∧ Mix a c L M ∧ s = st.put b (rowc val M sp)) (fun B _ => vnat (B 13) + 1 - vnat (B 12)) rfl ?_ ?_
              · simp (config := {maxSteps := 3000000}) only [put_get, Nat.reduceEqDiff, ↓reduceIte, eq_self]
                exact ⟨i + 1, j - 1, _, by simp, by rw [show ((j : Int) - 1) = ((j - 1 : Nat) : Int) by omega], hPs, hex, rfl⟩
              · rintro G s ⟨i, j, M, h10, h11, hP, hM, rfl⟩
                have hlen := hM.len
                have ij0 := hP.ij
                simp (config := {maxSteps := 3000000}) only [run_seq, run_blk, vnat, Int.toNat_natCast, h10, h11]
                obtain ⟨i0, ei0⟩ : ∃ i0, i0 = i := ⟨_, rfl⟩
                obtain ⟨j0, ej0⟩ : ∃ j0, j0 = j := ⟨_, rfl⟩
                have ki := Nat.le_of_eq ei0
                have kj := Nat.le_of_eq ej0.symm
                have k10 := h10
                have k11 := h11
                refine run_loop [12, 105, 106, 107, 108, 109, 110, 111, 112, 113, 114, 115, 116, 117, 118, 119, 120, 121, 122] (fun C s' => ∃ (i : Nat), C 12 = .sc (.int .i64 i) ∧ i0 ≤ i ∧ Part (fun p x => lt x p) a c i j M ∧ s' = st.put b (rowc val M sp)) (fun C _ => j + 1 - vnat (C 12)) rfl ?_ ?_
                · simp (config := {maxSteps := 3000000}) only [over_get, and_true, ↓reduceIte, eq_self, List.contains_cons, List.contains_nil, Nat.reduceBEq, Bool.or_false, h10]
                  exact ⟨i, rfl, ki, hP⟩
                · rintro C s' ⟨i, h10, ki, hP, rfl⟩
                  have ai := hP.ai
                  have ij := hP.ij
                  have jc := hP.jc
                  by_cases ci : i ≤ j
                  · simp (config := {maxSteps := 3000000}) only [run_reg, run_seq, ops_grd, grd_tt, ops_mv, ops_bin, ops_ix, ops_load, ev_t, put_get, opv_mk, over_get, vnat, put_box_same, args0, List.getD_cons_zero, List.getD_cons_succ, vbin, vbinI, vix, vload, takeV, takeB, ops_calv, clv_func, List.map_cons, List.map_nil, List.nil_append, List.append_nil, and_true, true_and, Nat.reduceEqDiff, Int.toNat_natCast, Nat.zero_add, ↓reduceIte, eq_self, reduceCtorEq, Bool.false_eq_true, List.contains_cons, List.contains_nil, Nat.reduceBEq, Bool.or_false, Bool.or_true, List.not_mem_nil, h10, h11, decide_eq_true (show (i : Int) ≤ (j : Int) by omega), rowc_get (show i < M.length by omega), rowc_get (show a < M.length by omega), rowc_len, rowc_mono hmo hlen, E.call, List.map_nil]
                    repeat (apply And.intro; focus (first | omega | (simp; done)))
                    refine Cal.mk (E.less _ _ _) ?_
                    rintro _ _ ⟨z3, hz3, rfl, rfl⟩ -
                    simp (config := {maxSteps := 3000000}) only [run_cond, at_code_n, ops_nil, ops_grd, grd_tt, ops_pick, ops_bin, ev_t, ev_c, put_get, opv_mk, vpick, vbin, vbinI, obsOk, true_and, Nat.reduceEqDiff, ↓reduceIte, eq_self, hz3]
                    cases cq : lt M[i]! M[a]!
                    · simp (config := {maxSteps := 3000000}) only [run_seq, run_blk, run_exit, if_false, at_code_n, at_code_x, at_blk_x, at_rnd_x, ↓reduceIte, eq_self]
                      repeat (apply And.intro; focus (first | omega | (simp; done)))
                      refine run_loop [13, 123, 124, 125, 126, 127, 128, 129, 130, 131, 132, 133, 134, 135, 136, 137, 138, 139, 140, 141] (fun D s' => ∃ (j : Nat), D 13 = .sc (.int .i64 j) ∧ j ≤ j0 ∧ Part (fun p x => lt x p) a c i j M ∧ s' = st.put b (rowc val M sp)) (fun D _ => vnat (D 13)) rfl ?_ ?_
                      · simp (config := {maxSteps := 3000000}) only [put_get, over_get, and_true, Nat.reduceEqDiff, ↓reduceIte, eq_self, Bool.false_eq_true, List.contains_cons, List.contains_nil, Nat.reduceBEq, Bool.or_false, Bool.or_true, h11]
                        exact ⟨j, rfl, kj, hP⟩
                      · rintro D s' ⟨j, h11, kj, hP, rfl⟩
                        have ij := hP.ij
                        have jc := hP.jc
                        by_cases cj : i ≤ j
                        · simp (config := {maxSteps := 3000000}) only [run_reg, run_seq, ops_grd, grd_tt, ops_mv, ops_bin, ops_ix, ops_load, ev_t, put_get, opv_mk, over_get, vnat, put_box_same, args0, List.getD_cons_zero, List.getD_cons_succ, vbin, vbinI, vix, vload, takeV, takeB, ops_calv, clv_func, List.map_cons, List.map_nil, List.nil_append, List.append_nil, and_true, true_and, Nat.reduceEqDiff, Int.toNat_natCast, Nat.zero_add, ↓reduceIte, eq_self, reduceCtorEq, Bool.false_eq_true, List.contains_cons, List.contains_nil, Nat.reduceBEq, Bool.or_false, List.not_mem_nil, h10, h11, decide_eq_true (show (i : Int) ≤ (j : Int) by omega), rowc_get (show j < M.length by omega), rowc_get (show a < M.length by omega), rowc_len, rowc_mono hmo hlen, E.call, List.map_nil]
                          repeat (apply And.intro; focus (first | omega | (simp; done)))
                          refine Cal.mk (E.less _ _ _) ?_
                          rintro _ _ ⟨z4, hz4, rfl, rfl⟩ -
                          simp (config := {maxSteps := 3000000}) only [run_cond, at_code_n, ops_nil, ops_grd, grd_tt, ops_pick, ops_bin, ops_un, ev_t, ev_c, put_get, opv_mk, vpick, vbin, vbinI, vun, obsOk, true_and, Nat.reduceEqDiff, ↓reduceIte, eq_self, hz4]
                          cases cr : lt M[j]! M[a]!
                          · simp (config := {maxSteps := 3000000}) only [run_skip, run_reg, run_blk, if_true, at_code_n, at_blk_n, at_rnd_n, ops_nil, ops_mv, ops_bin, ev_t, ev_c, put_get, opv_mk, over_get, rel_mk, vbin, vbinI, norm, and_true, true_and, Nat.reduceEqDiff, Int.reduceNeg, ↓reduceIte, Bool.not_false, eq_self, List.contains_cons, List.contains_nil, Nat.reduceBEq, Bool.or_false, h11]
                            repeat (apply And.intro; focus (first | omega | (simp; done)))
                            exact ⟨⟨j - 1, by rw [show ((j : Int) - 1) = ((j - 1 : Nat) : Int) by omega], by omega, hP.down cj cr⟩, by omega⟩
                          · obtain ⟨g1, g2, s1, s2, m1, m2⟩ := swapC hmo hlen (i := i) (j := j) (by omega) (by omega)
                            have hex := hM.exch (i := i) (j := j) (by omega) (by omega) (by omega) (by omega) h2
                            have hPs := hP.swap cj cq cr (by omega)
                            have hlt := hP.lt cj cq cr
                            have hhd := hP.head cj (by omega)
                            simp (config := {maxSteps := 3000000}) only [run_skip, run_reg, run_seq, run_exit, run_cond, if_false, at_code_n, at_code_x, at_blk_n, at_blk_x, at_rnd_n, at_rnd_x, ops_nil, ops_mv, ops_bin, ops_ix, ops_load, ops_store, ev_t, ev_c, put_get, put_none, opv_mk, stb_some, sto_ptr, over_get, rel_mk, Stp, put_box_same, put_put, args0, List.getD_cons_zero, vbin, vbinI, norm, vix, vload, takeV, takeB, splice, V.cells, obsOk, List.length_cons, List.length_nil, and_true, true_and, Nat.reduceEqDiff, Nat.reduceAdd, Nat.reduceLT, Nat.reduceLT, Int.toNat_natCast, Int.reduceNeg, Nat.zero_add, ↓reduceIte, Bool.not_true, eq_self, reduceCtorEq, Bool.false_eq_true, List.contains_cons, List.contains_nil, Nat.reduceBEq, Bool.or_false, h10, h11, decide_eq_false (show ¬ ((j : Int) < (i : Int)) by omega), g1, g2, s1, s2, m1, m2, rowc_len, List.length_set]
                            repeat (apply And.intro; focus (first | omega | (simp; done)))
                            exact ⟨⟨i + 1, j - 1, _, by simp, by rw [show ((j : Int) - 1) = ((j - 1 : Nat) : Int) by omega], hPs, hex, rfl⟩, by omega⟩
                        · have cj' : ¬ ((i : Int) ≤ (j : Int)) := by omega
                          obtain ⟨g1, g2, s1, s2, m1, m2⟩ := swapC hmo hlen (i := j) (j := a) (by omega) (by omega)
                          have hex := hM.exch (i := j) (j := a) (by omega) (by omega) (by omega) (by omega) h2
                          have hmid := hP.mid E.ord (by omega) (by omega)
                          simp (config := {maxSteps := 3000000}) only [run_reg, run_seq, run_exit, run_ret, run_cond, if_true, if_false, at_code_n, at_code_x, at_blk_x, at_rnd_x, at_fin_r, ops_nil, ops_grd, grd_ft, ops_mv, ops_pick, ops_bin, ops_ix, ops_load, ops_store, ev_t, ev_c, put_get, put_none, opv_mk, stb_some, sto_ptr, over_get, vnat, Stp, put_box_same, put_put, args0, List.getD_cons_zero, List.getD_cons_succ, vpick, vbin, vbinI, vix, vload, takeV, takeB, splice, V.cells, obsOk, List.map_cons, List.map_nil, List.length_cons, List.length_nil, and_true, true_and, Nat.reduceEqDiff, Nat.reduceAdd, Nat.reduceLT, Nat.reduceLT, Int.toNat_natCast, Nat.zero_add, ↓reduceIte, vret, rvAll, rvVal, resv_2, eq_self, reduceCtorEq, Bool.false_eq_true, List.contains_cons, List.contains_nil, Nat.reduceBEq, Bool.or_false, h10, h11, decide_eq_false cj', decide_eq_true (show (j : Int) < (i : Int) by omega), g1, g2, s1, s2, m1, m2, rowc_len, List.length_set]
                          repeat (apply And.intro; focus (first | omega | (simp; done)))
                          exact ⟨_, _, Wk.refl _, weak_re hwf, j, false, _, by omega, by omega, hex, hmid.1, hmid.2, rfl, rfl⟩
                    · simp (config := {maxSteps := 3000000}) only [run_skip, run_reg, run_blk, if_true, at_code_n, at_blk_n, at_rnd_n, ops_nil, ops_mv, ops_bin, ev_t, ev_c, put_get, opv_mk, over_get, rel_mk, vbin, vbinI, norm, and_true, true_and, Nat.reduceEqDiff, Int.reduceNeg, ↓reduceIte, eq_self, List.contains_cons, List.contains_nil, Nat.reduceBEq, Bool.or_false, h10]
                      repeat (apply And.intro; focus (first | omega | (simp; done)))
                      exact ⟨⟨i + 1, by simp, by omega, hP.up ci cq⟩, by omega⟩
                  · have ci' : ¬ ((i : Int) ≤ (j : Int)) := by omega
                    simp (config := {maxSteps := 3000000}) only [run_reg, run_seq, run_blk, run_exit, run_cond, if_false, at_code_n, at_code_x, at_blk_x, at_rnd_x, ops_nil, ops_grd, grd_ft, ops_mv, ops_pick, ops_bin, ev_t, ev_c, put_get, opv_mk, over_get, vnat, vpick, vbin, vbinI, true_and, Nat.reduceEqDiff, Int.toNat_natCast, ↓reduceIte, eq_self, Bool.false_eq_true, List.contains_cons, List.contains_nil, Nat.reduceBEq, Bool.or_false, Bool.or_true, h10, h11, decide_eq_false ci']
                    repeat (apply And.intro; focus (first | omega | (simp; done)))
                    refine run_loop [13, 123, 124, 125, 126, 127, 128, 129, 130, 131, 132, 133, 134, 135, 136, 137, 138, 139, 140, 141] (fun D s' => D 13 = .sc (.int .i64 j) ∧ s' = st.put b (rowc val M sp)) (fun D _ => 0) rfl ?_ ?_
                    · simp (config := {maxSteps := 3000000}) only [put_get, over_get, and_true, Nat.reduceEqDiff, ↓reduceIte, eq_self, Bool.false_eq_true, List.contains_cons, List.contains_nil, Nat.reduceBEq, Bool.or_false, Bool.or_true, h11]
                    · rintro D s' ⟨h11, rfl⟩
                      have cj' := ci'
                      obtain ⟨g1, g2, s1, s2, m1, m2⟩ := swapC hmo hlen (i := j) (j := a) (by omega) (by omega)
                      have hex := hM.exch (i := j) (j := a) (by omega) (by omega) (by omega) (by omega) h2
                      have hmid := hP.mid E.ord (by omega) (by omega)
                      simp (config := {maxSteps := 3000000}) only [run_reg, run_seq, run_exit, run_ret, run_cond, if_true, if_false, at_code_n, at_code_x, at_blk_x, at_rnd_x, at_fin_r, ops_nil, ops_grd, grd_ft, ops_mv, ops_pick, ops_bin, ops_ix, ops_load, ops_store, ev_t, ev_c, put_get, put_none, opv_mk, stb_some, sto_ptr, over_get, Stp, put_box_same, put_put, args0, List.getD_cons_zero, List.getD_cons_succ, vpick, vbin, vbinI, vix, vload, takeV, takeB, splice, V.cells, obsOk, List.map_cons, List.map_nil, List.length_cons, List.length_nil, and_true, true_and, Nat.reduceEqDiff, Nat.reduceAdd, Nat.reduceLT, Nat.reduceLT, Int.toNat_natCast, Nat.zero_add, ↓reduceIte, vret, rvAll, rvVal, resv_2, eq_self, reduceCtorEq, Bool.false_eq_true, List.contains_cons, List.contains_nil, Nat.reduceBEq, Bool.or_false, h10, h11, decide_eq_false cj', decide_eq_true (show (j : Int) < (i : Int) by omega), g1, g2, s1, s2, m1, m2, rowc_len, List.length_set]
                      repeat (apply And.intro; focus (first | omega | (simp; done)))
                      exact ⟨_, _, Wk.refl _, weak_re hwf, j, false, _, by omega, by omega, hex, hmid.1, hmid.2, rfl, rfl⟩
          · have cj' : ¬ ((i : Int) ≤ (j : Int)) := by omega
            obtain ⟨g1, g2, s1, s2, m1, m2⟩ := swapC hmo hlen (i := j) (j := a) (by omega) (by omega)
            have hex := hM.exch (i := j) (j := a) (by omega) (by omega) (by omega) (by omega) h2
            have hmid := hP.mid E.ord (by omega) (by omega)
            simp (config := {maxSteps := 3000000}) only [run_reg, run_seq, run_exit, run_ret, run_cond, if_true, if_false, at_code_n, at_code_x, at_code_r, at_blk_x, at_rnd_x, at_fin_r, ops_nil, ops_grd, grd_ft, ops_mv, ops_pick, ops_bin, ops_ix, ops_load, ops_store, ev_t, ev_c, put_get, put_none, opv_mk, stb_some, sto_ptr, over_get, vnat, Stp, put_box_same, put_put, args0, List.getD_cons_zero, List.getD_cons_succ, vpick, vbin, vbinI, vix, vload, takeV, takeB, splice, V.cells, obsOk, List.map_cons, List.map_nil, List.length_cons, List.length_nil, and_true, true_and, Nat.reduceEqDiff, Nat.reduceAdd, Nat.reduceLT, Nat.reduceLT, Int.toNat_natCast, Nat.zero_add, ↓reduceIte, vret, rvAll, rvVal, resv_2, eq_self, reduceCtorEq, Bool.false_eq_true, List.contains_cons, List.contains_nil, Nat.reduceBEq, Bool.or_false, h10, h11, decide_eq_false cj', decide_eq_true (show (j : Int) < (i : Int) by omega), g1, g2, s1, s2, m1, m2, rowc_len, List.length_set]
            repeat (apply And.intro; focus (first | omega | (simp; done)))
            exact ⟨_, _, Wk.refl _, weak_re hwf, j, true, _, by omega, by omega, hex, hmid.1, hmid.2, rfl, rfl⟩
      · simp (config := {maxSteps := 3000000}) only [run_skip, run_reg, run_blk, if_true, at_code_n, at_blk_n, at_rnd_n, ops_nil, ops_mv, ops_bin, ev_t, ev_c, put_get, opv_mk, over_get, rel_mk, vbin, vbinI, norm, and_true, true_and, Nat.reduceEqDiff, Int.reduceNeg, ↓reduceIte, eq_self, List.contains_cons, List.contains_nil, Nat.reduceBEq, Bool.or_false, h10]
        repeat (apply And.intro; focus (first | omega | (simp; done)))
        exact ⟨⟨i + 1, by simp, by omega, hP.up ci cq⟩, by omega⟩
    · have ci' : ¬ ((i : Int) ≤ (j : Int)) := by omega
      simp (config := {maxSteps := 3000000}) only [run_reg, run_seq, run_blk, run_exit, run_cond, if_false, at_code_n, at_code_x, at_blk_x, at_rnd_x, ops_nil, ops_grd, grd_ft, ops_mv, ops_pick, ops_bin, ev_t, ev_c, put_get, opv_mk, over_get, vnat, vpick, vbin, vbinI, true_and, Nat.reduceEqDiff, Int.toNat_natCast, ↓reduceIte, eq_self, Bool.false_eq_true, List.contains_cons, List.contains_nil, Nat.reduceBEq, Bool.or_false, h10, decide_eq_false ci']
      repeat (apply And.intro; focus (first | omega | (simp; done)))
      refine run_loop [13, 50, 51, 52, 53, 54, 55, 56, 57, 58, 59, 60, 61, 62, 63, 64, 65, 66, 67, 68] (fun D s' => D 13 = .sc (.int .i64 j) ∧ s' = st.put b (rowc val M sp)) (fun D _ => 0) rfl ?_ ?_
      · simp (config := {maxSteps := 3000000}) only [put_get, over_get, and_true, Nat.reduceEqDiff, ↓reduceIte, eq_self, Bool.false_eq_true, List.contains_cons, List.contains_nil, Nat.reduceBEq, Bool.or_false]
      · rintro D s' ⟨h11, rfl⟩
        have cj' := ci'
        obtain ⟨g1, g2, s1, s2, m1, m2⟩ := swapC hmo hlen (i := j) (j := a) (by omega) (by omega)
        have hex := hM.exch (i := j) (j := a) (by omega) (by omega) (by omega) (by omega) h2
        have hmid := hP.mid E.ord (by omega) (by omega)
        simp (config := {maxSteps := 3000000}) only [run_reg, run_seq, run_exit, run_ret, run_cond, if_true, if_false, at_code_n, at_code_x, at_code_r, at_blk_x, at_rnd_x, at_fin_r, ops_nil, ops_grd, grd_ft, ops_mv, ops_pick, ops_bin, ops_ix, ops_load, ops_store, ev_t, ev_c, put_get, put_none, opv_mk, stb_some, sto_ptr, over_get, Stp, put_box_same, put_put, args0, List.getD_cons_zero, List.getD_cons_succ, vpick, vbin, vbinI, vix, vload, takeV, takeB, splice, V.cells, obsOk, List.map_cons, List.map_nil, List.length_cons, List.length_nil, and_true, true_and, Nat.reduceEqDiff, Nat.reduceAdd, Nat.reduceLT, Nat.reduceLT, Int.toNat_natCast, Nat.zero_add, ↓reduceIte, vret, rvAll, rvVal, resv_2, eq_self, reduceCtorEq, Bool.false_eq_true, List.contains_cons, List.contains_nil, Nat.reduceBEq, Bool.or_false, h10, h11, decide_eq_false cj', decide_eq_true (show (j : Int) < (i : Int) by omega), g1, g2, s1, s2, m1, m2, rowc_len, List.length_set]
        repeat (apply And.intro; focus (first | omega | (simp; done)))
        exact ⟨_, _, Wk.refl _, weak_re hwf, j, true, _, by omega, by omega, hex, hmid.1, hmid.2, rfl, rfl⟩
set_option maxRecDepth 100000 in
set_option maxHeartbeats 16000000 in
theorem cequal_v (hf : cFun P f = some (CEqual)) (E : EltC P g val lt) (hmo : mono (rowc val L sp)) {p : Nat} (h1 : a ≤ p) (h3 : p < c) (h2 : c ≤ L.length) (hl : L.length < 4611686018427387904) :
    VCalls P f [dataV b L.length cap, .sc (.int .i64 a), .sc (.int .i64 c), .sc (.int .i64 p), cmpV g] (st.put b (rowc val L sp)) fun r s => ∃ (m : Nat) (M : List α), a < m ∧ m ≤ c ∧ Mix a c L M ∧ (∀ k, a ≤ k → k < m → lt L[p]! M[k]! = false) ∧ (∀ k, m ≤ k → k < c → lt L[p]! M[k]! = true) ∧ r = .sc (.int .i64 m) ∧ s = st.put b (rowc val M sp) := by
  refine vcalls_enter hf (Nat.le_of_ble_eq_true rfl) fun hwf hok => ?_
  show Run _ (CEqual).body (.fin (finQ (CEqual).res _)) _ _
  unfold CEqual
  obtain ⟨g1, g2, s1, s2, m1, m2⟩ := swapC hmo (rfl : L.length = L.length) (i := a) (j := p) (by omega) (by omega)
  have hM := (Mix.refl (a := a) (b := c) (L := L)).exch (i := a) (j := p) (by omega) (by omega) (by omega) (by omega) h2
  have hA : (exch L a p)[a]! = L[p]! := by
    rw [exch_get (by omega) (by omega)]
    by_cases e : a = p
    · rw [if_pos e, e]
    · rw [if_neg e, if_pos rfl]
  simp (config := {maxSteps := 3000000}) only [run_reg, run_seq, run_blk, at_code_n, ops_nil, ops_mv, ops_bin, ops_ix, ops_load, ops_store, ev_t, ev_c, put_get, put_none, opv_mk, stb_some, sto_ptr, Stp, put_box_same, put_put, args0, List.getD_cons_zero, List.getD_cons_succ, vbin, vbinI, norm, vix, vload, takeV, takeB, splice, V.cells, obsOk, List.length_cons, List.length_nil, and_true, true_and, Nat.reduceEqDiff, Nat.reduceAdd, Nat.reduceLT, Nat.reduceLT, Int.toNat_natCast, Int.reduceNeg, Nat.zero_add, ↓reduceIte, eq_self, reduceCtorEq, dataV, cmpV, g1, g2, s1, s2, m1, m2, rowc_len, List.length_set]
  repeat (apply And.intro; focus (first | omega | (simp; done)))
  refine run_loop [11, 12, 31, 32, 33, 34, 35, 36, 37, 38, 39, 40, 41, 42, 43, 44, 45, 46, 47, 48, 49, 50, 51, 52, 53, 54, 55, 56, 57, 58, 59, 60, 61, 62, 63, 64, 65, 66, 67, 68, 69, 70, 71, 72, 73, 74, 75, 76, 77, 78, 79, 80, 81, 82, 83, 84, 85, 86, 87, 88] (fun B s => ∃ (i j : Nat) (M : List α), B 11 = .sc (.int .i64 i) ∧ B 12 = .sc (.int .i64 j) ∧ Part (fun p x => !lt p x) a c i j M ∧ Mix a c L M ∧ M[a]! = L[p]! ∧ s = st.put b (rowc val M sp)) (fun B _ => vnat (B 12) + 1 - vnat (B 11)) rfl ?_ ?_
  · simp (config := {maxSteps := 3000000}) only [put_get, Nat.reduceEqDiff, ↓reduceIte, eq_self]
    exact ⟨a + 1, c - 1, _, by simp, by rw [show ((c : Int) - 1) = ((c - 1 : Nat) : Int) by omega], Part.start (by omega), hM, hA, rfl⟩
  · clear hM hA g1 g2 s1 s2 m1 m2
    rintro G s ⟨i, j, M, h10, h11, hP, hM, hA, rfl⟩
    have hlen := hM.len
    have ij0 := hP.ij
    simp (config := {maxSteps := 3000000}) only [run_seq, run_blk, vnat, Int.toNat_natCast, h10, h11]
    obtain ⟨i0, ei0⟩ : ∃ i0, i0 = i := ⟨_, rfl⟩
    obtain ⟨j0, ej0⟩ : ∃ j0, j0 = j := ⟨_, rfl⟩
    have ki := Nat.le_of_eq ei0
    have kj := Nat.le_of_eq ej0.symm
    have k10 := h10
    have k11 := h11
    refine run_loop [11, 31, 32, 33, 34, 35, 36, 37, 38, 39, 40, 41, 42, 43, 44, 45, 46, 47, 48, 49] (fun C s' => ∃ (i : Nat), C 11 = .sc (.int .i64 i) ∧ i0 ≤ i ∧ Part (fun p x => !lt p x) a c i j M ∧ s' = st.put b (rowc val M sp)) (fun C _ => j + 1 - vnat (C 11)) rfl ?_ ?_
    · simp (config := {maxSteps := 3000000}) only [over_get, and_true, ↓reduceIte, eq_self, List.contains_cons, List.contains_nil, Nat.reduceBEq, Bool.or_false, h10]
      exact ⟨i, rfl, ki, hP⟩
    · rintro C s' ⟨i, h10, ki, hP, rfl⟩
      have ai := hP.ai
      have ij := hP.ij
      have jc := hP.jc
      by_cases ci : i ≤ j
      · simp (config := {maxSteps := 3000000}) only [run_reg, run_seq, ops_grd, grd_tt, ops_mv, ops_bin, ops_ix, ops_load, ev_t, put_get, opv_mk, over_get, vnat, put_box_same, args0, List.getD_cons_zero, List.getD_cons_succ, vbin, vbinI, vix, vload, takeV, takeB, ops_calv, clv_func, List.map_cons, List.map_nil, List.nil_append, List.append_nil, and_true, true_and, Nat.reduceEqDiff, Int.toNat_natCast, Nat.zero_add, ↓reduceIte, eq_self, reduceCtorEq, Bool.false_eq_true, List.contains_cons, List.contains_nil, Nat.reduceBEq, Bool.or_false, Bool.or_true, List.not_mem_nil, h10, h11, decide_eq_true (show (i : Int) ≤ (j : Int) by omega), rowc_get (show i < M.length by omega), rowc_get (show a < M.length by omega), rowc_len, rowc_mono hmo hlen, E.call, List.map_nil]
        repeat (apply And.intro; focus (first | omega | (simp; done)))
        refine Cal.mk (E.less _ _ _) ?_
        rintro _ _ ⟨z5, hz5, rfl, rfl⟩ -
        simp (config := {maxSteps := 3000000}) only [run_cond, at_code_n, ops_nil, ops_grd, grd_tt, ops_pick, ops_bin, ops_un, ev_t, ev_c, put_get, opv_mk, vpick, vbin, vbinI, vun, obsOk, true_and, Nat.reduceEqDiff, ↓reduceIte, eq_self, hz5]
        cases cq : lt M[a]! M[i]!
        · simp (config := {maxSteps := 3000000}) only [run_skip, run_reg, run_blk, if_true, at_code_n, at_blk_n, at_rnd_n, ops_nil, ops_mv, ops_bin, ev_t, ev_c, put_get, opv_mk, over_get, rel_mk, vbin, vbinI, norm, and_true, true_and, Nat.reduceEqDiff, Int.reduceNeg, ↓reduceIte, Bool.not_false, eq_self, List.contains_cons, List.contains_nil, Nat.reduceBEq, Bool.or_false, h10]
          repeat (apply And.intro; focus (first | omega | (simp; done)))
          exact ⟨⟨i + 1, by simp, by omega, hP.up ci (by_not cq)⟩, by omega⟩
        · simp (config := {maxSteps := 3000000}) only [run_seq, run_blk, run_exit, if_false, at_code_n, at_code_x, at_blk_x, at_rnd_x, ↓reduceIte, Bool.not_true, eq_self]
          repeat (apply And.intro; focus (first | omega | (simp; done)))
          refine run_loop [12, 50, 51, 52, 53, 54, 55, 56, 57, 58, 59, 60, 61, 62, 63, 64, 65, 66, 67] (fun D s' => ∃ (j : Nat), D 12 = .sc (.int .i64 j) ∧ j ≤ j0 ∧ Part (fun p x => !lt p x) a c i j M ∧ s' = st.put b (rowc val M sp)) (fun D _ => vnat (D 12)) rfl ?_ ?_
          · simp (config := {maxSteps := 3000000}) only [put_get, over_get, and_true, Nat.reduceEqDiff, ↓reduceIte, eq_self, Bool.false_eq_true, List.contains_cons, List.contains_nil, Nat.reduceBEq, Bool.or_false, Bool.or_true, h11]
            exact ⟨j, rfl, kj, hP⟩
          · rintro D s' ⟨j, h11, kj, hP, rfl⟩
            have ij := hP.ij
            have jc := hP.jc
            by_cases cj : i ≤ j
            · simp (config := {maxSteps := 3000000}) only [run_reg, run_seq, ops_grd, grd_tt, ops_mv, ops_bin, ops_ix, ops_load, ev_t, put_get, opv_mk, over_get, vnat, put_box_same, args0, List.getD_cons_zero, List.getD_cons_succ, vbin, vbinI, vix, vload, takeV, takeB, ops_calv, clv_func, List.map_cons, List.map_nil, List.nil_append, List.append_nil, and_true, true_and, Nat.reduceEqDiff, Int.toNat_natCast, Nat.zero_add, ↓reduceIte, eq_self, reduceCtorEq, Bool.false_eq_true, List.contains_cons, List.contains_nil, Nat.reduceBEq, Bool.or_false, List.not_mem_nil, h10, h11, decide_eq_true (show (i : Int) ≤ (j : Int) by omega), rowc_get (show j < M.length by omega), rowc_get (show a < M.length by omega), rowc_len, rowc_mono hmo hlen, E.call, List.map_nil]
              repeat (apply And.intro; focus (first | omega | (simp; done)))
              refine Cal.mk (E.less _ _ _) ?_
              rintro _ _ ⟨z6, hz6, rfl, rfl⟩ -
              simp (config := {maxSteps := 3000000}) only [run_cond, at_code_n, ops_nil, ops_grd, grd_tt, ops_pick, ops_bin, ev_t, ev_c, put_get, opv_mk, vpick, vbin, vbinI, obsOk, true_and, Nat.reduceEqDiff, ↓reduceIte, eq_self, hz6]
              cases cr : lt M[a]! M[j]!
              · obtain ⟨g1, g2, s1, s2, m1, m2⟩ := swapC hmo hlen (i := i) (j := j) (by omega) (by omega)
                have hex := hM.exch (i := i) (j := j) (by omega) (by omega) (by omega) (by omega) h2
                have hPs := hP.swap cj (by_not cq) (by_not cr) (by omega)
                have hlt := hP.lt cj (by_not cq) (by_not cr)
                have hhd := hP.head cj (by omega)
                simp (config := {maxSteps := 3000000}) only [run_skip, run_reg, run_seq, run_exit, run_cond, if_false, at_code_n, at_code_x, at_blk_n, at_blk_x, at_rnd_n, at_rnd_x, ops_nil, ops_mv, ops_bin, ops_ix, ops_load, ops_store, ev_t, ev_c, put_get, put_none, opv_mk, stb_some, sto_ptr, over_get, rel_mk, Stp, put_box_same, put_put, args0, List.getD_cons_zero, vbin, vbinI, norm, vix, vload, takeV, takeB, splice, V.cells, obsOk, List.length_cons, List.length_nil, and_true, true_and, Nat.reduceEqDiff, Nat.reduceAdd, Nat.reduceLT, Nat.reduceLT, Int.toNat_natCast, Int.reduceNeg, Nat.zero_add, ↓reduceIte, eq_self, reduceCtorEq, Bool.false_eq_true, List.contains_cons, List.contains_nil, Nat.reduceBEq, Bool.or_false, h10, h11, decide_eq_false (show ¬ ((j : Int) < (i : Int)) by omega), g1, g2, s1, s2, m1, m2, rowc_len, List.length_set]
                repeat (apply And.intro; focus (first | omega | (simp; done)))
                exact ⟨⟨i + 1, j - 1, _, by simp, by rw [show ((j : Int) - 1) = ((j - 1 : Nat) : Int) by omega], hPs, hex, hhd.trans hA, rfl⟩, by omega⟩
              · simp (config := {maxSteps := 3000000}) only [run_skip, run_reg, run_blk, if_true, at_code_n, at_blk_n, at_rnd_n, ops_nil, ops_mv, ops_bin, ev_t, ev_c, put_get, opv_mk, over_get, rel_mk, vbin, vbinI, norm, and_true, true_and, Nat.reduceEqDiff, Int.reduceNeg, ↓reduceIte, eq_self, List.contains_cons, List.contains_nil, Nat.reduceBEq, Bool.or_false, h11]
                repeat (apply And.intro; focus (first | omega | (simp; done)))
                exact ⟨⟨j - 1, by rw [show ((j : Int) - 1) = ((j - 1 : Nat) : Int) by omega], by omega, hP.down cj (by_not cr)⟩, by omega⟩
            · have cj' : ¬ ((i : Int) ≤ (j : Int)) := by omega
              simp (config := {maxSteps := 3000000}) only [run_reg, run_seq, run_exit, run_ret, run_cond, if_true, if_false, at_code_n, at_code_x, at_blk_x, at_rnd_x, at_fin_r, ops_nil, ops_grd, grd_ft, ops_mv, ops_pick, ops_bin, ev_t, ev_c, put_get, opv_mk, over_get, vnat, vpick, vbin, vbinI, and_true, true_and, Nat.reduceEqDiff, Int.toNat_natCast, ↓reduceIte, vret, rvAll, rvVal, resv_1, eq_self, reduceCtorEq, Bool.false_eq_true, List.contains_cons, List.contains_nil, Nat.reduceBEq, Bool.or_false, h10, h11, decide_eq_false cj', decide_eq_true (show (j : Int) < (i : Int) by omega)]
              repeat (apply And.intro; focus (first | omega | (simp; done)))
              exact ⟨_, _, Wk.refl _, weak_re hwf, i, M, by omega, by omega, hM, fun k k1 k2 => by
                rw [← hA]
                by_cases e : k = a
                · rw [e]; exact E.ord.irr _
                · exact not_by (hP.lo k (by omega) k2), fun k k1 k2 => by
                rw [← hA]
                exact not_by (hP.hi k (by omega) k2), rfl, rfl⟩
      · have ci' : ¬ ((i : Int) ≤ (j : Int)) := by omega
        simp (config := {maxSteps := 3000000}) only [run_reg, run_seq, run_blk, run_exit, run_cond, if_false, at_code_n, at_code_x, at_blk_x, at_rnd_x, ops_nil, ops_grd, grd_ft, ops_mv, ops_pick, ops_bin, ev_t, ev_c, put_get, opv_mk, over_get, vnat, vpick, vbin, vbinI, true_and, Nat.reduceEqDiff, Int.toNat_natCast, ↓reduceIte, eq_self, Bool.false_eq_true, List.contains_cons, List.contains_nil, Nat.reduceBEq, Bool.or_false, Bool.or_true, h10, h11, decide_eq_false ci']
        repeat (apply And.intro; focus (first | omega | (simp; done)))
        refine run_loop [12, 50, 51, 52, 53, 54, 55, 56, 57, 58, 59, 60, 61, 62, 63, 64, 65, 66, 67] (fun D s' => D 12 = .sc (.int .i64 j) ∧ s' = st.put b (rowc val M sp)) (fun D _ => 0) rfl ?_ ?_
        · simp (config := {maxSteps := 3000000}) only [put_get, over_get, and_true, Nat.reduceEqDiff, ↓reduceIte, eq_self, Bool.false_eq_true, List.contains_cons, List.contains_nil, Nat.reduceBEq, Bool.or_false, Bool.or_true, h11]
        · rintro D s' ⟨h11, rfl⟩
          have cj' := ci'
          simp (config := {maxSteps := 3000000}) only [run_reg, run_seq, run_exit, run_ret, run_cond, if_true, if_false, at_code_n, at_code_x, at_blk_x, at_rnd_x, at_fin_r, ops_nil, ops_grd, grd_ft, ops_mv, ops_pick, ops_bin, ev_t, ev_c, put_get, opv_mk, over_get, vpick, vbin, vbinI, and_true, true_and, Nat.reduceEqDiff, ↓reduceIte, vret, rvAll, rvVal, resv_1, eq_self, reduceCtorEq, Bool.false_eq_true, List.contains_cons, List.contains_nil, Nat.reduceBEq, Bool.or_false, h10, h11, decide_eq_false cj', decide_eq_true (show (j : Int) < (i : Int) by omega)]
          repeat (apply And.intro; focus (first | omega | (simp; done)))
          exact ⟨_, _, Wk.refl _, weak_re hwf, i, M, by omega, by omega, hM, fun k k1 k2 => by
            rw [← hA]
            by_cases e : k = a
            · rw [e]; exact E.ord.irr _
            · exact not_by (hP.lo k (by omega) k2), fun k k1 k2 => by
            rw [← hA]
            exact not_by (hP.hi k (by omega) k2), rfl, rfl⟩
end
end Go.Proofs.Ytlngegoamfklgaa
