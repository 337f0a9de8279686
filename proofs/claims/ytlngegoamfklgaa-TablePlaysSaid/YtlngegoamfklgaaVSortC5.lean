/- Go's own sort by a function: the choice of a pivot, and the breaking of patterns: contracts. Printed by a program (gen_sort5.py). No program here. -/
import Derived.Test.YtlngegoamfklgaaVSortC2
namespace Go.Proofs.Ytlngegoamfklgaa
open Go

section
variable {P : Program} {α : Type} [Inhabited α] {val : α → V × V} {lt : α → α → Bool} {g f fsift : FuncId} {st : St} {b cap a c : Nat} {L : List α} {sp : List V}
variable {fo fm fa fpow fnext : FuncId} {r : Nat}
set_option maxRecDepth 100000 in
set_option maxHeartbeats 16000000 in
theorem cord2_v (hf : cFun P f = some (COrd2)) (E : EltC P g val lt) (hbr : b < r) {i j n : Nat} (hi : i < L.length) (hj : j < L.length) (hn : n < 4611686018427387904) (hmo : mono (rowc val L sp)) (hl : L.length < 4611686018427387904) :
    VCalls P f [dataV b L.length cap, .sc (.int .i64 i), .sc (.int .i64 j), ptrV r, cmpV g] ((st.put b (rowc val L sp)).put r [.sc (.int .i64 n)]) fun v s => ∃ (x y m : Nat), ((x = i ∧ y = j) ∨ (x = j ∧ y = i)) ∧ m ≤ n + 1 ∧ v = .tup [.sc (.int .i64 x), .sc (.int .i64 y)] ∧ s = (st.put b (rowc val L sp)).put r [.sc (.int .i64 m)] := by
  refine vcalls_enter hf (Nat.le_of_ble_eq_true rfl) fun hwf hok => ?_
  show Run _ (COrd2).body (.fin (finQ (COrd2).res _)) _ _
  unfold COrd2
  simp (config := {maxSteps := 3000000}) only [run_reg, run_seq, at_code_n, ops_nil, ops_mv, ops_ix, ops_load, ev_t, ev_c, put_get, opv_mk, put_box_same, args0, List.getD_cons_zero, List.getD_cons_succ, vix, vload, takeV, takeB, ops_calv, clv_func, ptrV, List.map_cons, List.map_nil, List.nil_append, List.append_nil, and_true, true_and, Nat.reduceEqDiff, Int.toNat_natCast, Nat.zero_add, ↓reduceIte, eq_self, reduceCtorEq, List.not_mem_nil, dataV, cmpV, put_box_ne (Nat.ne_of_lt hbr), rowc_get hi, rowc_get hj, rowc_len, hmo, E.call, List.map_nil]
  repeat (apply And.intro; focus (first | omega | (simp; done)))
  refine Cal.mk (E.less _ _ _) ?_
  rintro _ _ ⟨z1, hz1, rfl, rfl⟩ -
  simp (config := {maxSteps := 3000000}) only [run_cond, at_code_n, ops_nil, ops_bin, ev_t, ev_c, put_get, opv_mk, vbin, vbinI, obsOk, true_and, ↓reduceIte, eq_self, hz1]
  cases cq : lt L[j]! L[i]!
  · simp (config := {maxSteps := 3000000}) only [run_skip, run_reg, run_seq, run_ret, if_false, at_code_n, at_fin_r, ops_nil, ops_mv, ev_t, put_get, opv_mk, args0, List.getD_cons_zero, List.getD_cons_succ, vload, takeV, takeB, V.cells, List.map_cons, List.map_nil, and_true, true_and, Nat.reduceEqDiff, ↓reduceIte, vret, rvAll, rvVal, resv_2, eq_self]
    exact ⟨_, _, Wk.refl _, weak_re hwf, i, j, n, .inl ⟨rfl, rfl⟩, by omega, rfl, rfl⟩
  · simp (config := {maxSteps := 3000000}) only [run_reg, run_seq, run_ret, if_true, at_code_n, at_code_r, at_fin_r, ops_nil, ops_mv, ops_bin, ops_load, ops_nilck, ops_store, ev_t, ev_c, put_get, put_none, opv_mk, stb_some, sto_ptr, Stp, put_box_same, put_put, args0, List.getD_cons_zero, List.getD_cons_succ, vbin, vbinI, norm, vnil, vload, takeV, takeB, mono_sc, splice, V.cells, obsOk, List.map_cons, List.map_nil, List.length_cons, List.length_nil, List.getElem?_cons_zero, List.take_zero, List.drop_succ_cons, List.nil_append, List.append_nil, List.drop_nil, and_true, true_and, Nat.reduceEqDiff, Nat.reduceLT, Nat.reduceLeDiff, Nat.reduceLT, Int.reduceNeg, Nat.zero_add, ↓reduceIte, vret, rvAll, rvVal, resv_2, eq_self]
    repeat (apply And.intro; focus (first | omega | (simp; done)))
    exact ⟨_, _, Wk.refl _, weak_re hwf, j, i, n + 1, .inr ⟨rfl, rfl⟩, by omega, rfl, by simp⟩
set_option maxRecDepth 100000 in
set_option maxHeartbeats 16000000 in
theorem cmed_v (hf : cFun P f = some (CMed fo)) (hfo : cFun P fo = some (COrd2)) (E : EltC P g val lt) (hbr : b < r) {i j k n : Nat} (hi : i < L.length) (hj : j < L.length) (hk : k < L.length) (hn : n < 4611686018427387) (hmo : mono (rowc val L sp)) (hl : L.length < 4611686018427387904) :
    VCalls P f [dataV b L.length cap, .sc (.int .i64 i), .sc (.int .i64 j), .sc (.int .i64 k), ptrV r, cmpV g] ((st.put b (rowc val L sp)).put r [.sc (.int .i64 n)]) fun v s => ∃ (x m : Nat), (x = i ∨ x = j ∨ x = k) ∧ m ≤ n + 3 ∧ v = .sc (.int .i64 x) ∧ s = (st.put b (rowc val L sp)).put r [.sc (.int .i64 m)] := by
  refine vcalls_enter hf (Nat.le_of_ble_eq_true rfl) fun hwf hok => ?_
  show Run _ (CMed fo).body (.fin (finQ (CMed fo).res _)) _ _
  unfold CMed
  simp (config := {maxSteps := 3000000}) only [run_reg, run_seq, at_code_n, ops_nil, ops_mv, ops_call, ev_t, ev_c, put_get, opv_mk, args0, List.getD_cons_zero, List.getD_cons_succ, ptrV, List.map_cons, List.map_nil, true_and, Nat.reduceEqDiff, ↓reduceIte, eq_self, reduceCtorEq, dataV, cmpV]
  refine Cal.mk (cord2_v (n := n) hfo E hbr (i := i) (j := j) (by omega) (by omega) (by omega) hmo hl) ?_
  rintro _ _ ⟨x1, y1, n1, h1, m1, rfl, rfl⟩ -
  simp (config := {maxSteps := 3000000}) only [run_reg, run_seq, at_code_n, ops_nil, ops_mv, ops_ext, ops_call, ev_t, put_get, opv_mk, args0, List.getD_cons_zero, List.getD_cons_succ, vext, obsOk, List.map_cons, List.map_nil, List.getElem?_cons_zero, List.getElem?_cons_succ, true_and, Nat.reduceEqDiff, ↓reduceIte, eq_self, reduceCtorEq]
  refine Cal.mk (cord2_v (n := n1) hfo E hbr (i := y1) (j := k) (by omega) (by omega) (by omega) hmo hl) ?_
  rintro _ _ ⟨x2, y2, n2, h2, m2, rfl, rfl⟩ -
  simp (config := {maxSteps := 3000000}) only [run_reg, run_seq, at_code_n, ops_nil, ops_mv, ops_ext, ops_call, ev_t, put_get, opv_mk, args0, List.getD_cons_zero, List.getD_cons_succ, vext, obsOk, List.map_cons, List.map_nil, List.getElem?_cons_zero, List.getElem?_cons_succ, true_and, Nat.reduceEqDiff, ↓reduceIte, eq_self, reduceCtorEq]
  refine Cal.mk (cord2_v (n := n2) hfo E hbr (i := x1) (j := x2) (by omega) (by omega) (by omega) hmo hl) ?_
  rintro _ _ ⟨x3, y3, n3, h3, m3, rfl, rfl⟩ -
  simp (config := {maxSteps := 3000000}) only [run_reg, run_seq, run_ret, at_code_n, at_fin_r, ops_nil, ops_mv, ops_ext, ev_t, put_get, opv_mk, vext, obsOk, List.getElem?_cons_zero, List.getElem?_cons_succ, and_true, true_and, Nat.reduceEqDiff, ↓reduceIte, vret, rvAll, rvVal, resv_1, eq_self]
  exact ⟨_, _, Wk.refl _, weak_re hwf, y3, n3, by omega, by omega, rfl, rfl⟩
set_option maxRecDepth 100000 in
set_option maxHeartbeats 16000000 in
theorem cmeda_v (hf : cFun P f = some (CMedA fm)) (hfm : cFun P fm = some (CMed fo)) (hfo : cFun P fo = some (COrd2)) (E : EltC P g val lt) (hbr : b < r) {i n : Nat} (hi : 1 ≤ i) (hj : i + 1 < L.length) (hn : n < 4611686018427387) (hmo : mono (rowc val L sp)) (hl : L.length < 4611686018427387904) :
    VCalls P f [dataV b L.length cap, .sc (.int .i64 i), ptrV r, cmpV g] ((st.put b (rowc val L sp)).put r [.sc (.int .i64 n)]) fun v s => ∃ (x m : Nat), i ≤ x + 1 ∧ x ≤ i + 1 ∧ m ≤ n + 3 ∧ v = .sc (.int .i64 x) ∧ s = (st.put b (rowc val L sp)).put r [.sc (.int .i64 m)] := by
  refine vcalls_enter hf (Nat.le_of_ble_eq_true rfl) fun hwf hok => ?_
  show Run _ (CMedA fm).body (.fin (finQ (CMedA fm).res _)) _ _
  unfold CMedA
  have e1 : ((i : Int) - 1) = ((i - 1 : Nat) : Int) := by omega
  have e2 : ((i : Int) + 1) = ((i + 1 : Nat) : Int) := by omega
  simp (config := {maxSteps := 3000000}) only [run_reg, run_seq, at_code_n, ops_nil, ops_mv, ops_bin, ops_call, ev_t, ev_c, put_get, opv_mk, args0, List.getD_cons_zero, List.getD_cons_succ, vbin, vbinI, norm, ptrV, List.map_cons, List.map_nil, true_and, Nat.reduceEqDiff, Int.reduceNeg, ↓reduceIte, eq_self, reduceCtorEq, dataV, cmpV, e1, e2]
  repeat (apply And.intro; focus (first | omega | (simp; done)))
  refine Cal.mk (cmed_v (n := n) hfm hfo E hbr (i := i - 1) (j := i) (k := i + 1) (by omega) (by omega) (by omega) (by omega) hmo hl) ?_
  rintro _ _ ⟨x, m, hx, hm, rfl, rfl⟩ -
  simp (config := {maxSteps := 3000000}) only [run_ret, at_code_n, at_fin_r, ops_nil, ops_mv, ev_t, put_get, opv_mk, obsOk, and_true, true_and, ↓reduceIte, vret, rvAll, rvVal, resv_1, eq_self]
  exact ⟨_, _, Wk.refl _, weak_re hwf, x, m, by omega, by omega, by omega, rfl, rfl⟩
set_option maxRecDepth 100000 in
set_option maxHeartbeats 16000000 in
theorem cpivot_v (hf : cFun P f = some (CPivot fa fm)) (hfa : cFun P fa = some (CMedA fm)) (hfm : cFun P fm = some (CMed fo)) (hfo : cFun P fo = some (COrd2)) (E : EltC P g val lt) (h1 : a < c) (h2 : c ≤ L.length) (hmo : mono (rowc val L sp)) (hl : L.length < 4611686018427387904) :
    VCalls P f [dataV b L.length cap, .sc (.int .i64 a), .sc (.int .i64 c), cmpV g] (st.put b (rowc val L sp)) fun v s => ∃ (p : Nat) (h : Int), a ≤ p ∧ p < c ∧ v = .tup [.sc (.int .i64 p), .sc (.int .i64 h)] ∧ s = st.put b (rowc val L sp) := by
  refine vcalls_enter hf (Nat.le_of_ble_eq_true rfl) fun hwf hok => ?_
  show Run _ (CPivot fa fm).body (.fin (finQ (CPivot fa fm).res _)) _ _
  unfold CPivot
  have e0 : (c : Int) - (a : Int) = ((c - a : Nat) : Int) := by omega
  have e1 : (a : Int) + ((c - a : Nat) : Int) / 4 * 1 = ((a + (c - a) / 4 * 1 : Nat) : Int) := by omega
  have e2 : (a : Int) + ((c - a : Nat) : Int) / 4 * 2 = ((a + (c - a) / 4 * 2 : Nat) : Int) := by omega
  have e3 : (a : Int) + ((c - a : Nat) : Int) / 4 * 3 = ((a + (c - a) / 4 * 3 : Nat) : Int) := by omega
  simp (config := {maxSteps := 3000000}) only [run_reg, run_seq, run_cond, at_code_n, ops_nil, ops_mv, ops_bin, ops_alc, ev_t, ev_c, put_get, opv_mk, put_sz, args0, List.getD_cons_zero, List.getD_cons_succ, vbin, vbinI, norm, ptrV, obsOk, true_and, Nat.reduceEqDiff, Int.reduceLT, Int.reduceNeg, Nat.mul_one, ↓reduceIte, eq_self, dataV, cmpV, e0, e1, e2, e3]
  repeat (apply And.intro; focus (first | omega | (simp; done)))
  intro r hr
  have hbr : b < r := by omega
  have hrn : (st.put b (rowc val L sp)).box r = none := by
    rw [put_box_ne (Nat.ne_of_gt hbr)]
    cases e : st.box r with
    | none => rfl
    | some X =>
      have := hwf.lt.box r X (by rw [put_box_ne (Nat.ne_of_gt hbr)]; exact e)
      simp only [put_sz] at this
      omega
  obtain ⟨i1, ei1⟩ : ∃ i, i = a + (c - a) / 4 := ⟨_, rfl⟩
  obtain ⟨i2, ei2⟩ : ∃ i, i = a + (c - a) / 4 * 2 := ⟨_, rfl⟩
  obtain ⟨i3, ei3⟩ : ∃ i, i = a + (c - a) / 4 * 3 := ⟨_, rfl⟩
  by_cases c8 : (8 : Int) ≤ ((c - a : Nat) : Int)
  · by_cases c50 : (50 : Int) ≤ ((c - a : Nat) : Int)
    · simp (config := {maxSteps := 3000000}) only [run_reg, run_seq, run_cond, if_true, at_code_n, ops_nil, ops_mv, ops_bin, ops_call, ev_t, ev_c, put_get, opv_mk, args0, List.getD_cons_zero, List.getD_cons_succ, vbin, vbinI, List.map_cons, List.map_nil, true_and, Nat.reduceEqDiff, Int.reduceNeg, ↓reduceIte, eq_self, reduceCtorEq, decide_eq_true c8, decide_eq_true c50]
      repeat (apply And.intro; focus (first | omega | (simp; done)))
      rw [← ei1, ← ei2, ← ei3]
      refine Cal.mk (cmeda_v (n := 0) hfa hfm hfo E hbr (i := i1) (by omega) (by omega) (by omega) hmo hl) ?_
      rintro _ _ ⟨x1, n1, h1, i1, m1, rfl, rfl⟩ -
      simp (config := {maxSteps := 3000000}) only [run_reg, run_seq, at_code_n, ops_nil, ops_mv, ops_call, ev_t, put_get, opv_mk, args0, List.getD_cons_zero, List.getD_cons_succ, obsOk, List.map_cons, List.map_nil, true_and, Nat.reduceEqDiff, ↓reduceIte, eq_self, reduceCtorEq]
      refine Cal.mk (cmeda_v (n := n1) hfa hfm hfo E hbr (i := i2) (by omega) (by omega) (by omega) hmo hl) ?_
      rintro _ _ ⟨x2, n2, h2, i2, m2, rfl, rfl⟩ -
      simp (config := {maxSteps := 3000000}) only [run_reg, at_code_n, ops_nil, ops_mv, ops_call, ev_t, put_get, opv_mk, args0, List.getD_cons_zero, List.getD_cons_succ, obsOk, List.map_cons, List.map_nil, true_and, Nat.reduceEqDiff, ↓reduceIte, eq_self, reduceCtorEq]
      refine Cal.mk (cmeda_v (n := n2) hfa hfm hfo E hbr (i := i3) (by omega) (by omega) (by omega) hmo hl) ?_
      rintro _ _ ⟨x3, n3, h3, i3, m3, rfl, rfl⟩ -
      simp (config := {maxSteps := 3000000}) only [run_reg, at_code_n, ops_nil, ops_mv, ops_call, ev_t, put_get, opv_mk, args0, List.getD_cons_zero, List.getD_cons_succ, obsOk, List.map_cons, List.map_nil, true_and, Nat.reduceEqDiff, ↓reduceIte, eq_self, reduceCtorEq]
      refine Cal.mk (cmed_v (n := n3) hfm hfo E hbr (i := x1) (j := x2) (k := x3) (by omega) (by omega) (by omega) (by omega) hmo hl) ?_
      rintro _ _ ⟨x, m, hx, hm, rfl, rfl⟩ -
      simp (config := {maxSteps := 3000000}) only [run_reg, run_seq, run_blk, run_cond, at_code_n, ops_nil, ops_mv, ops_bin, ops_load, ev_t, ev_c, put_get, opv_mk, put_box_same, vbin, vbinI, vload, takeV, takeB, V.cells, obsOk, List.length_cons, List.length_nil, List.getElem?_cons_zero, true_and, Nat.reduceEqDiff, Nat.zero_add, ↓reduceIte, eq_self]
      by_cases k0 : ((m : Nat) : Int) = 0
      · simp (config := {maxSteps := 3000000}) only [run_reg, run_seq, run_ret, if_true, at_code_n, at_blk_r, at_fin_r, ops_nil, ops_mv, ev_t, ev_c, put_get, opv_mk, args0, vload, takeV, takeB, V.cells, List.map_cons, List.map_nil, and_true, true_and, Nat.reduceEqDiff, ↓reduceIte, vret, rvAll, rvVal, resv_2, eq_self, decide_eq_true k0]
        exact ⟨_, _, Wk.refl _, weak_putF (weak_re hwf) hrn, x, 1, by omega, by omega, rfl, rfl⟩
      · by_cases k12 : ((m : Nat) : Int) = 12
        · simp (config := {maxSteps := 3000000}) only [run_reg, run_seq, run_ret, run_cond, if_true, if_false, at_code_n, at_blk_r, at_fin_r, ops_nil, ops_mv, ops_bin, ev_t, ev_c, put_get, opv_mk, args0, vbin, vbinI, vload, takeV, takeB, V.cells, List.map_cons, List.map_nil, and_true, true_and, Nat.reduceEqDiff, ↓reduceIte, vret, rvAll, rvVal, resv_2, eq_self, decide_eq_false k0, decide_eq_true k12]
          exact ⟨_, _, Wk.refl _, weak_putF (weak_re hwf) hrn, x, 2, by omega, by omega, rfl, rfl⟩
        · simp (config := {maxSteps := 3000000}) only [run_reg, run_seq, run_ret, run_cond, if_false, at_code_n, at_blk_r, at_fin_r, ops_nil, ops_mv, ops_bin, ev_t, ev_c, put_get, opv_mk, args0, vbin, vbinI, vload, takeV, takeB, V.cells, List.map_cons, List.map_nil, and_true, true_and, Nat.reduceEqDiff, ↓reduceIte, vret, rvAll, rvVal, resv_2, eq_self, decide_eq_false k0, decide_eq_false k12]
          exact ⟨_, _, Wk.refl _, weak_putF (weak_re hwf) hrn, x, 0, by omega, by omega, rfl, rfl⟩
    · simp (config := {maxSteps := 3000000}) only [run_skip, run_reg, run_seq, run_cond, if_true, if_false, at_code_n, ops_nil, ops_mv, ops_bin, ops_call, ev_t, ev_c, put_get, opv_mk, args0, List.getD_cons_zero, List.getD_cons_succ, vbin, vbinI, List.map_cons, List.map_nil, true_and, Nat.reduceEqDiff, Int.reduceNeg, ↓reduceIte, eq_self, reduceCtorEq, decide_eq_true c8, decide_eq_false c50]
      repeat (apply And.intro; focus (first | omega | (simp; done)))
      rw [← ei1, ← ei2, ← ei3]
      refine Cal.mk (cmed_v (n := 0) hfm hfo E hbr (i := i1) (j := i2) (k := i3) (by omega) (by omega) (by omega) (by omega) hmo hl) ?_
      rintro _ _ ⟨x, m, hx, hm, rfl, rfl⟩ -
      simp (config := {maxSteps := 3000000}) only [run_reg, run_seq, run_blk, run_cond, at_code_n, ops_nil, ops_mv, ops_bin, ops_load, ev_t, ev_c, put_get, opv_mk, put_box_same, vbin, vbinI, vload, takeV, takeB, V.cells, obsOk, List.length_cons, List.length_nil, List.getElem?_cons_zero, true_and, Nat.reduceEqDiff, Nat.zero_add, ↓reduceIte, eq_self]
      by_cases k0 : ((m : Nat) : Int) = 0
      · simp (config := {maxSteps := 3000000}) only [run_reg, run_seq, run_ret, if_true, at_code_n, at_blk_r, at_fin_r, ops_nil, ops_mv, ev_t, ev_c, put_get, opv_mk, args0, vload, takeV, takeB, V.cells, List.map_cons, List.map_nil, and_true, true_and, Nat.reduceEqDiff, ↓reduceIte, vret, rvAll, rvVal, resv_2, eq_self, decide_eq_true k0]
        exact ⟨_, _, Wk.refl _, weak_putF (weak_re hwf) hrn, x, 1, by omega, by omega, rfl, rfl⟩
      · by_cases k12 : ((m : Nat) : Int) = 12
        · simp (config := {maxSteps := 3000000}) only [run_reg, run_seq, run_ret, run_cond, if_true, if_false, at_code_n, at_blk_r, at_fin_r, ops_nil, ops_mv, ops_bin, ev_t, ev_c, put_get, opv_mk, args0, vbin, vbinI, vload, takeV, takeB, V.cells, List.map_cons, List.map_nil, and_true, true_and, Nat.reduceEqDiff, ↓reduceIte, vret, rvAll, rvVal, resv_2, eq_self, decide_eq_false k0, decide_eq_true k12]
          exact ⟨_, _, Wk.refl _, weak_putF (weak_re hwf) hrn, x, 2, by omega, by omega, rfl, rfl⟩
        · simp (config := {maxSteps := 3000000}) only [run_reg, run_seq, run_ret, run_cond, if_false, at_code_n, at_blk_r, at_fin_r, ops_nil, ops_mv, ops_bin, ev_t, ev_c, put_get, opv_mk, args0, vbin, vbinI, vload, takeV, takeB, V.cells, List.map_cons, List.map_nil, and_true, true_and, Nat.reduceEqDiff, ↓reduceIte, vret, rvAll, rvVal, resv_2, eq_self, decide_eq_false k0, decide_eq_false k12]
          exact ⟨_, _, Wk.refl _, weak_putF (weak_re hwf) hrn, x, 0, by omega, by omega, rfl, rfl⟩
  · simp (config := {maxSteps := 3000000}) only [run_skip, run_reg, run_seq, run_blk, run_ret, run_cond, if_true, if_false, at_code_n, at_blk_r, at_fin_r, ops_nil, ops_mv, ops_bin, ops_load, ev_t, ev_c, put_get, opv_mk, put_box_same, args0, vbin, vbinI, vload, takeV, takeB, V.cells, List.map_cons, List.map_nil, List.length_cons, List.length_nil, List.getElem?_cons_zero, and_true, true_and, Nat.reduceEqDiff, Int.reduceNeg, Nat.zero_add, ↓reduceIte, vret, rvAll, rvVal, resv_2, decide_true, eq_self, decide_eq_false c8]
    repeat (apply And.intro; focus (first | omega | (simp; done)))
    exact ⟨_, _, Wk.refl _, weak_putF (weak_re hwf) hrn, a + (c - a) / 4 * 2, 1, by omega, by omega, rfl, rfl⟩
set_option maxRecDepth 100000 in
set_option maxHeartbeats 16000000 in
theorem cbreak_v (hf : cFun P f = some (CBreak fpow fnext)) (hpow : ∀ (st : St) (n : Nat), 0 < n → n < 4611686018427387904 → VCalls P fpow [.sc (.int .i64 n)] st fun v s => st = s ∧ ∃ m : Nat, n < m ∧ m ≤ 2 * n ∧ v = .sc (.int .u64 m))
    (hnext : ∀ (st : St) (r : Nat) (x : Int), VCalls P fnext [ptrV r] (st.put r [.sc (.int .u64 x)]) fun v s => ∃ y, v = .sc (.int .u64 y) ∧ s = st.put r [.sc (.int .u64 y)]) (h1 : a ≤ c) (h2 : c ≤ L.length) (hmo : mono (rowc val L sp)) (hl : L.length < 4611686018427387904) :
    VCalls P f [dataV b L.length cap, .sc (.int .i64 a), .sc (.int .i64 c), cmpV g] (st.put b (rowc val L sp)) fun v s => ∃ M, Mix a c L M ∧ s = st.put b (rowc val M sp) := by
  refine vcalls_enter hf (Nat.le_of_ble_eq_true rfl) fun hwf hok => ?_
  show Run _ (CBreak fpow fnext).body (.fin (finQ (CBreak fpow fnext).res _)) _ _
  unfold CBreak
  have e0 : (c : Int) - (a : Int) = ((c - a : Nat) : Int) := by omega
  have e1 : ((c - a : Nat) : Int) % 18446744073709551616 = ((c - a : Nat) : Int) := by omega
  by_cases c8 : (8 : Int) ≤ ((c - a : Nat) : Int)
  · simp (config := {maxSteps := 3000000}) only [run_reg, run_seq, run_cond, if_true, at_code_n, ops_nil, ops_mv, ops_bin, ops_conv, ops_alc, ops_store, ops_call, ev_t, ev_c, put_get, put_none, opv_mk, stb_some, sto_ptr, Stp, put_box_same, put_sz, put_put, args0, List.getD_cons_zero, List.getD_cons_succ, vbin, vbinI, vconv, norm, mono_sc, splice, V.cells, ptrV, obsOk, List.map_cons, List.map_nil, List.length_cons, List.length_nil, List.take_zero, List.drop_succ_cons, List.nil_append, List.append_nil, List.drop_nil, true_and, Nat.reduceEqDiff, Nat.reduceLT, Nat.reduceLeDiff, Nat.reduceLT, Int.reduceNeg, Nat.zero_add, ↓reduceIte, eq_self, dataV, cmpV, e0, e1, decide_eq_true c8]
    repeat (apply And.intro; focus (first | omega | (simp; done)))
    intro r hr
    have hbr : b < r := by omega
    have hrn : (st.put b (rowc val L sp)).box r = none := by
      rw [put_box_ne (Nat.ne_of_gt hbr)]
      cases e : st.box r with
      | none => rfl
      | some X =>
        have := hwf.lt.box r X (by rw [put_box_ne (Nat.ne_of_gt hbr)]; exact e)
        simp only [put_sz] at this
        omega
    refine Cal.mk (hpow _ (c - a) (by omega) (by omega)) ?_
    rintro _ _ ⟨rfl, m, hm1, hm2, rfl⟩ -
    obtain ⟨q, eq⟩ : ∃ q : Nat, q = (c - a) / 4 * 2 := ⟨_, rfl⟩
    have e2 : ((c - a : Nat) : Int) / 4 * 2 = (q : Int) := by omega
    have e3 : ((m : Int) - 1) % 18446744073709551616 = ((m - 1 : Nat) : Int) := by omega
    simp (config := {maxSteps := 3000000}) only [run_reg, run_seq, run_blk, at_code_n, ops_nil, ops_mv, ops_bin, ev_t, ev_c, put_get, opv_mk, args0, List.getD_cons_zero, List.getD_cons_succ, vbin, vbinI, norm, obsOk, true_and, Nat.reduceEqDiff, Int.reduceLT, Int.reduceNeg, ↓reduceIte, eq_self, e2]
    repeat (apply And.intro; focus (first | omega | (simp; done)))
    refine run_loop [11, 12, 28, 29, 30, 31, 32, 33, 34, 35, 36, 37, 38, 39, 40, 41, 42, 43, 44, 45, 46, 47, 48, 49, 50, 51, 52, 53, 54, 55, 56, 57, 58, 59, 60, 61, 62, 63, 64, 65, 66] (fun B s => ∃ (k : Nat) (x : Int) (M : List α), B 11 = .sc (.int .i64 k) ∧ a + q ≤ k + 1 ∧ k ≤ a + q + 2 ∧ Mix a c L M ∧ s = (st.put b (rowc val M sp)).put r [.sc (.int .u64 x)]) (fun B _ => a + q + 2 - vnat (B 11)) rfl ?_ ?_
    · simp (config := {maxSteps := 3000000}) only [put_get, ↓reduceIte, eq_self]
      exact ⟨a + q - 1, _, L, by rw [show (a : Int) + (q : Int) - 1 = ((a + q - 1 : Nat) : Int) by omega], by omega, by omega, .refl, rfl⟩
    · rintro B s ⟨k, x, M, h9, hk1, hk2, hM, rfl⟩
      have hlen := hM.len
      by_cases ck : (k : Int) ≤ (a : Int) + (q : Int) + 1
      · simp (config := {maxSteps := 3000000}) only [run_skip, run_reg, run_seq, run_blk, run_cond, if_true, at_code_n, ops_nil, ops_mv, ops_bin, ops_call, ev_t, ev_c, put_get, opv_mk, over_get, vnat, args0, List.getD_cons_zero, List.getD_cons_succ, vbin, vbinI, norm, List.map_cons, List.map_nil, true_and, Nat.reduceEqDiff, Int.toNat_natCast, Int.reduceLT, Int.reduceNeg, ↓reduceIte, eq_self, Bool.false_eq_true, List.contains_cons, List.contains_nil, Nat.reduceBEq, Bool.or_false, h9, e2, decide_eq_true ck]
        repeat (apply And.intro; focus (first | omega | (simp; done)))
        refine Cal.mk (hnext _ r x) ?_
        rintro _ _ ⟨y, rfl, rfl⟩ -
        obtain ⟨z, ez, hz⟩ := and_u64 y (m := m - 1) (by omega)
        by_cases cz : ((c - a : Nat) : Int) ≤ (z : Int)
        · have ezz : (z : Int) - ((c - a : Nat) : Int) = ((z - (c - a) : Nat) : Int) := by omega
          obtain ⟨g1, g2, s1, s2, m1, m2⟩ := swapC hmo hlen (i := k) (j := a + (z - (c - a))) (by omega) (by omega)
          have hex := hM.exch (i := k) (j := a + (z - (c - a))) (by omega) (by omega) (by omega) (by omega) h2
          have ej : ((a : Int) + ((z - (c - a) : Nat) : Int)).toNat = a + (z - (c - a)) := by omega
          simp (config := {maxSteps := 3000000}) only [run_reg, run_seq, run_cond, if_true, at_code_n, at_blk_n, at_rnd_n, ops_nil, ops_mv, ops_bin, ops_conv, ops_ix, ops_load, ops_store, ev_t, ev_c, put_get, put_none, opv_mk, stb_some, sto_ptr, over_get, rel_mk, Stp, put_box_same, args0, List.getD_cons_zero, List.getD_cons_succ, vbin, vbinI, vconv, norm, vix, vload, takeV, takeB, splice, V.cells, obsOk, List.length_cons, List.length_nil, and_true, true_and, Nat.reduceEqDiff, Nat.reduceAdd, Nat.reduceLT, Nat.reduceLT, Int.toNat_natCast, Int.reduceNeg, Nat.zero_add, ↓reduceIte, eq_self, reduceCtorEq, Bool.false_eq_true, List.contains_cons, List.contains_nil, Nat.reduceBEq, Bool.or_false, h9, ez, ezz, e3, decide_eq_true cz, ej, g1, g2, s1, s2, m1, m2, rowc_len, List.length_set, put_swp (Nat.ne_of_lt hbr), put_box_ne (Nat.ne_of_lt hbr)]
          repeat (apply And.intro; focus (first | omega | (simp; done)))
          exact ⟨⟨k + 1, y, _, by simp, by omega, by omega, hex, rfl⟩, by omega⟩
        · obtain ⟨g1, g2, s1, s2, m1, m2⟩ := swapC hmo hlen (i := k) (j := a + z) (by omega) (by omega)
          have hex := hM.exch (i := k) (j := a + z) (by omega) (by omega) (by omega) (by omega) h2
          have ej : ((a : Int) + (z : Int)).toNat = a + z := by omega
          simp (config := {maxSteps := 3000000}) only [run_skip, run_reg, run_seq, run_cond, if_false, at_code_n, at_blk_n, at_rnd_n, ops_nil, ops_mv, ops_bin, ops_conv, ops_ix, ops_load, ops_store, ev_t, ev_c, put_get, put_none, opv_mk, stb_some, sto_ptr, over_get, rel_mk, Stp, put_box_same, args0, List.getD_cons_zero, List.getD_cons_succ, vbin, vbinI, vconv, norm, vix, vload, takeV, takeB, splice, V.cells, obsOk, List.length_cons, List.length_nil, and_true, true_and, Nat.reduceEqDiff, Nat.reduceAdd, Nat.reduceLT, Nat.reduceLT, Int.toNat_natCast, Int.reduceNeg, Nat.zero_add, ↓reduceIte, eq_self, reduceCtorEq, Bool.false_eq_true, List.contains_cons, List.contains_nil, Nat.reduceBEq, Bool.or_false, h9, ez, e3, decide_eq_false cz, ej, g1, g2, s1, s2, m1, m2, rowc_len, List.length_set, put_swp (Nat.ne_of_lt hbr), put_box_ne (Nat.ne_of_lt hbr)]
          repeat (apply And.intro; focus (first | omega | (simp; done)))
          exact ⟨⟨k + 1, y, _, by simp, by omega, by omega, hex, rfl⟩, by omega⟩
      · simp (config := {maxSteps := 3000000}) only [run_reg, run_seq, run_exit, run_cond, if_false, at_code_n, at_code_x, at_blk_x, at_rnd_x, at_fin_n, ops_nil, ops_mv, ops_bin, ev_t, ev_c, put_get, opv_mk, over_get, vnat, args0, List.getD_cons_zero, List.getD_cons_succ, vbin, vbinI, norm, true_and, Nat.reduceEqDiff, Int.toNat_natCast, Int.reduceLT, Int.reduceNeg, ↓reduceIte, vret, rvAll, eq_self, Bool.false_eq_true, List.contains_cons, List.contains_nil, Nat.reduceBEq, Bool.or_false, h9, e2, decide_eq_false ck]
        repeat (apply And.intro; focus (first | omega | (simp; done)))
        exact ⟨_, _, Wk.refl _, weak_putF (weak_re hwf) (by rw [put_box_ne (Nat.ne_of_gt hbr)] at hrn ⊢; exact hrn), M, hM, rfl⟩
  · simp (config := {maxSteps := 3000000}) only [run_skip, run_reg, run_seq, run_cond, if_false, at_code_n, at_fin_n, ops_nil, ops_mv, ops_bin, ev_t, ev_c, put_get, opv_mk, args0, List.getD_cons_zero, List.getD_cons_succ, vbin, vbinI, norm, true_and, Nat.reduceEqDiff, Int.reduceNeg, ↓reduceIte, vret, rvAll, eq_self, dataV, cmpV, e0, decide_eq_false c8]
    repeat (apply And.intro; focus (first | omega | (simp; done)))
    exact ⟨_, _, Wk.refl _, weak_re hwf, L, .refl, rfl⟩
end
end Go.Proofs.Ytlngegoamfklgaa
