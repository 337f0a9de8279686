/- Package catwalkref41: the same contracts as package calls. -/
import Derived.Test.YtogkdcbcmhhhcaaVCalls
namespace Go.Proofs.Ytogkdcbcmhhhcaa
open Go Go.RowKit

/-- A message with these numbers. -/
def mM (t : Int) (l : List Int) : MG := ⟨t, l ++ List.replicate (9 - l.length) 0, [e0, e0, e0]⟩
def nAt (l : List Int) (i : Nat) : List Int := l.take i ++ List.replicate (9 - i) 0
theorem nAt_len {l : List Int} {i : Nat} (h : i ≤ l.length) (h9 : l.length ≤ 9) : (nAt l i).length = 9 := by simp [nAt]; omega
theorem nAt_step {l : List Int} {i : Nat} {x : Int} (hx : l[i]? = some x) (h9 : l.length ≤ 9) : (nAt l i).set i x = nAt l (i + 1) := by
  have hi : i < l.length := (List.getElem?_eq_some_iff.1 hx).1
  have m1 : min i l.length = i := by omega
  have m2 : min (i + 1) l.length = i + 1 := by omega
  unfold nAt
  apply List.ext_getElem?
  intro j
  rw [List.getElem?_set]
  simp only [List.getElem?_append, List.length_take, List.length_append, List.length_replicate, List.getElem?_take, List.getElem?_replicate, m1, m2]
  by_cases c1 : i = j
  · subst c1
    rw [if_pos rfl, if_pos (by omega), if_pos (by omega), if_pos (by omega), hx]
  · rw [if_neg c1]
    by_cases c2 : j < i
    · simp only [if_pos c2, if_pos (show j < i + 1 by omega)]
    · simp only [if_neg c2, if_neg (show ¬ j < i + 1 by omega)]
      by_cases c3 : j < 9
      · rw [if_pos (show j - i < 9 - i by omega), if_pos (show j - (i + 1) < 9 - (i + 1) by omega)]
      · rw [if_neg (show ¬ j - i < 9 - i by omega), if_neg (show ¬ j - (i + 1) < 9 - (i + 1) by omega)]
theorem put_box_none {st : St} {b c : Nat} {cs : List V} (h : (st.put b cs).box c = none) : c ≠ b ∧ st.box c = none := by
  simp only [St.put] at h
  split at h
  · cases h
  · rename_i e; exact ⟨e, h⟩
section
variable {tk : Tk} {st : St}
theorem of_r {l : List Int} (h9 : l.length ≤ 9) (t : Int) : VCalls Try.prog 57 [.sc (.int .i64 t), .sl tk (us l)] st fun r st' => r = (mM t l).v ∧ st = st' := by
  have hM : mM t l = ⟨t, nAt l l.length, [e0, e0, e0]⟩ := by simp [mM, nAt]
  rw [hM]
  refine vcalls_enter vc57 (Nat.le_of_ble_eq_true rfl) fun hwf hok => ?_
  show Run _ Vc57.body (.fin (finQ Vc57.res _)) _ _
  unfold Vc57
  simp (config := {maxSteps := 3000000}) only [run_reg, run_seq, run_blk, at_code_n, ops_nil, ops_mv, ops_bld, ops_alc, ops_store, ev_t, ev_c, put_get, put_none, opv_mk, stb_some, sto_ptr, Stp, vbld, put_box_same, put_sz, put_put, args0, List.getD_cons_zero, fillV, splice, V.cells, ptrV, obsOk, List.map_cons, List.map_nil, List.length_cons, List.length_nil, List.take_zero, List.drop_succ_cons, List.drop_zero, List.cons_append, List.nil_append, List.append_nil, List.drop_nil, and_true, true_and, Nat.reduceEqDiff, Nat.reduceAdd, Nat.reduceLT, Nat.reduceLeDiff, Nat.reduceLT, Nat.zero_add, ↓reduceIte, eq_self, reduceCtorEq]
  intro b hb c hc
  obtain ⟨hc1, hbc⟩ : st.sz ≤ c ∧ b < c := by omega
  clear hc
  obtain ⟨Z, hZ⟩ : ∃ Z : List V, Z = ts [e0, e0, e0] := ⟨_, rfl⟩
  have hZ3 : Z.length = 3 := by rw [hZ]; rfl
  have e1 : [V.sc (.int .i64 t), .sc (.int .u32 0), .sc (.int .u32 0), .sc (.int .u32 0), .sc (.int .u32 0), .sc (.int .u32 0), .sc (.int .u32 0), .sc (.int .u32 0), .sc (.int .u32 0), .sc (.int .u32 0), .sc (.string ⟨#[]⟩), .sc (.string ⟨#[]⟩), .sc (.string ⟨#[]⟩)] = .sc (.int .i64 t) :: (us (nAt l 0) ++ Z) := by rw [hZ]; rfl
  rw [e1]
  obtain ⟨B0, hB0⟩ : ∃ B0 : List V, st.put b B0 = st.put b [V.sc (.int .i64 0), .sc (.int .u32 0), .sc (.int .u32 0), .sc (.int .u32 0), .sc (.int .u32 0), .sc (.int .u32 0), .sc (.int .u32 0), .sc (.int .u32 0), .sc (.int .u32 0), .sc (.int .u32 0), .sc (.string ⟨#[]⟩), .sc (.string ⟨#[]⟩), .sc (.string ⟨#[]⟩)] ∧ B0.length = 13 := ⟨_, rfl, rfl⟩
  obtain ⟨hB0, hB13⟩ := hB0
  rw [← hB0]
  refine run_loop [6, 9, 10, 11, 12, 13, 14, 15, 16, 17, 18, 19, 20, 21] (fun B s => ∃ i : Nat, i ≤ l.length ∧ B 6 = .sc (.int .i64 i) ∧ s = (st.put b B0).put c (.sc (.int .i64 t) :: (us (nAt l i) ++ Z))) (fun B _ => l.length - vnat (B 6)) rfl ?_ ?_
  · simp (config := {maxSteps := 3000000}) only [put_get, ↓reduceIte, eq_self]
    exact ⟨0, by omega, by simp, rfl⟩
  · rintro B s ⟨i, hi, h6, rfl⟩
    have hn9 := nAt_len hi h9
    by_cases hlt : i < l.length
    · obtain ⟨x, hx⟩ := get_ex (L := l) (i := i) hlt
      have hst := nAt_step hx h9
      generalize nAt l i = N at *
      have hlt' := decide_eq_true (show (i : Int) < (l.length : Int) by omega)
      simp (config := {maxSteps := 3000000}) only [run_skip, run_reg, run_seq, run_blk, run_cond, if_true, at_code_n, at_blk_n, at_rnd_n, ops_nil, ops_mv, ops_bin, ops_fld, ops_ix, ops_ixa, ops_load, ops_len, ops_store, ev_t, ev_c, put_get, put_none, opv_mk, stb_some, sto_ptr, over_get, rel_mk, vnat, Stp, put_box_same, put_put, args0, List.getD_cons_zero, List.getD_cons_succ, vbin, vbinI, norm, vfld, vlen, vix, vixa, vload, takeV, splice, V.cells, obsOk, List.length_cons, List.length_nil, List.getElem?_cons_zero, List.drop_succ_cons, Option.map_some, and_true, true_and, Nat.reduceEqDiff, Nat.reduceLT, Nat.reduceLeDiff, Nat.reduceLT, Int.toNat_natCast, Int.reduceNeg, Nat.zero_add, Nat.mul_one, ↓reduceIte, eq_self, Bool.false_eq_true, List.contains_cons, List.contains_nil, Nat.reduceBEq, Bool.or_false, h6, us_get, hx, us_len, hlt', nc9]
      repeat (apply And.intro; focus (first | omega | (simp; done)))
      have hs := us_set (N := N) (n := i) (x := x) (T := Z) (by omega) (.sc (.int .i64 t))
      exact ⟨by rw [List.length_append, us_len, hn9, hZ3]; omega, ⟨by omega, by omega⟩, ⟨i + 1, by omega, by simp, by rw [← hst]; exact congrArg ((st.put b B0).put c) hs⟩, by omega⟩
    · obtain rfl : i = l.length := by omega
      have hW12 : (us (nAt l l.length) ++ Z).length = 12 := by rw [List.length_append, us_len, hn9, hZ3]
      have hMv : (MG.mk t (nAt l l.length) [e0, e0, e0]).v = .agg (.sc (.int .i64 t) :: (us (nAt l l.length) ++ Z)) := by rw [hZ]; rfl
      rw [hMv]
      generalize us (nAt l l.length) ++ Z = W at *
      have htk : List.take 12 W = W := List.take_of_length_le (by omega)
      have hdr : List.drop 13 B0 = [] := List.drop_of_length_le (by omega)
      simp (config := {maxSteps := 3000000}) only [run_reg, run_seq, run_exit, run_ret, run_cond, if_false, at_code_n, at_code_x, at_blk_x, at_rnd_x, at_fin_r, ops_nil, ops_mv, ops_bin, ops_load, ops_len, ops_store, ev_t, put_get, put_none, opv_mk, stb_some, sto_ptr, over_get, vnat, Stp, put_box_same, args0, List.getD_cons_zero, List.getD_cons_succ, vbin, vbinI, vlen, vload, takeV, splice, V.cells, obsOk, List.length_cons, List.take_succ_cons, List.take_zero, List.drop_zero, List.nil_append, List.append_nil, and_true, true_and, Nat.reduceEqDiff, Nat.reduceAdd, Nat.reduceLT, Nat.reduceLeDiff, Nat.reduceLT, Int.toNat_natCast, Nat.zero_add, ↓reduceIte, vret, rvAll, rvVal, resv_1, decide_false, Int.lt_irrefl, eq_self, Bool.false_eq_true, List.contains_cons, List.contains_nil, Nat.reduceBEq, Bool.or_false, h6, us_len, put_box_ne (Nat.ne_of_lt hbc), htk, hW12, hdr, hB13, List.append_nil]
      exact ⟨_, _, Wk.refl _, weak_put (weak_put (weak_put hwf.weak hb) hc1) hb, rfl, rfl⟩
theorem ofr_at {t : Int} {l : List Int} {m : M9} (h9 : l.length ≤ 9) (e : (mM t l).v = m.v) : VCalls Try.prog 57 [.sc (.int .i64 t), .sl tk (us l)] st fun r st' => r = m.v ∧ st = st' := by
  rw [← e]
  exact of_r h9 t
variable {b : Nat} {c : CL}
/-- How far a call may be. -/
def CL.St5 (c : CL) : Prop := 1 ≤ c.state ∧ c.state ≤ 5
theorem rOut_v {mine serial window : Int} (h0 : 0 ≤ mine ∧ mine < 65536) (h1 : 0 ≤ serial ∧ serial < 65536) (h2 : 0 ≤ window ∧ window < 65536) : VCalls Try.prog 25 [.sc (.int .u16 mine), .sc (.int .u16 serial), .sc (.int .i64 window)] st fun r st' => ∃ b, st.sz ≤ b ∧ r = .tup [ptrV b, (outM mine serial window).v] ∧ st' = st.put b (outC mine).cells := by
  have e1 : mine % 4294967296 = mine := by omega
  have e2 : serial % 4294967296 = serial := by omega
  have e3 : window % 4294967296 = window := by omega
  refine vcalls_enter vc25 (Nat.le_of_ble_eq_true rfl) fun hwf hok => ?_
  show Run _ Vc25.body (.fin (finQ Vc25.res _)) _ _
  unfold Vc25
  simp (config := {maxSteps := 3000000}) only [run_reg, run_seq, at_code_n, ops_nil, ops_mv, ops_bin, ops_conv, ops_bld, ops_box, ops_alc, ops_bslo, ev_t, ev_c, put_get, opv_mk, Bx, vbld, put_sz, args0, List.getD_cons_zero, List.getD_cons_succ, vbin, vbinI, vconv, norm, fillV, splice, V.cells, strip, strip1, ptrV, obsOk, List.map_cons, List.map_nil, List.length_cons, List.length_nil, List.take_succ_cons, List.take_zero, List.drop_succ_cons, List.drop_zero, List.cons_append, List.nil_append, and_true, true_and, Nat.reduceEqDiff, Nat.reduceAdd, Nat.reduceLT, Nat.reduceLeDiff, Nat.reduceLT, Int.reduceLT, Nat.zero_add, ↓reduceIte, ne_eq, not_false_eq_true, eq_self, reduceCtorEq]
  intro d hd b hb
  obtain ⟨hb1, hdb⟩ : st.sz ≤ b ∧ d < b := by omega
  clear hb
  simp (config := {maxSteps := 3000000}) only [e1, e2, e3]
  repeat (apply And.intro; focus (first | omega | (simp; done)))
  refine Bo.own (by simp [allLen, V.cells]) ?_
  intro g hg
  simp (config := {maxSteps := 3000000}) only [ops_call, ev_t, ev_c, put_get, obsOk, List.map_cons, List.map_nil, List.length_cons, List.length_nil, true_and, Nat.reduceAdd, Nat.zero_add, ↓reduceIte, eq_self]
  refine Cal.mk (ofr_at (l := [mine, serial, 300, 100000000, 3, 3, window % 65536]) (m := outM mine serial window) (by simp) rfl) ?_
  rintro _ _ ⟨rfl, rfl⟩ -
  simp (config := {maxSteps := 3000000}) only [run_ret, at_code_n, at_fin_r, ops_nil, ops_mv, ops_store, ev_t, put_get, put_none, opv_mk, stb_some, sto_ptr, Stp, put_box_same, use_box, args0, vload, takeV, splice, V.cells, obsOk, List.map_cons, List.map_nil, List.length_cons, List.length_nil, List.take_succ_cons, List.take_zero, List.drop_succ_cons, List.drop_zero, List.nil_append, List.append_nil, List.take_nil, List.drop_nil, and_true, true_and, Nat.reduceEqDiff, Nat.reduceAdd, Nat.reduceLT, Nat.reduceLeDiff, Nat.reduceLT, Nat.zero_add, ↓reduceIte, vret, rvAll, rvVal, resv_2, eq_self, M9.v, M9.cells, outM, mN, put_box_ne (Nat.ne_of_lt hdb)]
  refine ⟨_, st.put b (outC mine).cells, Wk.refl _, weak_putN (weak_use (weak_both (weak_put hwf.weak hd)) (by simp only [put_sz] at *; omega)) (by rw [put_box_ne (Nat.ne_of_lt hdb)]; exact wf_none hwf hd), b, hb1, rfl, rfl⟩
theorem rIn_v {m : M9} (hm : m.Ok) {mine window : Int} (h0 : 0 ≤ mine ∧ mine < 65536) (h2 : 0 ≤ window ∧ window < 65536) : VCalls Try.prog 26 [m.v, .sc (.int .u16 mine), .sc (.int .i64 window)] st fun r st' => ∃ b, st.box b = none ∧ r = .tup [ptrV b, (inM m mine window).v] ∧ st' = st.put b (inC m mine).cells := by
  have k0 := hm.n0
  obtain ⟨ty, n0, n1, n2, n3, n4, n5, n6, n7, n8, t0, t1, t2⟩ := m
  simp only at k0
  have e1 : mine % 4294967296 = mine := by omega
  have e3 : window % 4294967296 = window := by omega
  have e4 : n0 % 65536 % 65536 = n0 % 65536 := by omega
  refine vcalls_enter vc26 (Nat.le_of_ble_eq_true rfl) fun hwf hok => ?_
  show Run _ Vc26.body (.fin (finQ Vc26.res _)) _ _
  unfold Vc26
  simp (config := {maxSteps := 3000000}) only [run_reg, run_seq, at_code_n, ops_nil, ops_mv, ops_fld, ops_ixa, ops_load, ops_box, ops_alc, ev_t, ev_c, put_get, opv_mk, Bx, put_sz, args0, List.getD_cons_zero, List.getD_cons_succ, vfld, vixa, vload, takeV, V.cells, ptrV, obsOk, List.length_cons, List.length_nil, true_and, Nat.reduceEqDiff, Nat.reduceAdd, Int.reduceToNat, Int.reduceLE, Nat.zero_add, Nat.add_zero, Nat.mul_one, ↓reduceIte, ne_eq, not_false_eq_true, eq_self, reduceCtorEq, M9.v, M9.cells]
  intro a ha d hd
  obtain ⟨hd1, had⟩ : st.sz ≤ d ∧ a < d := by omega
  clear hd
  simp (config := {maxSteps := 3000000}) only [ops_mv, ops_bin, ops_conv, ops_fld, ops_ixa, ops_load, ops_bld, ops_bslo, ev_t, ev_c, put_get, opv_mk, vbld, put_box_same, args0, List.getD_cons_zero, List.getD_cons_succ, vbin, vbinI, vconv, norm, vfld, vixa, vload, takeV, fillV, splice, V.cells, strip, strip1, List.map_cons, List.map_nil, List.length_cons, List.length_nil, List.getElem?_cons_zero, List.getElem?_cons_succ, List.take_succ_cons, List.take_zero, List.drop_succ_cons, List.drop_zero, List.cons_append, List.nil_append, and_true, true_and, Nat.reduceEqDiff, Nat.reduceAdd, Nat.reduceLT, Nat.reduceLeDiff, Nat.reduceLT, Int.reduceToNat, Int.reduceLE, Int.reduceLT, Nat.zero_add, Nat.add_zero, Nat.mul_one, ↓reduceIte, eq_self, nc9, put_box_ne (Nat.ne_of_lt had), e1, e3, e4]
  repeat (apply And.intro; focus (first | omega | (simp; done)))
  refine Bo.own (by simp [allLen, V.cells]) ?_
  intro g hg
  simp (config := {maxSteps := 3000000}) only [ops_call, ev_t, ev_c, put_get, put_box_same, use_box, vload, takeV, V.cells, obsOk, List.map_cons, List.map_nil, List.length_cons, List.length_nil, List.getElem?_cons_zero, List.getElem?_cons_succ, and_true, true_and, Nat.reduceEqDiff, Nat.reduceAdd, Nat.zero_add, ↓reduceIte, eq_self, put_box_ne (Nat.ne_of_lt had)]
  refine Cal.mk (ofr_at (l := [mine, n0 % 65536, 1, 0, window % 65536]) (m := inM ⟨ty, n0, n1, n2, n3, n4, n5, n6, n7, n8, t0, t1, t2⟩ mine window) (by simp) rfl) ?_
  rintro _ _ ⟨rfl, rfl⟩ -
  simp (config := {maxSteps := 3000000}) only [ops_mv, ops_boxX, ops_store, ev_t, put_get, opv_mk, sto_ptr, put_box_same, use_box, vload, takeV, V.cells, ptrV, obsOk, List.length_cons, List.length_nil, List.getElem?_cons_zero, List.getElem?_cons_succ, and_true, true_and, Nat.reduceEqDiff, Nat.reduceAdd, Nat.zero_add, ↓reduceIte, ne_eq, not_false_eq_true, eq_self, reduceCtorEq, M9.v, M9.cells, inM, mN, put_box_ne (Nat.ne_of_lt had)]
  intro f hf _
  obtain ⟨hfd, hf⟩ := put_box_none hf
  obtain ⟨hfa, hf⟩ := put_box_none hf
  simp (config := {maxSteps := 3000000}) only [run_ret, at_code_n, at_fin_r, ops_nil, put_get, put_none, stb_some, Stp, put_box_same, use_box, args0, vload, takeV, splice, V.cells, obsOk, List.map_cons, List.map_nil, List.length_cons, List.length_nil, List.take_succ_cons, List.take_zero, List.drop_succ_cons, List.drop_zero, List.nil_append, List.append_nil, List.take_nil, List.drop_nil, and_true, true_and, Nat.reduceEqDiff, Nat.reduceAdd, Nat.reduceLT, Nat.reduceLeDiff, Nat.reduceLT, Nat.zero_add, ↓reduceIte, vret, rvAll, rvVal, resv_2, eq_self, put_box_ne (Ne.symm hfd)]
  refine ⟨_, st.put f (inC ⟨ty, n0, n1, n2, n3, n4, n5, n6, n7, n8, t0, t1, t2⟩ mine).cells, Wk.refl _, weak_putN ?_ ?_, f, hf, rfl, rfl⟩
  · exact weak_both (weak_use (weak_put (weak_put hwf.weak ha) hd1) (by simp only [put_sz] at *; omega))
  · rw [put_box_ne (Ne.symm hfd)]; exact wf_none hwf hd1
theorem rHang_v (hb : st.box b = some c.cells) (hc : c.Ok) (h5 : c.St5) : VCalls Try.prog 66 [ptrV b] st fun r st' => r = .sl .no ((hangM c).map M9.v) ∧ st' = st.put b (hangS c).cells := by
  obtain ⟨state, mine, theirs, known, window, delay, errors, a0, a1⟩ := c
  have hm := hc.mine
  have s1 := h5.1
  have s2 := h5.2
  simp only at hm s1 s2
  have e1 : mine % 4294967296 = mine := by omega
  refine vcalls_enter vc66 (Nat.le_of_ble_eq_true rfl) fun hwf hok => ?_
  show Run _ Vc66.body (.fin (finQ Vc66.res _)) _ _
  unfold Vc66
  have hbs := hwf.box _ _ hb
  have hps := put_self hb hbs
  by_cases c4 : 4 ≤ state
  · have c4' : state = 4 ∨ state = 5 := by omega
    rw [hangM, if_pos c4', hangS, if_pos c4', hps]
    simp (config := {maxSteps := 3000000}) only [run_reg, run_seq, run_ret, run_cond, if_true, at_code_n, at_code_r, at_fin_r, ops_nil, ops_mv, ops_bin, ops_fld, ops_load, ops_nilck, ev_t, ev_c, put_get, opv_mk, args0, List.getD_cons_zero, vbin, vbinI, vfld, vnil, vload, takeV, V.cells, ptrV, List.map_nil, List.length_cons, List.length_nil, List.getElem?_cons_zero, and_true, true_and, Nat.zero_add, Nat.add_zero, ↓reduceIte, vret, rvAll, rvVal, resv_1, eq_self, reduceCtorEq, hb, CL.cells, decide_eq_true c4]
    exact ⟨_, _, Wk.no, hwf.weak, rfl, rfl⟩
  have hn : ¬ (state = 4 ∨ state = 5) := by omega
  rw [hangM, if_neg hn, hangS, if_neg hn]
  simp (config := {maxSteps := 3000000}) only [run_skip, run_reg, run_seq, run_cond, if_false, at_code_n, ops_nil, ops_mv, ops_bin, ops_conv, ops_fld, ops_load, ops_nilck, ops_bslo, ops_store, ev_t, ev_c, put_get, put_none, opv_mk, stb_some, sto_ptr, Stp, put_box_same, args0, List.getD_cons_zero, vbin, vbinI, vconv, norm, vfld, vnil, vload, takeV, splice, V.cells, strip, strip1, ptrV, obsOk, List.map_cons, List.map_nil, List.length_cons, List.length_nil, List.getElem?_cons_zero, List.getElem?_cons_succ, List.take_zero, List.drop_succ_cons, List.drop_zero, List.cons_append, List.nil_append, true_and, Nat.reduceAdd, Nat.reduceLT, Nat.reduceLeDiff, Nat.reduceLT, Nat.zero_add, Nat.add_zero, ↓reduceIte, eq_self, reduceCtorEq, hb, CL.cells, decide_eq_false c4, e1]
  refine Bo.own (by simp [allLen, V.cells]) ?_
  intro g hg
  simp (config := {maxSteps := 3000000}) only [ops_call, ev_t, ev_c, put_get, obsOk, List.map_cons, List.map_nil, List.length_cons, List.length_nil, true_and, Nat.zero_add, ↓reduceIte, eq_self]
  refine Cal.mk (ofr_at (l := [mine]) (m := mN 12 mine 0 0 0 0 0 0 0 0) (by simp) rfl) ?_
  rintro _ _ ⟨rfl, rfl⟩ -
  simp (config := {maxSteps := 3000000}) only [ops_bslo, ev_t, put_get, strip, strip1, obsOk, List.map_cons, List.map_nil, true_and, ↓reduceIte, eq_self, M9.v, M9.cells, mN]
  refine Bo.own (by simp [allLen, V.cells]) ?_
  intro g2 hg2
  simp (config := {maxSteps := 3000000}) only [run_ret, at_code_n, at_fin_r, ops_nil, ops_mv, ev_t, put_get, opv_mk, obsOk, List.length_cons, List.length_nil, and_true, true_and, Nat.zero_add, ↓reduceIte, vret, rvAll, rvVal, resv_1, eq_self]
  exact ⟨_, _, Wk.no, weak_use (weak_use (weak_both hwf.weak) (by simp only [put_sz, use_sz] at *; omega)) (by simp only [put_sz, use_sz] at *; omega), rfl, rfl⟩
theorem rLate_v (hb : st.box b = some c.cells) (hc : c.Ok) (h5 : c.St5) : VCalls Try.prog 67 [ptrV b] st fun r st' => r = .sl .no ((lateM c).map M9.v) ∧ st' = st.put b (lateS c).cells := by
  obtain ⟨state, mine, theirs, known, window, delay, errors, a0, a1⟩ := c
  have hm := hc.mine
  have s1 := h5.1
  have s2 := h5.2
  simp only at hm s1 s2
  have e1 : mine % 4294967296 = mine := by omega
  refine vcalls_enter vc67 (Nat.le_of_ble_eq_true rfl) fun hwf hok => ?_
  show Run _ Vc67.body (.fin (finQ Vc67.res _)) _ _
  unfold Vc67
  have hbs := hwf.box _ _ hb
  have hps := put_self hb hbs
  by_cases c1 : state = 1 ∨ state = 2
  · rw [lateM, if_pos c1, lateS, if_pos (by rcases c1 with h | h; exact .inl h; exact .inr (.inl h))]
    rcases c1 with c1 | c1
    · simp (config := {maxSteps := 3000000}) only [run_reg, run_seq, run_cond, if_true, at_code_n, ops_nil, ops_grd, grd_tf, ops_mv, ops_pick, ops_bin, ops_conv, ops_fld, ops_load, ops_nilck, ops_bslo, ops_store, ev_t, ev_c, put_get, put_none, opv_mk, stb_some, sto_ptr, Stp, put_box_same, args0, List.getD_cons_zero, vpick, vbin, vbinI, vconv, norm, vfld, vnil, vload, takeV, splice, V.cells, strip, strip1, ptrV, obsOk, List.map_cons, List.map_nil, List.length_cons, List.length_nil, List.getElem?_cons_zero, List.getElem?_cons_succ, List.take_zero, List.drop_succ_cons, List.drop_zero, List.cons_append, List.nil_append, true_and, Nat.reduceEqDiff, Nat.reduceAdd, Nat.reduceLT, Nat.reduceLeDiff, Nat.reduceLT, Nat.zero_add, Nat.add_zero, ↓reduceIte, ne_eq, eq_self, reduceCtorEq, hb, CL.cells, decide_eq_true c1, decide_eq_true (show ¬ state = 3 by omega), e1]
      refine Bo.own (by simp [allLen, V.cells]) ?_
      intro g hg
      simp (config := {maxSteps := 3000000}) only [ops_call, ev_t, ev_c, put_get, obsOk, List.map_cons, List.map_nil, List.length_cons, List.length_nil, true_and, Nat.reduceAdd, Nat.zero_add, ↓reduceIte, eq_self]
      refine Cal.mk (ofr_at (l := [mine, 1]) (m := mN 13 mine 1 0 0 0 0 0 0 0) (by simp) rfl) ?_
      rintro _ _ ⟨rfl, rfl⟩ -
      simp (config := {maxSteps := 3000000}) only [ops_bslo, ev_t, put_get, strip, strip1, obsOk, List.map_cons, List.map_nil, true_and, Int.reduceMod, ↓reduceIte, eq_self, M9.v, M9.cells, mN, endM]
      refine Bo.own (by simp [allLen, V.cells]) ?_
      intro g2 hg2
      simp (config := {maxSteps := 3000000}) only [run_ret, at_code_n, at_code_r, at_fin_r, ops_nil, ops_mv, ev_t, put_get, opv_mk, obsOk, List.length_cons, List.length_nil, and_true, true_and, Nat.zero_add, ↓reduceIte, vret, rvAll, rvVal, resv_1, eq_self]
      exact ⟨_, _, Wk.no, weak_use (weak_use (weak_both hwf.weak) (by simp only [put_sz, use_sz] at *; omega)) (by simp only [put_sz, use_sz] at *; omega), rfl, rfl⟩
    · simp (config := {maxSteps := 3000000}) only [run_reg, run_seq, run_cond, if_true, at_code_n, ops_nil, ops_grd, grd_ff, ops_mv, ops_pick, ops_bin, ops_conv, ops_fld, ops_load, ops_nilck, ops_bslo, ops_store, ev_t, ev_c, put_get, put_none, opv_mk, stb_some, sto_ptr, Stp, put_box_same, args0, List.getD_cons_zero, vpick, vbin, vbinI, vconv, norm, vfld, vnil, vload, takeV, splice, V.cells, strip, strip1, ptrV, obsOk, List.map_cons, List.map_nil, List.length_cons, List.length_nil, List.getElem?_cons_zero, List.getElem?_cons_succ, List.take_zero, List.drop_succ_cons, List.drop_zero, List.cons_append, List.nil_append, true_and, Nat.reduceEqDiff, Nat.reduceAdd, Nat.reduceLT, Nat.reduceLeDiff, Nat.reduceLT, Nat.zero_add, Nat.add_zero, ↓reduceIte, ne_eq, eq_self, reduceCtorEq, Bool.false_eq_true, hb, CL.cells, decide_eq_false (show ¬ state = 1 by omega), decide_eq_true c1, decide_eq_true (show ¬ state = 3 by omega), e1]
      refine Bo.own (by simp [allLen, V.cells]) ?_
      intro g hg
      simp (config := {maxSteps := 3000000}) only [ops_call, ev_t, ev_c, put_get, obsOk, List.map_cons, List.map_nil, List.length_cons, List.length_nil, true_and, Nat.reduceAdd, Nat.zero_add, ↓reduceIte, eq_self]
      refine Cal.mk (ofr_at (l := [mine, 1]) (m := mN 13 mine 1 0 0 0 0 0 0 0) (by simp) rfl) ?_
      rintro _ _ ⟨rfl, rfl⟩ -
      simp (config := {maxSteps := 3000000}) only [ops_bslo, ev_t, put_get, strip, strip1, obsOk, List.map_cons, List.map_nil, true_and, Int.reduceMod, ↓reduceIte, eq_self, M9.v, M9.cells, mN, endM]
      refine Bo.own (by simp [allLen, V.cells]) ?_
      intro g2 hg2
      simp (config := {maxSteps := 3000000}) only [run_ret, at_code_n, at_code_r, at_fin_r, ops_nil, ops_mv, ev_t, put_get, opv_mk, obsOk, List.length_cons, List.length_nil, and_true, true_and, Nat.zero_add, ↓reduceIte, vret, rvAll, rvVal, resv_1, eq_self]
      exact ⟨_, _, Wk.no, weak_use (weak_use (weak_both hwf.weak) (by simp only [put_sz, use_sz] at *; omega)) (by simp only [put_sz, use_sz] at *; omega), rfl, rfl⟩
  rw [lateM, if_neg c1]
  by_cases c3 : state = 3
  · rw [lateS, if_neg (fun h => by simp only at h; omega), hps]
    simp (config := {maxSteps := 3000000}) only [run_skip, run_reg, run_seq, run_ret, run_cond, if_false, at_code_n, at_fin_r, ops_nil, ops_grd, grd_ff, ops_mv, ops_pick, ops_bin, ops_fld, ops_load, ops_nilck, ev_t, ev_c, put_get, opv_mk, args0, List.getD_cons_zero, vpick, vbin, vbinI, vfld, vnil, vload, takeV, V.cells, ptrV, List.map_nil, List.length_cons, List.length_nil, List.getElem?_cons_zero, and_true, true_and, Nat.reduceEqDiff, Nat.zero_add, Nat.add_zero, ↓reduceIte, vret, rvAll, rvVal, resv_1, ne_eq, eq_self, reduceCtorEq, Bool.false_eq_true, hb, CL.cells, decide_eq_false (show ¬ ¬ state = 3 by omega), decide_eq_false (show ¬ state = 1 by omega), decide_eq_false (show ¬ state = 2 by omega)]
    exact ⟨_, _, Wk.no, hwf.weak, rfl, rfl⟩
  · have hl : lateS ⟨state, mine, theirs, known, window, delay, errors, a0, a1⟩ = ⟨5, mine, theirs, known, window, delay, errors, a0, a1⟩ := by
      unfold lateS
      by_cases c4 : state = 4
      · rw [if_pos (.inr (.inr c4))]
      · obtain rfl : state = 5 := by omega
        rfl
    rw [hl]
    simp (config := {maxSteps := 3000000}) only [run_skip, run_reg, run_seq, run_ret, run_cond, if_true, if_false, at_code_n, at_fin_r, ops_nil, ops_grd, grd_ff, ops_mv, ops_pick, ops_bin, ops_fld, ops_load, ops_nilck, ops_store, ev_t, ev_c, put_get, put_none, opv_mk, stb_some, sto_ptr, Stp, args0, List.getD_cons_zero, vpick, vbin, vbinI, vfld, vnil, vload, takeV, splice, V.cells, ptrV, obsOk, List.map_nil, List.length_cons, List.length_nil, List.getElem?_cons_zero, List.take_zero, List.drop_succ_cons, List.drop_zero, List.cons_append, List.nil_append, and_true, true_and, Nat.reduceEqDiff, Nat.reduceAdd, Nat.reduceLT, Nat.reduceLeDiff, Nat.reduceLT, Nat.zero_add, Nat.add_zero, ↓reduceIte, vret, rvAll, rvVal, resv_1, ne_eq, eq_self, reduceCtorEq, Bool.false_eq_true, hb, CL.cells, decide_eq_true (p := ¬ state = 3) c3, decide_eq_false (show ¬ state = 1 by omega), decide_eq_false (show ¬ state = 2 by omega)]
    exact ⟨_, _, Wk.no, weak_both hwf.weak, rfl, rfl⟩
theorem rInfo_v (hb : st.box b = some c.cells) (hc : c.Ok) : VCalls Try.prog 68 [ptrV b] st fun r st' => r = .sl .no ((infoM c).map M9.v) ∧ st = st' := by
  obtain ⟨state, mine, theirs, known, window, delay, errors, a0, a1⟩ := c
  have hm := hc.theirs
  simp only at hm
  have e1 : theirs % 4294967296 = theirs := by omega
  refine vcalls_enter vc68 (Nat.le_of_ble_eq_true rfl) fun hwf hok => ?_
  show Run _ Vc68.body (.fin (finQ Vc68.res _)) _ _
  unfold Vc68
  by_cases c3 : state = 3
  rotate_left
  · rw [infoM, if_neg c3]
    simp (config := {maxSteps := 3000000}) only [run_reg, run_seq, run_ret, run_cond, if_true, at_code_n, at_code_r, at_fin_r, ops_nil, ops_mv, ops_bin, ops_fld, ops_load, ops_nilck, ev_t, ev_c, put_get, opv_mk, args0, List.getD_cons_zero, vbin, vbinI, vfld, vnil, vload, takeV, V.cells, ptrV, List.map_nil, List.length_cons, List.length_nil, List.getElem?_cons_zero, and_true, true_and, Nat.zero_add, Nat.add_zero, ↓reduceIte, vret, rvAll, rvVal, resv_1, ne_eq, eq_self, reduceCtorEq, hb, CL.cells, decide_eq_true c3]
    exact ⟨_, _, Wk.no, hwf.weak, rfl, rfl⟩
  rw [infoM, if_pos c3]
  simp (config := {maxSteps := 3000000}) only [run_skip, run_reg, run_seq, run_cond, if_false, at_code_n, ops_nil, ops_mv, ops_bin, ops_conv, ops_fld, ops_load, ops_nilck, ops_bslo, ev_t, ev_c, put_get, opv_mk, args0, List.getD_cons_zero, vbin, vbinI, vconv, norm, vfld, vnil, vload, takeV, V.cells, strip, strip1, ptrV, List.map_cons, List.map_nil, List.length_cons, List.length_nil, List.getElem?_cons_zero, List.getElem?_cons_succ, true_and, Nat.zero_add, Nat.add_zero, ↓reduceIte, ne_eq, eq_self, reduceCtorEq, hb, CL.cells, decide_eq_false (show ¬ ¬ state = 3 by omega), e1]
  refine Bo.own (by simp [allLen, V.cells]) ?_
  intro g hg
  simp (config := {maxSteps := 3000000}) only [ops_call, ev_t, ev_c, put_get, obsOk, List.map_cons, List.map_nil, List.length_cons, List.length_nil, true_and, Nat.reduceAdd, Nat.zero_add, ↓reduceIte, eq_self]
  refine Cal.mk (ofr_at (l := [theirs, 4294967295, 4294967295]) (m := mN 15 theirs 4294967295 4294967295 0 0 0 0 0 0) (by simp) rfl) ?_
  rintro _ _ ⟨rfl, rfl⟩ -
  simp (config := {maxSteps := 3000000}) only [ops_bslo, ev_t, put_get, strip, strip1, obsOk, List.map_cons, List.map_nil, true_and, ↓reduceIte, eq_self, M9.v, M9.cells, mN]
  refine Bo.own (by simp [allLen, V.cells]) ?_
  intro g2 hg2
  simp (config := {maxSteps := 3000000}) only [run_ret, at_code_n, at_fin_r, ops_nil, ops_mv, ev_t, put_get, opv_mk, obsOk, List.length_cons, List.length_nil, and_true, true_and, Nat.zero_add, ↓reduceIte, vret, rvAll, rvVal, resv_1, eq_self]
  exact ⟨_, _, Wk.no, weak_use (weak_use hwf.weak (by simp only [use_sz] at *; omega)) (by simp only [use_sz] at *; omega), rfl, rfl⟩
theorem rTake_v (hb : st.box b = some c.cells) (he0 : 0 ≤ c.errors ∧ c.errors ≤ 1000000) {m : M9} (hm : m.Ok) (hc : c.Ok) : VCalls Try.prog 69 [ptrV b, m.v] st fun r st' => r = .sl .no ((takeM c m).map M9.v) ∧ st' = st.put b (takeS c m).cells := by
  have k0 := hm.n0
  have k2 := hm.n2
  have k3 := hm.n3
  have k6 := hm.n6
  have k7 := hm.n7
  have hS : takeS c m = if m.ty = 11 ∧ c.state = 1 then { c with state := 3, window := m.n2, delay := m.n3 } else if m.ty = 8 ∧ c.state = 2 then replyS c m else if m.ty = 12 ∧ c.state ≠ 5 then { c with state := 5 } else if m.ty = 13 then { c with state := 5 } else if m.ty = 14 ∧ c.state = 3 then { c with errors := c.errors + 1 } else if m.ty = 15 ∧ c.state = 3 then { c with a0 := m.n1, a1 := m.n2 } else c := rfl
  have hM : takeM c m = if m.ty = 12 ∧ c.state ≠ 5 then [endM c 4] else [] := rfl
  have hmine := hc.mine
  generalize takeS c m = TS at *
  generalize takeM c m = TM at *
  clear hm hc
  obtain ⟨state, mine, theirs, known, window, delay, errors, a0, a1⟩ := c
  obtain ⟨ty, n0, n1, n2, n3, n4, n5, n6, n7, n8, t0, t1, t2⟩ := m
  simp only at k0 k2 k3 k6 k7 he0 hS hM hmine
  have e1 : mine % 4294967296 = mine := by omega
  have e2 : n0 % 65536 % 65536 = n0 % 65536 := by omega
  refine vcalls_enter vc69 (Nat.le_of_ble_eq_true rfl) fun hwf hok => ?_
  show Run _ Vc69.body (.fin (finQ Vc69.res _)) _ _
  unfold Vc69
  have hbs := hwf.box _ _ hb
  have hps := put_self hb hbs
  simp (config := {maxSteps := 3000000}) only [run_reg, run_seq, at_code_n, ops_nil, ops_grd, ops_mv, ops_bin, ops_fld, ops_load, ops_box, ev_t, ev_c, put_get, opv_mk, Bx, put_box_same, args0, List.getD_cons_zero, List.getD_cons_succ, vbin, vbinI, vfld, vload, takeV, V.cells, ptrV, obsOk, List.length_cons, List.length_nil, List.getElem?_cons_zero, true_and, Nat.reduceEqDiff, Nat.reduceAdd, Nat.zero_add, Nat.add_zero, ↓reduceIte, ne_eq, not_false_eq_true, eq_self, reduceCtorEq, M9.v, M9.cells]
  intro d hd
  have hbd : b < d := by omega
  by_cases c1 : ty = 11 ∧ state = 1
  · rw [if_pos c1] at hS
    rw [if_neg (by omega)] at hM
    subst hS hM
    obtain ⟨rfl, rfl⟩ := c1
    simp (config := {maxSteps := 3000000}) only [run_reg, run_seq, run_ret, run_cond, if_true, at_code_n, at_code_r, at_fin_r, ops_nil, ops_grd, grd_tt, ops_mv, ops_pick, ops_bin, ops_conv, ops_fld, ops_ixa, ops_load, ops_nilck, ops_store, ev_t, ev_c, put_get, put_none, opv_mk, stb_some, sto_ptr, Stp, put_box_same, put_put, args0, List.getD_cons_zero, vpick, vbin, vbinI, vconv, norm, vfld, vnil, vixa, vload, takeV, splice, V.cells, obsOk, List.map_nil, List.length_cons, List.length_nil, List.getElem?_cons_zero, List.getElem?_cons_succ, List.take_succ_cons, List.take_zero, List.drop_succ_cons, List.drop_zero, List.cons_append, List.nil_append, and_true, true_and, Nat.reduceEqDiff, Nat.reduceAdd, Nat.reduceLT, Nat.reduceLeDiff, Nat.reduceLT, Int.reduceToNat, Int.reduceLE, Int.reduceLT, Int.reduceNeg, Nat.zero_add, Nat.add_zero, Nat.mul_one, ↓reduceIte, vret, rvAll, rvVal, resv_1, decide_true, eq_self, reduceCtorEq, hb, put_box_ne (Nat.ne_of_lt hbd), put_box_ne (Nat.ne_of_gt hbd), nc9, CL.cells, List.map_nil]
    repeat (apply And.intro; focus (first | omega | (simp; done)))
    exact ⟨_, _, Wk.no, weak_both (weak_put hwf.weak hd), rfl, rfl⟩
  rw [if_neg c1] at hS
  by_cases c2 : ty = 8 ∧ state = 2
  · rw [if_pos c2] at hS
    rw [if_neg (by omega)] at hM
    subst hS hM
    obtain ⟨rfl, rfl⟩ := c2
    by_cases r1 : n2 = 1
    rotate_left
    · rw [replyS, if_pos r1]
      simp (config := {maxSteps := 3000000}) only [run_skip, run_reg, run_seq, run_ret, run_cond, if_true, if_false, at_code_n, at_code_r, at_fin_r, ops_nil, ops_grd, grd_tt, grd_ft, ops_mv, ops_pick, ops_bin, ops_fld, ops_ixa, ops_load, ops_nilck, ops_store, ev_t, ev_c, put_get, put_none, opv_mk, stb_some, sto_ptr, Stp, put_box_same, args0, List.getD_cons_zero, vpick, vbin, vbinI, vfld, vnil, vixa, vload, takeV, splice, V.cells, obsOk, List.map_nil, List.length_cons, List.length_nil, List.getElem?_cons_zero, List.getElem?_cons_succ, List.take_zero, List.drop_succ_cons, List.drop_zero, List.cons_append, List.nil_append, and_true, true_and, Nat.reduceEqDiff, Nat.reduceAdd, Nat.reduceLT, Nat.reduceLeDiff, Nat.reduceLT, Int.reduceToNat, Int.reduceLE, Int.reduceLT, Int.reduceEq, Nat.zero_add, Nat.add_zero, Nat.mul_one, ↓reduceIte, vret, rvAll, rvVal, resv_1, decide_true, decide_false, ne_eq, eq_self, reduceCtorEq, Bool.false_eq_true, hb, put_box_ne (Nat.ne_of_lt hbd), nc9, CL.cells, List.map_nil, decide_eq_true (p := ¬ n2 = 1) r1]
      exact ⟨_, _, Wk.no, weak_both (weak_put hwf.weak hd), rfl, rfl⟩
    · rw [replyS, if_neg (by simpa using r1)]
      simp (config := {maxSteps := 3000000}) only [run_skip, run_reg, run_seq, run_ret, run_cond, if_true, if_false, at_code_n, at_code_r, at_fin_r, ops_nil, ops_grd, grd_tt, grd_ft, ops_mv, ops_pick, ops_bin, ops_conv, ops_fld, ops_ixa, ops_load, ops_nilck, ops_store, ev_t, ev_c, put_get, put_none, opv_mk, stb_some, sto_ptr, Stp, put_box_same, put_put, args0, List.getD_cons_zero, vpick, vbin, vbinI, vconv, norm, vfld, vnil, vixa, vload, takeV, splice, V.cells, obsOk, List.map_nil, List.length_cons, List.length_nil, List.getElem?_cons_zero, List.getElem?_cons_succ, List.take_succ_cons, List.take_zero, List.drop_succ_cons, List.drop_zero, List.cons_append, List.nil_append, and_true, true_and, Nat.reduceEqDiff, Nat.reduceAdd, Nat.reduceLT, Nat.reduceLeDiff, Nat.reduceLT, Int.reduceToNat, Int.reduceLE, Int.reduceLT, Int.reduceNeg, Int.reduceEq, Nat.zero_add, Nat.add_zero, Nat.mul_one, ↓reduceIte, vret, rvAll, rvVal, resv_1, decide_true, decide_false, ne_eq, eq_self, reduceCtorEq, Bool.false_eq_true, hb, put_box_ne (Nat.ne_of_lt hbd), put_box_ne (Nat.ne_of_gt hbd), nc9, CL.cells, List.map_nil, decide_eq_false (show ¬ ¬ n2 = 1 by omega), e2]
      repeat (apply And.intro; focus (first | omega | (simp; done)))
      exact ⟨_, _, Wk.no, weak_both (weak_put hwf.weak hd), rfl, rfl⟩
  rw [if_neg c2] at hS
  have q1 : ty = 11 → decide (state = 1) = false := fun h => decide_eq_false fun h' => c1 ⟨h, h'⟩
  have q2 : ty = 8 → decide (state = 2) = false := fun h => decide_eq_false fun h' => c2 ⟨h, h'⟩
  by_cases c3 : ty = 12 ∧ state ≠ 5
  · rw [if_pos c3] at hS hM
    subst hS hM
    obtain ⟨rfl, c3⟩ := c3
    simp (config := {maxSteps := 3000000}) only [run_skip, run_reg, run_seq, run_cond, if_true, if_false, at_code_n, ops_nil, ops_grd, grd_tt, grd_ft, ops_mv, ops_pick, ops_bin, ops_conv, ops_fld, ops_load, ops_nilck, ops_bslo, ops_store, ev_t, ev_c, put_get, put_none, opv_mk, stb_some, sto_ptr, Stp, put_box_same, args0, List.getD_cons_zero, vpick, vbin, vbinI, vconv, norm, vfld, vnil, vload, takeV, splice, V.cells, strip, strip1, obsOk, List.map_cons, List.map_nil, List.length_cons, List.length_nil, List.getElem?_cons_zero, List.getElem?_cons_succ, List.take_zero, List.drop_succ_cons, List.drop_zero, List.cons_append, List.nil_append, true_and, Nat.reduceEqDiff, Nat.reduceAdd, Nat.reduceLT, Nat.reduceLeDiff, Nat.reduceLT, Int.reduceEq, Nat.zero_add, Nat.add_zero, ↓reduceIte, decide_true, decide_false, ne_eq, eq_self, reduceCtorEq, Bool.false_eq_true, hb, put_box_ne (Nat.ne_of_lt hbd), CL.cells, decide_eq_true (p := ¬ state = 5) c3, e1]
    refine Bo.own (by simp [allLen, V.cells]) ?_
    intro g hg
    simp (config := {maxSteps := 3000000}) only [ops_call, ev_t, ev_c, put_get, obsOk, List.map_cons, List.map_nil, List.length_cons, List.length_nil, true_and, Nat.reduceAdd, Nat.zero_add, ↓reduceIte, eq_self]
    refine Cal.mk (ofr_at (l := [mine, 4]) (m := mN 13 mine 4 0 0 0 0 0 0 0) (by simp) rfl) ?_
    rintro _ _ ⟨rfl, rfl⟩ -
    simp (config := {maxSteps := 3000000}) only [ops_bslo, ev_t, put_get, strip, strip1, obsOk, List.map_cons, List.map_nil, true_and, Int.reduceMod, ↓reduceIte, eq_self, M9.v, M9.cells, mN, endM]
    refine Bo.own (by simp [allLen, V.cells]) ?_
    intro g2 hg2
    simp (config := {maxSteps := 3000000}) only [run_ret, at_code_n, at_code_r, at_fin_r, ops_nil, ops_mv, ev_t, put_get, opv_mk, obsOk, List.length_cons, List.length_nil, and_true, true_and, Nat.zero_add, ↓reduceIte, vret, rvAll, rvVal, resv_1, eq_self]
    exact ⟨_, _, Wk.no, weak_use (weak_use (weak_both (weak_put hwf.weak hd)) (by simp only [put_sz] at *; omega)) (by simp only [put_sz, use_sz] at *; omega), rfl, rfl⟩
  rw [if_neg c3] at hS hM
  subst hM
  have c3' : ¬ ty = 12 ∨ state = 5 := by
    by_cases h : ty = 12
    · exact .inr (Classical.byContradiction fun h' => c3 ⟨h, h'⟩)
    · exact .inl h
  by_cases c4 : ty = 13
  · rw [if_pos c4] at hS
    subst hS c4
    simp (config := {maxSteps := 3000000}) only [run_skip, run_reg, run_seq, run_ret, run_cond, if_true, if_false, at_code_n, at_fin_r, ops_nil, ops_grd, grd_ft, ops_mv, ops_pick, ops_bin, ops_fld, ops_load, ops_nilck, ops_store, ev_t, ev_c, put_get, put_none, opv_mk, stb_some, sto_ptr, Stp, put_box_same, args0, List.getD_cons_zero, vpick, vbin, vbinI, vfld, vnil, vload, takeV, splice, V.cells, obsOk, List.map_nil, List.length_cons, List.length_nil, List.getElem?_cons_zero, List.take_zero, List.drop_succ_cons, List.drop_zero, List.cons_append, List.nil_append, and_true, true_and, Nat.reduceEqDiff, Nat.reduceAdd, Nat.reduceLT, Nat.reduceLeDiff, Nat.reduceLT, Int.reduceEq, Nat.zero_add, Nat.add_zero, ↓reduceIte, vret, rvAll, rvVal, resv_1, decide_true, decide_false, eq_self, reduceCtorEq, Bool.false_eq_true, hb, put_box_ne (Nat.ne_of_lt hbd), put_box_ne (Nat.ne_of_gt hbd), CL.cells, List.map_nil]
    exact ⟨_, _, Wk.no, weak_both (weak_put hwf.weak hd), rfl, rfl⟩
  rw [if_neg c4] at hS
  by_cases c5 : ty = 14 ∧ state = 3
  · rw [if_pos c5] at hS
    subst hS
    obtain ⟨rfl, rfl⟩ := c5
    simp (config := {maxSteps := 3000000}) only [run_skip, run_reg, run_seq, run_ret, run_cond, if_true, if_false, at_code_n, at_fin_r, ops_nil, ops_grd, grd_tt, grd_ft, ops_mv, ops_pick, ops_bin, ops_fld, ops_load, ops_nilck, ops_store, ev_t, ev_c, put_get, put_none, opv_mk, stb_some, sto_ptr, Stp, put_box_same, args0, List.getD_cons_zero, vpick, vbin, vbinI, norm, vfld, vnil, vload, takeV, splice, V.cells, obsOk, List.map_nil, List.length_cons, List.length_nil, List.getElem?_cons_zero, List.getElem?_cons_succ, List.take_succ_cons, List.take_zero, List.drop_succ_cons, List.drop_zero, List.cons_append, List.nil_append, and_true, true_and, Nat.reduceEqDiff, Nat.reduceAdd, Nat.reduceLT, Nat.reduceLeDiff, Nat.reduceLT, Int.reduceNeg, Int.reduceEq, Nat.zero_add, Nat.add_zero, ↓reduceIte, vret, rvAll, rvVal, resv_1, decide_true, decide_false, eq_self, reduceCtorEq, Bool.false_eq_true, hb, put_box_ne (Nat.ne_of_lt hbd), put_box_ne (Nat.ne_of_gt hbd), CL.cells, List.map_nil]
    repeat (apply And.intro; focus (first | omega | (simp; done)))
    exact ⟨_, _, Wk.no, weak_both (weak_put hwf.weak hd), rfl, rfl⟩
  rw [if_neg c5] at hS
  by_cases c6 : ty = 15 ∧ state = 3
  · rw [if_pos c6] at hS
    subst hS
    obtain ⟨rfl, rfl⟩ := c6
    simp (config := {maxSteps := 3000000}) only [run_skip, run_reg, run_seq, run_ret, run_cond, if_true, if_false, at_code_n, at_fin_r, ops_nil, ops_grd, grd_tt, grd_ft, ops_mv, ops_pick, ops_bin, ops_fld, ops_ixa, ops_load, ops_nilck, ops_bld, ops_store, ev_t, ev_c, put_get, put_none, opv_mk, stb_some, sto_ptr, Stp, vbld, put_box_same, args0, List.getD_cons_zero, vpick, vbin, vbinI, vfld, vnil, vixa, vload, takeV, fillV, splice, V.cells, obsOk, List.map_cons, List.map_nil, List.length_cons, List.length_nil, List.getElem?_cons_zero, List.getElem?_cons_succ, List.take_succ_cons, List.take_zero, List.drop_succ_cons, List.drop_zero, List.cons_append, List.nil_append, List.append_nil, List.drop_nil, and_true, true_and, Nat.reduceEqDiff, Nat.reduceAdd, Nat.reduceLT, Nat.reduceLeDiff, Nat.reduceLT, Int.reduceToNat, Int.reduceLE, Int.reduceLT, Int.reduceEq, Nat.zero_add, Nat.add_zero, Nat.mul_one, ↓reduceIte, vret, rvAll, rvVal, resv_1, decide_true, decide_false, eq_self, reduceCtorEq, Bool.false_eq_true, hb, put_box_ne (Nat.ne_of_lt hbd), nc9, CL.cells, List.map_nil]
    repeat (apply And.intro; focus (first | omega | (simp; done)))
    exact ⟨_, _, Wk.no, weak_both (weak_put hwf.weak hd), rfl, rfl⟩
  rw [if_neg c6] at hS
  subst hS
  rw [hps]
  have q5 : ty = 14 → decide (state = 3) = false := fun h => decide_eq_false fun h' => c5 ⟨h, h'⟩
  have q6 : ty = 15 → decide (state = 3) = false := fun h => decide_eq_false fun h' => c6 ⟨h, h'⟩
  by_cases t1 : ty = 11
  · have q1 := q1 t1
    subst t1
    simp (config := {maxSteps := 3000000}) only [run_skip, run_reg, run_seq, run_ret, run_cond, if_false, at_code_n, at_fin_r, ops_nil, ops_grd, grd_tt, grd_ft, ops_mv, ops_pick, ops_bin, ops_fld, ops_load, ops_nilck, ev_t, ev_c, put_get, opv_mk, put_box_same, args0, List.getD_cons_zero, vpick, vbin, vbinI, vfld, vnil, vload, takeV, V.cells, List.map_nil, List.length_cons, List.length_nil, List.getElem?_cons_zero, and_true, true_and, Nat.reduceEqDiff, Int.reduceEq, Nat.zero_add, Nat.add_zero, ↓reduceIte, vret, rvAll, rvVal, resv_1, decide_true, decide_false, eq_self, reduceCtorEq, Bool.false_eq_true, hb, put_box_ne (Nat.ne_of_lt hbd), CL.cells, q1, List.map_nil]
    exact ⟨_, _, Wk.no, weak_put hwf.weak hd, rfl, rfl⟩
  by_cases t2' : ty = 8
  · have q2 := q2 t2'
    subst t2'
    simp (config := {maxSteps := 3000000}) only [run_skip, run_reg, run_seq, run_ret, run_cond, if_false, at_code_n, at_fin_r, ops_nil, ops_grd, grd_tt, grd_ft, ops_mv, ops_pick, ops_bin, ops_fld, ops_load, ops_nilck, ev_t, ev_c, put_get, opv_mk, put_box_same, args0, List.getD_cons_zero, vpick, vbin, vbinI, vfld, vnil, vload, takeV, V.cells, List.map_nil, List.length_cons, List.length_nil, List.getElem?_cons_zero, and_true, true_and, Nat.reduceEqDiff, Int.reduceEq, Nat.zero_add, Nat.add_zero, ↓reduceIte, vret, rvAll, rvVal, resv_1, decide_true, decide_false, eq_self, reduceCtorEq, Bool.false_eq_true, hb, put_box_ne (Nat.ne_of_lt hbd), CL.cells, q2, List.map_nil]
    exact ⟨_, _, Wk.no, weak_put hwf.weak hd, rfl, rfl⟩
  by_cases t3 : ty = 12
  · have q3 : state = 5 := by rcases c3' with h | h; exact absurd t3 h; exact h
    subst t3 q3
    simp (config := {maxSteps := 3000000}) only [run_skip, run_reg, run_seq, run_ret, run_cond, if_false, at_code_n, at_fin_r, ops_nil, ops_grd, grd_tt, grd_ft, ops_mv, ops_pick, ops_bin, ops_fld, ops_load, ops_nilck, ev_t, ev_c, put_get, opv_mk, put_box_same, args0, List.getD_cons_zero, vpick, vbin, vbinI, vfld, vnil, vload, takeV, V.cells, List.map_nil, List.length_cons, List.length_nil, List.getElem?_cons_zero, and_true, true_and, Nat.reduceEqDiff, Int.reduceEq, Nat.zero_add, Nat.add_zero, ↓reduceIte, vret, rvAll, rvVal, resv_1, decide_true, decide_false, ne_eq, not_true_eq_false, eq_self, reduceCtorEq, Bool.false_eq_true, hb, put_box_ne (Nat.ne_of_lt hbd), CL.cells, List.map_nil]
    exact ⟨_, _, Wk.no, weak_put hwf.weak hd, rfl, rfl⟩
  by_cases t5 : ty = 14
  · have q5 := q5 t5
    subst t5
    simp (config := {maxSteps := 3000000}) only [run_skip, run_reg, run_seq, run_ret, run_cond, if_false, at_code_n, at_fin_r, ops_nil, ops_grd, grd_tt, grd_ft, ops_mv, ops_pick, ops_bin, ops_fld, ops_load, ops_nilck, ev_t, ev_c, put_get, opv_mk, put_box_same, args0, List.getD_cons_zero, vpick, vbin, vbinI, vfld, vnil, vload, takeV, V.cells, List.map_nil, List.length_cons, List.length_nil, List.getElem?_cons_zero, and_true, true_and, Nat.reduceEqDiff, Int.reduceEq, Nat.zero_add, Nat.add_zero, ↓reduceIte, vret, rvAll, rvVal, resv_1, decide_true, decide_false, eq_self, reduceCtorEq, Bool.false_eq_true, hb, put_box_ne (Nat.ne_of_lt hbd), CL.cells, q5, List.map_nil]
    exact ⟨_, _, Wk.no, weak_put hwf.weak hd, rfl, rfl⟩
  by_cases t6 : ty = 15
  · have q6 := q6 t6
    subst t6
    simp (config := {maxSteps := 3000000}) only [run_skip, run_reg, run_seq, run_ret, run_cond, if_false, at_code_n, at_fin_r, ops_nil, ops_grd, grd_tt, grd_ft, ops_mv, ops_pick, ops_bin, ops_fld, ops_load, ops_nilck, ev_t, ev_c, put_get, opv_mk, put_box_same, args0, List.getD_cons_zero, vpick, vbin, vbinI, vfld, vnil, vload, takeV, V.cells, List.map_nil, List.length_cons, List.length_nil, List.getElem?_cons_zero, and_true, true_and, Nat.reduceEqDiff, Int.reduceEq, Nat.zero_add, Nat.add_zero, ↓reduceIte, vret, rvAll, rvVal, resv_1, decide_true, decide_false, eq_self, reduceCtorEq, Bool.false_eq_true, hb, put_box_ne (Nat.ne_of_lt hbd), CL.cells, q6, List.map_nil]
    exact ⟨_, _, Wk.no, weak_put hwf.weak hd, rfl, rfl⟩
  simp (config := {maxSteps := 3000000}) only [run_skip, run_reg, run_seq, run_ret, run_cond, if_false, at_code_n, at_fin_r, ops_nil, ops_grd, grd_ft, ops_mv, ops_pick, ops_bin, ops_fld, ops_load, ev_t, ev_c, put_get, opv_mk, put_box_same, vpick, vbin, vbinI, vfld, vload, takeV, V.cells, List.map_nil, List.length_cons, List.length_nil, List.getElem?_cons_zero, and_true, true_and, Nat.reduceEqDiff, Nat.zero_add, Nat.add_zero, ↓reduceIte, vret, rvAll, rvVal, resv_1, eq_self, Bool.false_eq_true, decide_eq_false t1, decide_eq_false t2', decide_eq_false t3, decide_eq_false c4, decide_eq_false t5, decide_eq_false t6, List.map_nil]
  exact ⟨_, _, Wk.no, weak_put hwf.weak hd, rfl, rfl⟩
end
end Go.Proofs.Ytogkdcbcmhhhcaa
