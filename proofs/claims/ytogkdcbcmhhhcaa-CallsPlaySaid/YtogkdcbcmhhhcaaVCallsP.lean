/- CallsPlay: a call, message by message, walked. -/
import Derived.Test.YtogkdcbcmhhhcaaVCallsS
namespace Go.Proofs.Ytogkdcbcmhhhcaa
open Go Go.RowKit

theorem hangS_5 {c : CL} (h : c.St5) : (hangS c).St5 := by
  unfold hangS
  split
  · exact h
  · exact ⟨by simp only; omega, by simp only; omega⟩
theorem lateS_5 {c : CL} (h : c.St5) : (lateS c).St5 := by
  unfold lateS
  split
  · exact ⟨by simp only; omega, by simp only; omega⟩
  · exact h
theorem takeS_5 {c : CL} (h : c.St5) (m : M9) : (takeS c m).St5 := by
  unfold takeS
  split
  · exact ⟨by simp only; omega, by simp only; omega⟩
  split
  · unfold replyS
    split
    · exact ⟨by simp only; omega, by simp only; omega⟩
    · exact ⟨by simp only; omega, by simp only; omega⟩
  split
  · exact ⟨by simp only; omega, by simp only; omega⟩
  split
  · exact ⟨by simp only; omega, by simp only; omega⟩
  split
  · exact h
  split
  · exact h
  · exact h
def stepS (c : CL) (o : Int × M9) : CL := if o.1 % 7 = 4 then hangS c else if o.1 % 7 = 5 then lateS c else if o.1 % 7 = 6 then c else takeS c o.2
theorem stepS_ok {c : CL} (h : c.Ok) (h5 : c.St5) (o : Int × M9) : (stepS c o).Ok ∧ (stepS c o).St5 ∧ c.errors ≤ (stepS c o).errors ∧ (stepS c o).errors ≤ c.errors + 1 := by
  unfold stepS
  split
  · have := hangS_ok h; exact ⟨this.1, hangS_5 h5, by omega, by omega⟩
  split
  · have := lateS_ok h; exact ⟨this.1, lateS_5 h5, by omega, by omega⟩
  split
  · exact ⟨h, h5, by omega, by omega⟩
  · have := takeS_ok h o.2; exact ⟨this.1, takeS_5 h5 _, by omega, by omega⟩
theorem hangM_len (c : CL) : (hangM c).length ≤ 1000 := by unfold hangM; split <;> simp
theorem lateM_len (c : CL) : (lateM c).length ≤ 1000 := by unfold lateM; split <;> simp
theorem infoM_len (c : CL) : (infoM c).length ≤ 1000 := by unfold infoM; split <;> simp
theorem takeM_len (c : CL) (m : M9) : (takeM c m).length ≤ 1000 := by unfold takeM; split <;> simp
section
variable {tk tk' : Tk} {st : St} {b e : Nat} {c : CL}
theorem step_v (hb : st.box b = some c.cells) (he : st.box e = some c.cells) (hbe : b ≠ e) (hc : c.Ok) (h5 : c.St5) (he0 : 0 ≤ c.errors ∧ c.errors ≤ 1000000) {o : Int × M9} (ho : o.2.Ok) (h0 : 0 ≤ o.1) :
    VCalls Try.prog 28 [ptrV b, ptrV e, opV o] st fun r st' => r = .sc (.bool true) ∧ st' = (st.put b (stepS c o).cells).put e (stepS c o).cells := by
  have hT := fun s hs => callTake_v (st := s) (b := b) (c := c) hs hc he0 ho
  have hR := fun s hs => rTake_v (st := s) (b := e) (c := c) hs he0 ho hc
  have hS : stepS c o = if o.1 % 7 = 4 then hangS c else if o.1 % 7 = 5 then lateS c else if o.1 % 7 = 6 then c else takeS c o.2 := rfl
  generalize stepS c o = SS at *
  have lT := takeM_len c o.2
  obtain ⟨kind, m⟩ := o
  simp only at hT hR hS lT ho h0
  generalize takeM c m = TM at *
  generalize takeS c m = TS at *
  obtain ⟨ty, n0, n1, n2, n3, n4, n5, n6, n7, n8, t0, t1, t2⟩ := m
  simp only [M9.v, M9.cells] at hT hR
  clear ho
  refine vcalls_enter vc28 (Nat.le_of_ble_eq_true rfl) fun hwf hok => ?_
  show Run _ Vc28.body (.fin (finQ Vc28.res _)) _ _
  unfold Vc28
  have hbs := hwf.box _ _ hb
  have hes := hwf.box _ _ he
  simp (config := {maxSteps := 3000000}) only [run_reg, run_seq, run_blk, run_cond, at_code_n, ops_nil, ops_mv, ops_bin, ops_fld, ops_load, ops_box, ev_t, ev_c, put_get, opv_mk, Bx, put_box_same, args0, List.getD_cons_zero, List.getD_cons_succ, vbin, vbinI, vfld, vload, takeV, V.cells, ptrV, obsOk, List.length_cons, List.length_nil, List.getElem?_cons_zero, and_true, true_and, Nat.reduceEqDiff, Nat.reduceAdd, Int.reduceLT, Nat.zero_add, Nat.add_zero, ↓reduceIte, ne_eq, not_false_eq_true, eq_self, reduceCtorEq, opV]
  intro d hd
  obtain ⟨hbd, hed⟩ : b < d ∧ e < d := by omega
  have hb' : ∀ X, (st.put d X).box b = some c.cells := fun X => by rw [put_box_ne (Nat.ne_of_lt hbd)]; exact hb
  have he' : ∀ X, (st.put d X).box e = some c.cells := fun X => by rw [put_box_ne (Nat.ne_of_lt hed)]; exact he
  by_cases k4 : kind % 7 = 4
  · have d4 := decide_eq_true k4
    rw [if_pos k4] at hS
    subst hS
    simp (config := {maxSteps := 3000000}) only [run_reg, run_seq, if_true, ops_mv, ops_call, ev_t, put_get, opv_mk, args0, List.getD_cons_zero, List.map_cons, List.map_nil, true_and, ↓reduceIte, eq_self, reduceCtorEq, d4]
    repeat (apply And.intro; focus (first | omega | (simp; done)))
    refine Cal.mk (Hang_v (hb' _) hc) ?_
    rintro _ _ ⟨rfl, rfl⟩ -
    simp (config := {maxSteps := 3000000}) only [ops_mv, ops_call, ev_t, put_get, opv_mk, args0, List.getD_cons_zero, List.getD_cons_succ, obsOk, List.map_cons, List.map_nil, true_and, Nat.reduceEqDiff, ↓reduceIte, eq_self]
    refine Cal.mk (rHang_v (c := c) (by rw [put_box_ne (Ne.symm hbe)]; exact he' _) hc h5) ?_
    rintro _ _ ⟨rfl, rfl⟩ -
    simp (config := {maxSteps := 3000000}) only [ops_call, ev_t, put_get, obsOk, List.map_cons, List.map_nil, true_and, Nat.reduceEqDiff, ↓reduceIte, eq_self]
    refine Cal.mk (Same_v _ (hangM_len c)) ?_
    rintro _ _ ⟨rfl, rfl⟩ -
    simp (config := {maxSteps := 3000000}) only [run_ret, at_code_n, at_code_r, at_blk_r, at_fin_r, ops_nil, ops_mv, ev_t, put_get, opv_mk, obsOk, and_true, true_and, ↓reduceIte, vret, rvAll, rvVal, resv_1, eq_self]
    exact ⟨_, _, Wk.refl _, weak_both (weak_both (weak_put hwf.weak hd)), rfl, rfl⟩
  have d4 := decide_eq_false k4
  rw [if_neg k4] at hS
  by_cases k5 : kind % 7 = 5
  · have d5 := decide_eq_true k5
    rw [if_pos k5] at hS
    subst hS
    simp (config := {maxSteps := 3000000}) only [run_reg, run_seq, run_cond, if_true, if_false, at_code_n, ops_nil, ops_mv, ops_bin, ops_call, ev_t, ev_c, put_get, opv_mk, args0, List.getD_cons_zero, vbin, vbinI, List.map_cons, List.map_nil, true_and, Nat.reduceEqDiff, ↓reduceIte, eq_self, reduceCtorEq, d4, d5]
    repeat (apply And.intro; focus (first | omega | (simp; done)))
    refine Cal.mk (Late_v (hb' _) hc) ?_
    rintro _ _ ⟨rfl, rfl⟩ -
    simp (config := {maxSteps := 3000000}) only [ops_mv, ops_call, ev_t, put_get, opv_mk, args0, List.getD_cons_zero, List.getD_cons_succ, obsOk, List.map_cons, List.map_nil, true_and, Nat.reduceEqDiff, ↓reduceIte, eq_self]
    refine Cal.mk (rLate_v (c := c) (by rw [put_box_ne (Ne.symm hbe)]; exact he' _) hc h5) ?_
    rintro _ _ ⟨rfl, rfl⟩ -
    simp (config := {maxSteps := 3000000}) only [ops_call, ev_t, put_get, obsOk, List.map_cons, List.map_nil, true_and, Nat.reduceEqDiff, ↓reduceIte, eq_self]
    refine Cal.mk (Same_v _ (lateM_len c)) ?_
    rintro _ _ ⟨rfl, rfl⟩ -
    simp (config := {maxSteps := 3000000}) only [run_ret, at_code_n, at_code_r, at_blk_r, at_fin_r, ops_nil, ops_mv, ev_t, put_get, opv_mk, obsOk, and_true, true_and, ↓reduceIte, vret, rvAll, rvVal, resv_1, eq_self]
    exact ⟨_, _, Wk.refl _, weak_both (weak_both (weak_put hwf.weak hd)), rfl, rfl⟩
  have d5 := decide_eq_false k5
  rw [if_neg k5] at hS
  by_cases k6 : kind % 7 = 6
  · have d6 := decide_eq_true k6
    rw [if_pos k6] at hS
    rw [hS]
    simp (config := {maxSteps := 3000000}) only [run_reg, run_seq, run_cond, if_true, if_false, at_code_n, ops_nil, ops_mv, ops_bin, ops_call, ev_t, ev_c, put_get, opv_mk, args0, List.getD_cons_zero, vbin, vbinI, List.map_cons, List.map_nil, true_and, Nat.reduceEqDiff, ↓reduceIte, eq_self, reduceCtorEq, d4, d5, d6]
    repeat (apply And.intro; focus (first | omega | (simp; done)))
    refine Cal.mk (Info_v (hb' _) hc) ?_
    rintro _ _ ⟨rfl, rfl⟩ -
    simp (config := {maxSteps := 3000000}) only [ops_mv, ops_call, ev_t, put_get, opv_mk, args0, List.getD_cons_zero, List.getD_cons_succ, obsOk, List.map_cons, List.map_nil, true_and, Nat.reduceEqDiff, ↓reduceIte, eq_self]
    refine Cal.mk (rInfo_v (c := c) (he' _) hc) ?_
    rintro _ _ ⟨rfl, rfl⟩ -
    simp (config := {maxSteps := 3000000}) only [ops_call, ev_t, put_get, obsOk, List.map_cons, List.map_nil, true_and, Nat.reduceEqDiff, ↓reduceIte, eq_self]
    refine Cal.mk (Same_v _ (infoM_len c)) ?_
    rintro _ _ ⟨rfl, rfl⟩ -
    have e1 : (st.put b c.cells).put e c.cells = st := by
      rw [put_self hb hbs]; exact put_self he hes
    rw [e1]
    simp (config := {maxSteps := 3000000}) only [run_ret, at_code_n, at_code_r, at_blk_r, at_fin_r, ops_nil, ops_mv, ev_t, put_get, opv_mk, obsOk, and_true, true_and, ↓reduceIte, vret, rvAll, rvVal, resv_1, eq_self]
    exact ⟨_, _, Wk.refl _, weak_put hwf.weak hd, rfl, rfl⟩
  have d6 := decide_eq_false k6
  rw [if_neg k6] at hS
  subst hS
  simp (config := {maxSteps := 3000000}) only [run_skip, run_reg, run_seq, run_cond, if_false, at_code_n, at_blk_n, ops_nil, ops_mv, ops_bin, ops_fld, ops_load, ops_call, ev_t, ev_c, put_get, opv_mk, put_box_same, args0, List.getD_cons_zero, List.getD_cons_succ, vbin, vbinI, vfld, vload, takeV, List.map_cons, List.map_nil, List.length_cons, List.length_nil, List.take_succ_cons, List.drop_succ_cons, List.drop_zero, List.take_nil, true_and, Nat.reduceEqDiff, Nat.reduceAdd, Nat.reduceLeDiff, Nat.zero_add, ↓reduceIte, eq_self, reduceCtorEq, d4, d5, d6]
  repeat (apply And.intro; focus (first | omega | (simp; done)))
  refine Cal.mk (hT _ (hb' _)) ?_
  rintro _ _ ⟨rfl, rfl⟩ -
  simp (config := {maxSteps := 3000000}) only [ops_call, ev_t, put_get, put_box_same, vload, takeV, obsOk, List.map_cons, List.map_nil, List.length_cons, List.length_nil, List.take_succ_cons, List.drop_succ_cons, List.drop_zero, List.take_nil, and_true, true_and, Nat.reduceEqDiff, Nat.reduceAdd, Nat.reduceLeDiff, Nat.zero_add, ↓reduceIte, eq_self, put_box_ne (Nat.ne_of_gt hbd)]
  refine Cal.mk (hR _ (by rw [put_box_ne (Ne.symm hbe)]; exact he' _)) ?_
  rintro _ _ ⟨rfl, rfl⟩ -
  simp (config := {maxSteps := 3000000}) only [ops_call, ev_t, put_get, obsOk, List.map_cons, List.map_nil, true_and, Nat.reduceEqDiff, ↓reduceIte, eq_self]
  refine Cal.mk (Same_v _ lT) ?_
  rintro _ _ ⟨rfl, rfl⟩ -
  simp (config := {maxSteps := 3000000}) only [run_ret, at_code_n, at_fin_r, ops_nil, ops_mv, ev_t, put_get, opv_mk, obsOk, and_true, true_and, ↓reduceIte, vret, rvAll, rvVal, resv_1, eq_self]
  exact ⟨_, _, Wk.refl _, weak_both (weak_both (weak_put hwf.weak hd)), rfl, rfl⟩
set_option maxRecDepth 100000 in
set_option maxHeartbeats 20000000 in
theorem CallsPlay_v {inb : Bool} {m : M9} (hm : m.Ok) {mine serial window : Int} (h0 : 0 ≤ mine ∧ mine < 65536) (h1 : 0 ≤ serial ∧ serial < 65536) {L : List (Int × M9)} (hL : ∀ o ∈ L, o.2.Ok) : VCalls Try.prog 5 [startV inb m mine serial window, .sl tk (opsV L)] st fun r _ => r = .sc (.bool true) := by
  have gi := fun (h : 0 ≤ window ∧ window < 65536) (s : St) => In_v (st := s) hm h0 h
  have gr := fun (h : 0 ≤ window ∧ window < 65536) (s : St) => rIn_v (st := s) hm h0 h
  have hn0 := hm.n0
  obtain ⟨ty, n0, n1, n2, n3, n4, n5, n6, n7, n8, t0, t1, t2⟩ := m
  simp only [M9.v, M9.cells] at gi gr
  simp only at hn0
  refine vcalls_enter vc5 (Nat.le_of_ble_eq_true rfl) fun hwf hok => ?_
  show Run _ Vc5.body (.fin (finQ Vc5.res _)) _ _
  unfold Vc5
  have g0 : ∀ s : St, st.weak s → ∃ (r' : V) (st'' : St), Wk (V.sc (.bool true)) r' ∧ st''.weak s ∧ r' = V.sc (.bool true) := fun s hw => ⟨_, st, Wk.refl _, hw, rfl⟩
  simp (config := {maxSteps := 3000000}) only [run_reg, run_seq, at_code_n, ops_nil, ops_grd, ops_mv, ops_bin, ops_len, ops_box, ev_t, ev_c, put_get, opv_mk, Bx, args0, List.getD_cons_zero, List.getD_cons_succ, vbin, vbinI, vlen, V.cells, ptrV, obsOk, List.length_cons, List.length_nil, true_and, Nat.reduceEqDiff, Nat.reduceAdd, Nat.zero_add, ↓reduceIte, ne_eq, not_false_eq_true, eq_self, reduceCtorEq, startV]
  intro a ha
  by_cases c1 : (100 : Int) < L.length
  · simp (config := {maxSteps := 3000000}) only [run_reg, run_seq, run_ret, run_cond, if_true, at_code_n, at_code_r, at_fin_r, ops_nil, ops_grd, grd_tf, ops_mv, ops_pick, ev_t, ev_c, put_get, opv_mk, vpick, and_true, true_and, Nat.reduceEqDiff, ↓reduceIte, vret, rvAll, rvVal, resv_1, eq_self, opsV_len, decide_eq_true c1]
    exact g0 _ (weak_put hwf.weak ha)
  by_cases c2 : window < 0
  · simp (config := {maxSteps := 3000000}) only [run_reg, run_seq, run_ret, run_cond, if_true, at_code_n, at_code_r, at_fin_r, ops_nil, ops_grd, grd_ff, grd_tf, ops_mv, ops_pick, ops_bin, ops_fld, ops_load, ev_t, ev_c, put_get, opv_mk, put_box_same, vpick, vbin, vbinI, vfld, vload, takeV, V.cells, List.length_cons, List.length_nil, List.getElem?_cons_zero, List.getElem?_cons_succ, and_true, true_and, Nat.reduceEqDiff, Nat.zero_add, ↓reduceIte, vret, rvAll, rvVal, resv_1, eq_self, Bool.false_eq_true, opsV_len, decide_eq_false c1, decide_eq_true c2]
    exact g0 _ (weak_put hwf.weak ha)
  by_cases c3 : 65535 < window
  · simp (config := {maxSteps := 3000000}) only [run_reg, run_seq, run_ret, run_cond, if_true, at_code_n, at_code_r, at_fin_r, ops_nil, ops_grd, grd_ff, ops_mv, ops_pick, ops_bin, ops_fld, ops_load, ev_t, ev_c, put_get, opv_mk, put_box_same, vpick, vbin, vbinI, vfld, vload, takeV, V.cells, List.length_cons, List.length_nil, List.getElem?_cons_zero, List.getElem?_cons_succ, and_true, true_and, Nat.reduceEqDiff, Nat.zero_add, ↓reduceIte, vret, rvAll, rvVal, resv_1, eq_self, Bool.false_eq_true, opsV_len, decide_eq_false c1, decide_eq_false c2, decide_eq_true c3]
    exact g0 _ (weak_put hwf.weak ha)
  simp (config := {maxSteps := 3000000}) only [run_skip, run_reg, run_seq, run_cond, if_false, at_code_n, ops_nil, ops_grd, grd_ff, ops_mv, ops_pick, ops_bin, ops_fld, ops_load, ops_call, ev_t, ev_c, put_get, opv_mk, put_box_same, vpick, vbin, vbinI, vfld, vload, takeV, V.cells, List.map_cons, List.map_nil, List.length_cons, List.length_nil, List.getElem?_cons_zero, List.getElem?_cons_succ, true_and, Nat.reduceEqDiff, Nat.zero_add, ↓reduceIte, eq_self, Bool.false_eq_true, opsV_len, decide_eq_false c1, decide_eq_false c2, decide_eq_false c3]
  have hw : 0 ≤ window ∧ window < 65536 := by omega
  have gi := gi hw
  have gr := gr hw
  refine Cal.mk (Out_v h0 h1 hw) ?_
  rintro _ _ ⟨b, hb, rfl, rfl⟩ -
  obtain ⟨hab, hb1⟩ : a < b ∧ st.sz ≤ b := by simp only [put_sz] at hb; omega
  clear hb
  simp (config := {maxSteps := 3000000}) only [run_reg, run_seq, at_code_n, ops_nil, ops_mv, ops_fld, ops_load, ops_ext, ops_alc, ops_store, ev_t, put_get, put_none, opv_mk, stb_some, sto_ptr, Stp, put_box_same, put_sz, put_put, vfld, vext, vload, takeV, splice, V.cells, ptrV, obsOk, List.length_cons, List.length_nil, List.getElem?_cons_zero, List.getElem?_cons_succ, List.take_zero, List.drop_succ_cons, List.nil_append, List.append_nil, List.drop_nil, true_and, Nat.reduceEqDiff, Nat.reduceAdd, Nat.reduceLT, Nat.reduceLeDiff, Nat.reduceLT, Nat.zero_add, ↓reduceIte, eq_self, M9.v, M9.cells, outM, mN]
  intro d hd
  obtain ⟨hd1, hbd, had⟩ : st.sz ≤ d ∧ b < d ∧ a < d := by omega
  clear hd
  simp (config := {maxSteps := 3000000}) only [ops_fld, ops_load, ops_call, ev_t, put_get, opv_mk, put_box_same, vfld, vload, takeV, V.cells, List.map_cons, List.map_nil, List.length_cons, List.length_nil, List.getElem?_cons_zero, List.getElem?_cons_succ, true_and, Nat.reduceEqDiff, Nat.zero_add, ↓reduceIte, eq_self, put_box_ne (Nat.ne_of_lt had), put_box_ne (Nat.ne_of_lt hab)]
  refine Cal.mk (rOut_v h0 h1 hw) ?_
  rintro _ _ ⟨e, he, rfl, rfl⟩ -
  obtain ⟨he1, hbe, hde, hae⟩ : st.sz ≤ e ∧ b < e ∧ d < e ∧ a < e := by simp only [put_sz] at he; omega
  clear he
  simp (config := {maxSteps := 3000000}) only [run_reg, run_seq, at_code_n, ops_nil, ops_mv, ops_fld, ops_load, ops_ext, ops_alc, ops_store, ev_t, put_get, put_none, opv_mk, stb_some, sto_ptr, Stp, put_box_same, put_sz, put_put, vfld, vext, vload, takeV, splice, V.cells, ptrV, obsOk, List.length_cons, List.length_nil, List.getElem?_cons_zero, List.getElem?_cons_succ, List.take_zero, List.drop_succ_cons, List.nil_append, List.append_nil, List.drop_nil, true_and, Nat.reduceEqDiff, Nat.reduceAdd, Nat.reduceLT, Nat.reduceLeDiff, Nat.reduceLT, Nat.zero_add, Nat.add_zero, ↓reduceIte, eq_self, M9.v, M9.cells, outM, mN]
  intro f hf
  obtain ⟨hf1, haf, hbf, hdf, hef⟩ : st.sz ≤ f ∧ a < f ∧ b < f ∧ d < f ∧ e < f := by omega
  clear hf
  cases inb
  · simp (config := {maxSteps := 3000000}) only [run_skip, run_reg, run_seq, run_cond, if_false, at_code_n, ops_nil, ops_grd, grd_ff, ops_mv, ops_pick, ops_eqs, ops_pnil, veqs, vpnil, ops_load, ops_call, ev_t, put_get, opv_mk, put_box_same, vpick, vload, takeV, List.map_cons, List.map_nil, List.length_cons, List.length_nil, List.getElem?_cons_zero, List.take_succ_cons, List.drop_zero, List.take_nil, and_true, true_and, Nat.reduceEqDiff, Nat.reduceAdd, Nat.reduceLeDiff, Nat.zero_add, ↓reduceIte, decide_true, Bool.not_true, eq_self, Bool.false_eq_true, put_box_ne (Nat.ne_of_lt had), put_box_ne (Nat.ne_of_lt hab), put_box_ne (Nat.ne_of_lt hde), put_box_ne (Nat.ne_of_lt hae), put_box_ne (Nat.ne_of_lt haf), put_box_ne (Nat.ne_of_lt hdf), fitsV, eqV, Bool.and_self]
    refine Cal.mk (same_v (c := outC mine) (by rw [put_box_ne (Nat.ne_of_lt hbf), put_box_ne (Nat.ne_of_lt hbe), put_box_ne (Nat.ne_of_lt hbd)]; exact put_box_same) (by rw [put_box_ne (Nat.ne_of_lt hef)]; exact put_box_same)) ?_
    rintro _ _ ⟨rfl, rfl⟩ -
    simp (config := {maxSteps := 3000000}) only [run_skip, run_reg, run_seq, run_blk, run_cond, if_false, at_code_n, ops_nil, ops_grd, grd_ff, ops_mv, ops_pick, ops_un, ev_t, ev_c, put_get, opv_mk, vpick, vun, obsOk, true_and, Nat.reduceEqDiff, ↓reduceIte, Bool.not_true, eq_self, Bool.false_eq_true]
    clear gi gr
    refine run_loop [4, 9, 78, 79, 80, 81, 82, 83, 84, 85, 86, 87, 88, 89, 90, 91, 92, 93, 94, 95, 96, 97, 98, 99, 100, 101, 102, 103] (fun B s => ∃ (i : Nat) (c : CL), i ≤ L.length ∧ B 9 = .sc (.int .i64 (i : Int)) ∧ c.Ok ∧ c.St5 ∧ 0 ≤ c.errors ∧ c.errors ≤ (i : Int) ∧ st.weak s ∧ s.Lt ∧ s.box b = some c.cells ∧ s.box e = some c.cells) (fun B _ => L.length - vnat (B 9)) rfl ?_ ?_
    · simp (config := {maxSteps := 3000000}) only [put_get, ↓reduceIte, eq_self]
      exact ⟨0, outC mine, by omega, by simp, ⟨h0, by simp [outC]⟩, ⟨by simp [outC], by simp [outC]⟩, by simp [outC], by simp [outC], weak_put (weak_put (weak_put (weak_put (weak_put hwf.weak ha) hb1) hd1) he1) hf1, hwf.lt.put.put.put.put.put, by rw [put_box_ne (Nat.ne_of_lt hbf), put_box_ne (Nat.ne_of_lt hbe), put_box_ne (Nat.ne_of_lt hbd)]; exact put_box_same, by rw [put_box_ne (Nat.ne_of_lt hef)]; exact put_box_same⟩
    · rintro B s ⟨i, c, hi, h9, cok, c5, ce0, ce1, hws, hls, hbc, hec⟩
      by_cases hlt : i < L.length
      rotate_left
      · obtain rfl : i = L.length := by omega
        simp (config := {maxSteps := 3000000}) only [run_reg, run_seq, run_exit, run_cond, if_false, at_code_n, at_code_x, at_blk_x, at_rnd_x, ops_nil, ops_mv, ops_bin, ops_len, ops_call, ev_t, put_get, opv_mk, over_get, vnat, args0, List.getD_cons_zero, List.getD_cons_succ, vbin, vbinI, vlen, List.map_nil, true_and, Nat.reduceEqDiff, Int.toNat_natCast, ↓reduceIte, decide_false, Int.lt_irrefl, eq_self, Bool.false_eq_true, List.contains_cons, List.contains_nil, Nat.reduceBEq, Bool.or_false, Bool.or_true, h9, opsV_len]
        refine Cal.mk alive41_v ?_
        rintro _ _ ⟨rfl, rfl⟩ -
        simp (config := {maxSteps := 3000000}) only [run_ret, at_code_n, at_fin_r, ops_nil, ops_mv, ev_t, put_get, opv_mk, obsOk, and_true, true_and, ↓reduceIte, vret, rvAll, rvVal, resv_1, eq_self]
        exact g0 _ hws
      have hx0 := opsV_get L i
      have hLi := hL L[i] (List.getElem_mem hlt)
      rw [List.getElem?_eq_getElem hlt, Option.map_some] at hx0
      generalize L[i] = o at hx0 hLi
      obtain ⟨kind, ⟨uy, u0, u1, u2, u3, u4, u5, u6, u7, u8, v0, v1, v2⟩⟩ := o
      have hx := hx0
      clear hx0
      have dlt := decide_eq_true (show (i : Int) < (L.length : Int) by omega)
      by_cases k0 : kind < 0
      · simp (config := {maxSteps := 3000000}) only [run_skip, run_reg, run_seq, run_blk, run_ret, run_cond, if_true, at_code_n, at_code_r, at_blk_r, at_rnd_r, at_fin_r, ops_nil, ops_mv, ops_bin, ops_fld, ops_ix, ops_load, ops_len, ev_t, ev_c, put_get, opv_mk, over_get, vnat, args0, List.getD_cons_zero, List.getD_cons_succ, vbin, vbinI, vfld, vlen, vix, vload, takeV, V.cells, List.length_cons, List.length_nil, List.getElem?_cons_zero, and_true, true_and, Nat.reduceEqDiff, Nat.reduceAdd, Int.toNat_natCast, Nat.zero_add, Nat.add_zero, ↓reduceIte, vret, rvAll, rvVal, resv_1, eq_self, Bool.false_eq_true, List.contains_cons, List.contains_nil, Nat.reduceBEq, Bool.or_false, Bool.or_true, h9, opsV_len, dlt, hx, opV, decide_eq_true k0]
        repeat (apply And.intro; focus (first | omega | (simp; done)))
        exact g0 _ hws
      have gs := step_v (st := s) hbc hec (Nat.ne_of_lt hbe) cok c5 ⟨ce0, by omega⟩ hLi (by simp only; omega)
      obtain ⟨pok, p5, pe0, pe1⟩ := stepS_ok cok c5 (kind, M9.mk uy u0 u1 u2 u3 u4 u5 u6 u7 u8 v0 v1 v2)
      generalize stepS c (kind, M9.mk uy u0 u1 u2 u3 u4 u5 u6 u7 u8 v0 v1 v2) = c2 at *
      simp only [opV] at gs
      simp (config := {maxSteps := 3000000}) only [run_skip, run_reg, run_seq, run_blk, run_cond, if_true, if_false, at_code_n, ops_nil, ops_mv, ops_bin, ops_fld, ops_ix, ops_load, ops_len, ops_call, ev_t, ev_c, put_get, opv_mk, over_get, vnat, args0, List.getD_cons_zero, List.getD_cons_succ, vbin, vbinI, vfld, vlen, vix, vload, takeV, V.cells, List.map_cons, List.map_nil, List.length_cons, List.length_nil, List.getElem?_cons_zero, List.take_succ_cons, List.drop_zero, List.take_nil, and_true, true_and, Nat.reduceEqDiff, Nat.reduceAdd, Nat.reduceLeDiff, Int.toNat_natCast, Nat.zero_add, Nat.add_zero, ↓reduceIte, eq_self, Bool.false_eq_true, List.contains_cons, List.contains_nil, Nat.reduceBEq, Bool.or_false, Bool.or_true, h9, opsV_len, dlt, hx, opV, decide_eq_false k0]
      repeat (apply And.intro; focus (first | omega | (simp; done)))
      refine Cal.mk gs ?_
      rintro _ _ ⟨rfl, rfl⟩ -
      simp (config := {maxSteps := 3000000}) only [ops_grd, grd_ff, ops_mv, ops_un, ops_call, ev_t, put_get, opv_mk, over_get, vun, obsOk, List.map_cons, List.map_nil, true_and, Nat.reduceEqDiff, ↓reduceIte, Bool.not_true, eq_self, Bool.false_eq_true, List.contains_cons, List.contains_nil, Nat.reduceBEq, Bool.or_false]
      refine Cal.mk (same_v (c := c2) (by rw [put_box_ne (Nat.ne_of_lt hbe)]; exact put_box_same) put_box_same) ?_
      rintro _ _ ⟨rfl, rfl⟩ -
      simp (config := {maxSteps := 3000000}) only [run_skip, run_reg, run_cond, if_false, at_code_n, at_blk_n, at_rnd_n, ops_nil, ops_grd, grd_ff, ops_mv, ops_pick, ops_bin, ops_un, ev_t, ev_c, put_get, opv_mk, over_get, rel_mk, put_box_same, vpick, vbin, vbinI, vun, norm, obsOk, true_and, Nat.reduceEqDiff, Int.reduceNeg, ↓reduceIte, Bool.not_true, eq_self, Bool.false_eq_true, List.contains_cons, List.contains_nil, Nat.reduceBEq, Bool.or_false, Bool.or_true, h9]
      repeat (apply And.intro; focus (first | omega | (simp; done)))
      exact ⟨⟨i + 1, c2, by omega, by simp, pok, p5, by omega, by omega, weak_put (weak_put hws hb1) he1, hls.put.put, by rw [put_box_ne (Nat.ne_of_lt hbe)]; exact put_box_same, by first | exact put_box_same | rfl⟩, by omega⟩
  · simp (config := {maxSteps := 3000000}) only [run_reg, run_seq, run_cond, if_true, at_code_n, ops_nil, ops_fld, ops_load, ops_call, ev_t, put_get, opv_mk, put_box_same, vfld, vload, takeV, V.cells, List.map_cons, List.map_nil, List.length_cons, List.length_nil, List.getElem?_cons_zero, List.getElem?_cons_succ, List.take_succ_cons, List.take_zero, List.drop_succ_cons, List.drop_zero, true_and, Nat.reduceEqDiff, Nat.reduceAdd, Nat.reduceLeDiff, Nat.zero_add, ↓reduceIte, eq_self, put_box_ne (Nat.ne_of_lt had), put_box_ne (Nat.ne_of_lt hab), put_box_ne (Nat.ne_of_lt hae), put_box_ne (Nat.ne_of_lt haf)]
    refine Cal.mk (gi _) ?_
    rintro _ _ ⟨b2, hb2, rfl, rfl⟩ -
    obtain ⟨hb21, hab2, hbb2, hdb2, heb2, hfb2⟩ : st.sz ≤ b2 ∧ a < b2 ∧ b < b2 ∧ d < b2 ∧ e < b2 ∧ f < b2 := by simp only [put_sz] at hb2; omega
    clear hb2
    simp (config := {maxSteps := 3000000}) only [run_reg, at_code_n, ops_nil, ops_mv, ops_fld, ops_load, ops_ext, ops_store, ops_call, ev_t, put_get, put_none, opv_mk, stb_some, sto_ptr, Stp, put_box_same, vfld, vext, vload, takeV, splice, V.cells, ptrV, obsOk, List.map_cons, List.map_nil, List.length_cons, List.length_nil, List.getElem?_cons_zero, List.getElem?_cons_succ, List.take_succ_cons, List.take_zero, List.drop_succ_cons, List.drop_zero, List.nil_append, List.append_nil, List.drop_nil, true_and, Nat.reduceEqDiff, Nat.reduceAdd, Nat.reduceLT, Nat.reduceLeDiff, Nat.reduceLT, Nat.zero_add, ↓reduceIte, eq_self, inM, mN, put_box_ne (Nat.ne_of_lt had), put_box_ne (Nat.ne_of_lt hab), put_box_ne (Nat.ne_of_lt hde), put_box_ne (Nat.ne_of_lt hae), put_box_ne (Nat.ne_of_lt haf), put_box_ne (Nat.ne_of_lt hdf), put_box_ne (Nat.ne_of_lt hab2), put_box_ne (Nat.ne_of_lt hdb2)]
    refine Cal.mk (gr _) ?_
    rintro _ _ ⟨e2, he2, rfl, rfl⟩ -
    obtain ⟨hed2, he2⟩ := put_box_none he2
    obtain ⟨heb22, he2⟩ := put_box_none he2
    obtain ⟨hef2, he2⟩ := put_box_none he2
    obtain ⟨hee2, he2⟩ := put_box_none he2
    obtain ⟨hed2', he2⟩ := put_box_none he2
    obtain ⟨heb2', he2⟩ := put_box_none he2
    obtain ⟨hea2, he2⟩ := put_box_none he2
    simp (config := {maxSteps := 3000000}) only [run_reg, run_seq, at_code_n, ops_nil, ops_grd, grd_ff, ops_mv, ops_pick, ops_eqs, ops_pnil, veqs, vpnil, ops_load, ops_ext, ops_store, ops_call, ev_t, put_get, put_none, opv_mk, stb_some, sto_ptr, Stp, put_box_same, vpick, vext, vload, takeV, splice, V.cells, ptrV, obsOk, List.map_cons, List.map_nil, List.length_cons, List.length_nil, List.getElem?_cons_zero, List.getElem?_cons_succ, List.take_succ_cons, List.take_zero, List.drop_succ_cons, List.drop_zero, List.nil_append, List.append_nil, List.take_nil, List.drop_nil, and_true, true_and, Nat.reduceEqDiff, Nat.reduceAdd, Nat.reduceLT, Nat.reduceLeDiff, Nat.reduceLT, Nat.zero_add, ↓reduceIte, decide_true, Bool.not_true, eq_self, Bool.false_eq_true, inM, mN, put_box_ne (Nat.ne_of_lt hdf), put_box_ne (Nat.ne_of_gt hdf), put_box_ne (Nat.ne_of_lt hfb2), put_box_ne (Ne.symm hed2'), put_box_ne (Ne.symm hef2), fitsV, eqV, Bool.and_self]
    have hbe2 : b2 ≠ e2 := Ne.symm heb22
    refine Cal.mk (same_v (c := inC ⟨ty, n0, n1, n2, n3, n4, n5, n6, n7, n8, t0, t1, t2⟩ mine) (by rw [put_box_ne (Nat.ne_of_gt hfb2), put_box_ne hbe2, put_box_ne (Nat.ne_of_gt hdb2)]; exact put_box_same) (by rw [put_box_ne hef2]; exact put_box_same)) ?_
    rintro _ _ ⟨rfl, rfl⟩ -
    simp (config := {maxSteps := 3000000}) only [run_skip, run_reg, run_seq, run_blk, run_cond, if_false, at_code_n, ops_nil, ops_grd, grd_ff, ops_mv, ops_pick, ops_un, ev_t, ev_c, put_get, opv_mk, vpick, vun, obsOk, true_and, Nat.reduceEqDiff, ↓reduceIte, Bool.not_true, eq_self, Bool.false_eq_true]
    clear gi gr
    refine run_loop [4, 9, 78, 79, 80, 81, 82, 83, 84, 85, 86, 87, 88, 89, 90, 91, 92, 93, 94, 95, 96, 97, 98, 99, 100, 101, 102, 103] (fun B s => ∃ (i : Nat) (c : CL), i ≤ L.length ∧ B 9 = .sc (.int .i64 (i : Int)) ∧ c.Ok ∧ c.St5 ∧ 0 ≤ c.errors ∧ c.errors ≤ (i : Int) ∧ st.weak s ∧ s.Lt ∧ s.box b2 = some c.cells ∧ s.box e2 = some c.cells) (fun B _ => L.length - vnat (B 9)) rfl ?_ ?_
    · simp (config := {maxSteps := 3000000}) only [put_get, ↓reduceIte, eq_self]
      exact ⟨0, inC ⟨ty, n0, n1, n2, n3, n4, n5, n6, n7, n8, t0, t1, t2⟩ mine, by omega, by simp, ⟨h0, by simp only [inC]; omega⟩, ⟨by simp [inC], by simp [inC]⟩, by simp [inC], by simp [inC], weak_put (weak_putN (weak_put (weak_put (weak_put (weak_put (weak_put (weak_put (weak_put hwf.weak ha) hb1) hd1) he1) hf1) hb21) hd1) he2) hf1, hwf.lt.put.put.put.put.put.put.put.put.put, by rw [put_box_ne (Nat.ne_of_gt hfb2), put_box_ne hbe2, put_box_ne (Nat.ne_of_gt hdb2)]; exact put_box_same, by rw [put_box_ne hef2]; exact put_box_same⟩
    · rintro B s ⟨i, c, hi, h9, cok, c5, ce0, ce1, hws, hls, hbc, hec⟩
      by_cases hlt : i < L.length
      rotate_left
      · obtain rfl : i = L.length := by omega
        simp (config := {maxSteps := 3000000}) only [run_reg, run_seq, run_exit, run_cond, if_false, at_code_n, at_code_x, at_blk_x, at_rnd_x, ops_nil, ops_mv, ops_bin, ops_len, ops_call, ev_t, put_get, opv_mk, over_get, vnat, args0, List.getD_cons_zero, List.getD_cons_succ, vbin, vbinI, vlen, List.map_nil, true_and, Nat.reduceEqDiff, Int.toNat_natCast, ↓reduceIte, decide_false, Int.lt_irrefl, eq_self, Bool.false_eq_true, List.contains_cons, List.contains_nil, Nat.reduceBEq, Bool.or_false, Bool.or_true, h9, opsV_len]
        refine Cal.mk alive41_v ?_
        rintro _ _ ⟨rfl, rfl⟩ -
        simp (config := {maxSteps := 3000000}) only [run_ret, at_code_n, at_fin_r, ops_nil, ops_mv, ev_t, put_get, opv_mk, obsOk, and_true, true_and, ↓reduceIte, vret, rvAll, rvVal, resv_1, eq_self]
        exact g0 _ hws
      have hx0 := opsV_get L i
      have hLi := hL L[i] (List.getElem_mem hlt)
      rw [List.getElem?_eq_getElem hlt, Option.map_some] at hx0
      generalize L[i] = o at hx0 hLi
      obtain ⟨kind, ⟨uy, u0, u1, u2, u3, u4, u5, u6, u7, u8, v0, v1, v2⟩⟩ := o
      have hx := hx0
      clear hx0
      have dlt := decide_eq_true (show (i : Int) < (L.length : Int) by omega)
      by_cases k0 : kind < 0
      · simp (config := {maxSteps := 3000000}) only [run_skip, run_reg, run_seq, run_blk, run_ret, run_cond, if_true, at_code_n, at_code_r, at_blk_r, at_rnd_r, at_fin_r, ops_nil, ops_mv, ops_bin, ops_fld, ops_ix, ops_load, ops_len, ev_t, ev_c, put_get, opv_mk, over_get, vnat, args0, List.getD_cons_zero, List.getD_cons_succ, vbin, vbinI, vfld, vlen, vix, vload, takeV, V.cells, List.length_cons, List.length_nil, List.getElem?_cons_zero, and_true, true_and, Nat.reduceEqDiff, Nat.reduceAdd, Int.toNat_natCast, Nat.zero_add, Nat.add_zero, ↓reduceIte, vret, rvAll, rvVal, resv_1, eq_self, Bool.false_eq_true, List.contains_cons, List.contains_nil, Nat.reduceBEq, Bool.or_false, Bool.or_true, h9, opsV_len, dlt, hx, opV, decide_eq_true k0]
        repeat (apply And.intro; focus (first | omega | (simp; done)))
        exact g0 _ hws
      have gs := step_v (st := s) hbc hec hbe2 cok c5 ⟨ce0, by omega⟩ hLi (by simp only; omega)
      obtain ⟨pok, p5, pe0, pe1⟩ := stepS_ok cok c5 (kind, M9.mk uy u0 u1 u2 u3 u4 u5 u6 u7 u8 v0 v1 v2)
      generalize stepS c (kind, M9.mk uy u0 u1 u2 u3 u4 u5 u6 u7 u8 v0 v1 v2) = c2 at *
      simp only [opV] at gs
      simp (config := {maxSteps := 3000000}) only [run_skip, run_reg, run_seq, run_blk, run_cond, if_true, if_false, at_code_n, ops_nil, ops_mv, ops_bin, ops_fld, ops_ix, ops_load, ops_len, ops_call, ev_t, ev_c, put_get, opv_mk, over_get, vnat, args0, List.getD_cons_zero, List.getD_cons_succ, vbin, vbinI, vfld, vlen, vix, vload, takeV, V.cells, List.map_cons, List.map_nil, List.length_cons, List.length_nil, List.getElem?_cons_zero, List.take_succ_cons, List.drop_zero, List.take_nil, and_true, true_and, Nat.reduceEqDiff, Nat.reduceAdd, Nat.reduceLeDiff, Int.toNat_natCast, Nat.zero_add, Nat.add_zero, ↓reduceIte, eq_self, Bool.false_eq_true, List.contains_cons, List.contains_nil, Nat.reduceBEq, Bool.or_false, Bool.or_true, h9, opsV_len, dlt, hx, opV, decide_eq_false k0]
      repeat (apply And.intro; focus (first | omega | (simp; done)))
      refine Cal.mk gs ?_
      rintro _ _ ⟨rfl, rfl⟩ -
      simp (config := {maxSteps := 3000000}) only [ops_grd, grd_ff, ops_mv, ops_un, ops_call, ev_t, put_get, opv_mk, over_get, vun, obsOk, List.map_cons, List.map_nil, true_and, Nat.reduceEqDiff, ↓reduceIte, Bool.not_true, eq_self, Bool.false_eq_true, List.contains_cons, List.contains_nil, Nat.reduceBEq, Bool.or_false]
      refine Cal.mk (same_v (c := c2) (by rw [put_box_ne hbe2]; exact put_box_same) put_box_same) ?_
      rintro _ _ ⟨rfl, rfl⟩ -
      simp (config := {maxSteps := 3000000}) only [run_skip, run_reg, run_cond, if_false, at_code_n, at_blk_n, at_rnd_n, ops_nil, ops_grd, grd_ff, ops_mv, ops_pick, ops_bin, ops_un, ev_t, ev_c, put_get, opv_mk, over_get, rel_mk, put_box_same, vpick, vbin, vbinI, vun, norm, obsOk, true_and, Nat.reduceEqDiff, Int.reduceNeg, ↓reduceIte, Bool.not_true, eq_self, Bool.false_eq_true, List.contains_cons, List.contains_nil, Nat.reduceBEq, Bool.or_false, Bool.or_true, h9]
      repeat (apply And.intro; focus (first | omega | (simp; done)))
      exact ⟨⟨i + 1, c2, by omega, by simp, pok, p5, by omega, by omega, weak_putN (weak_put hws hb21) he2, hls.put.put, by rw [put_box_ne hbe2]; exact put_box_same, by first | exact put_box_same | rfl⟩, by omega⟩
end
end Go.Proofs.Ytogkdcbcmhhhcaa
