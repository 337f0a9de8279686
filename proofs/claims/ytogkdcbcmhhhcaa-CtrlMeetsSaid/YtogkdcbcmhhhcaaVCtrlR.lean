/- Package catwalkref42: contracts, the same as ctrl's. Printed by gen_ctrlr.py. -/
import Derived.Test.YtogkdcbcmhhhcaaVCtrl2
import Derived.Test.YtogkdcbcmhhhcaaVRow
namespace Go.Proofs.Ytogkdcbcmhhhcaa
open Go Go.RowKit

theorem weak_trans {a b c : St} (h : a.weak b) (k : b.weak c) : a.weak c :=
  ⟨fun x cs hx => ⟨(k.box x cs (h.box x cs hx).1).1, (h.box x cs hx).2⟩, fun g m hg => ⟨(k.own g m (h.own g m hg).1).1, (h.own g m hg).2⟩, Nat.le_trans h.sz k.sz⟩
/-- A row of one message, in a box. -/
def oneS (b : Nat) : V := .sc (.slice (some ⟨b, 0, none⟩) 1 1)
def OneQ (base : St) (m : M9) (r : V) (s : St) : Prop := ∃ b, base.sz ≤ b ∧ r = oneS b ∧ s.box b = some m.cells ∧ base.weak s
theorem OneQ.tell {base s : St} {r : V} {m : M9} (h : OneQ base m r s) : Tell r s (.sl .no [m.v]) base := by
  obtain ⟨b, hb, rfl, hx, hw⟩ := h
  intro w0 G w u hw' hr
  obtain ⟨G', k1, k2, k3⟩ := hw'.seal hx
  refine ⟨G', k1, k2.weak (weak_drop hw hb), ?_⟩
  have e : u = .slice (some ⟨b, 0, none⟩) 1 1 := hr.sc_inv
  rw [e]
  refine k3 0 1 13 [m.v] (fun i d hd => ?_) (fun i d j x hd hj => ?_) (by simp) (by unfold maxLen; simp)
  · cases i with
    | zero => simp at hd; subst hd; rfl
    | succ i => simp at hd
  · cases i with
    | zero => simp at hd; subst hd; simpa [M9.v, V.cells] using hj
    | succ i => simp at hd
theorem OneQ.seal {P : Program} {f : FuncId} {args : List V} {st base : St} {m : M9} (h : VCalls P f args st (OneQ base m)) : VCalls P f args st fun r s => r = .sl .no [m.v] ∧ s = base :=
  h.tell fun r s hq => ⟨_, _, hq.tell, rfl, rfl⟩
section
variable {tk : Tk} {st : St} {b e : Nat} {c : CC}
theorem of42_v {t : Int} {l : List Int} {m : M9} (h9 : l.length ≤ 9) (em : (mM t l).v = m.v) : VCalls Try.prog 103 [.sc (.int .i64 t), .sl tk (us l)] st (OneQ st m) := by
  have hM : mM t l = ⟨t, nAt l l.length, [e0, e0, e0]⟩ := by simp [mM, nAt]
  have emc : (mM t l).cells = m.cells := by simpa [MG.v, M9.v] using em
  rw [hM] at emc
  refine vcalls_enter vc103 (Nat.le_of_ble_eq_true rfl) fun hwf hok => ?_
  show Run _ Vc103.body (.fin (finQ Vc103.res _)) _ _
  unfold Vc103
  simp (config := {maxSteps := 3000000}) only [run_reg, run_seq, run_blk, at_code_n, ops_nil, ops_mv, ops_bld, ops_alc, ops_store, ev_t, ev_c, put_get, put_none, opv_mk, stb_some, sto_ptr, Stp, vbld, put_box_same, put_put, args0, List.getD_cons_zero, fillV, splice, V.cells, ptrV, obsOk, List.map_cons, List.map_nil, List.length_cons, List.length_nil, List.take_zero, List.drop_succ_cons, List.drop_zero, List.cons_append, List.nil_append, List.append_nil, List.drop_nil, and_true, true_and, Nat.reduceEqDiff, Nat.reduceAdd, Nat.reduceLT, Nat.reduceLeDiff, Nat.reduceLT, Nat.zero_add, ↓reduceIte, eq_self, reduceCtorEq]
  intro c hc1
  obtain ⟨Z, hZ⟩ : ∃ Z : List V, Z = ts [e0, e0, e0] := ⟨_, rfl⟩
  have hZ3 : Z.length = 3 := by rw [hZ]; rfl
  have e1 : [V.sc (.int .i64 t), .sc (.int .u32 0), .sc (.int .u32 0), .sc (.int .u32 0), .sc (.int .u32 0), .sc (.int .u32 0), .sc (.int .u32 0), .sc (.int .u32 0), .sc (.int .u32 0), .sc (.int .u32 0), .sc (.string ⟨#[]⟩), .sc (.string ⟨#[]⟩), .sc (.string ⟨#[]⟩)] = .sc (.int .i64 t) :: (us (nAt l 0) ++ Z) := by rw [hZ]; rfl
  rw [e1]
  refine run_loop [6, 9, 10, 11, 12, 13, 14, 15, 16, 17, 18, 19, 20, 21] (fun B s => ∃ i : Nat, i ≤ l.length ∧ B 6 = .sc (.int .i64 i) ∧ s = st.put c (.sc (.int .i64 t) :: (us (nAt l i) ++ Z))) (fun B _ => l.length - vnat (B 6)) rfl ?_ ?_
  · simp (config := {maxSteps := 3000000}) only [put_get, ↓reduceIte, eq_self]
    exact ⟨0, by omega, by simp, rfl⟩
  · rintro B s ⟨i, hi, h6, rfl⟩
    have hn9 := nAt_len hi h9
    by_cases hlt : i < l.length
    · obtain ⟨x, hx⟩ := get_ex (L := l) (i := i) hlt
      have hst := nAt_step hx h9
      generalize nAt l i = N at *
      have hlt' := decide_eq_true (show (i : Int) < (l.length : Int) by omega)
      simp (config := {maxSteps := 3000000}) only [run_skip, run_reg, run_seq, run_blk, run_cond, if_true, at_code_n, at_blk_n, at_rnd_n, ops_nil, ops_mv, ops_bin, ops_fld, ops_ix, ops_ixa, ops_load, ops_len, ops_store, ev_t, ev_c, put_get, put_none, opv_mk, stb_some, sto_ptr, over_get, rel_mk, vnat, Stp, put_box_same, put_put, args0, List.getD_cons_zero, List.getD_cons_succ, vbin, vbinI, norm, vfld, vlen, vix, vixa, vload, takeV, splice, V.cells, obsOk, List.length_cons, List.length_nil, List.getElem?_cons_zero, List.drop_succ_cons, Option.map_some, and_true, true_and, Nat.reduceEqDiff, Nat.reduceLT, Nat.reduceLeDiff, Nat.reduceLT, Int.toNat_natCast, Int.reduceNeg, Nat.zero_add, Nat.mul_one, ↓reduceIte, eq_self, Bool.false_eq_true, List.contains_cons, List.contains_nil, Nat.reduceBEq, Bool.or_false, h6, us_get, hx, us_len, hlt', nc9]
      repeat (apply And.intro; focus (first | omega | (simp; done)))
      have hs := us_set (N := N) (n := i) (x := x) (T := Z) (by omega) (.sc (.int .i64 t))
      exact ⟨by rw [List.length_append, us_len, hn9, hZ3]; omega, ⟨by omega, by omega⟩, ⟨i + 1, by omega, by simp, by rw [← hst]; exact congrArg (st.put c) hs⟩, by omega⟩
    · obtain rfl : i = l.length := by omega
      have hW12 : (us (nAt l l.length) ++ Z).length = 12 := by rw [List.length_append, us_len, hn9, hZ3]
      have hMv : (MG.mk t (nAt l l.length) [e0, e0, e0]).cells = .sc (.int .i64 t) :: (us (nAt l l.length) ++ Z) := by rw [hZ]; rfl
      rw [hMv] at emc
      generalize us (nAt l l.length) ++ Z = W at *
      have htk : List.take 12 W = W := List.take_of_length_le (by omega)
      simp (config := {maxSteps := 3000000}) only [run_reg, run_seq, run_exit, run_cond, if_false, at_code_n, at_code_x, at_blk_x, at_rnd_x, ops_nil, ops_mv, ops_bin, ops_load, ops_len, ops_bslo, ev_t, put_get, opv_mk, over_get, vnat, put_box_same, args0, List.getD_cons_zero, List.getD_cons_succ, vbin, vbinI, vlen, vload, takeV, strip, strip1, List.map_cons, List.map_nil, List.length_cons, List.take_succ_cons, List.drop_zero, true_and, Nat.reduceEqDiff, Nat.reduceAdd, Nat.reduceLeDiff, Int.toNat_natCast, Nat.zero_add, ↓reduceIte, decide_false, Int.lt_irrefl, eq_self, Bool.false_eq_true, List.contains_cons, List.contains_nil, Nat.reduceBEq, Bool.or_false, h6, us_len, htk, hW12]
      have hsW : List.map strip1 W = W := by
        have hW := (List.cons.inj emc).2
        rw [hW]; rfl
      refine Bo.mut (by simp [allLen, V.cells, hW12]) ?_
      intro b2 hb2
      have hb3 : st.sz ≤ b2 := by simp only [put_sz] at hb2; omega
      simp (config := {maxSteps := 3000000}) only [run_ret, at_code_n, at_fin_r, ops_nil, ops_mv, ev_t, put_get, opv_mk, V.cells, obsOk, List.length_cons, List.length_nil, List.append_nil, and_true, true_and, Nat.zero_add, ↓reduceIte, vret, rvAll, rvVal, resv_1, eq_self, List.flatMap_cons, List.flatMap_nil, List.append_nil]
      refine ⟨_, _, Wk.refl _, weak_both (weak_put hwf.weak hc1), b2, hb3, rfl, ?_, weak_put hwf.weak hb3⟩
      rw [put_box_same, ← emc, hsW]
theorem of42_s {t : Int} {l : List Int} {m : M9} (h9 : l.length ≤ 9) (em : (mM t l).v = m.v) : VCalls Try.prog 103 [.sc (.int .i64 t), .sl tk (us l)] st fun r s => r = .sl .no [m.v] ∧ s = st := OneQ.seal (of42_v h9 em)
theorem named_v (he : st.box e = some c.cells) {m : M9} (hb : st.box b = some m.cells) (hne : e ≠ b) : VCalls Try.prog 104 [ptrV e, oneS b] st fun r s => r = oneS b ∧ s = st.put b (namedM c.host m).cells := by
  obtain ⟨ty, n0, n1, n2, n3, n4, n5, n6, n7, n8, t0, t1, t2⟩ := m
  refine vcalls_enter vc104 (Nat.le_of_ble_eq_true rfl) fun hwf hok => ?_
  show Run _ Vc104.body (.fin (finQ Vc104.res _)) _ _
  unfold Vc104
  simp (config := {maxSteps := 3000000}) only [run_reg, run_seq, run_ret, at_code_n, at_fin_r, ops_nil, ops_mv, ops_fld, ops_ix, ops_ixa, ops_load, ops_nilck, ops_store, ev_t, ev_c, put_get, put_none, opv_mk, stb_some, sto_ptr, Stp, put_box_same, put_put, args0, List.getD_cons_zero, List.getD_cons_succ, vfld, vnil, vix, vixa, vload, takeV, splice, V.cells, ptrV, obsOk, List.length_cons, List.length_nil, List.getElem?_cons_zero, List.getElem?_cons_succ, List.take_succ_cons, List.take_zero, List.drop_succ_cons, List.drop_zero, List.cons_append, List.nil_append, and_true, true_and, Nat.reduceEqDiff, Nat.reduceAdd, Nat.reduceLT, Nat.reduceLeDiff, Nat.reduceLT, Int.reduceToNat, Int.reduceLE, Int.reduceLT, Nat.zero_add, Nat.add_zero, Nat.zero_mul, Nat.mul_one, ↓reduceIte, vret, rvAll, rvVal, resv_1, eq_self, reduceCtorEq, hb, he, M9.cells, CC.cells, nc3, oneS, show ((1 : Nat) : Int) = 1 from rfl]
  exact ⟨_, _, Wk.refl _, weak_both hwf.weak, rfl, rfl⟩
theorem rAnswer_v (he : st.box e = some c.cells) {res : Int} : VCalls Try.prog 109 [ptrV e, .sc (.int .u32 res)] st fun r s => r = .sl .no [(answerM c res).v] ∧ s = st := by
  refine OneQ.seal ?_
  refine vcalls_enter vc109 (Nat.le_of_ble_eq_true rfl) fun hwf hok => ?_
  show Run _ Vc109.body (.fin (finQ Vc109.res _)) _ _
  unfold Vc109
  have hes := hwf.box _ _ he
  simp (config := {maxSteps := 3000000}) only [run_reg, run_seq, at_code_n, ops_nil, ops_mv, ops_bslo, ev_t, ev_c, put_get, opv_mk, args0, List.getD_cons_zero, List.getD_cons_succ, strip, strip1, ptrV, List.map_cons, List.map_nil, true_and, Nat.reduceEqDiff, ↓reduceIte, eq_self, reduceCtorEq]
  refine Bo.own (by simp [allLen, V.cells]) ?_
  intro g hg
  simp (config := {maxSteps := 3000000}) only [ops_call, ev_t, ev_c, put_get, obsOk, List.map_cons, List.map_nil, List.length_cons, List.length_nil, true_and, Nat.reduceAdd, Nat.zero_add, ↓reduceIte, eq_self]
  refine Cal.mk (of42_v (l := [256, res, 0, 3, 3, 3, 1]) (m := mN 2 256 res 0 3 3 3 1 0 0) (by simp) rfl) ?_
  rintro _ s ⟨b, hb, rfl, hbx, hws⟩ -
  simp only [use_sz] at hb
  have hws2 := weak_trans (weak_use hwf.weak hg) hws
  have hb1 : st.sz ≤ b := by omega
  simp (config := {maxSteps := 3000000}) only [ops_call, ev_t, put_get, obsOk, List.map_cons, List.map_nil, true_and, Nat.reduceEqDiff, ↓reduceIte, eq_self]
  refine Cal.mk (named_v (c := c) (m := mN 2 256 res 0 3 3 3 1 0 0) (hws2.box _ _ he).1 hbx (by omega)) ?_
  rintro _ _ ⟨rfl, rfl⟩ -
  simp (config := {maxSteps := 3000000}) only [run_ret, at_code_n, at_fin_r, ops_nil, ops_mv, ev_t, put_get, opv_mk, obsOk, and_true, true_and, ↓reduceIte, vret, rvAll, rvVal, resv_1, eq_self]
  exact ⟨_, _, Wk.refl _, weak_both hws2, b, hb1, rfl, put_box_same, weak_put hwf.weak hb1⟩
theorem rFail_v (he : st.box e = some c.cells) : VCalls Try.prog 84 [ptrV e] st fun r st' => r = .sl .no ((failM c).map M9.v) ∧ st' = st.put e (failC c).cells := by
  refine vcalls_enter vc84 (Nat.le_of_ble_eq_true rfl) fun hwf hok => ?_
  show Run _ Vc84.body (.fin (finQ Vc84.res _)) _ _
  unfold Vc84
  have hes := hwf.box _ _ he
  by_cases c4 : c.state = 4
  · rw [failM, if_pos c4, failC_self c4, put_self he hes]
    simp (config := {maxSteps := 3000000}) only [run_reg, run_seq, run_ret, run_cond, if_true, at_code_n, at_code_r, at_fin_r, ops_nil, ops_mv, ops_bin, ops_fld, ops_load, ops_nilck, ev_t, ev_c, put_get, opv_mk, args0, List.getD_cons_zero, vbin, vbinI, vfld, vnil, vload, takeV, V.cells, ptrV, List.map_nil, List.length_cons, List.length_nil, List.getElem?_cons_zero, and_true, true_and, Nat.zero_add, Nat.add_zero, ↓reduceIte, vret, rvAll, rvVal, resv_1, eq_self, reduceCtorEq, he, CC.cells, decide_eq_true c4]
    exact ⟨_, _, Wk.no, hwf.weak, rfl, rfl⟩
  · rw [failM, if_neg c4]
    simp (config := {maxSteps := 3000000}) only [run_skip, run_reg, run_seq, run_cond, if_false, at_code_n, ops_nil, ops_mv, ops_bin, ops_fld, ops_load, ops_nilck, ops_bslo, ops_store, ev_t, ev_c, put_get, put_none, opv_mk, stb_some, sto_ptr, Stp, args0, List.getD_cons_zero, vbin, vbinI, vfld, vnil, vload, takeV, splice, V.cells, strip, strip1, ptrV, obsOk, List.map_cons, List.map_nil, List.length_cons, List.length_nil, List.getElem?_cons_zero, List.take_zero, List.drop_succ_cons, List.drop_zero, List.cons_append, List.nil_append, true_and, Nat.reduceAdd, Nat.reduceLT, Nat.reduceLeDiff, Nat.reduceLT, Nat.zero_add, Nat.add_zero, ↓reduceIte, eq_self, reduceCtorEq, he, CC.cells, decide_eq_false c4]
    refine Bo.own (by simp [allLen, V.cells]) ?_
    intro g hg
    simp (config := {maxSteps := 3000000}) only [ops_call, ev_t, ev_c, put_get, obsOk, List.map_cons, List.map_nil, List.length_cons, List.length_nil, true_and, Nat.zero_add, ↓reduceIte, eq_self]
    refine Cal.mk (of42_s (l := [2]) (m := mN 3 2 0 0 0 0 0 0 0 0) (by simp) rfl) ?_
    rintro _ _ ⟨rfl, rfl⟩ -
    simp (config := {maxSteps := 3000000}) only [run_ret, at_code_n, at_fin_r, ops_nil, ops_mv, ev_t, put_get, opv_mk, obsOk, and_true, true_and, ↓reduceIte, vret, rvAll, rvVal, resv_1, eq_self]
    exact ⟨_, _, Wk.no, weak_use (weak_both hwf.weak) (by simp only [put_sz] at *; omega), rfl, rfl⟩
theorem rUp_v (he : st.box e = some c.cells) {now : Int} (h0 : 0 ≤ now ∧ now ≤ 1000000) : VCalls Try.prog 106 [ptrV e, .sc (.int .i64 now)] st fun r st' => st' = st.put e (upC c now).cells := by
  refine vcalls_enter vc106 (Nat.le_of_ble_eq_true rfl) fun hwf hok => ?_
  show Run _ Vc106.body (.fin (finQ Vc106.res _)) _ _
  unfold Vc106
  have hes := hwf.box _ _ he
  simp (config := {maxSteps := 3000000}) only [run_reg, at_fin_n, ops_nil, ops_mv, ops_bin, ops_fld, ops_nilck, ops_store, ev_t, ev_c, put_get, put_none, opv_mk, stb_some, sto_ptr, Stp, put_box_same, put_put, args0, List.getD_cons_zero, List.getD_cons_succ, vbin, vbinI, norm, vfld, vnil, splice, V.cells, ptrV, obsOk, List.length_cons, List.length_nil, List.take_succ_cons, List.take_zero, List.drop_succ_cons, List.drop_zero, List.cons_append, List.nil_append, true_and, Nat.reduceEqDiff, Nat.reduceAdd, Nat.reduceLT, Nat.reduceLeDiff, Nat.reduceLT, Int.reduceNeg, Nat.zero_add, Nat.add_zero, ↓reduceIte, vret, rvAll, eq_self, reduceCtorEq, he, CC.cells]
  repeat (apply And.intro; focus (first | omega | (simp; done)))
  exact ⟨_, _, Wk.refl _, weak_both hwf.weak, rfl⟩
theorem rReach_v (he : st.box e = some c.cells) {now : Int} (h0 : 0 ≤ now ∧ now ≤ 1000000) : VCalls Try.prog 81 [ptrV e, .sc (.int .i64 now)] st fun r st' => r = .sl .no ((reachM c).map M9.v) ∧ st' = st.put e (reachC c now).cells := by
  by_cases c0 : c.state = 0
  rotate_left
  · skip
    refine vcalls_enter vc81 (Nat.le_of_ble_eq_true rfl) fun hwf hok => ?_
    show Run _ Vc81.body (.fin (finQ Vc81.res _)) _ _
    unfold Vc81
    have hes := hwf.box _ _ he
    rw [reachM, if_neg c0, reachC, if_neg c0, put_self he hes]
    simp (config := {maxSteps := 3000000}) only [run_reg, run_seq, run_ret, run_cond, if_true, at_code_n, at_code_r, at_fin_r, ops_nil, ops_mv, ops_bin, ops_fld, ops_load, ops_nilck, ev_t, ev_c, put_get, opv_mk, args0, List.getD_cons_zero, vbin, vbinI, vfld, vnil, vload, takeV, V.cells, ptrV, List.map_nil, List.length_cons, List.length_nil, List.getElem?_cons_zero, and_true, true_and, Nat.zero_add, Nat.add_zero, ↓reduceIte, vret, rvAll, rvVal, resv_1, ne_eq, eq_self, reduceCtorEq, he, CC.cells, decide_eq_true (p := ¬ c.state = 0) c0]
    exact ⟨_, _, Wk.no, hwf.weak, rfl, rfl⟩
  · rw [reachM, if_pos c0, reachC, if_pos c0]
    refine OneQ.seal ?_
    refine vcalls_enter vc81 (Nat.le_of_ble_eq_true rfl) fun hwf hok => ?_
    show Run _ Vc81.body (.fin (finQ Vc81.res _)) _ _
    unfold Vc81
    have hes := hwf.box _ _ he
    simp (config := {maxSteps := 3000000}) only [run_skip, run_reg, run_seq, run_cond, if_false, at_code_n, ops_nil, ops_mv, ops_bin, ops_fld, ops_load, ops_nilck, ops_bslo, ops_store, ev_t, ev_c, put_get, put_none, opv_mk, stb_some, sto_ptr, Stp, put_box_same, put_put, args0, List.getD_cons_zero, List.getD_cons_succ, vbin, vbinI, norm, vfld, vnil, vload, takeV, splice, V.cells, strip, strip1, ptrV, obsOk, List.map_cons, List.map_nil, List.length_cons, List.length_nil, List.getElem?_cons_zero, List.take_succ_cons, List.take_zero, List.drop_succ_cons, List.drop_zero, List.cons_append, List.nil_append, true_and, Nat.reduceEqDiff, Nat.reduceAdd, Nat.reduceLT, Nat.reduceLeDiff, Nat.reduceLT, Int.reduceNeg, Nat.zero_add, Nat.add_zero, ↓reduceIte, ne_eq, eq_self, reduceCtorEq, he, CC.cells, decide_eq_false (show ¬ ¬ c.state = 0 by omega)]
    repeat (apply And.intro; focus (first | omega | (simp; done)))
    refine Bo.own (by simp [allLen, V.cells]) ?_
    intro g hg
    simp (config := {maxSteps := 3000000}) only [ops_call, ev_t, ev_c, put_get, obsOk, List.map_cons, List.map_nil, List.length_cons, List.length_nil, true_and, Nat.reduceAdd, Nat.zero_add, ↓reduceIte, eq_self]
    refine Cal.mk (of42_v (l := [256, 3, 3, 3, 1]) (m := mN 1 256 3 3 3 1 0 0 0 0) (by simp) rfl) ?_
    rintro _ s ⟨b, hb, rfl, hbx, hws⟩ -
    simp only [use_sz, put_sz] at hb hg
    have hbase : (st.put e (CC.mk 1 c.me c.other c.host (now + 60) c.asked c.id).cells).weak ((st.put e (CC.mk 1 c.me c.other c.host (now + 60) c.asked c.id).cells).use g 5) := weak_use (weak_both hwf.weak) (by simp only [put_sz]; omega)
    have hws2 := weak_trans hbase hws
    have hb1 : (st.put e (CC.mk 1 c.me c.other c.host (now + 60) c.asked c.id).cells).sz ≤ b := by simp only [put_sz]; omega
    simp (config := {maxSteps := 3000000}) only [ops_call, ev_t, put_get, obsOk, List.map_cons, List.map_nil, true_and, Nat.reduceEqDiff, ↓reduceIte, eq_self]
    refine Cal.mk (named_v (c := ⟨1, c.me, c.other, c.host, now + 60, c.asked, c.id⟩) (m := mN 1 256 3 3 3 1 0 0 0 0) (hws2.box _ _ put_box_same).1 hbx (by omega)) ?_
    rintro _ _ ⟨rfl, rfl⟩ -
    simp (config := {maxSteps := 3000000}) only [run_ret, at_code_n, at_fin_r, ops_nil, ops_mv, ev_t, put_get, opv_mk, obsOk, and_true, true_and, ↓reduceIte, vret, rvAll, rvVal, resv_1, eq_self]
    exact ⟨_, _, Wk.refl _, weak_both hws2, b, hb1, rfl, put_box_same, weak_put (weak_both hwf.weak) hb1⟩
theorem rStop_v (he : st.box e = some c.cells) (hc : c.Ok) {now reason : Int} (h0 : 0 ≤ now ∧ now ≤ 1000000) (h1 : 0 ≤ reason ∧ reason < 4294967296) : VCalls Try.prog 83 [ptrV e, .sc (.int .i64 now), .sc (.int .u32 reason)] st fun r st' => r = .sl .no ((stopM c reason).map M9.v) ∧ st' = st.put e (stopC c now).cells := by
  have s4 := hc.s4
  refine vcalls_enter vc83 (Nat.le_of_ble_eq_true rfl) fun hwf hok => ?_
  show Run _ Vc83.body (.fin (finQ Vc83.res _)) _ _
  unfold Vc83
  have hes := hwf.box _ _ he
  by_cases c3 : 3 ≤ c.state
  · have c34 : c.state = 3 ∨ c.state = 4 := by omega
    rw [stopM, if_pos c34, stopC, if_pos c34, put_self he hes]
    simp (config := {maxSteps := 3000000}) only [run_reg, run_seq, run_ret, run_cond, if_true, at_code_n, at_code_r, at_fin_r, ops_nil, ops_mv, ops_bin, ops_fld, ops_load, ops_nilck, ev_t, ev_c, put_get, opv_mk, args0, List.getD_cons_zero, vbin, vbinI, vfld, vnil, vload, takeV, V.cells, ptrV, List.map_nil, List.length_cons, List.length_nil, List.getElem?_cons_zero, and_true, true_and, Nat.zero_add, Nat.add_zero, ↓reduceIte, vret, rvAll, rvVal, resv_1, eq_self, reduceCtorEq, he, CC.cells, decide_eq_true c3]
    exact ⟨_, _, Wk.no, hwf.weak, rfl, rfl⟩
  · rw [stopM, if_neg (by omega), stopC, if_neg (by omega)]
    simp (config := {maxSteps := 3000000}) only [run_skip, run_reg, run_seq, run_cond, if_false, at_code_n, ops_nil, ops_mv, ops_bin, ops_fld, ops_load, ops_nilck, ops_bslo, ops_store, ev_t, ev_c, put_get, put_none, opv_mk, stb_some, sto_ptr, Stp, put_box_same, put_put, args0, List.getD_cons_zero, List.getD_cons_succ, vbin, vbinI, norm, vfld, vnil, vload, takeV, splice, V.cells, strip, strip1, ptrV, obsOk, List.map_cons, List.map_nil, List.length_cons, List.length_nil, List.getElem?_cons_zero, List.take_succ_cons, List.take_zero, List.drop_succ_cons, List.drop_zero, List.cons_append, List.nil_append, and_true, true_and, Nat.reduceEqDiff, Nat.reduceAdd, Nat.reduceLT, Nat.reduceLeDiff, Nat.reduceLT, Int.reduceLT, Int.reduceNeg, Nat.zero_add, Nat.add_zero, ↓reduceIte, eq_self, reduceCtorEq, he, CC.cells, decide_eq_false c3]
    repeat (apply And.intro; focus (first | omega | (simp; done)))
    refine Bo.own (by simp [allLen, V.cells]) ?_
    intro g hg
    simp (config := {maxSteps := 3000000}) only [ops_call, ev_t, ev_c, put_get, obsOk, List.map_cons, List.map_nil, List.length_cons, List.length_nil, true_and, Nat.zero_add, ↓reduceIte, eq_self]
    refine Cal.mk (of42_s (l := [reason % 256]) (m := mN 3 (reason % 256) 0 0 0 0 0 0 0 0) (by simp) rfl) ?_
    rintro _ _ ⟨rfl, rfl⟩ -
    simp (config := {maxSteps := 3000000}) only [run_ret, at_code_n, at_fin_r, ops_nil, ops_mv, ev_t, put_get, opv_mk, obsOk, and_true, true_and, ↓reduceIte, vret, rvAll, rvVal, resv_1, eq_self]
    exact ⟨_, _, Wk.no, weak_use (weak_both hwf.weak) (by simp only [put_sz] at *; omega), rfl, rfl⟩
theorem rBegan_v (hb : st.box b = some c.cells) {now : Int} (h0 : 0 ≤ now ∧ now ≤ 1000000) (m : M9) : VCalls Try.prog 105 [ptrV b, .sc (.int .i64 now), m.v] st fun r st' => r = .sl .no ((beganM c m.n0).map M9.v) ∧ st' = st.put b (beganC c now m.n0).cells := by
  have gr := fun (s : St) hs res => rAnswer_v (st := s) (e := b) (c := c) hs (res := res)
  have gr4 := fun (s : St) hs => rAnswer_v (st := s) (e := b) (c := failC c) hs (res := 5)
  have gr1 := fun (s : St) hs => rAnswer_v (st := s) (e := b) (c := upC c now) hs (res := 1)
  have gu := fun (s : St) hs => rUp_v (st := s) (e := b) (c := c) hs h0
  obtain ⟨ty, n0, n1, n2, n3, n4, n5, n6, n7, n8, t0, t1, t2⟩ := m
  simp only
  refine vcalls_enter vc105 (Nat.le_of_ble_eq_true rfl) fun hwf hok => ?_
  show Run _ Vc105.body (.fin (finQ Vc105.res _)) _ _
  unfold Vc105
  have hbs := hwf.box _ _ hb
  have hps := put_self hb hbs
  simp (config := {maxSteps := 3000000}) only [run_reg, run_seq, at_code_n, ops_nil, ops_mv, ops_fld, ops_load, ops_nilck, ops_box, ev_t, ev_c, put_get, opv_mk, Bx, args0, List.getD_cons_zero, List.getD_cons_succ, vfld, vnil, vload, takeV, V.cells, ptrV, obsOk, List.length_cons, List.length_nil, true_and, Nat.reduceAdd, Nat.zero_add, Nat.add_zero, ↓reduceIte, ne_eq, not_false_eq_true, eq_self, reduceCtorEq, M9.v, M9.cells]
  intro d hd
  have hbd : b < d := by omega
  by_cases c2 : c.state = 2
  · rw [beganM, if_pos c2, beganC, if_pos c2, hps]
    simp (config := {maxSteps := 3000000}) only [run_reg, run_seq, run_cond, if_true, at_code_n, ops_nil, ops_mv, ops_bin, ops_call, ev_t, ev_c, put_get, opv_mk, args0, List.getD_cons_zero, vbin, vbinI, List.map_cons, List.map_nil, List.length_cons, List.length_nil, List.getElem?_cons_zero, true_and, Nat.zero_add, ↓reduceIte, eq_self, reduceCtorEq, hb, CC.cells, decide_eq_true c2, put_box_ne (Nat.ne_of_lt hbd)]
    refine Cal.mk (gr _ (by rw [put_box_ne (Nat.ne_of_lt hbd)]; exact hb) 3) ?_
    rintro _ _ ⟨rfl, rfl⟩ -
    simp (config := {maxSteps := 3000000}) only [run_ret, at_code_n, at_code_r, at_fin_r, ops_nil, ops_mv, ev_t, put_get, opv_mk, obsOk, and_true, true_and, ↓reduceIte, vret, rvAll, rvVal, resv_1, eq_self]
    exact ⟨_, _, Wk.no, weak_put hwf.weak hd, rfl, rfl⟩
  by_cases c3 : c.state = 3
  · have c1 : ¬ (c.state = 1 ∧ c.other < c.me) := fun h => by omega
    rw [beganM, if_neg c2, if_neg c1, if_pos c3, beganC, if_neg c2, if_neg c1, if_pos c3, hps]
    simp (config := {maxSteps := 3000000}) only [run_skip, run_reg, run_seq, run_ret, run_cond, if_true, if_false, at_code_n, at_code_r, at_fin_r, ops_nil, ops_grd, grd_und, grd_tf, ops_mv, ops_pick, ops_bin, ops_fld, ops_load, ops_nilck, ev_t, ev_c, put_get, opv_mk, args0, List.getD_cons_zero, vpick, vbin, vbinI, vfld, vnil, vload, takeV, V.cells, List.map_nil, List.length_cons, List.length_nil, List.getElem?_cons_zero, and_true, true_and, Nat.reduceEqDiff, Nat.zero_add, Nat.add_zero, ↓reduceIte, vret, rvAll, rvVal, resv_1, eq_self, reduceCtorEq, hb, CC.cells, decide_eq_false c2, decide_eq_true c3, put_box_ne (Nat.ne_of_lt hbd)]
    exact ⟨_, _, Wk.no, weak_put hwf.weak hd, rfl, rfl⟩
  by_cases c1 : c.state = 1 ∧ c.other < c.me
  · rw [beganM, if_neg c2, if_pos c1, beganC, if_neg c2, if_pos c1, hps]
    simp (config := {maxSteps := 3000000}) only [run_skip, run_reg, run_seq, run_ret, run_cond, if_true, if_false, at_code_n, at_code_r, at_fin_r, ops_nil, ops_grd, grd_tt, grd_ff, ops_mv, ops_pick, ops_bin, ops_fld, ops_load, ops_nilck, ev_t, ev_c, put_get, opv_mk, args0, List.getD_cons_zero, vpick, vbin, vbinI, vfld, vnil, vload, takeV, V.cells, List.map_nil, List.length_cons, List.length_nil, List.getElem?_cons_zero, List.getElem?_cons_succ, and_true, true_and, Nat.reduceEqDiff, Nat.zero_add, Nat.add_zero, ↓reduceIte, vret, rvAll, rvVal, resv_1, eq_self, reduceCtorEq, Bool.false_eq_true, hb, CC.cells, decide_eq_false c2, decide_eq_false c3, decide_eq_true c1.1, decide_eq_true c1.2, put_box_ne (Nat.ne_of_lt hbd)]
    exact ⟨_, _, Wk.no, weak_put hwf.weak hd, rfl, rfl⟩
  have test : decide (c.state = 1) = false ∨ (decide (c.state = 1) = true ∧ decide (c.other < c.me) = false) := by
    by_cases q : c.state = 1
    · exact .inr ⟨decide_eq_true q, decide_eq_false fun q' => c1 ⟨q, q'⟩⟩
    · exact .inl (decide_eq_false q)
  rw [beganM, if_neg c2, if_neg c1, if_neg c3, beganC, if_neg c2, if_neg c1, if_neg c3]
  by_cases v : n0 = 256
  rotate_left
  · rw [if_pos v, if_pos v]
    rcases test with q | ⟨q, q'⟩
    · simp (config := {maxSteps := 3000000}) only [run_skip, run_reg, run_seq, run_cond, if_true, if_false, at_code_n, ops_nil, ops_grd, grd_ff, grd_ft, ops_mv, ops_pick, ops_bin, ops_fld, ops_ixa, ops_load, ops_nilck, ops_store, ops_call, ev_t, ev_c, put_get, put_none, opv_mk, stb_some, sto_ptr, Stp, put_box_same, args0, List.getD_cons_zero, vpick, vbin, vbinI, vfld, vnil, vixa, vload, takeV, splice, V.cells, obsOk, List.map_cons, List.map_nil, List.length_cons, List.length_nil, List.getElem?_cons_zero, List.getElem?_cons_succ, List.take_zero, List.drop_succ_cons, List.drop_zero, List.cons_append, List.nil_append, and_true, true_and, Nat.reduceEqDiff, Nat.reduceAdd, Nat.reduceLT, Nat.reduceLeDiff, Nat.reduceLT, Int.reduceToNat, Int.reduceLE, Int.reduceLT, Nat.zero_add, Nat.add_zero, Nat.mul_one, ↓reduceIte, ne_eq, eq_self, reduceCtorEq, Bool.false_eq_true, hb, CC.cells, decide_eq_false c2, q, decide_eq_false c3, nc9, decide_eq_true (p := ¬ n0 = 256) v, put_box_ne (Nat.ne_of_lt hbd)]
      refine Cal.mk (gr4 _ put_box_same) ?_
      rintro _ _ ⟨rfl, rfl⟩ -
      simp (config := {maxSteps := 3000000}) only [run_ret, at_code_n, at_code_r, at_fin_r, ops_nil, ops_mv, ev_t, put_get, opv_mk, obsOk, and_true, true_and, ↓reduceIte, vret, rvAll, rvVal, resv_1, eq_self]
      exact ⟨_, _, Wk.no, weak_both (weak_put hwf.weak hd), rfl, rfl⟩
    · simp (config := {maxSteps := 3000000}) only [run_skip, run_reg, run_seq, run_cond, if_true, if_false, at_code_n, ops_nil, ops_grd, grd_tt, grd_ff, ops_mv, ops_pick, ops_bin, ops_fld, ops_ixa, ops_load, ops_nilck, ops_store, ops_call, ev_t, ev_c, put_get, put_none, opv_mk, stb_some, sto_ptr, Stp, put_box_same, args0, List.getD_cons_zero, vpick, vbin, vbinI, vfld, vnil, vixa, vload, takeV, splice, V.cells, obsOk, List.map_cons, List.map_nil, List.length_cons, List.length_nil, List.getElem?_cons_zero, List.getElem?_cons_succ, List.take_zero, List.drop_succ_cons, List.drop_zero, List.cons_append, List.nil_append, and_true, true_and, Nat.reduceEqDiff, Nat.reduceAdd, Nat.reduceLT, Nat.reduceLeDiff, Nat.reduceLT, Int.reduceToNat, Int.reduceLE, Int.reduceLT, Nat.zero_add, Nat.add_zero, Nat.mul_one, ↓reduceIte, ne_eq, eq_self, reduceCtorEq, Bool.false_eq_true, hb, CC.cells, decide_eq_false c2, q, q', decide_eq_false c3, nc9, decide_eq_true (p := ¬ n0 = 256) v, put_box_ne (Nat.ne_of_lt hbd)]
      refine Cal.mk (gr4 _ put_box_same) ?_
      rintro _ _ ⟨rfl, rfl⟩ -
      simp (config := {maxSteps := 3000000}) only [run_ret, at_code_n, at_code_r, at_fin_r, ops_nil, ops_mv, ev_t, put_get, opv_mk, obsOk, and_true, true_and, ↓reduceIte, vret, rvAll, rvVal, resv_1, eq_self]
      exact ⟨_, _, Wk.no, weak_both (weak_put hwf.weak hd), rfl, rfl⟩
  · rw [if_neg (by omega), if_neg (by omega)]
    rcases test with q | ⟨q, q'⟩
    · simp (config := {maxSteps := 3000000}) only [run_skip, run_reg, run_seq, run_cond, if_false, at_code_n, ops_nil, ops_grd, grd_ff, grd_ft, ops_mv, ops_pick, ops_bin, ops_fld, ops_ixa, ops_load, ops_nilck, ops_call, ev_t, ev_c, put_get, opv_mk, put_box_same, args0, List.getD_cons_zero, List.getD_cons_succ, vpick, vbin, vbinI, vfld, vnil, vixa, vload, takeV, V.cells, List.map_cons, List.map_nil, List.length_cons, List.length_nil, List.getElem?_cons_zero, List.getElem?_cons_succ, and_true, true_and, Nat.reduceEqDiff, Int.reduceToNat, Int.reduceLE, Int.reduceLT, Nat.zero_add, Nat.add_zero, Nat.mul_one, ↓reduceIte, ne_eq, eq_self, reduceCtorEq, Bool.false_eq_true, hb, CC.cells, decide_eq_false c2, q, decide_eq_false c3, nc9, decide_eq_false (show ¬ ¬ n0 = 256 by omega), put_box_ne (Nat.ne_of_lt hbd)]
      refine Cal.mk (gu _ (by rw [put_box_ne (Nat.ne_of_lt hbd)]; exact hb)) ?_
      rintro _ _ rfl -
      simp (config := {maxSteps := 3000000}) only [run_reg, run_seq, at_code_n, ops_nil, ops_mv, ops_call, ev_t, ev_c, put_get, opv_mk, args0, List.getD_cons_zero, obsOk, List.map_cons, List.map_nil, true_and, ↓reduceIte, eq_self, reduceCtorEq]
      refine Cal.mk (gr1 _ put_box_same) ?_
      rintro _ _ ⟨rfl, rfl⟩ -
      simp (config := {maxSteps := 3000000}) only [run_ret, at_code_n, at_fin_r, ops_nil, ops_mv, ev_t, put_get, opv_mk, obsOk, and_true, true_and, ↓reduceIte, vret, rvAll, rvVal, resv_1, eq_self]
      exact ⟨_, _, Wk.no, weak_both (weak_put hwf.weak hd), rfl, rfl⟩
    · simp (config := {maxSteps := 3000000}) only [run_skip, run_reg, run_seq, run_cond, if_false, at_code_n, ops_nil, ops_grd, grd_tt, grd_ff, ops_mv, ops_pick, ops_bin, ops_fld, ops_ixa, ops_load, ops_nilck, ops_call, ev_t, ev_c, put_get, opv_mk, put_box_same, args0, List.getD_cons_zero, List.getD_cons_succ, vpick, vbin, vbinI, vfld, vnil, vixa, vload, takeV, V.cells, List.map_cons, List.map_nil, List.length_cons, List.length_nil, List.getElem?_cons_zero, List.getElem?_cons_succ, and_true, true_and, Nat.reduceEqDiff, Int.reduceToNat, Int.reduceLE, Int.reduceLT, Nat.zero_add, Nat.add_zero, Nat.mul_one, ↓reduceIte, ne_eq, eq_self, reduceCtorEq, Bool.false_eq_true, hb, CC.cells, decide_eq_false c2, q, q', decide_eq_false c3, nc9, decide_eq_false (show ¬ ¬ n0 = 256 by omega), put_box_ne (Nat.ne_of_lt hbd)]
      refine Cal.mk (gu _ (by rw [put_box_ne (Nat.ne_of_lt hbd)]; exact hb)) ?_
      rintro _ _ rfl -
      simp (config := {maxSteps := 3000000}) only [run_reg, run_seq, at_code_n, ops_nil, ops_mv, ops_call, ev_t, ev_c, put_get, opv_mk, args0, List.getD_cons_zero, obsOk, List.map_cons, List.map_nil, true_and, ↓reduceIte, eq_self, reduceCtorEq]
      refine Cal.mk (gr1 _ put_box_same) ?_
      rintro _ _ ⟨rfl, rfl⟩ -
      simp (config := {maxSteps := 3000000}) only [run_ret, at_code_n, at_fin_r, ops_nil, ops_mv, ev_t, put_get, opv_mk, obsOk, and_true, true_and, ↓reduceIte, vret, rvAll, rvVal, resv_1, eq_self]
      exact ⟨_, _, Wk.no, weak_both (weak_put hwf.weak hd), rfl, rfl⟩
theorem rTake42_v (hb : st.box b = some c.cells) {now : Int} (h0 : 0 ≤ now ∧ now ≤ 1000000) {m : M9} (hm : m.Ok) : VCalls Try.prog 85 [ptrV b, .sc (.int .i64 now), m.v] st fun r st' => r = .sl .no ((ctakeM c now m).map M9.v) ∧ st' = st.put b (ctakeC c now m).cells := by
  have k0 := hm.n0
  obtain ⟨state, me, other, host, tm, asked, id⟩ := c
  obtain ⟨ty, n0, n1, n2, n3, n4, n5, n6, n7, n8, t0, t1, t2⟩ := m
  simp only at k0
  have en0 : n0 % 4294967296 = n0 := by omega
  clear hm
  refine vcalls_enter vc85 (Nat.le_of_ble_eq_true rfl) fun hwf hok => ?_
  show Run _ Vc85.body (.fin (finQ Vc85.res _)) _ _
  unfold Vc85
  have hbs := hwf.box _ _ hb
  have hps := put_self hb hbs
  simp (config := {maxSteps := 3000000}) only [run_reg, run_seq, at_code_n, ops_nil, ops_mv, ops_fld, ops_load, ops_nilck, ops_box, ev_t, ev_c, put_get, opv_mk, Bx, args0, List.getD_cons_zero, List.getD_cons_succ, vfld, vnil, vload, takeV, V.cells, ptrV, obsOk, List.length_cons, List.length_nil, true_and, Nat.reduceAdd, Nat.zero_add, Nat.add_zero, ↓reduceIte, ne_eq, not_false_eq_true, eq_self, reduceCtorEq, M9.v, M9.cells]
  intro d hd
  have hbd : b < d := by omega
  by_cases k4 : state = 4
  · rw [ctakeM, if_pos k4, ctakeC, if_pos k4, hps]
    simp (config := {maxSteps := 3000000}) only [run_reg, run_seq, run_ret, run_cond, if_true, at_code_n, at_code_r, at_fin_r, ops_nil, ops_mv, ops_bin, ev_t, ev_c, put_get, opv_mk, vbin, vbinI, List.map_nil, List.length_cons, List.length_nil, List.getElem?_cons_zero, and_true, true_and, Nat.zero_add, ↓reduceIte, vret, rvAll, rvVal, resv_1, eq_self, hb, CC.cells, decide_eq_true k4, put_box_ne (Nat.ne_of_lt hbd)]
    exact ⟨_, _, Wk.no, weak_put hwf.weak hd, rfl, rfl⟩
  have q4 := decide_eq_false k4
  rw [ctakeM, if_neg k4, ctakeC, if_neg k4]
  by_cases kh : state = 2 ∧ asked = false
  · obtain ⟨rfl, rfl⟩ := kh
    rw [heardC, if_pos ⟨rfl, rfl⟩]
    have hS : takeC1 ⟨2, me, other, host, now + 60, false, id⟩ now ⟨ty, n0, n1, n2, n3, n4, n5, n6, n7, n8, t0, t1, t2⟩ = if ty = 1 then beganC ⟨2, me, other, host, now + 60, false, id⟩ now n0 else if ty = 2 then ansC ⟨2, me, other, host, now + 60, false, id⟩ now n0 n1 else if ty = 3 then failC ⟨2, me, other, host, now + 60, false, id⟩ else if ty = 4 then failC ⟨2, me, other, host, now + 60, false, id⟩ else if ty = 6 ∧ (2 : Int) = 2 ∧ false = true ∧ n0 = id then ⟨2, me, other, host, now + 60, false, id⟩ else ⟨2, me, other, host, now + 60, false, id⟩ := rfl
    have hM : takeM1 ⟨2, me, other, host, now + 60, false, id⟩ ⟨ty, n0, n1, n2, n3, n4, n5, n6, n7, n8, t0, t1, t2⟩ = if ty = 1 then beganM ⟨2, me, other, host, now + 60, false, id⟩ n0 else if ty = 2 then ansM ⟨2, me, other, host, now + 60, false, id⟩ n0 n1 else if ty = 3 then [mN 4 1 0 0 0 0 0 0 0 0] else if ty = 4 then (if (2 : Int) = 3 then [] else failM ⟨2, me, other, host, now + 60, false, id⟩) else if ty = 5 then [mN 6 n0 1 0 0 0 0 0 0 0] else [] := rfl
    generalize takeC1 _ now _ = TS at *
    generalize takeM1 _ _ = TM at *
    by_cases y1 : ty = 1
    · rw [if_pos y1] at hS hM; subst hS hM
      subst y1
      simp (config := {maxSteps := 3000000}) only [run_skip, run_reg, run_seq, run_blk, run_cond, if_true, if_false, at_code_n, ops_nil, ops_grd, grd_tt, ops_mv, ops_pick, ops_bin, ops_un, ops_fld, ops_load, ops_nilck, ops_store, ops_call, ev_t, ev_c, put_get, put_none, opv_mk, stb_some, sto_ptr, Stp, put_box_same, args0, List.getD_cons_zero, List.getD_cons_succ, vpick, vbin, vbinI, vun, norm, vfld, vnil, vload, takeV, splice, V.cells, obsOk, List.map_cons, List.map_nil, List.length_cons, List.length_nil, List.getElem?_cons_zero, List.getElem?_cons_succ, List.take_succ_cons, List.take_zero, List.drop_succ_cons, List.drop_zero, List.cons_append, List.nil_append, List.take_nil, true_and, Nat.reduceEqDiff, Nat.reduceAdd, Nat.reduceLT, Nat.reduceLeDiff, Nat.reduceLT, Int.reduceNeg, Int.reduceEq, Nat.zero_add, Nat.add_zero, ↓reduceIte, decide_true, decide_false, Bool.not_false, eq_self, reduceCtorEq, hb, CC.cells, put_box_ne (Nat.ne_of_lt hbd), put_box_ne (Nat.ne_of_gt hbd)]
      repeat (apply And.intro; focus (first | omega | (simp; done)))
      refine Cal.mk (rBegan_v (c := ⟨2, me, other, host, now + 60, false, id⟩) (put_box_same) h0 (M9.mk 1 n0 n1 n2 n3 n4 n5 n6 n7 n8 t0 t1 t2)) ?_
      rintro _ _ ⟨rfl, rfl⟩ -
      simp (config := {maxSteps := 3000000}) only [run_ret, at_code_n, at_code_r, at_blk_r, at_fin_r, ops_nil, ops_mv, ev_t, put_get, opv_mk, put_put, obsOk, and_true, true_and, ↓reduceIte, vret, rvAll, rvVal, resv_1, eq_self]
      exact ⟨_, _, Wk.no, weak_both (weak_put hwf.weak hd), rfl, rfl⟩
    rw [if_neg y1] at hS hM
    by_cases y2 : ty = 2
    · rw [if_pos y2] at hS hM; subst hS hM
      subst y2
      have hn : ¬ ansOk ⟨2, me, other, host, now + 60, false, id⟩ n0 n1 := fun h => by have := h.1; simp at this
      rw [ansM, if_neg hn, ansC, if_neg hn]
      simp (config := {maxSteps := 3000000}) only [run_skip, run_reg, run_seq, run_blk, run_cond, if_true, if_false, at_code_n, ops_nil, ops_grd, grd_tt, grd_tf, ops_mv, ops_pick, ops_bin, ops_un, ops_fld, ops_load, ops_nilck, ops_store, ops_call, ev_t, ev_c, put_get, put_none, opv_mk, stb_some, sto_ptr, Stp, put_box_same, args0, List.getD_cons_zero, List.getD_cons_succ, vpick, vbin, vbinI, vun, norm, vfld, vnil, vload, takeV, splice, V.cells, obsOk, List.map_cons, List.map_nil, List.length_cons, List.length_nil, List.getElem?_cons_zero, List.getElem?_cons_succ, List.take_succ_cons, List.take_zero, List.drop_succ_cons, List.drop_zero, List.cons_append, List.nil_append, true_and, Nat.reduceEqDiff, Nat.reduceAdd, Nat.reduceLT, Nat.reduceLeDiff, Nat.reduceLT, Int.reduceNeg, Int.reduceEq, Nat.zero_add, Nat.add_zero, ↓reduceIte, decide_true, decide_false, Bool.not_false, ne_eq, not_false_eq_true, eq_self, reduceCtorEq, hb, CC.cells, put_box_ne (Nat.ne_of_lt hbd), put_box_ne (Nat.ne_of_gt hbd)]
      repeat (apply And.intro; focus (first | omega | (simp; done)))
      refine Cal.mk (rFail_v (c := ⟨2, me, other, host, now + 60, false, id⟩) (put_box_same)) ?_
      rintro _ _ ⟨rfl, rfl⟩ -
      simp (config := {maxSteps := 3000000}) only [run_ret, at_code_n, at_code_r, at_blk_r, at_fin_r, ops_nil, ops_mv, ev_t, put_get, opv_mk, put_put, obsOk, and_true, true_and, ↓reduceIte, vret, rvAll, rvVal, resv_1, eq_self]
      exact ⟨_, _, Wk.no, weak_both (weak_put hwf.weak hd), rfl, rfl⟩
    rw [if_neg y2] at hS hM
    by_cases y3 : ty = 3
    · rw [if_pos y3] at hS hM; subst hS hM
      subst y3
      simp (config := {maxSteps := 3000000}) only [run_skip, run_reg, run_seq, run_blk, run_cond, if_true, if_false, at_code_n, ops_nil, ops_grd, grd_tt, ops_mv, ops_pick, ops_bin, ops_un, ops_fld, ops_load, ops_nilck, ops_bslo, ops_store, ev_t, ev_c, put_get, put_none, opv_mk, stb_some, sto_ptr, Stp, put_box_same, put_put, args0, List.getD_cons_zero, List.getD_cons_succ, vpick, vbin, vbinI, vun, norm, vfld, vnil, vload, takeV, splice, V.cells, strip, strip1, obsOk, List.map_cons, List.map_nil, List.length_cons, List.length_nil, List.getElem?_cons_zero, List.getElem?_cons_succ, List.take_succ_cons, List.take_zero, List.drop_succ_cons, List.drop_zero, List.cons_append, List.nil_append, true_and, Nat.reduceEqDiff, Nat.reduceAdd, Nat.reduceLT, Nat.reduceLeDiff, Nat.reduceLT, Int.reduceNeg, Int.reduceEq, Nat.zero_add, Nat.add_zero, ↓reduceIte, decide_true, decide_false, Bool.not_false, eq_self, reduceCtorEq, hb, CC.cells, put_box_ne (Nat.ne_of_lt hbd), put_box_ne (Nat.ne_of_gt hbd)]
      repeat (apply And.intro; focus (first | omega | (simp; done)))
      refine Bo.own (by simp [allLen, V.cells]) ?_
      intro g hg
      simp (config := {maxSteps := 3000000}) only [ops_call, ev_t, ev_c, put_get, obsOk, List.map_cons, List.map_nil, List.length_cons, List.length_nil, true_and, Nat.zero_add, ↓reduceIte, eq_self]
      refine Cal.mk (of42_s (l := [1]) (m := mN 4 1 0 0 0 0 0 0 0 0) (by simp) rfl) ?_
      rintro _ _ ⟨rfl, rfl⟩ -
      simp (config := {maxSteps := 3000000}) only [run_ret, at_code_n, at_code_r, at_blk_r, at_fin_r, ops_nil, ops_mv, ev_t, put_get, opv_mk, obsOk, and_true, true_and, ↓reduceIte, vret, rvAll, rvVal, resv_1, eq_self]
      exact ⟨_, _, Wk.no, weak_use (weak_both (weak_put hwf.weak hd)) (by simp only [put_sz] at *; omega), rfl, rfl⟩
    rw [if_neg y3] at hS hM
    by_cases y4 : ty = 4
    · rw [if_pos y4] at hS hM; subst y4
      rw [if_neg (by simp)] at hM; subst hS hM
      simp (config := {maxSteps := 3000000}) only [run_skip, run_reg, run_seq, run_blk, run_cond, if_true, if_false, at_code_n, ops_nil, ops_grd, grd_tt, ops_mv, ops_pick, ops_bin, ops_un, ops_fld, ops_load, ops_nilck, ops_store, ops_call, ev_t, ev_c, put_get, put_none, opv_mk, stb_some, sto_ptr, Stp, put_box_same, args0, List.getD_cons_zero, List.getD_cons_succ, vpick, vbin, vbinI, vun, norm, vfld, vnil, vload, takeV, splice, V.cells, obsOk, List.map_cons, List.map_nil, List.length_cons, List.length_nil, List.getElem?_cons_zero, List.getElem?_cons_succ, List.take_succ_cons, List.take_zero, List.drop_succ_cons, List.drop_zero, List.cons_append, List.nil_append, true_and, Nat.reduceEqDiff, Nat.reduceAdd, Nat.reduceLT, Nat.reduceLeDiff, Nat.reduceLT, Int.reduceNeg, Int.reduceEq, Nat.zero_add, Nat.add_zero, ↓reduceIte, decide_true, decide_false, Bool.not_false, ne_eq, not_false_eq_true, eq_self, reduceCtorEq, hb, CC.cells, put_box_ne (Nat.ne_of_lt hbd), put_box_ne (Nat.ne_of_gt hbd)]
      repeat (apply And.intro; focus (first | omega | (simp; done)))
      refine Cal.mk (rFail_v (c := ⟨2, me, other, host, now + 60, false, id⟩) (put_box_same)) ?_
      rintro _ _ ⟨rfl, rfl⟩ -
      simp (config := {maxSteps := 3000000}) only [run_ret, at_code_n, at_code_r, at_blk_r, at_fin_r, ops_nil, ops_mv, ev_t, put_get, opv_mk, put_put, obsOk, and_true, true_and, ↓reduceIte, vret, rvAll, rvVal, resv_1, eq_self]
      exact ⟨_, _, Wk.no, weak_both (weak_put hwf.weak hd), rfl, rfl⟩
    rw [if_neg y4] at hS hM
    by_cases y5 : ty = 5
    · rw [if_neg (by omega)] at hS; rw [if_pos y5] at hM; subst hS hM; subst y5
      simp (config := {maxSteps := 3000000}) only [run_skip, run_reg, run_seq, run_blk, run_cond, if_true, if_false, at_code_n, ops_nil, ops_grd, grd_tt, ops_mv, ops_pick, ops_bin, ops_un, ops_fld, ops_ixa, ops_load, ops_nilck, ops_bslo, ops_store, ev_t, ev_c, put_get, put_none, opv_mk, stb_some, sto_ptr, Stp, put_box_same, args0, List.getD_cons_zero, List.getD_cons_succ, vpick, vbin, vbinI, vun, norm, vfld, vnil, vixa, vload, takeV, splice, V.cells, strip, strip1, obsOk, List.map_cons, List.map_nil, List.length_cons, List.length_nil, List.getElem?_cons_zero, List.getElem?_cons_succ, List.take_succ_cons, List.take_zero, List.drop_succ_cons, List.drop_zero, List.cons_append, List.nil_append, and_true, true_and, Nat.reduceEqDiff, Nat.reduceAdd, Nat.reduceLT, Nat.reduceLeDiff, Nat.reduceLT, Int.reduceToNat, Int.reduceLE, Int.reduceLT, Int.reduceNeg, Int.reduceEq, Nat.zero_add, Nat.add_zero, Nat.mul_one, ↓reduceIte, decide_true, decide_false, Bool.not_false, eq_self, reduceCtorEq, hb, nc9, CC.cells, put_box_ne (Nat.ne_of_lt hbd), put_box_ne (Nat.ne_of_gt hbd)]
      repeat (apply And.intro; focus (first | omega | (simp; done)))
      refine Bo.own (by simp [allLen, V.cells]) ?_
      intro g hg
      simp (config := {maxSteps := 3000000}) only [ops_call, ev_t, ev_c, put_get, obsOk, List.map_cons, List.map_nil, List.length_cons, List.length_nil, true_and, Nat.reduceAdd, Nat.zero_add, ↓reduceIte, eq_self]
      refine Cal.mk (of42_s (l := [n0, 1]) (m := mN 6 n0 1 0 0 0 0 0 0 0) (by simp) rfl) ?_
      rintro _ _ ⟨rfl, rfl⟩ -
      simp (config := {maxSteps := 3000000}) only [run_ret, at_code_n, at_code_r, at_blk_r, at_fin_r, ops_nil, ops_mv, ev_t, put_get, opv_mk, obsOk, and_true, true_and, ↓reduceIte, vret, rvAll, rvVal, resv_1, eq_self]
      exact ⟨_, _, Wk.no, weak_use (weak_both (weak_put hwf.weak hd)) (by simp only [put_sz] at *; omega), rfl, rfl⟩
    rw [if_neg y5] at hM
    by_cases y6 : ty = 6
    rotate_left
    · rw [if_neg (fun h => y6 h.1)] at hS; subst hS hM
      simp (config := {maxSteps := 3000000}) only [run_skip, run_reg, run_seq, run_blk, run_ret, run_cond, if_true, if_false, at_code_n, at_blk_n, at_fin_r, ops_nil, ops_grd, grd_tt, ops_mv, ops_pick, ops_bin, ops_un, ops_fld, ops_load, ops_nilck, ops_store, ev_t, ev_c, put_get, put_none, opv_mk, stb_some, sto_ptr, Stp, put_box_same, args0, List.getD_cons_zero, List.getD_cons_succ, vpick, vbin, vbinI, vun, norm, vfld, vnil, vload, takeV, splice, V.cells, obsOk, List.map_nil, List.length_cons, List.length_nil, List.getElem?_cons_zero, List.getElem?_cons_succ, List.take_succ_cons, List.take_zero, List.drop_succ_cons, List.drop_zero, List.cons_append, List.nil_append, and_true, true_and, Nat.reduceEqDiff, Nat.reduceAdd, Nat.reduceLT, Nat.reduceLeDiff, Nat.reduceLT, Int.reduceNeg, Int.reduceEq, Nat.zero_add, Nat.add_zero, ↓reduceIte, vret, rvAll, rvVal, resv_1, decide_true, decide_false, Bool.not_false, eq_self, reduceCtorEq, hb, CC.cells, put_box_ne (Nat.ne_of_lt hbd), put_box_ne (Nat.ne_of_gt hbd), decide_eq_false y1, decide_eq_false y2, decide_eq_false y3, decide_eq_false y4, decide_eq_false y5, decide_eq_false y6, List.map_nil]
      repeat (apply And.intro; focus (first | omega | (simp; done)))
      exact ⟨_, _, Wk.no, weak_both (weak_put hwf.weak hd), rfl, rfl⟩
    subst y6
    rw [if_neg (by simp)] at hS; subst hS hM
    simp (config := {maxSteps := 3000000}) only [run_skip, run_reg, run_seq, run_blk, run_ret, run_cond, if_true, if_false, at_code_n, at_blk_n, at_fin_r, ops_nil, ops_grd, grd_tt, grd_ft, ops_mv, ops_pick, ops_bin, ops_un, ops_fld, ops_load, ops_nilck, ops_store, ev_t, ev_c, put_get, put_none, opv_mk, stb_some, sto_ptr, Stp, put_box_same, args0, List.getD_cons_zero, List.getD_cons_succ, vpick, vbin, vbinI, vun, norm, vfld, vnil, vload, takeV, splice, V.cells, obsOk, List.map_nil, List.length_cons, List.length_nil, List.getElem?_cons_zero, List.getElem?_cons_succ, List.take_succ_cons, List.take_zero, List.drop_succ_cons, List.drop_zero, List.cons_append, List.nil_append, and_true, true_and, Nat.reduceEqDiff, Nat.reduceAdd, Nat.reduceLT, Nat.reduceLeDiff, Nat.reduceLT, Int.reduceNeg, Int.reduceEq, Nat.zero_add, Nat.add_zero, ↓reduceIte, vret, rvAll, rvVal, resv_1, decide_true, decide_false, Bool.not_false, eq_self, reduceCtorEq, Bool.false_eq_true, hb, CC.cells, put_box_ne (Nat.ne_of_lt hbd), put_box_ne (Nat.ne_of_gt hbd), List.map_nil]
    repeat (apply And.intro; focus (first | omega | (simp; done)))
    exact ⟨_, _, Wk.no, weak_both (weak_put hwf.weak hd), rfl, rfl⟩
  · rw [heardC, if_neg kh]
    have test : decide (state = 2) = false ∨ (decide (state = 2) = true ∧ asked = true) := by
      by_cases q : state = 2
      · refine .inr ⟨decide_eq_true q, ?_⟩
        cases asked
        · exact absurd ⟨q, rfl⟩ kh
        · rfl
      · exact .inl (decide_eq_false q)
    have hS : takeC1 ⟨state, me, other, host, tm, asked, id⟩ now ⟨ty, n0, n1, n2, n3, n4, n5, n6, n7, n8, t0, t1, t2⟩ = if ty = 1 then beganC ⟨state, me, other, host, tm, asked, id⟩ now n0 else if ty = 2 then ansC ⟨state, me, other, host, tm, asked, id⟩ now n0 n1 else if ty = 3 then failC ⟨state, me, other, host, tm, asked, id⟩ else if ty = 4 then failC ⟨state, me, other, host, tm, asked, id⟩ else if ty = 6 ∧ state = 2 ∧ asked = true ∧ n0 = id then ⟨state, me, other, host, now + 60, false, id⟩ else ⟨state, me, other, host, tm, asked, id⟩ := rfl
    have hM : takeM1 ⟨state, me, other, host, tm, asked, id⟩ ⟨ty, n0, n1, n2, n3, n4, n5, n6, n7, n8, t0, t1, t2⟩ = if ty = 1 then beganM ⟨state, me, other, host, tm, asked, id⟩ n0 else if ty = 2 then ansM ⟨state, me, other, host, tm, asked, id⟩ n0 n1 else if ty = 3 then [mN 4 1 0 0 0 0 0 0 0 0] else if ty = 4 then (if state = 3 then [] else failM ⟨state, me, other, host, tm, asked, id⟩) else if ty = 5 then [mN 6 n0 1 0 0 0 0 0 0 0] else [] := rfl
    generalize takeC1 _ now _ = TS at *
    generalize takeM1 _ _ = TM at *
    rcases test with q | ⟨q, rfl⟩
    · by_cases y1 : ty = 1
      · rw [if_pos y1] at hS hM; subst hS hM
        subst y1
        simp (config := {maxSteps := 3000000}) only [run_skip, run_reg, run_seq, run_blk, run_cond, if_true, if_false, at_code_n, ops_nil, ops_grd, grd_ft, ops_mv, ops_pick, ops_bin, ops_fld, ops_load, ops_nilck, ops_call, ev_t, ev_c, put_get, opv_mk, put_box_same, args0, List.getD_cons_zero, List.getD_cons_succ, vpick, vbin, vbinI, vfld, vnil, vload, takeV, V.cells, List.map_cons, List.map_nil, List.length_cons, List.length_nil, List.getElem?_cons_zero, List.take_succ_cons, List.drop_zero, List.take_nil, true_and, Nat.reduceEqDiff, Nat.reduceAdd, Nat.reduceLeDiff, Nat.zero_add, Nat.add_zero, ↓reduceIte, decide_true, eq_self, reduceCtorEq, Bool.false_eq_true, hb, CC.cells, q4, put_box_ne (Nat.ne_of_lt hbd), q]
        refine Cal.mk (rBegan_v (c := ⟨state, me, other, host, tm, asked, id⟩) (by rw [put_box_ne (Nat.ne_of_lt hbd)]; exact hb) h0 (M9.mk 1 n0 n1 n2 n3 n4 n5 n6 n7 n8 t0 t1 t2)) ?_
        rintro _ _ ⟨rfl, rfl⟩ -
        simp (config := {maxSteps := 3000000}) only [run_ret, at_code_n, at_code_r, at_blk_r, at_fin_r, ops_nil, ops_mv, ev_t, put_get, opv_mk, obsOk, and_true, true_and, ↓reduceIte, vret, rvAll, rvVal, resv_1, eq_self]
        exact ⟨_, _, Wk.no, weak_both (weak_put hwf.weak hd), rfl, rfl⟩
      rw [if_neg y1] at hS hM
      by_cases y2 : ty = 2
      · rw [if_pos y2] at hS hM; subst hS hM
        subst y2
        by_cases a1 : state = 1
        rotate_left
        · have hn : ¬ ansOk ⟨state, me, other, host, tm, asked, id⟩ n0 n1 := fun h => a1 h.1
          rw [ansM, if_neg hn, ansC, if_neg hn]
          simp (config := {maxSteps := 3000000}) only [run_skip, run_reg, run_seq, run_blk, run_cond, if_true, if_false, at_code_n, ops_nil, ops_grd, grd_tf, grd_ft, ops_mv, ops_pick, ops_bin, ops_fld, ops_load, ops_nilck, ops_call, ev_t, ev_c, put_get, opv_mk, put_box_same, args0, List.getD_cons_zero, vpick, vbin, vbinI, vfld, vnil, vload, takeV, V.cells, List.map_cons, List.map_nil, List.length_cons, List.length_nil, List.getElem?_cons_zero, true_and, Nat.reduceEqDiff, Int.reduceEq, Nat.zero_add, Nat.add_zero, ↓reduceIte, decide_true, decide_false, ne_eq, eq_self, reduceCtorEq, Bool.false_eq_true, hb, CC.cells, q4, put_box_ne (Nat.ne_of_lt hbd), q, decide_eq_true (p := ¬ state = 1) a1]
          refine Cal.mk (rFail_v (c := ⟨state, me, other, host, tm, asked, id⟩) (by rw [put_box_ne (Nat.ne_of_lt hbd)]; exact hb)) ?_
          rintro _ _ ⟨rfl, rfl⟩ -
          simp (config := {maxSteps := 3000000}) only [run_ret, at_code_n, at_code_r, at_blk_r, at_fin_r, ops_nil, ops_mv, ev_t, put_get, opv_mk, obsOk, and_true, true_and, ↓reduceIte, vret, rvAll, rvVal, resv_1, eq_self]
          exact ⟨_, _, Wk.no, weak_both (weak_put hwf.weak hd), rfl, rfl⟩
        have d1 := decide_eq_false (show ¬ ¬ state = 1 by omega)
        by_cases v1 : n1 = 1
        rotate_left
        · have hn : ¬ ansOk ⟨state, me, other, host, tm, asked, id⟩ n0 n1 := fun h => v1 h.2.1
          rw [ansM, if_neg hn, ansC, if_neg hn]
          simp (config := {maxSteps := 3000000}) only [run_skip, run_reg, run_seq, run_blk, run_cond, if_true, if_false, at_code_n, ops_nil, ops_grd, grd_ff, grd_tf, grd_ft, ops_mv, ops_pick, ops_bin, ops_fld, ops_ixa, ops_load, ops_nilck, ops_call, ev_t, ev_c, put_get, opv_mk, put_box_same, args0, List.getD_cons_zero, vpick, vbin, vbinI, vfld, vnil, vixa, vload, takeV, V.cells, List.map_cons, List.map_nil, List.length_cons, List.length_nil, List.getElem?_cons_zero, List.getElem?_cons_succ, and_true, true_and, Nat.reduceEqDiff, Nat.reduceAdd, Int.reduceToNat, Int.reduceLE, Int.reduceLT, Int.reduceEq, Nat.zero_add, Nat.add_zero, Nat.mul_one, ↓reduceIte, decide_true, decide_false, ne_eq, eq_self, reduceCtorEq, Bool.false_eq_true, hb, nc9, CC.cells, q4, put_box_ne (Nat.ne_of_lt hbd), q, d1, decide_eq_true (p := ¬ n1 = 1) v1]
          refine Cal.mk (rFail_v (c := ⟨state, me, other, host, tm, asked, id⟩) (by rw [put_box_ne (Nat.ne_of_lt hbd)]; exact hb)) ?_
          rintro _ _ ⟨rfl, rfl⟩ -
          simp (config := {maxSteps := 3000000}) only [run_ret, at_code_n, at_code_r, at_blk_r, at_fin_r, ops_nil, ops_mv, ev_t, put_get, opv_mk, obsOk, and_true, true_and, ↓reduceIte, vret, rvAll, rvVal, resv_1, eq_self]
          exact ⟨_, _, Wk.no, weak_both (weak_put hwf.weak hd), rfl, rfl⟩
        by_cases v0 : n0 = 256
        rotate_left
        · have hn : ¬ ansOk ⟨state, me, other, host, tm, asked, id⟩ n0 n1 := fun h => v0 h.2.2
          rw [ansM, if_neg hn, ansC, if_neg hn]
          simp (config := {maxSteps := 3000000}) only [run_skip, run_reg, run_seq, run_blk, run_cond, if_true, if_false, at_code_n, ops_nil, ops_grd, grd_ff, grd_ft, ops_mv, ops_pick, ops_bin, ops_fld, ops_ixa, ops_load, ops_nilck, ops_call, ev_t, ev_c, put_get, opv_mk, put_box_same, args0, List.getD_cons_zero, vpick, vbin, vbinI, vfld, vnil, vixa, vload, takeV, V.cells, List.map_cons, List.map_nil, List.length_cons, List.length_nil, List.getElem?_cons_zero, List.getElem?_cons_succ, and_true, true_and, Nat.reduceEqDiff, Nat.reduceAdd, Int.reduceToNat, Int.reduceLE, Int.reduceLT, Int.reduceEq, Nat.zero_add, Nat.add_zero, Nat.mul_one, ↓reduceIte, decide_true, decide_false, ne_eq, eq_self, reduceCtorEq, Bool.false_eq_true, hb, nc9, CC.cells, q4, put_box_ne (Nat.ne_of_lt hbd), q, d1, decide_eq_false (show ¬ ¬ n1 = 1 by omega), decide_eq_true (p := ¬ n0 = 256) v0]
          refine Cal.mk (rFail_v (c := ⟨state, me, other, host, tm, asked, id⟩) (by rw [put_box_ne (Nat.ne_of_lt hbd)]; exact hb)) ?_
          rintro _ _ ⟨rfl, rfl⟩ -
          simp (config := {maxSteps := 3000000}) only [run_ret, at_code_n, at_code_r, at_blk_r, at_fin_r, ops_nil, ops_mv, ev_t, put_get, opv_mk, obsOk, and_true, true_and, ↓reduceIte, vret, rvAll, rvVal, resv_1, eq_self]
          exact ⟨_, _, Wk.no, weak_both (weak_put hwf.weak hd), rfl, rfl⟩
        have hy : ansOk ⟨state, me, other, host, tm, asked, id⟩ n0 n1 := ⟨a1, v1, v0⟩
        rw [ansM, if_pos hy, ansC, if_pos hy]
        simp (config := {maxSteps := 3000000}) only [run_skip, run_reg, run_seq, run_blk, run_cond, if_true, if_false, at_code_n, ops_nil, ops_grd, grd_ff, grd_ft, ops_mv, ops_pick, ops_bin, ops_fld, ops_ixa, ops_load, ops_nilck, ops_call, ev_t, ev_c, put_get, opv_mk, put_box_same, args0, List.getD_cons_zero, List.getD_cons_succ, vpick, vbin, vbinI, vfld, vnil, vixa, vload, takeV, V.cells, List.map_cons, List.map_nil, List.length_cons, List.length_nil, List.getElem?_cons_zero, List.getElem?_cons_succ, and_true, true_and, Nat.reduceEqDiff, Nat.reduceAdd, Int.reduceToNat, Int.reduceLE, Int.reduceLT, Int.reduceEq, Nat.zero_add, Nat.add_zero, Nat.mul_one, ↓reduceIte, decide_true, decide_false, ne_eq, eq_self, reduceCtorEq, Bool.false_eq_true, hb, nc9, CC.cells, q4, put_box_ne (Nat.ne_of_lt hbd), q, d1, decide_eq_false (show ¬ ¬ n1 = 1 by omega), decide_eq_false (show ¬ ¬ n0 = 256 by omega)]
        refine Cal.mk (rUp_v (c := ⟨state, me, other, host, tm, asked, id⟩) (by rw [put_box_ne (Nat.ne_of_lt hbd)]; exact hb) h0) ?_
        rintro _ _ rfl -
        simp (config := {maxSteps := 3000000}) only [run_reg, run_seq, run_ret, at_code_n, at_blk_n, at_fin_r, ops_nil, ops_mv, ev_c, put_get, opv_mk, obsOk, and_true, true_and, ↓reduceIte, vret, rvAll, rvVal, resv_1, eq_self]
        exact ⟨_, _, Wk.no, weak_both (weak_put hwf.weak hd), rfl, rfl⟩
      rw [if_neg y2] at hS hM
      by_cases y3 : ty = 3
      · rw [if_pos y3] at hS hM; subst hS hM
        subst y3
        simp (config := {maxSteps := 3000000}) only [run_skip, run_reg, run_seq, run_blk, run_cond, if_true, if_false, at_code_n, ops_nil, ops_grd, grd_ft, ops_mv, ops_pick, ops_bin, ops_fld, ops_load, ops_nilck, ops_bslo, ops_store, ev_t, ev_c, put_get, put_none, opv_mk, stb_some, sto_ptr, Stp, put_box_same, args0, List.getD_cons_zero, vpick, vbin, vbinI, vfld, vnil, vload, takeV, splice, V.cells, strip, strip1, obsOk, List.map_cons, List.map_nil, List.length_cons, List.length_nil, List.getElem?_cons_zero, List.take_zero, List.drop_succ_cons, List.drop_zero, List.cons_append, List.nil_append, true_and, Nat.reduceEqDiff, Nat.reduceAdd, Nat.reduceLT, Nat.reduceLeDiff, Nat.reduceLT, Int.reduceEq, Nat.zero_add, Nat.add_zero, ↓reduceIte, decide_true, decide_false, eq_self, reduceCtorEq, Bool.false_eq_true, hb, CC.cells, q4, put_box_ne (Nat.ne_of_lt hbd), q]
        refine Bo.own (by simp [allLen, V.cells]) ?_
        intro g hg
        simp (config := {maxSteps := 3000000}) only [ops_call, ev_t, ev_c, put_get, obsOk, List.map_cons, List.map_nil, List.length_cons, List.length_nil, true_and, Nat.zero_add, ↓reduceIte, eq_self]
        refine Cal.mk (of42_s (l := [1]) (m := mN 4 1 0 0 0 0 0 0 0 0) (by simp) rfl) ?_
        rintro _ _ ⟨rfl, rfl⟩ -
        simp (config := {maxSteps := 3000000}) only [run_ret, at_code_n, at_code_r, at_blk_r, at_fin_r, ops_nil, ops_mv, ev_t, put_get, opv_mk, obsOk, and_true, true_and, ↓reduceIte, vret, rvAll, rvVal, resv_1, eq_self]
        exact ⟨_, _, Wk.no, weak_use (weak_both (weak_put hwf.weak hd)) (by simp only [put_sz] at *; omega), rfl, rfl⟩
      rw [if_neg y3] at hS hM
      by_cases y4 : ty = 4
      · rw [if_pos y4] at hS hM; subst y4
        by_cases s3 : state = 3
        · rw [if_pos s3] at hM; subst hS hM
          simp (config := {maxSteps := 3000000}) only [run_skip, run_reg, run_seq, run_blk, run_ret, run_cond, if_true, if_false, at_code_n, at_blk_n, at_fin_r, ops_nil, ops_grd, grd_ft, ops_mv, ops_pick, ops_bin, ops_fld, ops_load, ops_nilck, ops_store, ev_t, ev_c, put_get, put_none, opv_mk, stb_some, sto_ptr, Stp, put_box_same, args0, List.getD_cons_zero, vpick, vbin, vbinI, vfld, vnil, vload, takeV, splice, V.cells, obsOk, List.map_nil, List.length_cons, List.length_nil, List.getElem?_cons_zero, List.take_zero, List.drop_succ_cons, List.drop_zero, List.cons_append, List.nil_append, and_true, true_and, Nat.reduceEqDiff, Nat.reduceAdd, Nat.reduceLT, Nat.reduceLeDiff, Nat.reduceLT, Int.reduceEq, Nat.zero_add, Nat.add_zero, ↓reduceIte, vret, rvAll, rvVal, resv_1, decide_true, decide_false, ne_eq, eq_self, reduceCtorEq, Bool.false_eq_true, hb, CC.cells, q4, put_box_ne (Nat.ne_of_lt hbd), q, decide_eq_false (show ¬ ¬ state = 3 by omega), List.map_nil]
          exact ⟨_, _, Wk.no, weak_both (weak_put hwf.weak hd), rfl, rfl⟩
        · rw [if_neg s3] at hM; subst hS hM
          simp (config := {maxSteps := 3000000}) only [run_skip, run_reg, run_seq, run_blk, run_cond, if_true, if_false, at_code_n, ops_nil, ops_grd, grd_ft, ops_mv, ops_pick, ops_bin, ops_fld, ops_load, ops_nilck, ops_call, ev_t, ev_c, put_get, opv_mk, put_box_same, args0, List.getD_cons_zero, vpick, vbin, vbinI, vfld, vnil, vload, takeV, V.cells, List.map_cons, List.map_nil, List.length_cons, List.length_nil, List.getElem?_cons_zero, true_and, Nat.reduceEqDiff, Int.reduceEq, Nat.zero_add, Nat.add_zero, ↓reduceIte, decide_true, decide_false, ne_eq, eq_self, reduceCtorEq, Bool.false_eq_true, hb, CC.cells, q4, put_box_ne (Nat.ne_of_lt hbd), q, decide_eq_true (p := ¬ state = 3) s3]
          refine Cal.mk (rFail_v (c := ⟨state, me, other, host, tm, asked, id⟩) (by rw [put_box_ne (Nat.ne_of_lt hbd)]; exact hb)) ?_
          rintro _ _ ⟨rfl, rfl⟩ -
          simp (config := {maxSteps := 3000000}) only [run_ret, at_code_n, at_code_r, at_blk_r, at_fin_r, ops_nil, ops_mv, ev_t, put_get, opv_mk, obsOk, and_true, true_and, ↓reduceIte, vret, rvAll, rvVal, resv_1, eq_self]
          exact ⟨_, _, Wk.no, weak_both (weak_put hwf.weak hd), rfl, rfl⟩
      rw [if_neg y4] at hS hM
      by_cases y5 : ty = 5
      · rw [if_neg (by omega)] at hS; rw [if_pos y5] at hM; subst hS hM; subst y5
        rw [hps]
        simp (config := {maxSteps := 3000000}) only [run_skip, run_reg, run_seq, run_blk, run_cond, if_true, if_false, at_code_n, ops_nil, ops_grd, grd_ft, ops_mv, ops_pick, ops_bin, ops_fld, ops_ixa, ops_load, ops_nilck, ops_bslo, ev_t, ev_c, put_get, opv_mk, put_box_same, args0, List.getD_cons_zero, vpick, vbin, vbinI, vfld, vnil, vixa, vload, takeV, V.cells, strip, strip1, List.map_cons, List.map_nil, List.length_cons, List.length_nil, List.getElem?_cons_zero, List.getElem?_cons_succ, and_true, true_and, Nat.reduceEqDiff, Int.reduceToNat, Int.reduceLE, Int.reduceLT, Int.reduceEq, Nat.zero_add, Nat.add_zero, Nat.mul_one, ↓reduceIte, decide_true, decide_false, eq_self, reduceCtorEq, Bool.false_eq_true, hb, nc9, CC.cells, q4, put_box_ne (Nat.ne_of_lt hbd), q]
        refine Bo.own (by simp [allLen, V.cells]) ?_
        intro g hg
        simp (config := {maxSteps := 3000000}) only [ops_call, ev_t, ev_c, put_get, obsOk, List.map_cons, List.map_nil, List.length_cons, List.length_nil, true_and, Nat.reduceAdd, Nat.zero_add, ↓reduceIte, eq_self]
        refine Cal.mk (of42_s (l := [n0, 1]) (m := mN 6 n0 1 0 0 0 0 0 0 0) (by simp) rfl) ?_
        rintro _ _ ⟨rfl, rfl⟩ -
        simp (config := {maxSteps := 3000000}) only [run_ret, at_code_n, at_code_r, at_blk_r, at_fin_r, ops_nil, ops_mv, ev_t, put_get, opv_mk, obsOk, and_true, true_and, ↓reduceIte, vret, rvAll, rvVal, resv_1, eq_self]
        exact ⟨_, _, Wk.no, weak_use (weak_put hwf.weak hd) (by simp only [put_sz] at *; omega), rfl, rfl⟩
      rw [if_neg y5] at hM
      by_cases y6 : ty = 6
      rotate_left
      · rw [if_neg (fun h => y6 h.1)] at hS; subst hS hM
        rw [hps]
        simp (config := {maxSteps := 3000000}) only [run_skip, run_reg, run_seq, run_blk, run_ret, run_cond, if_false, at_code_n, at_blk_n, at_fin_r, ops_nil, ops_grd, grd_ft, ops_mv, ops_pick, ops_bin, ops_fld, ops_load, ops_nilck, ev_t, ev_c, put_get, opv_mk, put_box_same, args0, List.getD_cons_zero, vpick, vbin, vbinI, vfld, vnil, vload, takeV, V.cells, List.map_nil, List.length_cons, List.length_nil, List.getElem?_cons_zero, and_true, true_and, Nat.reduceEqDiff, Nat.zero_add, Nat.add_zero, ↓reduceIte, vret, rvAll, rvVal, resv_1, eq_self, reduceCtorEq, Bool.false_eq_true, hb, CC.cells, q4, put_box_ne (Nat.ne_of_lt hbd), q, decide_eq_false y1, decide_eq_false y2, decide_eq_false y3, decide_eq_false y4, decide_eq_false y5, decide_eq_false y6, List.map_nil]
        exact ⟨_, _, Wk.no, weak_put hwf.weak hd, rfl, rfl⟩
      subst y6
      by_cases s2 : state = 2
      rotate_left
      · rw [if_neg (fun h => s2 h.2.1)] at hS; subst hS hM
        rw [hps]
        simp (config := {maxSteps := 3000000}) only [run_skip, run_reg, run_seq, run_blk, run_ret, run_cond, if_true, if_false, at_code_n, at_blk_n, at_fin_r, ops_nil, ops_grd, grd_ft, ops_mv, ops_pick, ops_bin, ops_fld, ops_load, ops_nilck, ev_t, ev_c, put_get, opv_mk, put_box_same, args0, List.getD_cons_zero, vpick, vbin, vbinI, vfld, vnil, vload, takeV, V.cells, List.map_nil, List.length_cons, List.length_nil, List.getElem?_cons_zero, and_true, true_and, Nat.reduceEqDiff, Int.reduceEq, Nat.zero_add, Nat.add_zero, ↓reduceIte, vret, rvAll, rvVal, resv_1, decide_true, decide_false, eq_self, reduceCtorEq, Bool.false_eq_true, hb, CC.cells, q4, put_box_ne (Nat.ne_of_lt hbd), q, List.map_nil]
        exact ⟨_, _, Wk.no, weak_put hwf.weak hd, rfl, rfl⟩
      exact absurd (of_decide_eq_true (decide_eq_true s2)) (of_decide_eq_false q)
    · by_cases y1 : ty = 1
      · rw [if_pos y1] at hS hM; subst hS hM
        subst y1
        simp (config := {maxSteps := 3000000}) only [run_skip, run_reg, run_seq, run_blk, run_cond, if_true, if_false, at_code_n, ops_nil, ops_grd, grd_tt, ops_mv, ops_pick, ops_bin, ops_un, ops_fld, ops_load, ops_nilck, ops_call, ev_t, ev_c, put_get, opv_mk, put_box_same, args0, List.getD_cons_zero, List.getD_cons_succ, vpick, vbin, vbinI, vun, vfld, vnil, vload, takeV, V.cells, List.map_cons, List.map_nil, List.length_cons, List.length_nil, List.getElem?_cons_zero, List.getElem?_cons_succ, List.take_succ_cons, List.drop_zero, List.take_nil, true_and, Nat.reduceEqDiff, Nat.reduceAdd, Nat.reduceLeDiff, Nat.zero_add, Nat.add_zero, ↓reduceIte, decide_true, Bool.not_true, eq_self, reduceCtorEq, hb, CC.cells, q4, put_box_ne (Nat.ne_of_lt hbd), q]
        refine Cal.mk (rBegan_v (c := ⟨state, me, other, host, tm, true, id⟩) (by rw [put_box_ne (Nat.ne_of_lt hbd)]; exact hb) h0 (M9.mk 1 n0 n1 n2 n3 n4 n5 n6 n7 n8 t0 t1 t2)) ?_
        rintro _ _ ⟨rfl, rfl⟩ -
        simp (config := {maxSteps := 3000000}) only [run_ret, at_code_n, at_code_r, at_blk_r, at_fin_r, ops_nil, ops_mv, ev_t, put_get, opv_mk, obsOk, and_true, true_and, ↓reduceIte, vret, rvAll, rvVal, resv_1, eq_self]
        exact ⟨_, _, Wk.no, weak_both (weak_put hwf.weak hd), rfl, rfl⟩
      rw [if_neg y1] at hS hM
      by_cases y2 : ty = 2
      · rw [if_pos y2] at hS hM; subst hS hM
        subst y2
        by_cases a1 : state = 1
        rotate_left
        · have hn : ¬ ansOk ⟨state, me, other, host, tm, true, id⟩ n0 n1 := fun h => a1 h.1
          rw [ansM, if_neg hn, ansC, if_neg hn]
          simp (config := {maxSteps := 3000000}) only [run_skip, run_reg, run_seq, run_blk, run_cond, if_true, if_false, at_code_n, ops_nil, ops_grd, grd_tt, grd_tf, ops_mv, ops_pick, ops_bin, ops_un, ops_fld, ops_load, ops_nilck, ops_call, ev_t, ev_c, put_get, opv_mk, put_box_same, args0, List.getD_cons_zero, vpick, vbin, vbinI, vun, vfld, vnil, vload, takeV, V.cells, List.map_cons, List.map_nil, List.length_cons, List.length_nil, List.getElem?_cons_zero, List.getElem?_cons_succ, true_and, Nat.reduceEqDiff, Int.reduceEq, Nat.zero_add, Nat.add_zero, ↓reduceIte, decide_true, decide_false, Bool.not_true, ne_eq, eq_self, reduceCtorEq, hb, CC.cells, q4, put_box_ne (Nat.ne_of_lt hbd), q, decide_eq_true (p := ¬ state = 1) a1]
          refine Cal.mk (rFail_v (c := ⟨state, me, other, host, tm, true, id⟩) (by rw [put_box_ne (Nat.ne_of_lt hbd)]; exact hb)) ?_
          rintro _ _ ⟨rfl, rfl⟩ -
          simp (config := {maxSteps := 3000000}) only [run_ret, at_code_n, at_code_r, at_blk_r, at_fin_r, ops_nil, ops_mv, ev_t, put_get, opv_mk, obsOk, and_true, true_and, ↓reduceIte, vret, rvAll, rvVal, resv_1, eq_self]
          exact ⟨_, _, Wk.no, weak_both (weak_put hwf.weak hd), rfl, rfl⟩
        have d1 := decide_eq_false (show ¬ ¬ state = 1 by omega)
        by_cases v1 : n1 = 1
        rotate_left
        · have hn : ¬ ansOk ⟨state, me, other, host, tm, true, id⟩ n0 n1 := fun h => v1 h.2.1
          rw [ansM, if_neg hn, ansC, if_neg hn]
          simp (config := {maxSteps := 3000000}) only [run_skip, run_reg, run_seq, run_blk, run_cond, if_true, if_false, at_code_n, ops_nil, ops_grd, grd_tt, grd_ff, grd_tf, ops_mv, ops_pick, ops_bin, ops_un, ops_fld, ops_ixa, ops_load, ops_nilck, ops_call, ev_t, ev_c, put_get, opv_mk, put_box_same, args0, List.getD_cons_zero, vpick, vbin, vbinI, vun, vfld, vnil, vixa, vload, takeV, V.cells, List.map_cons, List.map_nil, List.length_cons, List.length_nil, List.getElem?_cons_zero, List.getElem?_cons_succ, and_true, true_and, Nat.reduceEqDiff, Nat.reduceAdd, Int.reduceToNat, Int.reduceLE, Int.reduceLT, Int.reduceEq, Nat.zero_add, Nat.add_zero, Nat.mul_one, ↓reduceIte, decide_true, decide_false, Bool.not_true, ne_eq, eq_self, reduceCtorEq, Bool.false_eq_true, hb, nc9, CC.cells, q4, put_box_ne (Nat.ne_of_lt hbd), q, d1, decide_eq_true (p := ¬ n1 = 1) v1]
          refine Cal.mk (rFail_v (c := ⟨state, me, other, host, tm, true, id⟩) (by rw [put_box_ne (Nat.ne_of_lt hbd)]; exact hb)) ?_
          rintro _ _ ⟨rfl, rfl⟩ -
          simp (config := {maxSteps := 3000000}) only [run_ret, at_code_n, at_code_r, at_blk_r, at_fin_r, ops_nil, ops_mv, ev_t, put_get, opv_mk, obsOk, and_true, true_and, ↓reduceIte, vret, rvAll, rvVal, resv_1, eq_self]
          exact ⟨_, _, Wk.no, weak_both (weak_put hwf.weak hd), rfl, rfl⟩
        by_cases v0 : n0 = 256
        rotate_left
        · have hn : ¬ ansOk ⟨state, me, other, host, tm, true, id⟩ n0 n1 := fun h => v0 h.2.2
          rw [ansM, if_neg hn, ansC, if_neg hn]
          simp (config := {maxSteps := 3000000}) only [run_skip, run_reg, run_seq, run_blk, run_cond, if_true, if_false, at_code_n, ops_nil, ops_grd, grd_tt, grd_ff, ops_mv, ops_pick, ops_bin, ops_un, ops_fld, ops_ixa, ops_load, ops_nilck, ops_call, ev_t, ev_c, put_get, opv_mk, put_box_same, args0, List.getD_cons_zero, vpick, vbin, vbinI, vun, vfld, vnil, vixa, vload, takeV, V.cells, List.map_cons, List.map_nil, List.length_cons, List.length_nil, List.getElem?_cons_zero, List.getElem?_cons_succ, and_true, true_and, Nat.reduceEqDiff, Nat.reduceAdd, Int.reduceToNat, Int.reduceLE, Int.reduceLT, Int.reduceEq, Nat.zero_add, Nat.add_zero, Nat.mul_one, ↓reduceIte, decide_true, decide_false, Bool.not_true, ne_eq, eq_self, reduceCtorEq, Bool.false_eq_true, hb, nc9, CC.cells, q4, put_box_ne (Nat.ne_of_lt hbd), q, d1, decide_eq_false (show ¬ ¬ n1 = 1 by omega), decide_eq_true (p := ¬ n0 = 256) v0]
          refine Cal.mk (rFail_v (c := ⟨state, me, other, host, tm, true, id⟩) (by rw [put_box_ne (Nat.ne_of_lt hbd)]; exact hb)) ?_
          rintro _ _ ⟨rfl, rfl⟩ -
          simp (config := {maxSteps := 3000000}) only [run_ret, at_code_n, at_code_r, at_blk_r, at_fin_r, ops_nil, ops_mv, ev_t, put_get, opv_mk, obsOk, and_true, true_and, ↓reduceIte, vret, rvAll, rvVal, resv_1, eq_self]
          exact ⟨_, _, Wk.no, weak_both (weak_put hwf.weak hd), rfl, rfl⟩
        have hy : ansOk ⟨state, me, other, host, tm, true, id⟩ n0 n1 := ⟨a1, v1, v0⟩
        rw [ansM, if_pos hy, ansC, if_pos hy]
        simp (config := {maxSteps := 3000000}) only [run_skip, run_reg, run_seq, run_blk, run_cond, if_true, if_false, at_code_n, ops_nil, ops_grd, grd_tt, grd_ff, ops_mv, ops_pick, ops_bin, ops_un, ops_fld, ops_ixa, ops_load, ops_nilck, ops_call, ev_t, ev_c, put_get, opv_mk, put_box_same, args0, List.getD_cons_zero, List.getD_cons_succ, vpick, vbin, vbinI, vun, vfld, vnil, vixa, vload, takeV, V.cells, List.map_cons, List.map_nil, List.length_cons, List.length_nil, List.getElem?_cons_zero, List.getElem?_cons_succ, and_true, true_and, Nat.reduceEqDiff, Nat.reduceAdd, Int.reduceToNat, Int.reduceLE, Int.reduceLT, Int.reduceEq, Nat.zero_add, Nat.add_zero, Nat.mul_one, ↓reduceIte, decide_true, decide_false, Bool.not_true, ne_eq, eq_self, reduceCtorEq, Bool.false_eq_true, hb, nc9, CC.cells, q4, put_box_ne (Nat.ne_of_lt hbd), q, d1, decide_eq_false (show ¬ ¬ n1 = 1 by omega), decide_eq_false (show ¬ ¬ n0 = 256 by omega)]
        refine Cal.mk (rUp_v (c := ⟨state, me, other, host, tm, true, id⟩) (by rw [put_box_ne (Nat.ne_of_lt hbd)]; exact hb) h0) ?_
        rintro _ _ rfl -
        simp (config := {maxSteps := 3000000}) only [run_reg, run_seq, run_ret, at_code_n, at_blk_n, at_fin_r, ops_nil, ops_mv, ev_c, put_get, opv_mk, obsOk, and_true, true_and, ↓reduceIte, vret, rvAll, rvVal, resv_1, eq_self]
        exact ⟨_, _, Wk.no, weak_both (weak_put hwf.weak hd), rfl, rfl⟩
      rw [if_neg y2] at hS hM
      by_cases y3 : ty = 3
      · rw [if_pos y3] at hS hM; subst hS hM
        subst y3
        simp (config := {maxSteps := 3000000}) only [run_skip, run_reg, run_seq, run_blk, run_cond, if_true, if_false, at_code_n, ops_nil, ops_grd, grd_tt, ops_mv, ops_pick, ops_bin, ops_un, ops_fld, ops_load, ops_nilck, ops_bslo, ops_store, ev_t, ev_c, put_get, put_none, opv_mk, stb_some, sto_ptr, Stp, put_box_same, args0, List.getD_cons_zero, vpick, vbin, vbinI, vun, vfld, vnil, vload, takeV, splice, V.cells, strip, strip1, obsOk, List.map_cons, List.map_nil, List.length_cons, List.length_nil, List.getElem?_cons_zero, List.getElem?_cons_succ, List.take_zero, List.drop_succ_cons, List.drop_zero, List.cons_append, List.nil_append, true_and, Nat.reduceEqDiff, Nat.reduceAdd, Nat.reduceLT, Nat.reduceLeDiff, Nat.reduceLT, Int.reduceEq, Nat.zero_add, Nat.add_zero, ↓reduceIte, decide_true, decide_false, Bool.not_true, eq_self, reduceCtorEq, hb, CC.cells, q4, put_box_ne (Nat.ne_of_lt hbd), q]
        refine Bo.own (by simp [allLen, V.cells]) ?_
        intro g hg
        simp (config := {maxSteps := 3000000}) only [ops_call, ev_t, ev_c, put_get, obsOk, List.map_cons, List.map_nil, List.length_cons, List.length_nil, true_and, Nat.zero_add, ↓reduceIte, eq_self]
        refine Cal.mk (of42_s (l := [1]) (m := mN 4 1 0 0 0 0 0 0 0 0) (by simp) rfl) ?_
        rintro _ _ ⟨rfl, rfl⟩ -
        simp (config := {maxSteps := 3000000}) only [run_ret, at_code_n, at_code_r, at_blk_r, at_fin_r, ops_nil, ops_mv, ev_t, put_get, opv_mk, obsOk, and_true, true_and, ↓reduceIte, vret, rvAll, rvVal, resv_1, eq_self]
        exact ⟨_, _, Wk.no, weak_use (weak_both (weak_put hwf.weak hd)) (by simp only [put_sz] at *; omega), rfl, rfl⟩
      rw [if_neg y3] at hS hM
      by_cases y4 : ty = 4
      · rw [if_pos y4] at hS hM; subst y4
        by_cases s3 : state = 3
        · rw [if_pos s3] at hM; subst hS hM
          simp (config := {maxSteps := 3000000}) only [run_skip, run_reg, run_seq, run_blk, run_ret, run_cond, if_true, if_false, at_code_n, at_blk_n, at_fin_r, ops_nil, ops_grd, grd_tt, ops_mv, ops_pick, ops_bin, ops_un, ops_fld, ops_load, ops_nilck, ops_store, ev_t, ev_c, put_get, put_none, opv_mk, stb_some, sto_ptr, Stp, put_box_same, args0, List.getD_cons_zero, vpick, vbin, vbinI, vun, vfld, vnil, vload, takeV, splice, V.cells, obsOk, List.map_nil, List.length_cons, List.length_nil, List.getElem?_cons_zero, List.getElem?_cons_succ, List.take_zero, List.drop_succ_cons, List.drop_zero, List.cons_append, List.nil_append, and_true, true_and, Nat.reduceEqDiff, Nat.reduceAdd, Nat.reduceLT, Nat.reduceLeDiff, Nat.reduceLT, Int.reduceEq, Nat.zero_add, Nat.add_zero, ↓reduceIte, vret, rvAll, rvVal, resv_1, decide_true, decide_false, Bool.not_true, ne_eq, eq_self, reduceCtorEq, hb, CC.cells, q4, put_box_ne (Nat.ne_of_lt hbd), q, decide_eq_false (show ¬ ¬ state = 3 by omega), List.map_nil]
          exact ⟨_, _, Wk.no, weak_both (weak_put hwf.weak hd), rfl, rfl⟩
        · rw [if_neg s3] at hM; subst hS hM
          simp (config := {maxSteps := 3000000}) only [run_skip, run_reg, run_seq, run_blk, run_cond, if_true, if_false, at_code_n, ops_nil, ops_grd, grd_tt, ops_mv, ops_pick, ops_bin, ops_un, ops_fld, ops_load, ops_nilck, ops_call, ev_t, ev_c, put_get, opv_mk, put_box_same, args0, List.getD_cons_zero, vpick, vbin, vbinI, vun, vfld, vnil, vload, takeV, V.cells, List.map_cons, List.map_nil, List.length_cons, List.length_nil, List.getElem?_cons_zero, List.getElem?_cons_succ, true_and, Nat.reduceEqDiff, Int.reduceEq, Nat.zero_add, Nat.add_zero, ↓reduceIte, decide_true, decide_false, Bool.not_true, ne_eq, eq_self, reduceCtorEq, hb, CC.cells, q4, put_box_ne (Nat.ne_of_lt hbd), q, decide_eq_true (p := ¬ state = 3) s3]
          refine Cal.mk (rFail_v (c := ⟨state, me, other, host, tm, true, id⟩) (by rw [put_box_ne (Nat.ne_of_lt hbd)]; exact hb)) ?_
          rintro _ _ ⟨rfl, rfl⟩ -
          simp (config := {maxSteps := 3000000}) only [run_ret, at_code_n, at_code_r, at_blk_r, at_fin_r, ops_nil, ops_mv, ev_t, put_get, opv_mk, obsOk, and_true, true_and, ↓reduceIte, vret, rvAll, rvVal, resv_1, eq_self]
          exact ⟨_, _, Wk.no, weak_both (weak_put hwf.weak hd), rfl, rfl⟩
      rw [if_neg y4] at hS hM
      by_cases y5 : ty = 5
      · rw [if_neg (by omega)] at hS; rw [if_pos y5] at hM; subst hS hM; subst y5
        rw [hps]
        simp (config := {maxSteps := 3000000}) only [run_skip, run_reg, run_seq, run_blk, run_cond, if_true, if_false, at_code_n, ops_nil, ops_grd, grd_tt, ops_mv, ops_pick, ops_bin, ops_un, ops_fld, ops_ixa, ops_load, ops_nilck, ops_bslo, ev_t, ev_c, put_get, opv_mk, put_box_same, args0, List.getD_cons_zero, vpick, vbin, vbinI, vun, vfld, vnil, vixa, vload, takeV, V.cells, strip, strip1, List.map_cons, List.map_nil, List.length_cons, List.length_nil, List.getElem?_cons_zero, List.getElem?_cons_succ, and_true, true_and, Nat.reduceEqDiff, Int.reduceToNat, Int.reduceLE, Int.reduceLT, Int.reduceEq, Nat.zero_add, Nat.add_zero, Nat.mul_one, ↓reduceIte, decide_true, decide_false, Bool.not_true, eq_self, reduceCtorEq, hb, nc9, CC.cells, q4, put_box_ne (Nat.ne_of_lt hbd), q]
        refine Bo.own (by simp [allLen, V.cells]) ?_
        intro g hg
        simp (config := {maxSteps := 3000000}) only [ops_call, ev_t, ev_c, put_get, obsOk, List.map_cons, List.map_nil, List.length_cons, List.length_nil, true_and, Nat.reduceAdd, Nat.zero_add, ↓reduceIte, eq_self]
        refine Cal.mk (of42_s (l := [n0, 1]) (m := mN 6 n0 1 0 0 0 0 0 0 0) (by simp) rfl) ?_
        rintro _ _ ⟨rfl, rfl⟩ -
        simp (config := {maxSteps := 3000000}) only [run_ret, at_code_n, at_code_r, at_blk_r, at_fin_r, ops_nil, ops_mv, ev_t, put_get, opv_mk, obsOk, and_true, true_and, ↓reduceIte, vret, rvAll, rvVal, resv_1, eq_self]
        exact ⟨_, _, Wk.no, weak_use (weak_put hwf.weak hd) (by simp only [put_sz] at *; omega), rfl, rfl⟩
      rw [if_neg y5] at hM
      by_cases y6 : ty = 6
      rotate_left
      · rw [if_neg (fun h => y6 h.1)] at hS; subst hS hM
        rw [hps]
        simp (config := {maxSteps := 3000000}) only [run_skip, run_reg, run_seq, run_blk, run_ret, run_cond, if_false, at_code_n, at_blk_n, at_fin_r, ops_nil, ops_grd, grd_tt, ops_mv, ops_pick, ops_bin, ops_un, ops_fld, ops_load, ops_nilck, ev_t, ev_c, put_get, opv_mk, put_box_same, args0, List.getD_cons_zero, vpick, vbin, vbinI, vun, vfld, vnil, vload, takeV, V.cells, List.map_nil, List.length_cons, List.length_nil, List.getElem?_cons_zero, List.getElem?_cons_succ, and_true, true_and, Nat.reduceEqDiff, Nat.zero_add, Nat.add_zero, ↓reduceIte, vret, rvAll, rvVal, resv_1, Bool.not_true, eq_self, reduceCtorEq, hb, CC.cells, q4, put_box_ne (Nat.ne_of_lt hbd), q, decide_eq_false y1, decide_eq_false y2, decide_eq_false y3, decide_eq_false y4, decide_eq_false y5, decide_eq_false y6, List.map_nil]
        exact ⟨_, _, Wk.no, weak_put hwf.weak hd, rfl, rfl⟩
      subst y6
      have s2 : state = 2 := of_decide_eq_true q
      by_cases e6 : n0 = id
      rotate_left
      · rw [if_neg (fun h => e6 h.2.2.2)] at hS; subst hS hM
        rw [hps]
        simp (config := {maxSteps := 3000000}) only [run_skip, run_reg, run_seq, run_blk, run_ret, run_cond, if_true, if_false, at_code_n, at_blk_n, at_fin_r, ops_nil, ops_grd, grd_tt, ops_mv, ops_pick, ops_bin, ops_un, ops_fld, ops_ixa, ops_load, ops_nilck, ev_t, ev_c, put_get, opv_mk, put_box_same, args0, List.getD_cons_zero, vpick, vbin, vbinI, vun, vfld, vnil, vixa, vload, takeV, V.cells, List.map_nil, List.length_cons, List.length_nil, List.getElem?_cons_zero, List.getElem?_cons_succ, and_true, true_and, Nat.reduceEqDiff, Int.reduceToNat, Int.reduceLE, Int.reduceLT, Int.reduceEq, Nat.zero_add, Nat.add_zero, Nat.mul_one, ↓reduceIte, vret, rvAll, rvVal, resv_1, decide_true, decide_false, Bool.not_true, eq_self, reduceCtorEq, hb, nc9, CC.cells, q4, put_box_ne (Nat.ne_of_lt hbd), q, decide_eq_false e6, List.map_nil]
        exact ⟨_, _, Wk.no, weak_put hwf.weak hd, rfl, rfl⟩
      rw [if_pos ⟨rfl, s2, rfl, e6⟩] at hS; subst hS hM
      simp (config := {maxSteps := 3000000}) only [run_skip, run_reg, run_seq, run_blk, run_ret, run_cond, if_true, if_false, at_code_n, at_blk_n, at_fin_r, ops_nil, ops_grd, grd_tt, ops_mv, ops_pick, ops_bin, ops_un, ops_fld, ops_ixa, ops_load, ops_nilck, ops_store, ev_t, ev_c, put_get, put_none, opv_mk, stb_some, sto_ptr, Stp, put_box_same, put_put, args0, List.getD_cons_zero, List.getD_cons_succ, vpick, vbin, vbinI, vun, norm, vfld, vnil, vixa, vload, takeV, splice, V.cells, obsOk, List.map_nil, List.length_cons, List.length_nil, List.getElem?_cons_zero, List.getElem?_cons_succ, List.take_succ_cons, List.take_zero, List.drop_succ_cons, List.drop_zero, List.cons_append, List.nil_append, and_true, true_and, Nat.reduceEqDiff, Nat.reduceAdd, Nat.reduceLT, Nat.reduceLeDiff, Nat.reduceLT, Int.reduceToNat, Int.reduceLE, Int.reduceLT, Int.reduceNeg, Int.reduceEq, Nat.zero_add, Nat.add_zero, Nat.mul_one, ↓reduceIte, vret, rvAll, rvVal, resv_1, decide_true, decide_false, Bool.not_true, eq_self, reduceCtorEq, hb, nc9, CC.cells, q4, put_box_ne (Nat.ne_of_lt hbd), q, decide_eq_true e6, List.map_nil]
      repeat (apply And.intro; focus (first | omega | (simp; done)))
      exact ⟨_, _, Wk.no, weak_both (weak_put hwf.weak hd), rfl, rfl⟩
theorem rCalls_v (hb : st.box b = some c.cells) (hc : c.Ok) {now : Int} (h0 : 0 ≤ now ∧ now ≤ 1000000) : VCalls Try.prog 80 [ptrV b, .sc (.int .i64 now)] st fun r st' => r = .tup [.sl .no ((callsM c).map M9.v), .sc (.bool (decide (c.state = 2)))] ∧ st' = st.put b (callsC c now).cells := by
  have s0 := hc.s0
  have s4 := hc.s4
  obtain ⟨state, me, other, host, tm, asked, id⟩ := c
  simp only at s0 s4
  refine vcalls_enter vc80 (Nat.le_of_ble_eq_true rfl) fun hwf hok => ?_
  show Run _ Vc80.body (.fin (finQ Vc80.res _)) _ _
  unfold Vc80
  have hbs := hwf.box _ _ hb
  have hps := put_self hb hbs
  by_cases k2 : state = 2
  · subst k2
    rw [callsM, if_neg (by simp), callsC, if_neg (by simp)]
    cases asked
    · rw [heardC, if_pos ⟨rfl, rfl⟩]
      simp (config := {maxSteps := 3000000}) only [run_skip, run_reg, run_seq, run_ret, run_cond, if_true, if_false, at_code_n, at_fin_r, ops_nil, ops_grd, grd_tt, ops_mv, ops_pick, ops_bin, ops_un, ops_fld, ops_load, ops_nilck, ops_store, ev_t, ev_c, put_get, put_none, opv_mk, stb_some, sto_ptr, Stp, put_box_same, args0, List.getD_cons_zero, List.getD_cons_succ, vpick, vbin, vbinI, vun, norm, vfld, vnil, vload, takeV, splice, V.cells, ptrV, obsOk, List.map_cons, List.map_nil, List.length_cons, List.length_nil, List.getElem?_cons_zero, List.getElem?_cons_succ, List.take_succ_cons, List.take_zero, List.drop_succ_cons, List.drop_zero, List.cons_append, List.nil_append, and_true, true_and, Nat.reduceEqDiff, Nat.reduceAdd, Nat.reduceLT, Nat.reduceLeDiff, Nat.reduceLT, Int.reduceNeg, Nat.zero_add, Nat.add_zero, ↓reduceIte, vret, rvAll, rvVal, resv_2, decide_true, decide_false, Int.lt_irrefl, Bool.not_false, eq_self, reduceCtorEq, hb, CC.cells, List.map_nil, decide_true]
      repeat (apply And.intro; focus (first | omega | (simp; done)))
      exact ⟨_, _, Wk.tupA Wk.no, weak_both hwf.weak, rfl, rfl⟩
    · rw [heardC, if_neg (by simp), hps]
      simp (config := {maxSteps := 3000000}) only [run_skip, run_reg, run_seq, run_ret, run_cond, if_false, at_code_n, at_fin_r, ops_nil, ops_grd, grd_tt, ops_mv, ops_pick, ops_bin, ops_un, ops_fld, ops_load, ops_nilck, ev_t, ev_c, put_get, opv_mk, args0, List.getD_cons_zero, vpick, vbin, vbinI, vun, vfld, vnil, vload, takeV, V.cells, ptrV, List.map_cons, List.map_nil, List.length_cons, List.length_nil, List.getElem?_cons_zero, List.getElem?_cons_succ, and_true, true_and, Nat.reduceEqDiff, Nat.zero_add, Nat.add_zero, ↓reduceIte, vret, rvAll, rvVal, resv_2, decide_true, decide_false, Int.lt_irrefl, Bool.not_true, eq_self, reduceCtorEq, hb, CC.cells, List.map_nil, decide_true]
      exact ⟨_, _, Wk.tupA Wk.no, hwf.weak, rfl, rfl⟩
  have q2 := decide_eq_false k2
  by_cases k01 : state < 2
  · have k01' : state = 0 ∨ state = 1 := by omega
    rw [callsM, if_pos k01', callsC, if_pos k01']
    simp (config := {maxSteps := 3000000}) only [run_skip, run_reg, run_seq, run_cond, if_true, if_false, at_code_n, ops_nil, ops_grd, grd_ft, ops_mv, ops_pick, ops_bin, ops_fld, ops_load, ops_nilck, ops_call, ev_t, ev_c, put_get, opv_mk, args0, List.getD_cons_zero, vpick, vbin, vbinI, vfld, vnil, vload, takeV, V.cells, ptrV, List.map_cons, List.map_nil, List.length_cons, List.length_nil, List.getElem?_cons_zero, true_and, Nat.reduceEqDiff, Nat.zero_add, Nat.add_zero, ↓reduceIte, eq_self, reduceCtorEq, Bool.false_eq_true, hb, CC.cells, q2, decide_eq_true k01]
    refine Cal.mk (rFail_v (c := ⟨state, me, other, host, tm, asked, id⟩) hb) ?_
    rintro _ _ ⟨rfl, rfl⟩ -
    simp (config := {maxSteps := 3000000}) only [run_ret, at_code_n, at_code_r, at_fin_r, ops_nil, ops_mv, ev_t, ev_c, put_get, opv_mk, args0, vload, takeV, V.cells, obsOk, List.map_cons, List.map_nil, and_true, true_and, Nat.reduceEqDiff, ↓reduceIte, vret, rvAll, rvVal, resv_2, eq_self]
    exact ⟨_, _, Wk.tupA Wk.no, weak_both hwf.weak, rfl, rfl⟩
  have k01' : ¬ (state = 0 ∨ state = 1) := by omega
  rw [callsM, if_neg k01', callsC, if_neg k01', heardC, if_neg (fun h => k2 h.1), hps]
  simp (config := {maxSteps := 3000000}) only [run_skip, run_reg, run_seq, run_ret, run_cond, if_false, at_code_n, at_fin_r, ops_nil, ops_grd, grd_ft, ops_mv, ops_pick, ops_bin, ops_fld, ops_load, ops_nilck, ev_t, ev_c, put_get, opv_mk, args0, List.getD_cons_zero, vpick, vbin, vbinI, vfld, vnil, vload, takeV, V.cells, ptrV, List.map_cons, List.map_nil, List.length_cons, List.length_nil, List.getElem?_cons_zero, and_true, true_and, Nat.reduceEqDiff, Nat.zero_add, Nat.add_zero, ↓reduceIte, vret, rvAll, rvVal, resv_2, eq_self, reduceCtorEq, Bool.false_eq_true, hb, CC.cells, q2, decide_eq_false k01, List.map_nil]
  exact ⟨_, _, Wk.tupA Wk.no, hwf.weak, rfl, rfl⟩
theorem rTick_v (hb : st.box b = some c.cells) (hc : c.Ok) {now : Int} (h0 : 0 ≤ now ∧ now ≤ 1000000) : VCalls Try.prog 78 [ptrV b, .sc (.int .i64 now)] st fun r st' => r = .sl .no ((tickM c now).map M9.v) ∧ st' = st.put b (tickC c now).cells := by
  have hid := hc.id
  obtain ⟨state, me, other, host, tm, asked, id⟩ := c
  simp only at hid
  refine vcalls_enter vc78 (Nat.le_of_ble_eq_true rfl) fun hwf hok => ?_
  show Run _ Vc78.body (.fin (finQ Vc78.res _)) _ _
  unfold Vc78
  have hbs := hwf.box _ _ hb
  have hps := put_self hb hbs
  by_cases k4 : state = 4
  · rw [tickM, if_pos (.inl k4), tickC, if_pos (.inl k4), hps]
    simp (config := {maxSteps := 3000000}) only [run_reg, run_seq, run_ret, run_cond, if_true, at_code_n, at_code_r, at_fin_r, ops_nil, ops_grd, grd_tf, ops_mv, ops_pick, ops_bin, ops_fld, ops_load, ops_nilck, ev_t, ev_c, put_get, opv_mk, args0, List.getD_cons_zero, vpick, vbin, vbinI, vfld, vnil, vload, takeV, V.cells, ptrV, List.map_nil, List.length_cons, List.length_nil, List.getElem?_cons_zero, and_true, true_and, Nat.reduceEqDiff, Nat.zero_add, Nat.add_zero, ↓reduceIte, vret, rvAll, rvVal, resv_1, eq_self, reduceCtorEq, hb, CC.cells, decide_eq_true k4, List.map_nil]
    exact ⟨_, _, Wk.no, hwf.weak, rfl, rfl⟩
  have q4 := decide_eq_false k4
  by_cases kt : now < tm
  · rw [tickM, if_pos (.inr kt), tickC, if_pos (.inr kt), hps]
    simp (config := {maxSteps := 3000000}) only [run_reg, run_seq, run_ret, run_cond, if_true, at_code_n, at_code_r, at_fin_r, ops_nil, ops_grd, grd_ff, ops_mv, ops_pick, ops_bin, ops_fld, ops_load, ops_nilck, ev_t, ev_c, put_get, opv_mk, args0, List.getD_cons_zero, List.getD_cons_succ, vpick, vbin, vbinI, vfld, vnil, vload, takeV, V.cells, ptrV, List.map_nil, List.length_cons, List.length_nil, List.getElem?_cons_zero, List.getElem?_cons_succ, and_true, true_and, Nat.reduceEqDiff, Nat.zero_add, Nat.add_zero, ↓reduceIte, vret, rvAll, rvVal, resv_1, eq_self, reduceCtorEq, Bool.false_eq_true, hb, CC.cells, q4, decide_eq_true kt, List.map_nil]
    exact ⟨_, _, Wk.no, hwf.weak, rfl, rfl⟩
  have qt := decide_eq_false kt
  have h4 : ¬ (state = 4 ∨ now < tm) := fun h => h.elim k4 kt
  rw [tickM, tickC, if_neg h4, if_neg h4]
  by_cases k2 : state = 2
  rotate_left
  · have h2 : ∀ b : Bool, ¬ (state = 2 ∧ b = false) := fun b h => k2 h.1
    rw [if_neg (h2 _), if_neg (h2 _), if_neg k2]
    simp (config := {maxSteps := 3000000}) only [run_skip, run_reg, run_seq, run_ret, run_cond, if_true, if_false, at_code_n, at_code_r, at_fin_r, ops_nil, ops_grd, grd_ff, ops_mv, ops_pick, ops_bin, ops_fld, ops_load, ops_nilck, ops_store, ev_t, ev_c, put_get, put_none, opv_mk, stb_some, sto_ptr, Stp, args0, List.getD_cons_zero, List.getD_cons_succ, vpick, vbin, vbinI, vfld, vnil, vload, takeV, splice, V.cells, ptrV, obsOk, List.map_nil, List.length_cons, List.length_nil, List.getElem?_cons_zero, List.getElem?_cons_succ, List.take_zero, List.drop_succ_cons, List.drop_zero, List.cons_append, List.nil_append, and_true, true_and, Nat.reduceEqDiff, Nat.reduceAdd, Nat.reduceLT, Nat.reduceLeDiff, Nat.reduceLT, Nat.zero_add, Nat.add_zero, ↓reduceIte, vret, rvAll, rvVal, resv_1, ne_eq, eq_self, reduceCtorEq, Bool.false_eq_true, hb, CC.cells, q4, qt, decide_eq_true (p := ¬ state = 2) k2, List.map_nil]
    exact ⟨_, _, Wk.no, weak_both hwf.weak, rfl, rfl⟩
  have q2 := decide_eq_false (show ¬ ¬ state = 2 by omega)
  cases asked
  · rw [if_pos ⟨k2, rfl⟩, if_pos ⟨k2, rfl⟩]
    simp (config := {maxSteps := 3000000}) only [run_skip, run_reg, run_seq, run_cond, if_false, at_code_n, ops_nil, ops_grd, grd_ff, ops_mv, ops_pick, ops_bin, ops_fld, ops_load, ops_nilck, ops_bslo, ops_store, ev_t, ev_c, put_get, put_none, opv_mk, stb_some, sto_ptr, Stp, put_box_same, put_put, args0, List.getD_cons_zero, List.getD_cons_succ, vpick, vbin, vbinI, norm, vfld, vnil, vload, takeV, splice, V.cells, strip, strip1, ptrV, obsOk, List.map_cons, List.map_nil, List.length_cons, List.length_nil, List.getElem?_cons_zero, List.getElem?_cons_succ, List.take_succ_cons, List.take_zero, List.drop_succ_cons, List.drop_zero, List.cons_append, List.nil_append, List.append_nil, List.drop_nil, and_true, true_and, Nat.reduceEqDiff, Nat.reduceAdd, Nat.reduceLT, Nat.reduceLeDiff, Nat.reduceLT, Int.reduceNeg, Nat.zero_add, Nat.add_zero, ↓reduceIte, ne_eq, eq_self, reduceCtorEq, Bool.false_eq_true, hb, CC.cells, q4, qt, q2]
    repeat (apply And.intro; focus (first | omega | (simp; done)))
    refine Bo.own (by simp [allLen, V.cells]) ?_
    intro g hg
    simp (config := {maxSteps := 3000000}) only [ops_call, ev_t, ev_c, put_get, obsOk, List.map_cons, List.map_nil, List.length_cons, List.length_nil, true_and, Nat.zero_add, ↓reduceIte, eq_self]
    refine Cal.mk (of42_s (l := [(id + 1) % 4294967296]) (m := mN 5 ((id + 1) % 4294967296) 0 0 0 0 0 0 0 0) (by simp) rfl) ?_
    rintro _ _ ⟨rfl, rfl⟩ -
    simp (config := {maxSteps := 3000000}) only [run_ret, at_code_n, at_fin_r, ops_nil, ops_mv, ev_t, put_get, opv_mk, obsOk, and_true, true_and, ↓reduceIte, vret, rvAll, rvVal, resv_1, eq_self]
    exact ⟨_, _, Wk.no, weak_use (weak_both hwf.weak) (by simp only [put_sz] at *; omega), rfl, rfl⟩
  · have h2 : ¬ (state = 2 ∧ true = false) := fun h => by cases h.2
    rw [if_neg h2, if_neg h2, if_pos k2]
    simp (config := {maxSteps := 3000000}) only [run_skip, run_reg, run_seq, run_cond, if_true, if_false, at_code_n, ops_nil, ops_grd, grd_ff, ops_mv, ops_pick, ops_bin, ops_fld, ops_load, ops_nilck, ops_call, ev_t, ev_c, put_get, opv_mk, args0, List.getD_cons_zero, List.getD_cons_succ, vpick, vbin, vbinI, vfld, vnil, vload, takeV, V.cells, ptrV, List.map_cons, List.map_nil, List.length_cons, List.length_nil, List.getElem?_cons_zero, List.getElem?_cons_succ, true_and, Nat.reduceEqDiff, Nat.zero_add, Nat.add_zero, ↓reduceIte, ne_eq, eq_self, reduceCtorEq, Bool.false_eq_true, hb, CC.cells, q4, qt, q2]
    refine Cal.mk (rFail_v (c := ⟨state, me, other, host, tm, true, id⟩) hb) ?_
    rintro _ _ ⟨rfl, rfl⟩ -
    simp (config := {maxSteps := 3000000}) only [run_ret, at_code_n, at_code_r, at_fin_r, ops_nil, ops_mv, ev_t, put_get, opv_mk, obsOk, and_true, true_and, ↓reduceIte, vret, rvAll, rvVal, resv_1, eq_self]
    exact ⟨_, _, Wk.no, weak_both hwf.weak, rfl, rfl⟩
end
end Go.Proofs.Ytogkdcbcmhhhcaa
