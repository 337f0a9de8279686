/- One record of bytes: contract. -/
import Derived.Test.YtmomebkfaibmgaaVTape4
namespace Go.Proofs.Ytmomebkfaibmgaa
open Go

theorem rdTake_le (L : List Int) (at_ : Nat) (bad : Bool) (k : Int) (h : at_ ≤ L.length) : (rdTake L at_ bad k).2.1 ≤ L.length := by
  unfold rdTake
  split
  · exact h
  · rename_i hn
    simp at hn ⊢
    omega
theorem rdNum_le (L : List Int) (at_ : Nat) (bad : Bool) (k : Int) (h : at_ ≤ L.length) : (rdNum L at_ bad k).2.1 ≤ L.length := by
  unfold rdNum
  split
  · exact h
  · rename_i hn
    simp at hn ⊢
    omega
/-- A reader of the caller's, and two boxes of the call's own. -/
structure K3 (st s : St) (b c e : Nat) (R C E : List V) : Prop where
  rb : s.box b = some R
  rc : s.box c = some C
  re : s.box e = some E
  w : (st.put b R).weak s
  bc : b < c
  ce : c < e
  hc : st.sz ≤ c
theorem weak_turn {st s : St} {b : Nat} {R R' : List V} (h : (st.put b R).weak s) : (st.put b R').weak (s.put b R') :=
  ⟨fun c ds hc => by
    by_cases e : c = b
    · subst e
      rw [put_box_same] at hc ⊢
      exact ⟨hc, by simp only [put_sz]; omega⟩
    · rw [put_box_ne e] at hc ⊢
      have := h.box c ds (by rw [put_box_ne e]; exact hc)
      exact this, fun g m hg => h.own g m hg, by have := h.sz; simp only [put_sz] at this ⊢; omega⟩
section
variable {st s : St} {b c e : Nat} {R C E R' C' E' : List V}
theorem K3.setB (h : K3 st s b c e R C E) : K3 st (s.put b R') b c e R' C E :=
  ⟨put_box_same, by rw [put_box_ne (Nat.ne_of_gt h.bc)]; exact h.rc, by rw [put_box_ne (Nat.ne_of_gt (Nat.lt_trans h.bc h.ce))]; exact h.re, weak_turn h.w, h.bc, h.ce, h.hc⟩
theorem K3.setE (h : K3 st s b c e R C E) : K3 st (s.put e E') b c e R C E' :=
  ⟨by rw [put_box_ne (Nat.ne_of_lt (Nat.lt_trans h.bc h.ce))]; exact h.rb, by rw [put_box_ne (Nat.ne_of_lt h.ce)]; exact h.rc, put_box_same, weak_put h.w (by have := h.bc; have := h.ce; have := h.hc; simp only [put_sz]; omega), h.bc, h.ce, h.hc⟩
theorem K3.setC (h : K3 st s b c e R C E) : K3 st (s.put c C') b c e R C' E :=
  ⟨by rw [put_box_ne (Nat.ne_of_lt h.bc)]; exact h.rb, put_box_same, by rw [put_box_ne (Nat.ne_of_gt h.ce)]; exact h.re, weak_put h.w (by have := h.bc; have := h.hc; simp only [put_sz]; omega), h.bc, h.ce, h.hc⟩
end
section
variable {st : St} {tk : Tk} {L : List Int} {b at_ : Nat}
set_option maxRecDepth 100000 in
set_option maxHeartbeats 4000000 in
theorem one_v (hb : st.box b = some (rdr tk L at_ false)) (hat : at_ < L.length) (hB : IsB L) (hL : L.length ≤ 1000000000000) : VCalls Try.prog 30 [ptrV b] st fun r st' =>
    ∃ t1 t2 t ok at' bad', r = .tup [TR.v t1 t2 t, .sc (.bool ok)] ∧ st' = st.put b (rdr tk L at' bad') ∧ OneIs L at_ t ok at' bad' ∧ at' ≤ L.length := by
  refine vcalls_enter vc30 (Nat.le_of_ble_eq_true rfl) fun hwf hok => ?_
  show Run _ Vc30.body (.fin (finQ Vc30.res _)) _ _
  unfold Vc30
  have hbl := hwf.box b _ hb
  have e0 : rdNum L at_ false 1 = (L.getD at_ 0, at_ + 1, false) := by
    have := rdNum_good (L := L) (at_ := at_) (k := 1) (by omega) (by omega) (by omega)
    rw [take_one_num (by omega)] at this
    exact this
  have r0 : 0 ≤ L.getD at_ 0 ∧ L.getD at_ 0 < 256 := by
    have := rdNum_lt (L := L) (at_ := at_) (bad := false) hB (k := 1) (by omega)
    have e0' : rdNum L at_ false ((1 : Nat) : Int) = (L.getD at_ 0, at_ + 1, false) := e0
    rw [e0'] at this
    simpa using this
  generalize hk : L.getD at_ 0 = k0 at *
  simp (config := {maxSteps := 3000000}) only [run_reg, run_seq, at_code_n, ops_nil, ops_mv, ops_alc, ops_call, ev_t, ev_c, put_get, opv_mk, args0, List.getD_cons_zero, ptrV, obsOk, List.map_cons, List.map_nil, true_and, ↓reduceIte, eq_self, reduceCtorEq]
  intro c hc
  have hbc : b < c := by omega
  refine Cal.mk (U8_v (by rw [put_box_ne (Nat.ne_of_lt hbc)]; exact hb) (by omega) hB) ?_
  rintro _ _ ⟨rfl, rfl⟩ -
  rw [e0]
  simp (config := {maxSteps := 3000000}) only [run_reg, run_seq, run_blk, run_cond, at_code_n, ops_nil, ops_mv, ops_bin, ops_conv, ops_fld, ops_load, ops_bld, ops_alc, ops_store, ev_t, ev_c, put_get, put_none, opv_mk, stb_some, sto_ptr, Stp, vbld, put_box_same, put_sz, put_put, vbin, vbinI, vconv, norm, vfld, vload, takeV, fillV, splice, V.cells, ptrV, obsOk, List.map_cons, List.map_nil, List.length_cons, List.length_nil, List.getElem?_cons_zero, List.take_zero, List.drop_succ_cons, List.drop_zero, List.cons_append, List.nil_append, List.append_nil, List.drop_nil, and_true, true_and, Nat.reduceEqDiff, Nat.reduceAdd, Nat.reduceLT, Nat.reduceLeDiff, Nat.reduceLT, Int.reduceNeg, Nat.zero_add, Nat.add_zero, ↓reduceIte, eq_self]
  repeat (apply And.intro; focus (first | omega | (simp; done)))
  intro e he
  have K0 : K3 st (((st.put c [.sc (.int .i64 0), .sc (.int .i64 0), .sc (.int .i64 0), .sc (.int .i64 0), .sl .nil [], .sc (.int .i64 0), .sc (.int .i64 0), .sc (.int .i64 0), .sc (.int .u32 0), .sl .nil []]).put b (rdr tk L (at_ + 1) false)).put e [.sc (.int .i64 k0), .sc (.int .i64 0), .sc (.int .i64 0), .sc (.int .i64 0), .sl .nil [], .sc (.int .i64 0), .sc (.int .i64 0), .sc (.int .i64 0), .sc (.int .u32 0), .sl .nil []]) b c e (rdr tk L (at_ + 1) false) [.sc (.int .i64 0), .sc (.int .i64 0), .sc (.int .i64 0), .sc (.int .i64 0), .sl .nil [], .sc (.int .i64 0), .sc (.int .i64 0), .sc (.int .i64 0), .sc (.int .u32 0), .sl .nil []] [.sc (.int .i64 k0), .sc (.int .i64 0), .sc (.int .i64 0), .sc (.int .i64 0), .sl .nil [], .sc (.int .i64 0), .sc (.int .i64 0), .sc (.int .i64 0), .sc (.int .u32 0), .sl .nil []] := by
    have hce : c < e := by omega
    have hbe : b < e := by omega
    refine ⟨?_, ?_, put_box_same, ?_, hbc, hce, hc⟩
    · rw [put_box_ne (Nat.ne_of_lt hbe)]; exact put_box_same
    · rw [put_box_ne (Nat.ne_of_lt hce), put_box_ne (Nat.ne_of_gt hbc)]; exact put_box_same
    · exact weak_put (weak_both (weak_put hwf.weak hc)) (by simp only [put_sz]; omega)
  generalize ((st.put c _).put b _).put e _ = s0 at K0 ⊢
  have hk1 : (at_ + 1 : Nat) ≤ L.length := hat
  by_cases k1 : k0 = 1
  · subst k1
    have d11 : decide ((1 : Int) = 1) = true := rfl
    simp (config := {maxSteps := 3000000}) only [run_reg, run_seq, if_true, ops_mv, ops_call, ev_t, put_get, opv_mk, args0, List.getD_cons_zero, List.map_cons, List.map_nil, true_and, ↓reduceIte, decide_true, eq_self, reduceCtorEq]
    refine Cal.mk (U8_v K0.rb (by omega) hB) ?_
    rintro _ _ ⟨rfl, rfl⟩ -
    have hr1 : 0 ≤ (rdNum L (at_ + 1) false 1).1 ∧ (rdNum L (at_ + 1) false 1).1 < 256 := by simpa using rdNum_lt (L := L) (at_ := (at_ + 1)) (bad := false) hB (k := 1) (by omega)
    have hl1 := rdNum_le L (at_ + 1) false 1 (by omega)
    have K1 := K0.setB (R' := rdr tk L (rdNum L (at_ + 1) false 1).2.1 (rdNum L (at_ + 1) false 1).2.2)
    generalize q1 : rdNum L (at_ + 1) false 1 = a1 at hr1 hl1 K1 ⊢
    obtain ⟨x1, p1, f1⟩ := a1
    generalize s0.put b _ = s1 at K1 ⊢
    simp only at hr1 hl1 K1 ⊢
    simp (config := {maxSteps := 3000000}) only [ops_mv, ops_conv, ops_call, ev_t, put_get, opv_mk, args0, List.getD_cons_zero, vconv, norm, obsOk, List.map_cons, List.map_nil, true_and, Int.reduceNeg, ↓reduceIte, eq_self, reduceCtorEq]
    repeat (apply And.intro; focus (first | omega | (simp; done)))
    refine Cal.mk (U8_v K1.rb (by omega) hB) ?_
    rintro _ _ ⟨rfl, rfl⟩ -
    have hr2 : 0 ≤ (rdNum L p1 f1 1).1 ∧ (rdNum L p1 f1 1).1 < 256 := by simpa using rdNum_lt (L := L) (at_ := p1) (bad := f1) hB (k := 1) (by omega)
    have hl2 := rdNum_le L p1 f1 1 (by omega)
    have K2 := K1.setB (R' := rdr tk L (rdNum L p1 f1 1).2.1 (rdNum L p1 f1 1).2.2)
    generalize q2 : rdNum L p1 f1 1 = a2 at hr2 hl2 K2 ⊢
    obtain ⟨x2, p2, f2⟩ := a2
    generalize s1.put b _ = s2 at K2 ⊢
    simp only at hr2 hl2 K2 ⊢
    simp (config := {maxSteps := 3000000}) only [ops_mv, ops_conv, ops_call, ev_t, put_get, opv_mk, args0, List.getD_cons_zero, vconv, norm, obsOk, List.map_cons, List.map_nil, true_and, Int.reduceNeg, ↓reduceIte, eq_self, reduceCtorEq]
    repeat (apply And.intro; focus (first | omega | (simp; done)))
    refine Cal.mk (U32_v K2.rb (by omega) hB) ?_
    rintro _ _ ⟨rfl, rfl⟩ -
    have hr3 : 0 ≤ (rdNum L p2 f2 4).1 ∧ (rdNum L p2 f2 4).1 < 4294967296 := by simpa using rdNum_lt (L := L) (at_ := p2) (bad := f2) hB (k := 4) (by omega)
    have hl3 := rdNum_le L p2 f2 4 (by omega)
    have K3 := K2.setB (R' := rdr tk L (rdNum L p2 f2 4).2.1 (rdNum L p2 f2 4).2.2)
    generalize q3 : rdNum L p2 f2 4 = a3 at hr3 hl3 K3 ⊢
    obtain ⟨x3, p3, f3⟩ := a3
    generalize s2.put b _ = s3 at K3 ⊢
    simp only at hr3 hl3 K3 ⊢
    simp (config := {maxSteps := 3000000}) only [run_reg, at_code_n, ops_nil, ops_mv, ops_conv, ops_fld, ops_bld, ops_store, ops_call, ev_t, put_get, put_none, opv_mk, stb_some, sto_ptr, Stp, vbld, args0, List.getD_cons_zero, vconv, norm, vfld, fillV, splice, V.cells, obsOk, List.map_cons, List.map_nil, List.length_cons, List.length_nil, List.take_succ_cons, List.take_zero, List.drop_succ_cons, List.drop_zero, List.cons_append, List.nil_append, and_true, true_and, Nat.reduceEqDiff, Nat.reduceAdd, Nat.reduceLT, Nat.reduceLeDiff, Nat.reduceLT, Int.reduceNeg, Nat.zero_add, ↓reduceIte, eq_self, reduceCtorEq, K3.re]
    repeat (apply And.intro; focus (first | omega | (simp; done)))
    have J3 := K3.setE (E' := [.sc (.int .i64 1), .sc (.int .i64 x1), .sc (.int .i64 x2), .sc (.int .i64 x3), .sl .nil [], .sc (.int .i64 0), .sc (.int .i64 0), .sc (.int .i64 0), .sc (.int .u32 0), .sl .nil []])
    generalize s3.put e _ = s3' at J3 ⊢
    refine Cal.mk (U16_v J3.rb (by omega) hB) ?_
    rintro _ _ ⟨rfl, rfl⟩ -
    have hr4 : 0 ≤ (rdNum L p3 f3 2).1 ∧ (rdNum L p3 f3 2).1 < 65536 := by simpa using rdNum_lt (L := L) (at_ := p3) (bad := f3) hB (k := 2) (by omega)
    have hl4 := rdNum_le L p3 f3 2 (by omega)
    have K4 := J3.setB (R' := rdr tk L (rdNum L p3 f3 2).2.1 (rdNum L p3 f3 2).2.2)
    generalize q4 : rdNum L p3 f3 2 = a4 at hr4 hl4 K4 ⊢
    obtain ⟨x4, p4, f4⟩ := a4
    generalize s3'.put b _ = s4 at K4 ⊢
    simp only at hr4 hl4 K4 ⊢
    simp (config := {maxSteps := 3000000}) only [ops_conv, ops_call, ev_t, put_get, opv_mk, vconv, norm, obsOk, List.map_cons, List.map_nil, true_and, Nat.reduceEqDiff, Int.reduceNeg, ↓reduceIte, eq_self]
    repeat (apply And.intro; focus (first | omega | (simp; done)))
    refine Cal.mk (Take_v K4.rb (by omega) hL _) ?_
    rintro _ _ ⟨rfl, rfl⟩ -
    have hl5 := rdTake_le L p4 f4 x4 (by omega)
    have K5 := K4.setB (R' := rdr tk L (rdTake L p4 f4 x4).2.1 (rdTake L p4 f4 x4).2.2)
    generalize q5 : rdTake L p4 f4 x4 = a5 at hl5 K5 ⊢
    obtain ⟨M, p5, f5⟩ := a5
    generalize s4.put b _ = s5 at K5 ⊢
    simp only at hl5 K5 ⊢
    simp (config := {maxSteps := 3000000}) only [run_reg, run_seq, at_code_n, at_blk_n, ops_nil, ops_mv, ops_fld, ops_load, ops_store, ops_call, ev_t, put_get, put_none, opv_mk, stb_some, sto_ptr, Stp, put_box_same, args0, List.getD_cons_zero, vfld, vload, takeV, splice, V.cells, obsOk, List.map_cons, List.map_nil, List.length_cons, List.length_nil, List.take_succ_cons, List.take_zero, List.drop_succ_cons, List.drop_zero, List.cons_append, List.nil_append, List.take_nil, true_and, Nat.reduceEqDiff, Nat.reduceAdd, Nat.reduceLT, Nat.reduceLeDiff, Nat.reduceLT, Nat.zero_add, ↓reduceIte, eq_self, reduceCtorEq, K5.re]
    have J5 := K5.setE (E' := [.sc (.int .i64 1), .sc (.int .i64 x1), .sc (.int .i64 x2), .sc (.int .i64 x3), .sl .no (bs M), .sc (.int .i64 0), .sc (.int .i64 0), .sc (.int .i64 0), .sc (.int .u32 0), .sl .nil []])
    generalize s5.put e _ = s5' at J5 ⊢
    refine Cal.mk (Bad_v J5.rb) ?_
    rintro _ _ ⟨rfl, rfl⟩ -
    simp (config := {maxSteps := 3000000}) only [run_ret, at_code_n, at_fin_r, ops_nil, ops_mv, ops_un, ops_store, ev_t, put_get, put_none, opv_mk, stb_some, sto_ptr, Stp, put_box_same, args0, vun, vload, takeV, splice, V.cells, obsOk, List.map_cons, List.map_nil, List.length_cons, List.length_nil, List.take_succ_cons, List.take_zero, List.drop_succ_cons, List.drop_zero, List.nil_append, List.append_nil, List.take_nil, List.drop_nil, and_true, true_and, Nat.reduceEqDiff, Nat.reduceAdd, Nat.reduceLT, Nat.reduceLeDiff, Nat.reduceLT, Nat.zero_add, ↓reduceIte, vret, rvAll, rvVal, resv_2, eq_self, J5.re, J5.rc]
    have J6 := J5.setC (C' := [.sc (.int .i64 1), .sc (.int .i64 x1), .sc (.int .i64 x2), .sc (.int .i64 x3), .sl .no (bs M), .sc (.int .i64 0), .sc (.int .i64 0), .sc (.int .i64 0), .sc (.int .u32 0), .sl .nil []])
    generalize s5'.put c _ = s6 at J6 ⊢
    have hs : seqE L at_ = ((x1, p1, f1), (x2, p2, f2), (x3, p3, f3), (x4, p4, f4), (M, p5, f5)) := by
      unfold seqE
      simp only [q1, q2, q3, q4, q5]
    have ho := one_event (r := ⟨1, x1, x2, x3, M, 0, 0, 0, 0, []⟩) hB hat hk (by rw [hs])
    rw [hs] at ho
    trace_state
    exact ⟨_, _, Wk.refl _, J6.w, .no, .nil, ⟨1, x1, x2, x3, M, 0, 0, 0, 0, []⟩, !f5, p5, f5, by cases f5 <;> rfl, rfl, ho, hl5⟩
  by_cases k2 : k0 = 2
  · subst k2
    have d21 : decide ((2 : Int) = 1) = false := rfl
    have d22 : decide ((2 : Int) = 2) = true := rfl
    simp (config := {maxSteps := 3000000}) only [run_reg, run_seq, run_cond, if_true, if_false, at_code_n, ops_nil, ops_mv, ops_bin, ops_call, ev_t, ev_c, put_get, opv_mk, args0, List.getD_cons_zero, vbin, vbinI, List.map_cons, List.map_nil, true_and, Nat.reduceEqDiff, Int.reduceEq, ↓reduceIte, decide_true, decide_false, eq_self, reduceCtorEq]
    refine Cal.mk (U8_v K0.rb (by omega) hB) ?_
    rintro _ _ ⟨rfl, rfl⟩ -
    have hr1 : 0 ≤ (rdNum L (at_ + 1) false 1).1 ∧ (rdNum L (at_ + 1) false 1).1 < 256 := by simpa using rdNum_lt (L := L) (at_ := (at_ + 1)) (bad := false) hB (k := 1) (by omega)
    have hl1 := rdNum_le L (at_ + 1) false 1 (by omega)
    have K1 := K0.setB (R' := rdr tk L (rdNum L (at_ + 1) false 1).2.1 (rdNum L (at_ + 1) false 1).2.2)
    generalize q1 : rdNum L (at_ + 1) false 1 = a1 at hr1 hl1 K1 ⊢
    obtain ⟨x1, p1, f1⟩ := a1
    generalize s0.put b _ = s1 at K1 ⊢
    simp only at hr1 hl1 K1 ⊢
    simp (config := {maxSteps := 3000000}) only [ops_mv, ops_conv, ops_call, ev_t, put_get, opv_mk, args0, List.getD_cons_zero, vconv, norm, obsOk, List.map_cons, List.map_nil, true_and, Int.reduceNeg, ↓reduceIte, eq_self, reduceCtorEq]
    repeat (apply And.intro; focus (first | omega | (simp; done)))
    refine Cal.mk (U8_v K1.rb (by omega) hB) ?_
    rintro _ _ ⟨rfl, rfl⟩ -
    have hr2 : 0 ≤ (rdNum L p1 f1 1).1 ∧ (rdNum L p1 f1 1).1 < 256 := by simpa using rdNum_lt (L := L) (at_ := p1) (bad := f1) hB (k := 1) (by omega)
    have hl2 := rdNum_le L p1 f1 1 (by omega)
    have K2 := K1.setB (R' := rdr tk L (rdNum L p1 f1 1).2.1 (rdNum L p1 f1 1).2.2)
    generalize q2 : rdNum L p1 f1 1 = a2 at hr2 hl2 K2 ⊢
    obtain ⟨x2, p2, f2⟩ := a2
    generalize s1.put b _ = s2 at K2 ⊢
    simp only at hr2 hl2 K2 ⊢
    simp (config := {maxSteps := 3000000}) only [ops_mv, ops_conv, ops_call, ev_t, put_get, opv_mk, args0, List.getD_cons_zero, vconv, norm, obsOk, List.map_cons, List.map_nil, true_and, Int.reduceNeg, ↓reduceIte, eq_self, reduceCtorEq]
    repeat (apply And.intro; focus (first | omega | (simp; done)))
    refine Cal.mk (U32_v K2.rb (by omega) hB) ?_
    rintro _ _ ⟨rfl, rfl⟩ -
    have hr3 : 0 ≤ (rdNum L p2 f2 4).1 ∧ (rdNum L p2 f2 4).1 < 4294967296 := by simpa using rdNum_lt (L := L) (at_ := p2) (bad := f2) hB (k := 4) (by omega)
    have hl3 := rdNum_le L p2 f2 4 (by omega)
    have K3 := K2.setB (R' := rdr tk L (rdNum L p2 f2 4).2.1 (rdNum L p2 f2 4).2.2)
    generalize q3 : rdNum L p2 f2 4 = a3 at hr3 hl3 K3 ⊢
    obtain ⟨x3, p3, f3⟩ := a3
    generalize s2.put b _ = s3 at K3 ⊢
    simp only at hr3 hl3 K3 ⊢
    simp (config := {maxSteps := 3000000}) only [ops_mv, ops_conv, ops_call, ev_t, put_get, opv_mk, args0, List.getD_cons_zero, vconv, norm, obsOk, List.map_cons, List.map_nil, true_and, Int.reduceNeg, ↓reduceIte, eq_self, reduceCtorEq]
    repeat (apply And.intro; focus (first | omega | (simp; done)))
    refine Cal.mk (U32_v K3.rb (by omega) hB) ?_
    rintro _ _ ⟨rfl, rfl⟩ -
    have hr4 : 0 ≤ (rdNum L p3 f3 4).1 ∧ (rdNum L p3 f3 4).1 < 4294967296 := by simpa using rdNum_lt (L := L) (at_ := p3) (bad := f3) hB (k := 4) (by omega)
    have hl4 := rdNum_le L p3 f3 4 (by omega)
    have K4 := K3.setB (R' := rdr tk L (rdNum L p3 f3 4).2.1 (rdNum L p3 f3 4).2.2)
    generalize q4 : rdNum L p3 f3 4 = a4 at hr4 hl4 K4 ⊢
    obtain ⟨x4, p4, f4⟩ := a4
    generalize s3.put b _ = s4 at K4 ⊢
    simp only at hr4 hl4 K4 ⊢
    simp (config := {maxSteps := 3000000}) only [run_reg, at_code_n, ops_nil, ops_mv, ops_fld, ops_bld, ops_store, ops_call, ev_t, put_get, put_none, opv_mk, stb_some, sto_ptr, Stp, vbld, args0, List.getD_cons_zero, vfld, fillV, splice, V.cells, obsOk, List.map_cons, List.map_nil, List.length_cons, List.length_nil, List.take_succ_cons, List.take_zero, List.drop_succ_cons, List.drop_zero, List.cons_append, List.nil_append, List.append_nil, List.drop_nil, and_true, true_and, Nat.reduceEqDiff, Nat.reduceAdd, Nat.reduceLT, Nat.reduceLeDiff, Nat.reduceLT, Nat.zero_add, ↓reduceIte, eq_self, reduceCtorEq, K4.re]
    have J4 := K4.setE (E' := [.sc (.int .i64 2), .sc (.int .i64 0), .sc (.int .i64 0), .sc (.int .i64 0), .sl .nil [], .sc (.int .i64 x1), .sc (.int .i64 x2), .sc (.int .i64 x3), .sc (.int .u32 x4), .sl .nil []])
    generalize s4.put e _ = s4' at J4 ⊢
    refine Cal.mk (U16_v J4.rb (by omega) hB) ?_
    rintro _ _ ⟨rfl, rfl⟩ -
    have hr5 : 0 ≤ (rdNum L p4 f4 2).1 ∧ (rdNum L p4 f4 2).1 < 65536 := by simpa using rdNum_lt (L := L) (at_ := p4) (bad := f4) hB (k := 2) (by omega)
    have hl5 := rdNum_le L p4 f4 2 (by omega)
    have K5 := J4.setB (R' := rdr tk L (rdNum L p4 f4 2).2.1 (rdNum L p4 f4 2).2.2)
    generalize q5 : rdNum L p4 f4 2 = a5 at hr5 hl5 K5 ⊢
    obtain ⟨x5, p5, f5⟩ := a5
    generalize s4'.put b _ = s5 at K5 ⊢
    simp only at hr5 hl5 K5 ⊢
    simp (config := {maxSteps := 3000000}) only [ops_conv, ops_call, ev_t, put_get, opv_mk, vconv, norm, obsOk, List.map_cons, List.map_nil, true_and, Nat.reduceEqDiff, Int.reduceNeg, ↓reduceIte, eq_self]
    repeat (apply And.intro; focus (first | omega | (simp; done)))
    refine Cal.mk (Take_v K5.rb (by omega) hL _) ?_
    rintro _ _ ⟨rfl, rfl⟩ -
    have hl6 := rdTake_le L p5 f5 x5 (by omega)
    have K6 := K5.setB (R' := rdr tk L (rdTake L p5 f5 x5).2.1 (rdTake L p5 f5 x5).2.2)
    generalize q6 : rdTake L p5 f5 x5 = a6 at hl6 K6 ⊢
    obtain ⟨M, p6, f6⟩ := a6
    generalize s5.put b _ = s6 at K6 ⊢
    simp only at hl6 K6 ⊢
    simp (config := {maxSteps := 3000000}) only [run_reg, run_seq, at_code_n, at_blk_n, ops_nil, ops_mv, ops_fld, ops_load, ops_store, ops_call, ev_t, put_get, put_none, opv_mk, stb_some, sto_ptr, Stp, put_box_same, args0, List.getD_cons_zero, vfld, vload, takeV, splice, V.cells, obsOk, List.map_cons, List.map_nil, List.length_cons, List.length_nil, List.take_succ_cons, List.take_zero, List.drop_succ_cons, List.drop_zero, List.cons_append, List.nil_append, List.append_nil, List.take_nil, List.drop_nil, true_and, Nat.reduceEqDiff, Nat.reduceAdd, Nat.reduceLT, Nat.reduceLeDiff, Nat.reduceLT, Nat.zero_add, ↓reduceIte, eq_self, reduceCtorEq, K6.re]
    have J6 := K6.setE (E' := [.sc (.int .i64 2), .sc (.int .i64 0), .sc (.int .i64 0), .sc (.int .i64 0), .sl .nil [], .sc (.int .i64 x1), .sc (.int .i64 x2), .sc (.int .i64 x3), .sc (.int .u32 x4), .sl .no (bs M)])
    generalize s6.put e _ = s6' at J6 ⊢
    refine Cal.mk (Bad_v J6.rb) ?_
    rintro _ _ ⟨rfl, rfl⟩ -
    simp (config := {maxSteps := 3000000}) only [run_ret, at_code_n, at_fin_r, ops_nil, ops_mv, ops_un, ops_store, ev_t, put_get, put_none, opv_mk, stb_some, sto_ptr, Stp, put_box_same, args0, vun, vload, takeV, splice, V.cells, obsOk, List.map_cons, List.map_nil, List.length_cons, List.length_nil, List.take_succ_cons, List.take_zero, List.drop_succ_cons, List.drop_zero, List.nil_append, List.append_nil, List.take_nil, List.drop_nil, and_true, true_and, Nat.reduceEqDiff, Nat.reduceAdd, Nat.reduceLT, Nat.reduceLeDiff, Nat.reduceLT, Nat.zero_add, ↓reduceIte, vret, rvAll, rvVal, resv_2, eq_self, J6.re, J6.rc]
    have J7 := J6.setC (C' := [.sc (.int .i64 2), .sc (.int .i64 0), .sc (.int .i64 0), .sc (.int .i64 0), .sl .nil [], .sc (.int .i64 x1), .sc (.int .i64 x2), .sc (.int .i64 x3), .sc (.int .u32 x4), .sl .no (bs M)])
    generalize s6'.put c _ = s7 at J7 ⊢
    have hs : seqO L at_ = ((x1, p1, f1), (x2, p2, f2), (x3, p3, f3), (x4, p4, f4), (x5, p5, f5), (M, p6, f6)) := by
      unfold seqO
      simp only [q1, q2, q3, q4, q5, q6]
    have ho := one_out (r := ⟨2, 0, 0, 0, [], x1, x2, x3, x4, M⟩) hB hat hk (by rw [hs])
    rw [hs] at ho
    exact ⟨_, _, Wk.refl _, J7.w, .nil, .no, ⟨2, 0, 0, 0, [], x1, x2, x3, x4, M⟩, !f6, p6, f6, by cases f6 <;> rfl, rfl, ho, hl6⟩
  · simp (config := {maxSteps := 3000000}) only [run_reg, run_seq, run_ret, run_cond, if_false, at_code_n, at_code_r, at_blk_r, at_fin_r, ops_nil, ops_mv, ops_bin, ops_bld, ops_store, ev_t, ev_c, put_get, put_none, opv_mk, stb_some, sto_ptr, Stp, vbld, put_box_same, args0, vbin, vbinI, vload, takeV, fillV, splice, V.cells, obsOk, List.map_cons, List.map_nil, List.length_cons, List.length_nil, List.take_succ_cons, List.take_zero, List.drop_succ_cons, List.drop_zero, List.nil_append, List.append_nil, List.take_nil, List.drop_nil, and_true, true_and, Nat.reduceEqDiff, Nat.reduceAdd, Nat.reduceLT, Nat.reduceLeDiff, Nat.reduceLT, Nat.zero_add, ↓reduceIte, vret, rvAll, rvVal, resv_2, eq_self, decide_eq_false k1, decide_eq_false k2, K0.rc]
    have J7 := K0.setC (C' := [.sc (.int .i64 0), .sc (.int .i64 0), .sc (.int .i64 0), .sc (.int .i64 0), .sl .nil [], .sc (.int .i64 0), .sc (.int .i64 0), .sc (.int .i64 0), .sc (.int .u32 0), .sl .nil []])
    generalize s0.put c _ = s7 at J7 ⊢
    exact ⟨_, _, Wk.refl _, J7.w, .nil, .nil, ⟨0, 0, 0, 0, [], 0, 0, 0, 0, []⟩, false, at_ + 1, false, rfl, rfl, one_else (by rw [hk]; exact k1) (by rw [hk]; exact k2), hk1⟩
end
end Go.Proofs.Ytmomebkfaibmgaa
