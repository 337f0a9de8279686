/- The table's law: a step. Printed by a program (gen_tbl6.py). -/
import Derived.Test.YtlngegoamfklgaaVTbl5
namespace Go.Proofs.Ytlngegoamfklgaa
open Go

section
variable {st : St} {b mb c : Nat} {most : Int} {T l : List It} {es : List (V × V × Nat)} {tk : Tk} {kind x : Int} {k : Key}
theorem ins_perm (hp : T.Perm l) (i : Nat) : (T ++ [(k, x)]).Perm (l.take i ++ [(k, x)] ++ l.drop i) := by
  have h1 : (T ++ [(k, x)]).Perm ((k, x) :: l) := (List.perm_append_comm).trans (hp.cons _)
  refine h1.trans ?_
  have h2 : (l.take i ++ [(k, x)] ++ l.drop i).Perm ((k, x) :: (l.take i ++ l.drop i)) := by
    rw [List.append_assoc]
    exact List.perm_middle
  rw [List.take_append_drop] at h2
  exact h2.symm
set_option maxRecDepth 100000 in
set_option maxHeartbeats 16000000 in
theorem step18_v (h : TblB st b mb most T es c) (hT : T.length ≤ 1000) (hp : T.Perm l) (hs : SrtL l) (h0 : 0 ≤ kind) :
    VCalls Try.prog 49 [ptrV b, .sl tk (its l), .agg [.sc (.int .i64 kind), .sc (.int .i64 x), .sc (.int .i64 k.1), .sc (.int .u16 k.2)], .sc (.int .i64 most)] st (StepT st b mb most l) := by
  have bT : (true == true) = true := rfl
  have bF : (false == false) = true := rfl
  have hln := hp.length_eq
  have hkeys := hs.keys
  refine vcalls_enter vc49 (Nat.le_of_ble_eq_true rfl) fun hwf hok => ?_
  show Run _ Vc49.body (.fin (finQ Vc49.res _)) _ _
  unfold Vc49
  have hlt := hwf.lt
  have hms := hlt.box mb _ h.mbox
  have hbs := hlt.box b _ h.box
  simp (config := {maxSteps := 3000000}) only [run_reg, run_seq, at_code_n, ops_nil, ops_mv, ops_fld, ops_load, ops_box, ops_call, ev_t, ev_c, put_get, opv_mk, Bx, put_box_same, args0, List.getD_cons_zero, List.getD_cons_succ, vfld, vload, takeV, takeB, mono_two, V.cells, ptrV, obsOk, List.map_cons, List.map_nil, List.length_cons, List.length_nil, List.take_succ_cons, List.drop_succ_cons, List.drop_zero, List.take_nil, and_true, true_and, Nat.reduceEqDiff, Nat.reduceAdd, Nat.reduceLeDiff, Nat.zero_add, ↓reduceIte, ne_eq, not_false_eq_true, eq_self, reduceCtorEq]
  intro d hd
  have db : b ≠ d := by omega
  have dm : mb ≠ d := by omega
  have md : d ≠ mb := dm.symm
  have hself : st.put mb [.mp true [.int .i64, .int .u16] es c] = st := put_selfR h.mbox hms
  have hW2 := weak_put (b := d) (cs := [.sc (.int .i64 kind), .sc (.int .i64 x), .sc (.int .i64 k.1), .sc (.int .u16 k.2)]) hwf.weak hd
  have hL2 := hlt.put (b := d) (cs := [.sc (.int .i64 kind), .sc (.int .i64 x), .sc (.int .i64 k.1), .sc (.int .u16 k.2)])
  have P2 := h.put (cs := [.sc (.int .i64 kind), .sc (.int .i64 x), .sc (.int .i64 k.1), .sc (.int .u16 k.2)]) db dm
  have bd : (st.put d [.sc (.int .i64 kind), .sc (.int .i64 x), .sc (.int .i64 k.1), .sc (.int .u16 k.2)]).box d = some [.sc (.int .i64 kind), .sc (.int .i64 x), .sc (.int .i64 k.1), .sc (.int .u16 k.2)] := put_box_same
  generalize st.put d [.sc (.int .i64 kind), .sc (.int .i64 x), .sc (.int .i64 k.1), .sc (.int .u16 k.2)] = s2 at P2 hW2 hL2 bd ⊢
  have same : ∀ s : St, s = st → st.weak s2 → StepT st b mb most l (.tup [.sl .no (its l), .sc (.bool true)]) st := fun s _ _ => ⟨T, l, es, c, rfl, hself.symm, h, hp, hs, by omega⟩
  refine Cal.mk find18_v ?_
  rintro _ _ ⟨⟨i, B, hP, hB, rfl⟩, rfl⟩ -
  have hi : i ≤ l.length := hP.le
  have hk1 : ((i : Int) + 1).toNat = i + 1 := by omega
  have hBn : B = false → aget k l = none := fun e => hP.miss hs fun p hp e2 => by
    have := hB.2 ⟨p, hp, e2⟩
    rw [e] at this; cases this
  by_cases c0 : kind % 7 = 0
  · simp (config := {maxSteps := 3000000}) only [run_skip, run_reg, run_seq, run_blk, run_cond, if_true, at_code_n, ops_nil, ops_mv, ops_bin, ops_fld, ops_load, ops_ext, ops_call, ev_t, ev_c, put_get, opv_mk, args0, List.getD_cons_zero, vbin, vbinI, vfld, vext, vload, takeV, takeB, mono_two, V.cells, obsOk, List.map_cons, List.map_nil, List.length_cons, List.length_nil, List.getElem?_cons_zero, List.getElem?_cons_succ, List.take_succ_cons, List.drop_succ_cons, List.drop_zero, List.take_nil, and_true, true_and, Nat.reduceEqDiff, Nat.reduceAdd, Nat.reduceLeDiff, Int.reduceLT, Nat.zero_add, Nat.add_zero, ↓reduceIte, eq_self, reduceCtorEq, bd, decide_eq_true c0]
    repeat (apply And.intro; focus (first | omega | (simp; done)))
    refine Cal.mk (tblPut_v P2 hT) ?_
    rintro _ _ hq -
    rcases hq with ⟨hq, rfl, rfl⟩ | ⟨hn, cm, rfl, rfl⟩
    · cases B
      · have hn : aget k T = none := by rw [aget_perm hp hkeys]; exact hBn rfl
        have cm : most ≤ (manyT k.1 l : Int) := by
          rcases hq with hq | hq
          · rw [hn] at hq; cases hq
          · rwa [many_same hp k.1] at hq
        simp (config := {maxSteps := 3000000}) only [run_reg, run_seq, at_code_n, ops_nil, ops_grd, grd_ff, ops_mv, ops_fld, ops_load, ops_call, ev_t, put_get, opv_mk, args0, List.getD_cons_zero, List.getD_cons_succ, vfld, vload, takeV, takeB, V.cells, obsOk, List.map_cons, List.map_nil, List.length_cons, List.length_nil, List.getElem?_cons_zero, List.getElem?_cons_succ, true_and, Nat.reduceEqDiff, Nat.zero_add, Nat.add_zero, ↓reduceIte, eq_self, bd]
        refine Cal.mk many18_v ?_
        rintro _ _ ⟨rfl, rfl⟩ -
        simp (config := {maxSteps := 3000000}) only [run_reg, run_seq, run_ret, run_cond, if_true, at_code_n, at_code_r, at_blk_r, at_fin_r, ops_nil, ops_grd, grd_ff, ops_mv, ops_pick, ops_bin, ops_un, ev_t, put_get, opv_mk, args0, List.getD_cons_zero, List.getD_cons_succ, vpick, vbin, vbinI, vun, vload, takeV, takeB, V.cells, obsOk, List.map_cons, List.map_nil, and_true, true_and, Nat.reduceEqDiff, ↓reduceIte, vret, rvAll, rvVal, resv_2, Bool.not_false, eq_self, Bool.false_eq_true, decide_eq_true cm]
        exact ⟨_, _, Wk.tupT Wk.no, hW2, same _ rfl hW2⟩
      · simp (config := {maxSteps := 3000000}) only [run_reg, run_seq, run_ret, run_cond, if_true, at_code_n, at_code_r, at_blk_r, at_fin_r, ops_nil, ops_grd, grd_tf, ops_mv, ops_pick, ops_un, ev_t, ev_c, put_get, opv_mk, args0, List.getD_cons_zero, List.getD_cons_succ, vpick, vun, vload, takeV, takeB, V.cells, obsOk, List.map_cons, List.map_nil, and_true, true_and, Nat.reduceEqDiff, ↓reduceIte, vret, rvAll, rvVal, resv_2, Bool.not_false, eq_self]
        exact ⟨_, _, Wk.tupT Wk.no, hW2, same _ rfl hW2⟩
    · have hn2 : aget k l = none := by rw [← aget_perm hp hkeys]; exact hn
      cases B
      · have cm2 : ¬ most ≤ (manyT k.1 l : Int) := by rwa [many_same hp k.1] at cm
        have bd2 : (s2.put mb [.mp true [.int .i64, .int .u16] (mset (keyV k) (ival x) c es) (mclk es (keyV k) c)]).box d = some [.sc (.int .i64 kind), .sc (.int .i64 x), .sc (.int .i64 k.1), .sc (.int .u16 k.2)] := by rw [put_box_ne md]; exact bd
        simp (config := {maxSteps := 3000000}) only [run_reg, run_seq, at_code_n, ops_nil, ops_grd, grd_ff, ops_mv, ops_fld, ops_load, ops_call, ev_t, put_get, opv_mk, args0, List.getD_cons_zero, List.getD_cons_succ, vfld, vload, takeV, takeB, V.cells, obsOk, List.map_cons, List.map_nil, List.length_cons, List.length_nil, List.getElem?_cons_zero, List.getElem?_cons_succ, true_and, Nat.reduceEqDiff, Nat.zero_add, Nat.add_zero, ↓reduceIte, eq_self, bd2]
        refine Cal.mk many18_v ?_
        rintro _ _ ⟨rfl, rfl⟩ -
        simp (config := {maxSteps := 3000000}) only [run_skip, run_reg, run_seq, run_cond, if_false, at_code_n, ops_nil, ops_grd, grd_ff, ops_mv, ops_pick, ops_bin, ops_fld, ops_load, ops_bld, ops_bsl, ops_slc, ops_bslo, ev_t, put_get, opv_mk, vbld, vbsl, args0, List.getD_cons_zero, List.getD_cons_succ, vpick, vbin, vbinI, vfld, vload, takeV, takeB, mono_two, vslc, fillV, splice, V.cells, strip, strip1, allLen, obsOk, List.map_cons, List.map_nil, List.length_cons, List.length_nil, List.getElem?_cons_zero, List.getElem?_cons_succ, List.take_succ_cons, List.take_zero, List.drop_succ_cons, List.drop_zero, List.cons_append, List.nil_append, List.append_nil, List.take_nil, List.drop_nil, Option.map_some, Option.map_none, and_true, true_and, Nat.reduceEqDiff, Nat.reduceAdd, Nat.reduceLT, Nat.reduceLeDiff, Nat.reduceLT, Int.toNat_natCast, Nat.zero_add, ↓reduceIte, eq_self, Bool.false_eq_true, decide_eq_false cm2, bd2, its_len, its_take, its_drop, allSz_its']
        repeat (apply And.intro; focus (first | omega | (simp; done)))
        refine Bo.own (by simp [allLen]) ?_
        intro g hg2
        have R0 : RO 3 (st.put mb [.mp true [.int .i64, .int .u16] (mset (keyV k) (ival x) c es) (mclk es (keyV k) c)]) ((s2.put mb [.mp true [.int .i64, .int .u16] (mset (keyV k) (ival x) c es) (mclk es (keyV k) c)]).use g 0) (.sl (.own g 3) []) [] := RO.use0' (weak_both hW2) hL2.put hg2
        simp (config := {maxSteps := 3000000}) only [ops_app, ev_t, put_get, use_box, vload, takeV, takeB, mono_two, V.cells, obsOk, List.length_cons, List.length_nil, List.getElem?_cons_zero, List.getElem?_cons_succ, List.take_succ_cons, List.drop_succ_cons, List.drop_zero, List.take_nil, and_true, true_and, Nat.reduceEqDiff, Nat.reduceAdd, Nat.reduceLeDiff, Nat.zero_add, ↓reduceIte, eq_self, bd2]
        refine App.mk (bytes := 24) (l := []) (ys := its (l.take i)) R0.own (allSz_its _) (by simp only [its_len, List.length_nil, List.length_take, maxLen]; omega) (by simp only [its_len, List.length_nil, List.length_take]; omega) ?_
        intro r1 s1 k1 k2
        have R1 := R0.app k1 k2
        rw [List.nil_append] at R1
        have bd3 : s1.box d = some [.sc (.int .i64 kind), .sc (.int .i64 x), .sc (.int .i64 k.1), .sc (.int .u16 k.2)] := by rw [k2.box]; exact bd2
        simp (config := {maxSteps := 3000000}) only [ops_app, ev_t, put_get, vload, takeV, takeB, mono_two, V.cells, obsOk, List.length_cons, List.length_nil, List.getElem?_cons_zero, List.getElem?_cons_succ, List.take_succ_cons, List.drop_succ_cons, List.drop_zero, List.take_nil, and_true, true_and, Nat.reduceEqDiff, Nat.reduceAdd, Nat.reduceLeDiff, Nat.zero_add, ↓reduceIte, eq_self, bd3]
        refine App.mk (bytes := 24) (l := its (l.take i)) (ys := its [(k, x)]) R1.own (allSz_its _) (by simp only [its_len, List.length_cons, List.length_nil, List.length_take, maxLen]; omega) (by simp only [its_len, List.length_cons, List.length_nil, List.length_take]; omega) ?_
        intro r2 s3 k3 k4
        have R2 := R1.app k3 k4
        rw [its_append] at R2
        have bd4 : s3.box d = some [.sc (.int .i64 kind), .sc (.int .i64 x), .sc (.int .i64 k.1), .sc (.int .u16 k.2)] := by rw [k4.box]; exact bd3
        simp (config := {maxSteps := 3000000}) only [ops_app, ev_t, put_get, obsOk, true_and, Nat.reduceEqDiff, ↓reduceIte, eq_self]
        refine App.mk (bytes := 24) (l := its (l.take i ++ [(k, x)])) (ys := its (l.drop i)) R2.own (allSz_its _) (by simp only [its_len, List.length_append, List.length_cons, List.length_nil, List.length_take, List.length_drop, maxLen]; omega) (by simp only [its_len, List.length_append, List.length_cons, List.length_nil, List.length_take, List.length_drop]; omega) ?_
        intro r3 s4 k5 k6
        have R3 := R2.app k5 k6
        rw [its_append] at R3
        simp (config := {maxSteps := 3000000}) only [run_ret, at_code_n, at_code_r, at_blk_r, at_fin_r, ops_nil, ops_mv, ev_t, put_get, opv_mk, args0, vload, takeV, takeB, V.cells, obsOk, List.map_cons, List.map_nil, and_true, true_and, Nat.reduceEqDiff, ↓reduceIte, vret, rvAll, rvVal, resv_2, eq_self]
        obtain ⟨tv, rfl⟩ := R3.sl
        refine ⟨_, _, Wk.tupT Wk.no, R3.weak, T ++ [(k, x)], l.take i ++ [(k, x)] ++ l.drop i, _, _, rfl, rfl, ?_, ins_perm hp i, hs.ins hP hn2, ?_⟩
        · have := h.set k x
          rw [aset_new hn] at this
          exact this
        · simp only [List.length_append, List.length_cons, List.length_nil, List.length_take, List.length_drop]; omega
      · obtain ⟨p, hpi, e⟩ := hB.1 rfl
        rw [(hP.hit hpi e).1] at hn2; cases hn2
  by_cases c1 : kind % 7 = 1
  · simp (config := {maxSteps := 3000000}) only [run_skip, run_reg, run_seq, run_blk, run_cond, if_true, if_false, at_code_n, ops_nil, ops_mv, ops_bin, ops_fld, ops_load, ops_ext, ops_call, ev_t, ev_c, put_get, opv_mk, args0, List.getD_cons_zero, vbin, vbinI, vfld, vext, vload, takeV, takeB, mono_two, V.cells, obsOk, List.map_cons, List.map_nil, List.length_cons, List.length_nil, List.getElem?_cons_zero, List.getElem?_cons_succ, List.take_succ_cons, List.drop_succ_cons, List.drop_zero, List.take_nil, and_true, true_and, Nat.reduceEqDiff, Nat.reduceAdd, Nat.reduceLeDiff, Int.reduceLT, Nat.zero_add, Nat.add_zero, ↓reduceIte, eq_self, reduceCtorEq, bd, decide_eq_false c0, decide_eq_true c1]
    repeat (apply And.intro; focus (first | omega | (simp; done)))
    refine Cal.mk (tblPut_v P2 hT) ?_
    rintro _ _ hq -
    rcases hq with ⟨hq, rfl, rfl⟩ | ⟨hn, cm, rfl, rfl⟩
    · cases B
      · have hn : aget k T = none := by rw [aget_perm hp hkeys]; exact hBn rfl
        have cm : most ≤ (manyT k.1 l : Int) := by
          rcases hq with hq | hq
          · rw [hn] at hq; cases hq
          · rwa [many_same hp k.1] at hq
        simp (config := {maxSteps := 3000000}) only [run_reg, run_seq, at_code_n, ops_nil, ops_grd, grd_ff, ops_mv, ops_fld, ops_load, ops_call, ev_t, put_get, opv_mk, args0, List.getD_cons_zero, List.getD_cons_succ, vfld, vload, takeV, takeB, V.cells, obsOk, List.map_cons, List.map_nil, List.length_cons, List.length_nil, List.getElem?_cons_zero, List.getElem?_cons_succ, true_and, Nat.reduceEqDiff, Nat.zero_add, Nat.add_zero, ↓reduceIte, eq_self, bd]
        refine Cal.mk many18_v ?_
        rintro _ _ ⟨rfl, rfl⟩ -
        simp (config := {maxSteps := 3000000}) only [run_reg, run_seq, run_ret, run_cond, if_true, at_code_n, at_code_r, at_blk_r, at_fin_r, ops_nil, ops_grd, grd_ff, ops_mv, ops_pick, ops_bin, ops_un, ev_t, put_get, opv_mk, args0, List.getD_cons_zero, List.getD_cons_succ, vpick, vbin, vbinI, vun, vload, takeV, takeB, V.cells, obsOk, List.map_cons, List.map_nil, and_true, true_and, Nat.reduceEqDiff, ↓reduceIte, vret, rvAll, rvVal, resv_2, Bool.not_false, eq_self, Bool.false_eq_true, decide_eq_true cm]
        exact ⟨_, _, Wk.tupT Wk.no, hW2, same _ rfl hW2⟩
      · simp (config := {maxSteps := 3000000}) only [run_reg, run_seq, run_ret, run_cond, if_true, at_code_n, at_code_r, at_blk_r, at_fin_r, ops_nil, ops_grd, grd_tf, ops_mv, ops_pick, ops_un, ev_t, ev_c, put_get, opv_mk, args0, List.getD_cons_zero, List.getD_cons_succ, vpick, vun, vload, takeV, takeB, V.cells, obsOk, List.map_cons, List.map_nil, and_true, true_and, Nat.reduceEqDiff, ↓reduceIte, vret, rvAll, rvVal, resv_2, Bool.not_false, eq_self]
        exact ⟨_, _, Wk.tupT Wk.no, hW2, same _ rfl hW2⟩
    · have hn2 : aget k l = none := by rw [← aget_perm hp hkeys]; exact hn
      cases B
      · have cm2 : ¬ most ≤ (manyT k.1 l : Int) := by rwa [many_same hp k.1] at cm
        have bd2 : (s2.put mb [.mp true [.int .i64, .int .u16] (mset (keyV k) (ival x) c es) (mclk es (keyV k) c)]).box d = some [.sc (.int .i64 kind), .sc (.int .i64 x), .sc (.int .i64 k.1), .sc (.int .u16 k.2)] := by rw [put_box_ne md]; exact bd
        simp (config := {maxSteps := 3000000}) only [run_reg, run_seq, at_code_n, ops_nil, ops_grd, grd_ff, ops_mv, ops_fld, ops_load, ops_call, ev_t, put_get, opv_mk, args0, List.getD_cons_zero, List.getD_cons_succ, vfld, vload, takeV, takeB, V.cells, obsOk, List.map_cons, List.map_nil, List.length_cons, List.length_nil, List.getElem?_cons_zero, List.getElem?_cons_succ, true_and, Nat.reduceEqDiff, Nat.zero_add, Nat.add_zero, ↓reduceIte, eq_self, bd2]
        refine Cal.mk many18_v ?_
        rintro _ _ ⟨rfl, rfl⟩ -
        simp (config := {maxSteps := 3000000}) only [run_skip, run_reg, run_seq, run_cond, if_false, at_code_n, ops_nil, ops_grd, grd_ff, ops_mv, ops_pick, ops_bin, ops_fld, ops_load, ops_bld, ops_bsl, ops_slc, ops_bslo, ev_t, put_get, opv_mk, vbld, vbsl, args0, List.getD_cons_zero, List.getD_cons_succ, vpick, vbin, vbinI, vfld, vload, takeV, takeB, mono_two, vslc, fillV, splice, V.cells, strip, strip1, allLen, obsOk, List.map_cons, List.map_nil, List.length_cons, List.length_nil, List.getElem?_cons_zero, List.getElem?_cons_succ, List.take_succ_cons, List.take_zero, List.drop_succ_cons, List.drop_zero, List.cons_append, List.nil_append, List.append_nil, List.take_nil, List.drop_nil, Option.map_some, Option.map_none, and_true, true_and, Nat.reduceEqDiff, Nat.reduceAdd, Nat.reduceLT, Nat.reduceLeDiff, Nat.reduceLT, Int.toNat_natCast, Nat.zero_add, ↓reduceIte, eq_self, Bool.false_eq_true, decide_eq_false cm2, bd2, its_len, its_take, its_drop, allSz_its']
        repeat (apply And.intro; focus (first | omega | (simp; done)))
        refine Bo.own (by simp [allLen]) ?_
        intro g hg2
        have R0 : RO 3 (st.put mb [.mp true [.int .i64, .int .u16] (mset (keyV k) (ival x) c es) (mclk es (keyV k) c)]) ((s2.put mb [.mp true [.int .i64, .int .u16] (mset (keyV k) (ival x) c es) (mclk es (keyV k) c)]).use g 0) (.sl (.own g 3) []) [] := RO.use0' (weak_both hW2) hL2.put hg2
        simp (config := {maxSteps := 3000000}) only [ops_app, ev_t, put_get, use_box, vload, takeV, takeB, mono_two, V.cells, obsOk, List.length_cons, List.length_nil, List.getElem?_cons_zero, List.getElem?_cons_succ, List.take_succ_cons, List.drop_succ_cons, List.drop_zero, List.take_nil, and_true, true_and, Nat.reduceEqDiff, Nat.reduceAdd, Nat.reduceLeDiff, Nat.zero_add, ↓reduceIte, eq_self, bd2]
        refine App.mk (bytes := 24) (l := []) (ys := its (l.take i)) R0.own (allSz_its _) (by simp only [its_len, List.length_nil, List.length_take, maxLen]; omega) (by simp only [its_len, List.length_nil, List.length_take]; omega) ?_
        intro r1 s1 k1 k2
        have R1 := R0.app k1 k2
        rw [List.nil_append] at R1
        have bd3 : s1.box d = some [.sc (.int .i64 kind), .sc (.int .i64 x), .sc (.int .i64 k.1), .sc (.int .u16 k.2)] := by rw [k2.box]; exact bd2
        simp (config := {maxSteps := 3000000}) only [ops_app, ev_t, put_get, vload, takeV, takeB, mono_two, V.cells, obsOk, List.length_cons, List.length_nil, List.getElem?_cons_zero, List.getElem?_cons_succ, List.take_succ_cons, List.drop_succ_cons, List.drop_zero, List.take_nil, and_true, true_and, Nat.reduceEqDiff, Nat.reduceAdd, Nat.reduceLeDiff, Nat.zero_add, ↓reduceIte, eq_self, bd3]
        refine App.mk (bytes := 24) (l := its (l.take i)) (ys := its [(k, x)]) R1.own (allSz_its _) (by simp only [its_len, List.length_cons, List.length_nil, List.length_take, maxLen]; omega) (by simp only [its_len, List.length_cons, List.length_nil, List.length_take]; omega) ?_
        intro r2 s3 k3 k4
        have R2 := R1.app k3 k4
        rw [its_append] at R2
        have bd4 : s3.box d = some [.sc (.int .i64 kind), .sc (.int .i64 x), .sc (.int .i64 k.1), .sc (.int .u16 k.2)] := by rw [k4.box]; exact bd3
        simp (config := {maxSteps := 3000000}) only [ops_app, ev_t, put_get, obsOk, true_and, Nat.reduceEqDiff, ↓reduceIte, eq_self]
        refine App.mk (bytes := 24) (l := its (l.take i ++ [(k, x)])) (ys := its (l.drop i)) R2.own (allSz_its _) (by simp only [its_len, List.length_append, List.length_cons, List.length_nil, List.length_take, List.length_drop, maxLen]; omega) (by simp only [its_len, List.length_append, List.length_cons, List.length_nil, List.length_take, List.length_drop]; omega) ?_
        intro r3 s4 k5 k6
        have R3 := R2.app k5 k6
        rw [its_append] at R3
        simp (config := {maxSteps := 3000000}) only [run_ret, at_code_n, at_code_r, at_blk_r, at_fin_r, ops_nil, ops_mv, ev_t, put_get, opv_mk, args0, vload, takeV, takeB, V.cells, obsOk, List.map_cons, List.map_nil, and_true, true_and, Nat.reduceEqDiff, ↓reduceIte, vret, rvAll, rvVal, resv_2, eq_self]
        obtain ⟨tv, rfl⟩ := R3.sl
        refine ⟨_, _, Wk.tupT Wk.no, R3.weak, T ++ [(k, x)], l.take i ++ [(k, x)] ++ l.drop i, _, _, rfl, rfl, ?_, ins_perm hp i, hs.ins hP hn2, ?_⟩
        · have := h.set k x
          rw [aset_new hn] at this
          exact this
        · simp only [List.length_append, List.length_cons, List.length_nil, List.length_take, List.length_drop]; omega
      · obtain ⟨p, hpi, e⟩ := hB.1 rfl
        rw [(hP.hit hpi e).1] at hn2; cases hn2
  by_cases c2 : kind % 7 = 2
  · simp (config := {maxSteps := 3000000}) only [run_reg, run_seq, run_blk, run_cond, if_true, if_false, at_code_n, ops_nil, ops_mv, ops_bin, ops_fld, ops_load, ops_ext, ops_call, ev_t, ev_c, put_get, opv_mk, args0, List.getD_cons_zero, vbin, vbinI, vfld, vext, vload, takeV, takeB, mono_two, V.cells, obsOk, List.map_cons, List.map_nil, List.length_cons, List.length_nil, List.getElem?_cons_zero, List.getElem?_cons_succ, List.take_succ_cons, List.drop_succ_cons, List.drop_zero, List.take_nil, and_true, true_and, Nat.reduceEqDiff, Nat.reduceAdd, Nat.reduceLeDiff, Int.reduceLT, Nat.zero_add, Nat.add_zero, ↓reduceIte, eq_self, reduceCtorEq, bd, decide_eq_false c0, decide_eq_false c1, decide_eq_true c2]
    repeat (apply And.intro; focus (first | omega | (simp; done)))
    refine Cal.mk (tblPut_v P2 hT) ?_
    rintro _ _ hq -
    rcases hq with ⟨hq, rfl, rfl⟩ | ⟨hn, cm, rfl, rfl⟩
    · cases B
      · have hn : aget k T = none := by rw [aget_perm hp hkeys]; exact hBn rfl
        have cm : most ≤ (manyT k.1 l : Int) := by
          rcases hq with hq | hq
          · rw [hn] at hq; cases hq
          · rwa [many_same hp k.1] at hq
        simp (config := {maxSteps := 3000000}) only [run_reg, run_seq, at_code_n, ops_nil, ops_grd, grd_ff, ops_mv, ops_fld, ops_load, ops_call, ev_t, put_get, opv_mk, args0, List.getD_cons_zero, List.getD_cons_succ, vfld, vload, takeV, takeB, V.cells, obsOk, List.map_cons, List.map_nil, List.length_cons, List.length_nil, List.getElem?_cons_zero, List.getElem?_cons_succ, true_and, Nat.reduceEqDiff, Nat.zero_add, Nat.add_zero, ↓reduceIte, eq_self, bd]
        refine Cal.mk many18_v ?_
        rintro _ _ ⟨rfl, rfl⟩ -
        simp (config := {maxSteps := 3000000}) only [run_reg, run_seq, run_ret, run_cond, if_true, at_code_n, at_code_r, at_blk_r, at_fin_r, ops_nil, ops_grd, grd_ff, ops_mv, ops_pick, ops_bin, ops_un, ev_t, put_get, opv_mk, args0, List.getD_cons_zero, List.getD_cons_succ, vpick, vbin, vbinI, vun, vload, takeV, takeB, V.cells, obsOk, List.map_cons, List.map_nil, and_true, true_and, Nat.reduceEqDiff, ↓reduceIte, vret, rvAll, rvVal, resv_2, Bool.not_false, eq_self, Bool.false_eq_true, decide_eq_true cm]
        exact ⟨_, _, Wk.tupT Wk.no, hW2, same _ rfl hW2⟩
      · simp (config := {maxSteps := 3000000}) only [run_reg, run_seq, run_ret, run_cond, if_true, at_code_n, at_code_r, at_blk_r, at_fin_r, ops_nil, ops_grd, grd_tf, ops_mv, ops_pick, ops_un, ev_t, ev_c, put_get, opv_mk, args0, List.getD_cons_zero, List.getD_cons_succ, vpick, vun, vload, takeV, takeB, V.cells, obsOk, List.map_cons, List.map_nil, and_true, true_and, Nat.reduceEqDiff, ↓reduceIte, vret, rvAll, rvVal, resv_2, Bool.not_false, eq_self]
        exact ⟨_, _, Wk.tupT Wk.no, hW2, same _ rfl hW2⟩
    · have hn2 : aget k l = none := by rw [← aget_perm hp hkeys]; exact hn
      cases B
      · have cm2 : ¬ most ≤ (manyT k.1 l : Int) := by rwa [many_same hp k.1] at cm
        have bd2 : (s2.put mb [.mp true [.int .i64, .int .u16] (mset (keyV k) (ival x) c es) (mclk es (keyV k) c)]).box d = some [.sc (.int .i64 kind), .sc (.int .i64 x), .sc (.int .i64 k.1), .sc (.int .u16 k.2)] := by rw [put_box_ne md]; exact bd
        simp (config := {maxSteps := 3000000}) only [run_reg, run_seq, at_code_n, ops_nil, ops_grd, grd_ff, ops_mv, ops_fld, ops_load, ops_call, ev_t, put_get, opv_mk, args0, List.getD_cons_zero, List.getD_cons_succ, vfld, vload, takeV, takeB, V.cells, obsOk, List.map_cons, List.map_nil, List.length_cons, List.length_nil, List.getElem?_cons_zero, List.getElem?_cons_succ, true_and, Nat.reduceEqDiff, Nat.zero_add, Nat.add_zero, ↓reduceIte, eq_self, bd2]
        refine Cal.mk many18_v ?_
        rintro _ _ ⟨rfl, rfl⟩ -
        simp (config := {maxSteps := 3000000}) only [run_skip, run_reg, run_seq, run_cond, if_false, at_code_n, ops_nil, ops_grd, grd_ff, ops_mv, ops_pick, ops_bin, ops_fld, ops_load, ops_bld, ops_bsl, ops_slc, ops_bslo, ev_t, put_get, opv_mk, vbld, vbsl, args0, List.getD_cons_zero, List.getD_cons_succ, vpick, vbin, vbinI, vfld, vload, takeV, takeB, mono_two, vslc, fillV, splice, V.cells, strip, strip1, allLen, obsOk, List.map_cons, List.map_nil, List.length_cons, List.length_nil, List.getElem?_cons_zero, List.getElem?_cons_succ, List.take_succ_cons, List.take_zero, List.drop_succ_cons, List.drop_zero, List.cons_append, List.nil_append, List.append_nil, List.take_nil, List.drop_nil, Option.map_some, Option.map_none, and_true, true_and, Nat.reduceEqDiff, Nat.reduceAdd, Nat.reduceLT, Nat.reduceLeDiff, Nat.reduceLT, Int.toNat_natCast, Nat.zero_add, ↓reduceIte, eq_self, Bool.false_eq_true, decide_eq_false cm2, bd2, its_len, its_take, its_drop, allSz_its']
        repeat (apply And.intro; focus (first | omega | (simp; done)))
        refine Bo.own (by simp [allLen]) ?_
        intro g hg2
        have R0 : RO 3 (st.put mb [.mp true [.int .i64, .int .u16] (mset (keyV k) (ival x) c es) (mclk es (keyV k) c)]) ((s2.put mb [.mp true [.int .i64, .int .u16] (mset (keyV k) (ival x) c es) (mclk es (keyV k) c)]).use g 0) (.sl (.own g 3) []) [] := RO.use0' (weak_both hW2) hL2.put hg2
        simp (config := {maxSteps := 3000000}) only [ops_app, ev_t, put_get, use_box, vload, takeV, takeB, mono_two, V.cells, obsOk, List.length_cons, List.length_nil, List.getElem?_cons_zero, List.getElem?_cons_succ, List.take_succ_cons, List.drop_succ_cons, List.drop_zero, List.take_nil, and_true, true_and, Nat.reduceEqDiff, Nat.reduceAdd, Nat.reduceLeDiff, Nat.zero_add, ↓reduceIte, eq_self, bd2]
        refine App.mk (bytes := 24) (l := []) (ys := its (l.take i)) R0.own (allSz_its _) (by simp only [its_len, List.length_nil, List.length_take, maxLen]; omega) (by simp only [its_len, List.length_nil, List.length_take]; omega) ?_
        intro r1 s1 k1 k2
        have R1 := R0.app k1 k2
        rw [List.nil_append] at R1
        have bd3 : s1.box d = some [.sc (.int .i64 kind), .sc (.int .i64 x), .sc (.int .i64 k.1), .sc (.int .u16 k.2)] := by rw [k2.box]; exact bd2
        simp (config := {maxSteps := 3000000}) only [ops_app, ev_t, put_get, vload, takeV, takeB, mono_two, V.cells, obsOk, List.length_cons, List.length_nil, List.getElem?_cons_zero, List.getElem?_cons_succ, List.take_succ_cons, List.drop_succ_cons, List.drop_zero, List.take_nil, and_true, true_and, Nat.reduceEqDiff, Nat.reduceAdd, Nat.reduceLeDiff, Nat.zero_add, ↓reduceIte, eq_self, bd3]
        refine App.mk (bytes := 24) (l := its (l.take i)) (ys := its [(k, x)]) R1.own (allSz_its _) (by simp only [its_len, List.length_cons, List.length_nil, List.length_take, maxLen]; omega) (by simp only [its_len, List.length_cons, List.length_nil, List.length_take]; omega) ?_
        intro r2 s3 k3 k4
        have R2 := R1.app k3 k4
        rw [its_append] at R2
        have bd4 : s3.box d = some [.sc (.int .i64 kind), .sc (.int .i64 x), .sc (.int .i64 k.1), .sc (.int .u16 k.2)] := by rw [k4.box]; exact bd3
        simp (config := {maxSteps := 3000000}) only [ops_app, ev_t, put_get, obsOk, true_and, Nat.reduceEqDiff, ↓reduceIte, eq_self]
        refine App.mk (bytes := 24) (l := its (l.take i ++ [(k, x)])) (ys := its (l.drop i)) R2.own (allSz_its _) (by simp only [its_len, List.length_append, List.length_cons, List.length_nil, List.length_take, List.length_drop, maxLen]; omega) (by simp only [its_len, List.length_append, List.length_cons, List.length_nil, List.length_take, List.length_drop]; omega) ?_
        intro r3 s4 k5 k6
        have R3 := R2.app k5 k6
        rw [its_append] at R3
        simp (config := {maxSteps := 3000000}) only [run_ret, at_code_n, at_code_r, at_blk_r, at_fin_r, ops_nil, ops_mv, ev_t, put_get, opv_mk, args0, vload, takeV, takeB, V.cells, obsOk, List.map_cons, List.map_nil, and_true, true_and, Nat.reduceEqDiff, ↓reduceIte, vret, rvAll, rvVal, resv_2, eq_self]
        obtain ⟨tv, rfl⟩ := R3.sl
        refine ⟨_, _, Wk.tupT Wk.no, R3.weak, T ++ [(k, x)], l.take i ++ [(k, x)] ++ l.drop i, _, _, rfl, rfl, ?_, ins_perm hp i, hs.ins hP hn2, ?_⟩
        · have := h.set k x
          rw [aset_new hn] at this
          exact this
        · simp only [List.length_append, List.length_cons, List.length_nil, List.length_take, List.length_drop]; omega
      · obtain ⟨p, hpi, e⟩ := hB.1 rfl
        rw [(hP.hit hpi e).1] at hn2; cases hn2
  by_cases c3 : kind % 7 = 3
  · simp (config := {maxSteps := 3000000}) only [run_reg, run_seq, run_blk, run_cond, if_true, if_false, at_code_n, ops_nil, ops_mv, ops_bin, ops_fld, ops_load, ops_ext, ops_call, ev_t, ev_c, put_get, opv_mk, args0, List.getD_cons_zero, vbin, vbinI, vfld, vext, vload, takeV, takeB, mono_two, V.cells, obsOk, List.map_cons, List.map_nil, List.length_cons, List.length_nil, List.getElem?_cons_zero, List.getElem?_cons_succ, List.take_succ_cons, List.drop_succ_cons, List.drop_zero, List.take_nil, and_true, true_and, Nat.reduceEqDiff, Nat.reduceAdd, Nat.reduceLeDiff, Int.reduceLT, Nat.zero_add, Nat.add_zero, ↓reduceIte, eq_self, reduceCtorEq, bd, decide_eq_false c0, decide_eq_false c1, decide_eq_false c2, decide_eq_true c3]
    repeat (apply And.intro; focus (first | omega | (simp; done)))
    refine Cal.mk (tblDrop_v P2) ?_
    rintro _ _ ⟨rfl, rfl⟩ -
    rw [aget_perm hp hkeys]
    cases B
    · have hn := hBn rfl
      have hnT : aget k T = none := by rw [aget_perm hp hkeys]; exact hn
      simp (config := {maxSteps := 3000000}) only [run_skip, run_reg, run_seq, run_ret, run_cond, if_false, at_code_n, at_code_r, at_blk_r, at_fin_r, ops_nil, ops_mv, ops_binb, vbinb, ev_t, put_get, opv_mk, args0, List.getD_cons_zero, List.getD_cons_succ, vload, takeV, takeB, V.cells, obsOk, List.map_cons, List.map_nil, and_true, true_and, Nat.reduceEqDiff, ↓reduceIte, vret, rvAll, rvVal, resv_2, eq_self, Bool.false_eq_true, hn, Option.isSome_none, bF]
      exact ⟨_, _, Wk.tupT Wk.no, weak_both hW2, T, l, _, _, rfl, rfl, by have := h.del k; rwa [adel_same hnT] at this, hp, hs, by omega⟩
    · obtain ⟨p, hpi, e⟩ := hB.1 rfl
      obtain ⟨hn, hdel⟩ := hP.hit hpi e
      have hil := (List.getElem?_eq_some_iff.1 hpi).1
      simp (config := {maxSteps := 3000000}) only [run_reg, run_seq, run_cond, if_true, at_code_n, ops_nil, ops_mv, ops_bin, ops_binb, vbinb, ops_slc, ops_bslo, ev_t, ev_c, put_get, opv_mk, args0, List.getD_cons_zero, List.getD_cons_succ, vbin, vbinI, norm, vslc, strip, strip1, obsOk, List.map_nil, Option.map_some, Option.map_none, true_and, Nat.reduceEqDiff, Int.toNat_natCast, Int.reduceNeg, ↓reduceIte, eq_self, Bool.false_eq_true, hn, Option.isSome_some, bT, its_len, its_take, its_drop, allSz_its', hk1]
      repeat (apply And.intro; focus (first | omega | (simp; done)))
      refine Bo.own (by simp [allLen]) ?_
      intro g hg2
      have R0 : RO 3 (st.put mb [.mp true [.int .i64, .int .u16] (mdel (keyV k) es) c]) ((s2.put mb [.mp true [.int .i64, .int .u16] (mdel (keyV k) es) c]).use g 0) (.sl (.own g 3) []) [] := RO.use0' (weak_both hW2) hL2.put hg2
      simp (config := {maxSteps := 3000000}) only [ops_app, ev_t, put_get, obsOk, List.length_nil, true_and, Nat.reduceEqDiff, ↓reduceIte, eq_self]
      refine App.mk (bytes := 24) (l := []) (ys := its (l.take i)) R0.own (allSz_its _) (by simp only [its_len, List.length_nil, List.length_take, maxLen]; omega) (by simp only [its_len, List.length_nil, List.length_take]; omega) ?_
      intro r1 s1 k1 k2
      have R1 := R0.app k1 k2
      rw [List.nil_append] at R1
      simp (config := {maxSteps := 3000000}) only [ops_app, ev_t, put_get, obsOk, true_and, Nat.reduceEqDiff, ↓reduceIte, eq_self]
      refine App.mk (bytes := 24) (l := its (l.take i)) (ys := its (l.drop (i + 1))) R1.own (allSz_its _) (by simp only [its_len, List.length_drop, List.length_take, maxLen]; omega) (by simp only [its_len, List.length_drop, List.length_take]; omega) ?_
      intro r2 s3 k3 k4
      have R2 := R1.app k3 k4
      rw [its_append] at R2
      simp (config := {maxSteps := 3000000}) only [run_ret, at_code_n, at_code_r, at_blk_r, at_fin_r, ops_nil, ops_mv, ev_t, put_get, opv_mk, args0, vload, takeV, takeB, V.cells, obsOk, List.map_cons, List.map_nil, and_true, true_and, Nat.reduceEqDiff, ↓reduceIte, vret, rvAll, rvVal, resv_2, eq_self]
      obtain ⟨tv, rfl⟩ := R2.sl
      refine ⟨_, _, Wk.tupT Wk.no, R2.weak, adel k T, l.take i ++ l.drop (i + 1), _, _, rfl, rfl, h.del k, ?_, hs.del i, ?_⟩
      · rw [← hdel]; exact adel_perm hp hkeys hn
      · simp only [List.length_append, List.length_take, List.length_drop]; omega
  · simp (config := {maxSteps := 3000000}) only [run_skip, run_reg, run_seq, run_blk, run_cond, if_false, at_code_n, at_blk_n, ops_nil, ops_mv, ops_bin, ops_fld, ops_load, ops_ext, ops_call, ev_t, ev_c, put_get, opv_mk, args0, List.getD_cons_zero, List.getD_cons_succ, vbin, vbinI, vfld, vext, vload, takeV, takeB, mono_two, V.cells, obsOk, List.map_cons, List.map_nil, List.length_cons, List.length_nil, List.getElem?_cons_zero, List.getElem?_cons_succ, List.take_succ_cons, List.drop_zero, List.take_nil, and_true, true_and, Nat.reduceEqDiff, Nat.reduceAdd, Nat.reduceLeDiff, Int.reduceLT, Nat.zero_add, Nat.add_zero, ↓reduceIte, eq_self, reduceCtorEq, bd, decide_eq_false c0, decide_eq_false c1, decide_eq_false c2, decide_eq_false c3]
    repeat (apply And.intro; focus (first | omega | (simp; done)))
    refine Cal.mk (asks18_v P2 hT hp hs h0) ?_
    rintro _ _ ⟨rfl, rfl⟩ -
    simp (config := {maxSteps := 3000000}) only [run_ret, at_code_n, at_fin_r, ops_nil, ops_mv, ev_t, put_get, opv_mk, args0, vload, takeV, takeB, V.cells, obsOk, List.map_cons, List.map_nil, and_true, true_and, Nat.reduceEqDiff, ↓reduceIte, vret, rvAll, rvVal, resv_2, eq_self]
    exact ⟨_, _, Wk.tupT Wk.no, hW2, same _ rfl hW2⟩
end
end Go.Proofs.Ytlngegoamfklgaa
