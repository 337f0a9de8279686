/- The table's law: a question, a step. -/
import Derived.Test.YtlngegoamfklgaaVTbl4
import Derived.Test.YtlngegoamfklgaaVRows
namespace Go.Proofs.Ytlngegoamfklgaa
open Go

theorem Wk.tupT {a a' : V} {x : Value} (h : Wk a a') : Wk (.tup [a, .sc x]) (.tup [a', .sc x]) := fun G v hv => by
  cases hv with
  | tup _ vs hl hg =>
    refine .tup _ vs hl fun i c u hc hu => ?_
    match i, hc with
    | 0, hc => simp at hc; subst hc; exact h G u (hg 0 a u rfl hu)
    | 1, hc => exact hg 1 c u hc hu
section
variable {st : St} {b mb c : Nat} {most : Int} {T l : List It} {es : List (V × V × Nat)} {tk : Tk} {kind x : Int} {k : Key}
set_option maxRecDepth 100000 in
set_option maxHeartbeats 8000000 in
theorem asks18_v (h : TblB st b mb most T es c) (hT : T.length ≤ 1000) (hp : T.Perm l) (hs : SrtL l) (h0 : 0 ≤ kind) :
    VCalls Try.prog 86 [ptrV b, .sl tk (its l), .agg [.sc (.int .i64 kind), .sc (.int .i64 x), .sc (.int .i64 k.1), .sc (.int .u16 k.2)], .sc (.int .i64 most)] st fun v s => v = .sc (.bool true) ∧ st = s := by
  have bT : (true == true) = true := rfl
  have bF : (false == false) = true := rfl
  have hln := hp.length_eq
  have hkeys := hs.keys
  refine vcalls_enter vc86 (Nat.le_of_ble_eq_true rfl) fun hwf hok => ?_
  show Run _ Vc86.body (.fin (finQ Vc86.res _)) _ _
  unfold Vc86
  have hlt := hwf.lt
  have hms := hlt.box mb _ h.mbox
  have hbs := hlt.box b _ h.box
  simp (config := {maxSteps := 3000000}) only [run_reg, run_seq, at_code_n, ops_nil, ops_mv, ops_fld, ops_load, ops_box, ops_call, ev_t, ev_c, put_get, opv_mk, Bx, put_box_same, args0, List.getD_cons_zero, List.getD_cons_succ, vfld, vload, takeV, takeB, mono_two, V.cells, ptrV, obsOk, List.map_cons, List.map_nil, List.length_cons, List.length_nil, List.take_succ_cons, List.drop_succ_cons, List.drop_zero, List.take_nil, and_true, true_and, Nat.reduceEqDiff, Nat.reduceAdd, Nat.reduceLeDiff, Nat.zero_add, ↓reduceIte, ne_eq, not_false_eq_true, eq_self, reduceCtorEq]
  intro d hd
  have h2 := h.put (cs := [.sc (.int .i64 kind), .sc (.int .i64 x), .sc (.int .i64 k.1), .sc (.int .u16 k.2)]) (show b ≠ d by omega) (show mb ≠ d by omega)
  have fin := weak_put (cs := [.sc (.int .i64 kind), .sc (.int .i64 x), .sc (.int .i64 k.1), .sc (.int .u16 k.2)]) hwf.weak hd
  refine Cal.mk find18_v ?_
  rintro _ _ ⟨⟨i, B, hP, hB, rfl⟩, rfl⟩ -
  by_cases c5 : kind % 7 = 5
  · simp (config := {maxSteps := 3000000}) only [run_reg, run_seq, run_cond, if_true, at_code_n, ops_nil, ops_mv, ops_bin, ops_fld, ops_load, ops_ext, ops_call, ev_t, ev_c, put_get, opv_mk, put_box_same, args0, List.getD_cons_zero, vbin, vbinI, vfld, vext, vload, takeV, takeB, V.cells, obsOk, List.map_cons, List.map_nil, List.length_cons, List.length_nil, List.getElem?_cons_zero, List.getElem?_cons_succ, and_true, true_and, Nat.reduceEqDiff, Int.reduceLT, Nat.zero_add, Nat.add_zero, ↓reduceIte, eq_self, reduceCtorEq, decide_eq_true c5]
    repeat (apply And.intro; focus (first | omega | (simp; done)))
    refine Cal.mk (tblFresh_v h2 hT) ?_
    rintro v _ ⟨rfl, hq⟩ -
    have hm := many_same hp k.1
    rcases hq with ⟨cm, rfl⟩ | ⟨cm, n, n1, n2, n3, n4, rfl⟩
    · simp (config := {maxSteps := 3000000}) only [run_reg, run_seq, at_code_n, ops_nil, ops_mv, ops_fld, ops_load, ops_ext, ops_call, ev_t, put_get, opv_mk, put_box_same, args0, List.getD_cons_zero, List.getD_cons_succ, vfld, vext, vload, takeV, takeB, V.cells, obsOk, List.map_cons, List.map_nil, List.length_cons, List.length_nil, List.getElem?_cons_zero, List.getElem?_cons_succ, true_and, Nat.reduceEqDiff, Nat.zero_add, Nat.add_zero, ↓reduceIte, eq_self]
      refine Cal.mk many18_v ?_
      rintro _ _ ⟨rfl, rfl⟩ -
      rw [← hm]
      simp (config := {maxSteps := 3000000}) only [run_reg, run_seq, run_ret, run_cond, if_true, at_code_n, at_code_r, at_fin_r, ops_nil, ops_grd, grd_tt, ops_mv, ops_pick, ops_bin, ops_un, ev_t, ev_c, put_get, opv_mk, args0, List.getD_cons_zero, List.getD_cons_succ, vpick, vbin, vbinI, vun, obsOk, and_true, true_and, Nat.reduceEqDiff, ↓reduceIte, vret, rvAll, rvVal, resv_1, decide_true, Bool.not_false, eq_self, decide_eq_true cm]
      exact ⟨_, _, Wk.refl _, fin, rfl, rfl⟩
    · simp (config := {maxSteps := 3000000}) only [run_reg, run_seq, at_code_n, ops_nil, ops_mv, ops_fld, ops_load, ops_ext, ops_call, ev_t, put_get, opv_mk, put_box_same, args0, List.getD_cons_zero, List.getD_cons_succ, vfld, vext, vload, takeV, takeB, V.cells, obsOk, List.map_cons, List.map_nil, List.length_cons, List.length_nil, List.getElem?_cons_zero, List.getElem?_cons_succ, true_and, Nat.reduceEqDiff, Nat.zero_add, Nat.add_zero, ↓reduceIte, eq_self]
      refine Cal.mk many18_v ?_
      rintro _ _ ⟨rfl, rfl⟩ -
      rw [← hm]
      rw [aget_perm hp hkeys] at n3
      simp (config := {maxSteps := 3000000}) only [run_skip, run_reg, run_seq, run_blk, run_cond, if_false, at_code_n, ops_nil, ops_mv, ops_bin, ev_t, ev_c, put_get, opv_mk, args0, List.getD_cons_zero, List.getD_cons_succ, vbin, vbinI, obsOk, true_and, Nat.reduceEqDiff, ↓reduceIte, eq_self, decide_eq_false cm]
      refine run_loop [13, 14, 49, 50, 51, 52, 53, 54, 55, 56, 57, 58, 59, 60, 61, 62, 63, 64, 65, 66, 67, 68, 69, 70, 71, 72, 73, 74, 75, 76] (fun D s => ∃ (j w : Nat), j ≤ l.length ∧ D 14 = .sc (.int .i64 j) ∧ D 13 = .sc (.int .u16 w) ∧ LeastI k.1 l j w ∧ s = st.put d [.sc (.int .i64 kind), .sc (.int .i64 x), .sc (.int .i64 k.1), .sc (.int .u16 k.2)]) (fun D _ => l.length - vnat (D 14)) rfl ?_ ?_
      · simp (config := {maxSteps := 3000000}) only [put_get, and_true, Nat.reduceEqDiff, ↓reduceIte, eq_self]
        exact ⟨0, 1, by omega, rfl, rfl, LeastI.start⟩
      · rintro D s ⟨j, w, hj, h14, h13, hL, rfl⟩
        have hwl := hL.le
        by_cases c1 : j < l.length
        · obtain ⟨p, hx⟩ := get_ex c1
          by_cases d1 : p.1.1 = k.1
          · by_cases d2 : p.1.2 = (w : Int)
            · have e1 : ((w : Int) + 1) % 65536 = ((w + 1 : Nat) : Int) := by omega
              simp (config := {maxSteps := 3000000}) only [run_skip, run_reg, run_seq, run_blk, run_cond, if_true, at_code_n, at_blk_n, at_rnd_n, ops_nil, ops_grd, grd_tt, ops_mv, ops_pick, ops_bin, ops_fld, ops_ix, ops_load, ops_len, ev_t, ev_c, put_get, opv_mk, over_get, rel_mk, vnat, put_box_same, args0, List.getD_cons_zero, List.getD_cons_succ, vpick, vbin, vbinI, norm, vfld, vlen, vix, vload, takeV, takeB, V.cells, List.length_cons, List.length_nil, List.getElem?_cons_zero, List.getElem?_cons_succ, and_true, true_and, Nat.reduceEqDiff, Nat.reduceAdd, Int.toNat_natCast, Int.reduceNeg, Nat.zero_add, Nat.add_zero, ↓reduceIte, eq_self, Bool.false_eq_true, List.contains_cons, List.contains_nil, Nat.reduceBEq, Bool.or_false, Bool.or_true, h14, h13, its_get hx, its_len, decide_eq_true (show (j : Int) < (l.length : Int) by omega), decide_eq_true d1, decide_eq_true d2, e1]
              repeat (apply And.intro; focus (first | omega | (simp; done)))
              exact ⟨⟨j + 1, w + 1, by omega, by simp, rfl, hL.up hx d1 d2⟩, by omega⟩
            · simp (config := {maxSteps := 3000000}) only [run_skip, run_reg, run_seq, run_blk, run_cond, if_true, if_false, at_code_n, at_blk_n, at_rnd_n, ops_nil, ops_grd, grd_tt, ops_mv, ops_pick, ops_bin, ops_fld, ops_ix, ops_load, ops_len, ev_t, ev_c, put_get, opv_mk, over_get, rel_mk, vnat, put_box_same, args0, List.getD_cons_zero, List.getD_cons_succ, vpick, vbin, vbinI, norm, vfld, vlen, vix, vload, takeV, takeB, V.cells, List.length_cons, List.length_nil, List.getElem?_cons_zero, List.getElem?_cons_succ, and_true, true_and, Nat.reduceEqDiff, Nat.reduceAdd, Int.toNat_natCast, Int.reduceNeg, Nat.zero_add, Nat.add_zero, ↓reduceIte, eq_self, Bool.false_eq_true, List.contains_cons, List.contains_nil, Nat.reduceBEq, Bool.or_false, Bool.or_true, h14, h13, its_get hx, its_len, decide_eq_true (show (j : Int) < (l.length : Int) by omega), decide_eq_true d1, decide_eq_false d2]
              repeat (apply And.intro; focus (first | omega | (simp; done)))
              exact ⟨⟨j + 1, w, by omega, by simp, rfl, hL.step hs hx (fun h => d2 h.2)⟩, by omega⟩
          · simp (config := {maxSteps := 3000000}) only [run_skip, run_reg, run_seq, run_blk, run_cond, if_true, if_false, at_code_n, at_blk_n, at_rnd_n, ops_nil, ops_grd, grd_ft, ops_mv, ops_pick, ops_bin, ops_fld, ops_ix, ops_load, ops_len, ev_t, ev_c, put_get, opv_mk, over_get, rel_mk, vnat, put_box_same, args0, List.getD_cons_zero, List.getD_cons_succ, vpick, vbin, vbinI, norm, vfld, vlen, vix, vload, takeV, takeB, V.cells, List.length_cons, List.length_nil, List.getElem?_cons_zero, List.getElem?_cons_succ, and_true, true_and, Nat.reduceEqDiff, Nat.reduceAdd, Int.toNat_natCast, Int.reduceNeg, Nat.zero_add, Nat.add_zero, ↓reduceIte, eq_self, Bool.false_eq_true, List.contains_cons, List.contains_nil, Nat.reduceBEq, Bool.or_false, Bool.or_true, h14, h13, its_get hx, its_len, decide_eq_true (show (j : Int) < (l.length : Int) by omega), decide_eq_false d1]
            repeat (apply And.intro; focus (first | omega | (simp; done)))
            exact ⟨⟨j + 1, w, by omega, by simp, rfl, hL.step hs hx (fun h => d1 h.1)⟩, by omega⟩
        · have hnw := hL.fin (by omega) n1 n3 (fun m m1 m2 => by rw [← aget_perm hp hkeys]; exact n4 m m1 m2)
          subst hnw
          simp (config := {maxSteps := 3000000}) only [run_reg, run_seq, run_exit, run_ret, run_cond, if_false, at_code_n, at_code_x, at_code_r, at_blk_x, at_rnd_x, at_fin_r, ops_nil, ops_grd, grd_tt, ops_mv, ops_pick, ops_bin, ops_len, ev_t, put_get, opv_mk, over_get, vnat, args0, List.getD_cons_zero, List.getD_cons_succ, vpick, vbin, vbinI, vlen, and_true, true_and, Nat.reduceEqDiff, Int.toNat_natCast, ↓reduceIte, vret, rvAll, rvVal, resv_1, decide_true, eq_self, Bool.false_eq_true, List.contains_cons, List.contains_nil, Nat.reduceBEq, Bool.or_false, Bool.or_true, h14, h13, its_len, decide_eq_false (show ¬ (j : Int) < (l.length : Int) by omega)]
          exact ⟨_, _, Wk.refl _, fin, rfl, rfl⟩
  · simp (config := {maxSteps := 3000000}) only [run_skip, run_reg, run_seq, run_cond, if_false, at_code_n, ops_nil, ops_mv, ops_bin, ops_fld, ops_load, ops_ext, ops_call, ev_t, ev_c, put_get, opv_mk, put_box_same, args0, List.getD_cons_zero, vbin, vbinI, vfld, vext, vload, takeV, takeB, mono_two, V.cells, obsOk, List.map_cons, List.map_nil, List.length_cons, List.length_nil, List.getElem?_cons_zero, List.getElem?_cons_succ, List.take_succ_cons, List.drop_succ_cons, List.drop_zero, List.take_nil, and_true, true_and, Nat.reduceEqDiff, Nat.reduceAdd, Nat.reduceLeDiff, Int.reduceLT, Nat.zero_add, Nat.add_zero, ↓reduceIte, eq_self, reduceCtorEq, decide_eq_false c5]
    repeat (apply And.intro; focus (first | omega | (simp; done)))
    refine Cal.mk (tblGet_v h2) ?_
    rintro _ _ ⟨rfl, rfl⟩ -
    rw [aget_perm hp hkeys]
    cases B
    · have hn : aget k l = none := hP.miss hs fun p hp e => by
        have := hB.2 ⟨p, hp, e⟩
        cases this
      simp (config := {maxSteps := 3000000}) only [run_reg, run_seq, run_ret, at_code_n, at_fin_r, ops_nil, ops_grd, grd_tt, grd_ff, grd_ft, ops_mv, ops_pick, ops_bin, ops_un, ops_binb, vbinb, ops_ext, ev_t, ev_c, put_get, opv_mk, vpick, vbin, vbinI, vun, vext, obsOk, List.getElem?_cons_zero, List.getElem?_cons_succ, and_true, true_and, Nat.reduceEqDiff, ↓reduceIte, vret, rvAll, rvVal, resv_1, decide_true, Bool.not_false, eq_self, Bool.false_eq_true, hn, Option.isSome_none, Option.getD_none, bF]
      exact ⟨_, _, Wk.refl _, fin, rfl, rfl⟩
    · obtain ⟨p, hpi, e⟩ := hB.1 rfl
      have hn := (hP.hit hpi e).1
      have hi0 : (0 : Int) ≤ (i : Int) := by omega
      simp (config := {maxSteps := 3000000}) only [run_reg, run_seq, run_ret, at_code_n, at_fin_r, ops_nil, ops_grd, grd_und, grd_tt, grd_tf, ops_mv, ops_pick, ops_bin, ops_binb, vbinb, ops_fld, ops_ix, ops_load, ops_ext, ev_t, ev_c, put_get, opv_mk, args0, List.getD_cons_zero, List.getD_cons_succ, vpick, vbin, vbinI, vfld, vext, vix, vload, takeV, V.cells, obsOk, List.length_cons, List.length_nil, List.getElem?_cons_zero, List.getElem?_cons_succ, and_true, true_and, Nat.reduceEqDiff, Nat.reduceAdd, Int.toNat_natCast, Nat.zero_add, ↓reduceIte, vret, rvAll, rvVal, resv_1, decide_true, eq_self, Bool.false_eq_true, hn, Option.isSome_some, Option.getD_some, bT, its_get hpi, hi0]
      exact ⟨_, _, Wk.refl _, fin, rfl, rfl⟩
/-- A step's answer. -/
def StepT (st : St) (b mb : Nat) (most : Int) (l : List It) (v : V) (s : St) : Prop :=
  ∃ (T' l' : List It) (es' : List (V × V × Nat)) (c' : Nat), v = .tup [.sl .no (its l'), .sc (.bool true)] ∧ s = st.put mb [.mp true [.int .i64, .int .u16] es' c'] ∧ TblB s b mb most T' es' c' ∧ T'.Perm l' ∧ SrtL l' ∧ l'.length ≤ l.length + 1
theorem RO.use0' {size : Nat} {st s : St} (hw : st.weak s) (hl : s.Lt) {g : Nat} (hg : s.sz ≤ g) : RO size st (s.use g 0) (.sl (.own g size) []) [] := RO.use (cs := []) hw hl hg
theorem TblB.set {s : St} (h : TblB s b mb most T es c) (k : Key) (x : Int) : TblB (s.put mb [.mp true [.int .i64, .int .u16] (mset (keyV k) (ival x) c es) (mclk es (keyV k) c)]) b mb most (aset k x T) (mset (keyV k) (ival x) c es) (mclk es (keyV k) c) :=
  ⟨by rw [put_box_ne h.bm]; exact h.box, put_box_same, Mp.set keyV_eq h.mp k x, h.bm⟩
theorem TblB.del {s : St} (h : TblB s b mb most T es c) (k : Key) : TblB (s.put mb [.mp true [.int .i64, .int .u16] (mdel (keyV k) es) c]) b mb most (adel k T) (mdel (keyV k) es) c :=
  ⟨by rw [put_box_ne h.bm]; exact h.box, put_box_same, Mp.del keyV_eq h.mp k, h.bm⟩
end
end Go.Proofs.Ytlngegoamfklgaa
