/- icmp.Answer: contract; IcmpAnswers, walked. -/
import Derived.Test.YtbmkohmhiafphaaVIcmpM
import Derived.Test.YtbmkohmhiafphaaVFrag
namespace Go.Proofs.Ytbmkohmhiafphaa
open Go Go.RowKit

/-- Is it an Echo to one? -/
def echoes (me : Int) (L : List Int) : Prop := ipE L = 0 ∧ (ipD L).dst = me ∧ (ipD L).proto = 1 ∧ (ipD L).frag % 16384 = 0 ∧ msE (ipD L).D = 0 ∧ (ipD L).D.getD 0 0 = 8 ∧ (ipD L).D.getD 1 0 = 0
instance (me : Int) (L : List Int) : Decidable (echoes me L) := by unfold echoes; infer_instance
def answD (me : Int) (L : List Int) : DG := ⟨0, 64, 1, (ipD L).id, 0, me, (ipD L).src, [], msB ⟨0, 0, numL (((ipD L).D.drop 4).take 4), (ipD L).D.drop 8⟩⟩
def answB (me : Int) (L : List Int) : List Int := if echoes me L then ipB (answD me L) else []
theorem answM_ok {D : List Int} (hB : IsB D) : (MS.mk 0 0 (numL ((D.drop 4).take 4)) (D.drop 8)).Ok := ⟨by simp, by simp, num4 hB 4, hB.drop _⟩
theorem answD_ok {me : Int} (h0 : 0 ≤ me) (h1 : me < 4294967296) {L : List Int} (hB : IsB L) (h : ipE L = 0) : (answD me L).Ok :=
  ⟨by simp [answD], by simp [answD], by simp [answD], (ipD_lim hB h).ok.id, by simp [answD], ⟨h0, h1⟩, (ipD_lim hB h).ok.src, (fun _ hx => nomatch hx), msB_isB (answM_ok (ipD_lim hB h).ok.D)⟩
theorem answD_fits {me : Int} {L : List Int} (hB : IsB L) (h : ipE L = 0) (hL : L.length ≤ 2000) : ipFits (answD me L) := by
  have := (ipD_lim hB h).len
  refine ⟨by simp [answD], by simp [answD], ?_⟩
  simp only [answD, msB_len, List.length_drop, List.length_nil]; omega
section
variable {tk tk' tk1 tk2 : Tk} {st : St} {L : List Int}
theorem Answer_v {me : Int} (h0 : 0 ≤ me) (h1 : me < 4294967296) (hB : IsB L) (hL : L.length ≤ 2000) : VCalls Try.prog 42 [.sc (.int .u32 me), .sl tk (bs L)] st fun r st' => r = .sl .no (bs (answB me L)) ∧ st = st' := by
  refine vcalls_enter vc42 (Nat.le_of_ble_eq_true rfl) fun hwf hok => ?_
  show Run _ Vc42.body (.fin (finQ Vc42.res _)) _ _
  unfold Vc42
  simp (config := {maxSteps := 3000000}) only [run_reg, run_seq, at_code_n, ops_nil, ops_mv, ops_call, ev_t, ev_c, put_get, opv_mk, args0, List.getD_cons_zero, List.getD_cons_succ, List.map_cons, List.map_nil, true_and, Nat.reduceEqDiff, ↓reduceIte, eq_self]
  refine Cal.mk (ip4Parse_v hB (by omega)) ?_
  rintro _ _ ⟨⟨tk1, tk2, rfl⟩, rfl⟩ -
  have hlim := ipD_lim hB
  have hA : echoes me L ↔ ipE L = 0 ∧ (ipD L).dst = me ∧ (ipD L).proto = 1 ∧ (ipD L).frag % 16384 = 0 ∧ msE (ipD L).D = 0 ∧ (ipD L).D.getD 0 0 = 8 ∧ (ipD L).D.getD 1 0 = 0 := Iff.rfl
  have hR1 : echoes me L → answB me L = ipB (answD me L) := fun h => if_pos h
  have hR2 : ¬ echoes me L → answB me L = [] := fun h => if_neg h
  have gp := fun (h : ipE L = 0) (tk : Tk) (st : St) => icmpParse_v (tk := tk) (st := st) (hlim h).ok.D (by have := (hlim h).len; omega)
  have gm := fun (h : ipE L = 0) (tk : Tk) (st : St) => icmpBuild_v (tk := tk) (st := st) _ (answM_ok (hlim h).ok.D) (by have := (hlim h).len; simp only [List.length_drop]; omega)
  have gb := fun (h : ipE L = 0) (tk tk' : Tk) (st : St) => ipBuild_v (tk := tk) (tk' := tk') (st := st) (answD me L) (answD_ok h0 h1 hB h) (by simp [answD]) (by have := (hlim h).len; simp only [answD, msB_len, List.length_drop]; omega)
  have gb := fun (h : ipE L = 0) (tk tk' : Tk) (st : St) => by
    have := gb h tk tk' st
    rw [if_pos (answD_fits hB h hL)] at this
    exact this
  have hD : answD me L = ⟨0, 64, 1, (ipD L).id, 0, me, (ipD L).src, [], msB ⟨0, 0, numL (((ipD L).D.drop 4).take 4), (ipD L).D.drop 8⟩⟩ := rfl
  generalize answB me L = R at *
  generalize echoes me L = A at *
  generalize ipB (answD me L) = IB at *
  rw [hD] at gb
  clear hD
  generalize ipD L = d at *
  generalize ipE L = e at *
  obtain ⟨tos, ttl, proto, id, frag, src, dst, O, D⟩ := d
  have hmD : msD D = if msE D = 0 then msX D else ms0 := rfl
  have hmX : msX D = ⟨D.getD 0 0, D.getD 1 0, numL ((D.drop 4).take 4), D.drop 8⟩ := rfl
  have hml : msE D = 0 → 8 ≤ D.length := fun h => by
    rcases Nat.lt_or_ge D.length 8 with h' | h'
    · unfold msE at h; rw [if_pos h'] at h; cases h
    · exact h'
  generalize msD D = md at *
  generalize msE D = me' at *
  simp only at hA gp gm gb
  generalize hMB : msB ⟨0, 0, numL ((D.drop 4).take 4), D.drop 8⟩ = MB at *
  generalize numL ((D.drop 4).take 4) = y at *
  obtain ⟨mt, mc, mw, mD⟩ := md
  simp only [DG.v, MS.v] at gp gm gb
  simp (config := {maxSteps := 3000000}) only [run_reg, run_seq, at_code_n, ops_nil, ops_grd, ops_mv, ops_bin, ops_ext, ops_alc, ops_store, ev_t, ev_c, put_get, put_none, opv_mk, stb_some, sto_ptr, Stp, put_box_same, put_put, vbin, vbinI, vext, splice, V.cells, ptrV, obsOk, List.length_cons, List.length_nil, List.getElem?_cons_zero, List.getElem?_cons_succ, List.take_zero, List.drop_succ_cons, List.nil_append, List.append_nil, List.drop_nil, true_and, Nat.reduceEqDiff, Nat.reduceAdd, Nat.reduceLT, Nat.reduceLeDiff, Nat.reduceLT, Nat.zero_add, ↓reduceIte, ne_eq, eq_self, DG.v]
  intro b hb
  have fin : ∀ s : St, st.weak s → ¬ A → ∃ (r' : V) (st'' : St), Wk (V.sl .nil []) r' ∧ st''.weak s ∧ r' = .sl .no (bs R) ∧ st = st'' := fun s hw h => ⟨_, st, Wk.no, hw, by rw [hR2 h]; rfl, rfl⟩
  by_cases he : e = 0
  rotate_left
  · simp (config := {maxSteps := 3000000}) only [run_reg, run_seq, run_ret, run_cond, if_true, at_code_n, at_code_r, at_fin_r, ops_nil, ops_grd, grd_tf, ops_mv, ops_pick, ev_t, ev_c, put_get, opv_mk, vpick, and_true, true_and, Nat.reduceEqDiff, ↓reduceIte, vret, rvAll, rvVal, resv_1, eq_self, decide_eq_true he]
    exact fin _ (weak_put hwf.weak hb) (fun h => he (hA.1 h).1)
  have d0 := decide_eq_false (show ¬ ¬ e = 0 by omega)
  have hfr := (hlim he).ok.frag
  simp only at hfr
  have hm := u16_mask14 hfr.1 hfr.2
  by_cases c1 : dst = me
  rotate_left
  · simp (config := {maxSteps := 3000000}) only [run_reg, run_seq, run_ret, run_cond, if_true, at_code_n, at_code_r, at_fin_r, ops_nil, ops_grd, grd_ff, grd_tf, ops_mv, ops_pick, ops_bin, ops_fld, ops_load, ev_t, ev_c, put_get, opv_mk, put_box_same, args0, List.getD_cons_zero, vpick, vbin, vbinI, vfld, vload, takeV, V.cells, List.length_cons, List.length_nil, List.getElem?_cons_zero, List.getElem?_cons_succ, and_true, true_and, Nat.reduceEqDiff, Nat.zero_add, ↓reduceIte, vret, rvAll, rvVal, resv_1, ne_eq, eq_self, reduceCtorEq, Bool.false_eq_true, d0, decide_eq_true c1]
    exact fin _ (weak_put hwf.weak hb) (fun h => c1 (hA.1 h).2.1)
  have d1 := decide_eq_false (show ¬ ¬ dst = me by omega)
  by_cases c2 : proto = 1
  rotate_left
  · simp (config := {maxSteps := 3000000}) only [run_reg, run_seq, run_ret, run_cond, if_true, at_code_n, at_code_r, at_fin_r, ops_nil, ops_grd, grd_ff, grd_tf, ops_mv, ops_pick, ops_bin, ops_fld, ops_load, ev_t, ev_c, put_get, opv_mk, put_box_same, args0, List.getD_cons_zero, vpick, vbin, vbinI, vfld, vload, takeV, V.cells, List.length_cons, List.length_nil, List.getElem?_cons_zero, List.getElem?_cons_succ, and_true, true_and, Nat.reduceEqDiff, Nat.zero_add, ↓reduceIte, vret, rvAll, rvVal, resv_1, ne_eq, eq_self, reduceCtorEq, Bool.false_eq_true, d0, d1, decide_eq_true c2]
    exact fin _ (weak_put hwf.weak hb) (fun h => c2 (hA.1 h).2.2.1)
  have d2 := decide_eq_false (show ¬ ¬ proto = 1 by omega)
  by_cases c3 : frag % 16384 = 0
  rotate_left
  · have d3 := decide_eq_true (p := ¬ frag % 16384 = 0) c3
    simp (config := {maxSteps := 3000000}) only [run_reg, run_seq, run_ret, run_cond, if_true, at_code_n, at_code_r, at_fin_r, ops_nil, ops_grd, grd_ff, ops_mv, ops_pick, ops_bin, ops_fld, ops_load, ev_t, ev_c, put_get, opv_mk, put_box_same, args0, List.getD_cons_zero, vpick, vbin, vbinI, vfld, vload, takeV, V.cells, List.length_cons, List.length_nil, List.getElem?_cons_zero, List.getElem?_cons_succ, and_true, true_and, Nat.reduceEqDiff, Nat.zero_add, ↓reduceIte, vret, rvAll, rvVal, resv_1, ne_eq, eq_self, reduceCtorEq, Bool.false_eq_true, d0, d1, d2, hm, d3]
    exact fin _ (weak_put hwf.weak hb) (fun h => c3 (hA.1 h).2.2.2.1)
  have d3 := decide_eq_false (p := ¬ frag % 16384 = 0) (by omega)
  simp (config := {maxSteps := 3000000}) only [run_skip, run_reg, run_seq, run_cond, if_false, at_code_n, ops_nil, ops_grd, grd_ff, ops_mv, ops_pick, ops_bin, ops_fld, ops_load, ops_call, ev_t, ev_c, put_get, opv_mk, put_box_same, args0, List.getD_cons_zero, vpick, vbin, vbinI, vfld, vload, takeV, V.cells, List.map_cons, List.map_nil, List.length_cons, List.length_nil, List.getElem?_cons_zero, List.getElem?_cons_succ, true_and, Nat.reduceEqDiff, Nat.zero_add, ↓reduceIte, ne_eq, eq_self, reduceCtorEq, Bool.false_eq_true, d0, d1, d2, hm, d3]
  refine Cal.mk (gp he _ _) ?_
  rintro _ _ ⟨⟨tk3, rfl⟩, rfl⟩ -
  simp (config := {maxSteps := 3000000}) only [run_reg, run_seq, at_code_n, ops_nil, ops_grd, ops_mv, ops_bin, ops_ext, ops_alc, ops_store, ev_t, ev_c, put_get, put_none, opv_mk, stb_some, sto_ptr, Stp, put_box_same, put_sz, put_put, vbin, vbinI, vext, splice, V.cells, ptrV, obsOk, List.length_cons, List.length_nil, List.getElem?_cons_zero, List.getElem?_cons_succ, List.take_zero, List.drop_succ_cons, List.nil_append, List.append_nil, List.drop_nil, true_and, Nat.reduceEqDiff, Nat.reduceAdd, Nat.reduceLT, Nat.reduceLeDiff, Nat.reduceLT, Nat.zero_add, ↓reduceIte, ne_eq, eq_self]
  intro d hd
  obtain ⟨hd1, hbd⟩ : st.sz ≤ d ∧ b < d := by omega
  by_cases c4 : me' = 0
  rotate_left
  · simp (config := {maxSteps := 3000000}) only [run_reg, run_seq, run_ret, run_cond, if_true, at_code_n, at_code_r, at_fin_r, ops_nil, ops_grd, grd_tf, ops_mv, ops_pick, ev_t, ev_c, put_get, opv_mk, vpick, and_true, true_and, Nat.reduceEqDiff, ↓reduceIte, vret, rvAll, rvVal, resv_1, eq_self, decide_eq_true c4]
    exact fin _ (weak_put (weak_put hwf.weak hb) hd1) (fun h => c4 (hA.1 h).2.2.2.2.1)
  have d4 := decide_eq_false (show ¬ ¬ me' = 0 by omega)
  rw [if_pos c4, hmX] at hmD
  injection hmD with e1 e2 e3 e4
  subst e1 e2 e3 e4
  by_cases c5 : D.getD 0 0 = 8
  rotate_left
  · simp (config := {maxSteps := 3000000}) only [run_reg, run_seq, run_ret, run_cond, if_true, at_code_n, at_code_r, at_fin_r, ops_nil, ops_grd, grd_ff, grd_tf, ops_mv, ops_pick, ops_bin, ops_fld, ops_load, ev_t, ev_c, put_get, opv_mk, put_box_same, vpick, vbin, vbinI, vfld, vload, takeV, V.cells, List.length_cons, List.length_nil, List.getElem?_cons_zero, and_true, true_and, Nat.reduceEqDiff, Nat.zero_add, Nat.add_zero, ↓reduceIte, vret, rvAll, rvVal, resv_1, ne_eq, eq_self, Bool.false_eq_true, d4, decide_eq_true c5]
    exact fin _ (weak_put (weak_put hwf.weak hb) hd1) (fun h => c5 (hA.1 h).2.2.2.2.2.1)
  have d5 := decide_eq_false (show ¬ ¬ D.getD 0 0 = 8 by omega)
  by_cases c6 : D.getD 1 0 = 0
  rotate_left
  · simp (config := {maxSteps := 3000000}) only [run_reg, run_seq, run_ret, run_cond, if_true, at_code_n, at_code_r, at_fin_r, ops_nil, ops_grd, grd_ff, ops_mv, ops_pick, ops_bin, ops_fld, ops_load, ev_t, ev_c, put_get, opv_mk, put_box_same, vpick, vbin, vbinI, vfld, vload, takeV, V.cells, List.length_cons, List.length_nil, List.getElem?_cons_zero, List.getElem?_cons_succ, and_true, true_and, Nat.reduceEqDiff, Nat.zero_add, Nat.add_zero, ↓reduceIte, vret, rvAll, rvVal, resv_1, ne_eq, eq_self, Bool.false_eq_true, d4, d5, decide_eq_true c6]
    exact fin _ (weak_put (weak_put hwf.weak hb) hd1) (fun h => c6 (hA.1 h).2.2.2.2.2.2)
  have d6 := decide_eq_false (show ¬ ¬ D.getD 1 0 = 0 by omega)
  rw [hR1 (hA.2 ⟨he, c1, c2, c3, c4, c5, c6⟩)]
  rw [c6] at *
  simp (config := {maxSteps := 3000000}) only [run_skip, run_reg, run_seq, run_cond, if_false, at_code_n, ops_nil, ops_grd, grd_ff, ops_mv, ops_pick, ops_bin, ops_fld, ops_load, ops_store, ops_call, ev_t, ev_c, put_get, put_none, opv_mk, stb_some, sto_ptr, Stp, put_box_same, put_put, args0, List.getD_cons_zero, vpick, vbin, vbinI, vfld, vload, takeV, splice, V.cells, obsOk, List.map_cons, List.map_nil, List.length_cons, List.length_nil, List.getElem?_cons_zero, List.getElem?_cons_succ, List.take_succ_cons, List.take_zero, List.drop_succ_cons, List.drop_zero, List.cons_append, List.nil_append, List.take_nil, true_and, Nat.reduceEqDiff, Nat.reduceAdd, Nat.reduceLT, Nat.reduceLeDiff, Nat.reduceLT, Nat.zero_add, Nat.add_zero, ↓reduceIte, decide_false, ne_eq, not_true_eq_false, eq_self, reduceCtorEq, Bool.false_eq_true, d4, d5, put_box_ne (Nat.ne_of_lt hbd)]
  refine Cal.mk (gm he _ _) ?_
  rintro _ _ ⟨rfl, rfl⟩ -
  simp (config := {maxSteps := 3000000}) only [ops_bld, ops_call, ev_t, ev_c, put_get, opv_mk, vbld, put_box_same, vload, takeV, fillV, splice, V.cells, obsOk, List.map_cons, List.map_nil, List.length_cons, List.length_nil, List.getElem?_cons_zero, List.getElem?_cons_succ, List.take_succ_cons, List.take_zero, List.drop_succ_cons, List.drop_zero, List.cons_append, List.nil_append, List.append_nil, List.drop_nil, and_true, true_and, Nat.reduceEqDiff, Nat.reduceAdd, Nat.reduceLT, Nat.reduceLeDiff, Nat.reduceLT, Nat.zero_add, ↓reduceIte, eq_self, put_box_ne (Nat.ne_of_lt hbd)]
  refine Cal.mk (gb he _ _ _) ?_
  rintro _ _ ⟨rfl, rfl⟩ -
  simp (config := {maxSteps := 3000000}) only [run_reg, run_seq, run_ret, at_code_n, at_fin_r, ops_nil, ops_mv, ops_ext, ev_t, put_get, opv_mk, vext, obsOk, List.getElem?_cons_zero, List.getElem?_cons_succ, and_true, true_and, Nat.reduceEqDiff, ↓reduceIte, vret, rvAll, rvVal, resv_1, eq_self]
  exact ⟨_, _, Wk.no, weak_put (weak_put hwf.weak hb) hd1, rfl, rfl⟩
theorem IcmpAnswers_v {me : Int} (h0 : 0 ≤ me) (h1 : me < 4294967296) (hB : IsB L) : VCalls Try.prog 11 [.sc (.int .u32 me), .sl tk (bs L)] st fun r _ => r = .sc (.bool true) := by
  refine vcalls_enter vc11 (Nat.le_of_ble_eq_true rfl) fun hwf hok => ?_
  show Run _ Vc11.body (.fin (finQ Vc11.res _)) _ _
  unfold Vc11
  have g0 : ∀ s : St, st.weak s → ∃ (r' : V) (st'' : St), Wk (V.sc (.bool true)) r' ∧ st''.weak s ∧ r' = V.sc (.bool true) := fun s hw => ⟨_, st, Wk.refl _, hw, rfl⟩
  by_cases hl : 500 < (L.length : Int)
  · simp (config := {maxSteps := 3000000}) only [run_reg, run_seq, run_ret, run_cond, if_true, at_code_n, at_code_r, at_fin_r, ops_nil, ops_mv, ops_bin, ops_len, ev_t, ev_c, put_get, opv_mk, args0, List.getD_cons_zero, List.getD_cons_succ, vbin, vbinI, vlen, and_true, true_and, Nat.reduceEqDiff, ↓reduceIte, vret, rvAll, rvVal, resv_1, eq_self, bs_len, decide_eq_true hl]
    exact g0 _ hwf.weak
  have hL : L.length ≤ 2000 := by omega
  simp (config := {maxSteps := 3000000}) only [run_skip, run_reg, run_seq, run_cond, if_false, at_code_n, ops_nil, ops_mv, ops_bin, ops_len, ops_call, ev_t, ev_c, put_get, opv_mk, args0, List.getD_cons_zero, List.getD_cons_succ, vbin, vbinI, vlen, List.map_cons, List.map_nil, true_and, Nat.reduceEqDiff, ↓reduceIte, eq_self, bs_len, decide_eq_false hl]
  refine Cal.mk (ref13Parse_v hB (by omega)) ?_
  rintro _ _ ⟨⟨tk1, tk2, rfl⟩, rfl⟩ -
  have ga := fun st : St => Answer_v (tk := tk) (st := st) h0 h1 hB hL
  have hlim := ipD_lim hB
  have hA : echoes me L ↔ ipE L = 0 ∧ (ipD L).dst = me ∧ (ipD L).proto = 1 ∧ (ipD L).frag % 16384 = 0 ∧ msE (ipD L).D = 0 ∧ (ipD L).D.getD 0 0 = 8 ∧ (ipD L).D.getD 1 0 = 0 := Iff.rfl
  have hR1 : echoes me L → answB me L = ipB (answD me L) := fun h => if_pos h
  have hR2 : ¬ echoes me L → answB me L = [] := fun h => if_neg h
  have gm := fun (h : ipE L = 0) (tk : Tk) (st : St) => refBuild55_v (tk := tk) (st := st) _ (answM_ok (hlim h).ok.D) (by have := (hlim h).len; simp only [List.length_drop]; omega)
  have gb := fun (h : ipE L = 0) (tk tk' : Tk) (st : St) => refBuild13_v (tk := tk) (tk' := tk') (st := st) (answD me L) (answD_ok h0 h1 hB h) (by simp [answD]) (by have := (hlim h).len; simp only [answD, msB_len, List.length_drop]; omega)
  have gb := fun (h : ipE L = 0) (tk tk' : Tk) (st : St) => by
    have := gb h tk tk' st
    rw [if_pos (answD_fits hB h hL)] at this
    exact this
  have hD : answD me L = ⟨0, 64, 1, (ipD L).id, 0, me, (ipD L).src, [], msB ⟨0, 0, numL (((ipD L).D.drop 4).take 4), (ipD L).D.drop 8⟩⟩ := rfl
  generalize answB me L = R at *
  generalize echoes me L = A at *
  generalize ipB (answD me L) = IB at *
  rw [hD] at gb
  clear hD
  generalize ipD L = d at *
  generalize ipE L = e at *
  obtain ⟨tos, ttl, proto, id, frag, src, dst, O, D⟩ := d
  have hml : msE D = if D.length < 8 then 10 else if ckS D ≠ 0 then 50 else 0 := rfl
  generalize msE D = me' at *
  simp only at hA gm gb
  generalize hMB : msB ⟨0, 0, numL ((D.drop 4).take 4), D.drop 8⟩ = MB at *
  have hyr := fun (h : e = 0) => num4 (hlim h).ok.D 4
  simp only at hyr
  generalize hyy : numL ((D.drop 4).take 4) = y at *
  simp only [DG.v, MS.v] at gm gb
  simp (config := {maxSteps := 3000000}) only [run_reg, run_seq, at_code_n, ops_nil, ops_grd, ops_mv, ops_bin, ops_fld, ops_load, ops_ext, ops_alc, ops_store, ev_t, ev_c, put_get, put_none, opv_mk, stb_some, sto_ptr, Stp, put_box_same, put_put, vbin, vbinI, vfld, vext, vload, takeV, splice, V.cells, ptrV, obsOk, List.length_cons, List.length_nil, List.getElem?_cons_zero, List.getElem?_cons_succ, List.take_zero, List.drop_succ_cons, List.nil_append, List.append_nil, List.drop_nil, true_and, Nat.reduceEqDiff, Nat.reduceAdd, Nat.reduceLT, Nat.reduceLeDiff, Nat.reduceLT, Nat.zero_add, ↓reduceIte, eq_self, DG.v]
  intro b hb
  by_cases he : e = 0
  rotate_left
  · skip
    simp (config := {maxSteps := 3000000}) only [run_skip, run_reg, run_seq, run_cond, if_false, at_code_n, ops_nil, ops_grd, grd_ft, ops_mv, ops_pick, ops_call, ev_t, ev_c, put_get, opv_mk, args0, List.getD_cons_zero, List.getD_cons_succ, vpick, List.map_cons, List.map_nil, true_and, Nat.reduceEqDiff, ↓reduceIte, eq_self, reduceCtorEq, Bool.false_eq_true, decide_eq_false he]
    rw [hR2 (fun h => he (hA.1 h).1)] at ga
    refine Cal.mk (ga _) ?_
    rintro _ _ ⟨rfl, rfl⟩ -
    simp (config := {maxSteps := 3000000}) only [ops_mv, ops_call, ev_t, put_get, opv_mk, obsOk, List.map_cons, List.map_nil, true_and, Nat.reduceEqDiff, ↓reduceIte, eq_self]
    refine Cal.mk (eqB_v (L := []) (M := [])) ?_
    rintro _ _ ⟨rfl, rfl⟩ -
    simp (config := {maxSteps := 3000000}) only [ops_grd, grd_tt, ops_mv, ops_call, ev_t, put_get, opv_mk, obsOk, List.map_nil, true_and, ↓reduceIte, decide_true, eq_self]
    refine Cal.mk alive55_v ?_
    rintro _ _ ⟨rfl, rfl⟩ -
    simp (config := {maxSteps := 3000000}) only [run_ret, at_code_n, at_fin_r, ops_nil, ops_mv, ops_pick, ev_t, put_get, opv_mk, vpick, obsOk, and_true, true_and, Nat.reduceEqDiff, ↓reduceIte, vret, rvAll, rvVal, resv_1, eq_self]
    exact g0 _ (weak_put hwf.weak hb)
  have d0 := decide_eq_true he
  have hfr := (hlim he).ok.frag
  simp only at hfr
  have hBD : IsB D := (hlim he).ok.D
  have hlD := (hlim he).len
  simp only at hlD
  by_cases c1 : dst = me
  rotate_left
  · skip
    simp (config := {maxSteps := 3000000}) only [run_skip, run_reg, run_seq, run_cond, if_false, at_code_n, ops_nil, ops_grd, grd_tt, grd_ft, ops_mv, ops_pick, ops_bin, ops_fld, ops_load, ops_call, ev_t, ev_c, put_get, opv_mk, put_box_same, args0, List.getD_cons_zero, List.getD_cons_succ, vpick, vbin, vbinI, vfld, vload, takeV, V.cells, List.map_cons, List.map_nil, List.length_cons, List.length_nil, List.getElem?_cons_zero, List.getElem?_cons_succ, true_and, Nat.reduceEqDiff, Nat.zero_add, ↓reduceIte, eq_self, reduceCtorEq, Bool.false_eq_true, d0, decide_eq_false c1]
    rw [hR2 (fun h => c1 (hA.1 h).2.1)] at ga
    refine Cal.mk (ga _) ?_
    rintro _ _ ⟨rfl, rfl⟩ -
    simp (config := {maxSteps := 3000000}) only [ops_mv, ops_call, ev_t, put_get, opv_mk, obsOk, List.map_cons, List.map_nil, true_and, Nat.reduceEqDiff, ↓reduceIte, eq_self]
    refine Cal.mk (eqB_v (L := []) (M := [])) ?_
    rintro _ _ ⟨rfl, rfl⟩ -
    simp (config := {maxSteps := 3000000}) only [ops_grd, grd_tt, ops_mv, ops_call, ev_t, put_get, opv_mk, obsOk, List.map_nil, true_and, ↓reduceIte, decide_true, eq_self]
    refine Cal.mk alive55_v ?_
    rintro _ _ ⟨rfl, rfl⟩ -
    simp (config := {maxSteps := 3000000}) only [run_ret, at_code_n, at_fin_r, ops_nil, ops_mv, ops_pick, ev_t, put_get, opv_mk, vpick, obsOk, and_true, true_and, Nat.reduceEqDiff, ↓reduceIte, vret, rvAll, rvVal, resv_1, eq_self]
    exact g0 _ (weak_put hwf.weak hb)
  have d1 := decide_eq_true c1
  by_cases c2 : proto = 1
  rotate_left
  · skip
    simp (config := {maxSteps := 3000000}) only [run_skip, run_reg, run_seq, run_cond, if_false, at_code_n, ops_nil, ops_grd, grd_tt, grd_ft, ops_mv, ops_pick, ops_bin, ops_fld, ops_load, ops_call, ev_t, ev_c, put_get, opv_mk, put_box_same, args0, List.getD_cons_zero, List.getD_cons_succ, vpick, vbin, vbinI, vfld, vload, takeV, V.cells, List.map_cons, List.map_nil, List.length_cons, List.length_nil, List.getElem?_cons_zero, List.getElem?_cons_succ, true_and, Nat.reduceEqDiff, Nat.zero_add, ↓reduceIte, eq_self, reduceCtorEq, Bool.false_eq_true, d0, d1, decide_eq_false c2]
    rw [hR2 (fun h => c2 (hA.1 h).2.2.1)] at ga
    refine Cal.mk (ga _) ?_
    rintro _ _ ⟨rfl, rfl⟩ -
    simp (config := {maxSteps := 3000000}) only [ops_mv, ops_call, ev_t, put_get, opv_mk, obsOk, List.map_cons, List.map_nil, true_and, Nat.reduceEqDiff, ↓reduceIte, eq_self]
    refine Cal.mk (eqB_v (L := []) (M := [])) ?_
    rintro _ _ ⟨rfl, rfl⟩ -
    simp (config := {maxSteps := 3000000}) only [ops_grd, grd_tt, ops_mv, ops_call, ev_t, put_get, opv_mk, obsOk, List.map_nil, true_and, ↓reduceIte, decide_true, eq_self]
    refine Cal.mk alive55_v ?_
    rintro _ _ ⟨rfl, rfl⟩ -
    simp (config := {maxSteps := 3000000}) only [run_ret, at_code_n, at_fin_r, ops_nil, ops_mv, ops_pick, ev_t, put_get, opv_mk, vpick, obsOk, and_true, true_and, Nat.reduceEqDiff, ↓reduceIte, vret, rvAll, rvVal, resv_1, eq_self]
    exact g0 _ (weak_put hwf.weak hb)
  have d2 := decide_eq_true c2
  by_cases c3 : frag % 16384 = 0
  rotate_left
  · have d3 := decide_eq_false c3
    simp (config := {maxSteps := 3000000}) only [run_skip, run_reg, run_seq, run_cond, if_false, at_code_n, ops_nil, ops_grd, grd_tt, grd_ft, ops_mv, ops_pick, ops_bin, ops_fld, ops_load, ops_call, ev_t, ev_c, put_get, opv_mk, put_box_same, args0, List.getD_cons_zero, List.getD_cons_succ, vpick, vbin, vbinI, vfld, vload, takeV, V.cells, List.map_cons, List.map_nil, List.length_cons, List.length_nil, List.getElem?_cons_zero, List.getElem?_cons_succ, and_true, true_and, Nat.reduceEqDiff, Int.reduceLT, Nat.zero_add, ↓reduceIte, eq_self, reduceCtorEq, Bool.false_eq_true, d0, d1, d2, d3]
    repeat (apply And.intro; focus (first | omega | (simp; done)))
    rw [hR2 (fun h => c3 (hA.1 h).2.2.2.1)] at ga
    refine Cal.mk (ga _) ?_
    rintro _ _ ⟨rfl, rfl⟩ -
    simp (config := {maxSteps := 3000000}) only [ops_mv, ops_call, ev_t, put_get, opv_mk, obsOk, List.map_cons, List.map_nil, true_and, Nat.reduceEqDiff, ↓reduceIte, eq_self]
    refine Cal.mk (eqB_v (L := []) (M := [])) ?_
    rintro _ _ ⟨rfl, rfl⟩ -
    simp (config := {maxSteps := 3000000}) only [ops_grd, grd_tt, ops_mv, ops_call, ev_t, put_get, opv_mk, obsOk, List.map_nil, true_and, ↓reduceIte, decide_true, eq_self]
    refine Cal.mk alive55_v ?_
    rintro _ _ ⟨rfl, rfl⟩ -
    simp (config := {maxSteps := 3000000}) only [run_ret, at_code_n, at_fin_r, ops_nil, ops_mv, ops_pick, ev_t, put_get, opv_mk, vpick, obsOk, and_true, true_and, Nat.reduceEqDiff, ↓reduceIte, vret, rvAll, rvVal, resv_1, eq_self]
    exact g0 _ (weak_put hwf.weak hb)
  have d3 := decide_eq_true c3
  by_cases c7 : D.length < 8
  · have d7 := decide_eq_false (show ¬ 8 ≤ (D.length : Int) by omega)
    rw [if_pos c7] at hml
    simp (config := {maxSteps := 3000000}) only [run_skip, run_reg, run_seq, run_cond, if_false, at_code_n, ops_nil, ops_grd, grd_tt, grd_ft, ops_mv, ops_pick, ops_bin, ops_fld, ops_load, ops_len, ops_call, ev_t, ev_c, put_get, opv_mk, put_box_same, args0, List.getD_cons_zero, List.getD_cons_succ, vpick, vbin, vbinI, vfld, vlen, vload, takeV, V.cells, List.map_cons, List.map_nil, List.length_cons, List.length_nil, List.getElem?_cons_zero, List.getElem?_cons_succ, and_true, true_and, Nat.reduceEqDiff, Int.reduceLT, Nat.zero_add, ↓reduceIte, eq_self, reduceCtorEq, Bool.false_eq_true, d0, d1, d2, d3, bs_len, d7]
    repeat (apply And.intro; focus (first | omega | (simp; done)))
    rw [hR2 (fun h => by have := (hA.1 h).2.2.2.2.1; omega)] at ga
    refine Cal.mk (ga _) ?_
    rintro _ _ ⟨rfl, rfl⟩ -
    simp (config := {maxSteps := 3000000}) only [ops_mv, ops_call, ev_t, put_get, opv_mk, obsOk, List.map_cons, List.map_nil, true_and, Nat.reduceEqDiff, ↓reduceIte, eq_self]
    refine Cal.mk (eqB_v (L := []) (M := [])) ?_
    rintro _ _ ⟨rfl, rfl⟩ -
    simp (config := {maxSteps := 3000000}) only [ops_grd, grd_tt, ops_mv, ops_call, ev_t, put_get, opv_mk, obsOk, List.map_nil, true_and, ↓reduceIte, decide_true, eq_self]
    refine Cal.mk alive55_v ?_
    rintro _ _ ⟨rfl, rfl⟩ -
    simp (config := {maxSteps := 3000000}) only [run_ret, at_code_n, at_fin_r, ops_nil, ops_mv, ops_pick, ev_t, put_get, opv_mk, vpick, obsOk, and_true, true_and, Nat.reduceEqDiff, ↓reduceIte, vret, rvAll, rvVal, resv_1, eq_self]
    exact g0 _ (weak_put hwf.weak hb)
  have d7 := decide_eq_true (show 8 ≤ (D.length : Int) by omega)
  rw [if_neg c7] at hml
  simp (config := {maxSteps := 3000000}) only [ops_grd, grd_tt, ops_mv, ops_pick, ops_bin, ops_fld, ops_load, ops_len, ops_call, ev_t, ev_c, put_get, opv_mk, put_box_same, args0, List.getD_cons_zero, vpick, vbin, vbinI, vfld, vlen, vload, takeV, V.cells, List.map_cons, List.map_nil, List.length_cons, List.length_nil, List.getElem?_cons_zero, List.getElem?_cons_succ, and_true, true_and, Nat.reduceEqDiff, Int.reduceLT, Nat.zero_add, ↓reduceIte, eq_self, reduceCtorEq, d0, d1, d2, d3, bs_len, d7]
  repeat (apply And.intro; focus (first | omega | (simp; done)))
  refine Cal.mk (ref05Of_v hBD (by omega)) ?_
  rintro _ _ ⟨rfl, rfl⟩ -
  by_cases c4 : ckS D = 0
  rotate_left
  · have d4 := decide_eq_false c4
    rw [if_pos c4] at hml
    simp (config := {maxSteps := 3000000}) only [run_skip, run_reg, run_seq, run_cond, if_false, at_code_n, ops_nil, ops_grd, grd_tt, grd_ft, ops_mv, ops_pick, ops_bin, ops_call, ev_t, ev_c, put_get, opv_mk, args0, List.getD_cons_zero, List.getD_cons_succ, vpick, vbin, vbinI, obsOk, List.map_cons, List.map_nil, true_and, Nat.reduceEqDiff, ↓reduceIte, eq_self, reduceCtorEq, Bool.false_eq_true, d4]
    rw [hR2 (fun h => by have := (hA.1 h).2.2.2.2.1; omega)] at ga
    refine Cal.mk (ga _) ?_
    rintro _ _ ⟨rfl, rfl⟩ -
    simp (config := {maxSteps := 3000000}) only [ops_mv, ops_call, ev_t, put_get, opv_mk, obsOk, List.map_cons, List.map_nil, true_and, Nat.reduceEqDiff, ↓reduceIte, eq_self]
    refine Cal.mk (eqB_v (L := []) (M := [])) ?_
    rintro _ _ ⟨rfl, rfl⟩ -
    simp (config := {maxSteps := 3000000}) only [ops_grd, grd_tt, ops_mv, ops_call, ev_t, put_get, opv_mk, obsOk, List.map_nil, true_and, ↓reduceIte, decide_true, eq_self]
    refine Cal.mk alive55_v ?_
    rintro _ _ ⟨rfl, rfl⟩ -
    simp (config := {maxSteps := 3000000}) only [run_ret, at_code_n, at_fin_r, ops_nil, ops_mv, ops_pick, ev_t, put_get, opv_mk, vpick, obsOk, and_true, true_and, Nat.reduceEqDiff, ↓reduceIte, vret, rvAll, rvVal, resv_1, eq_self]
    exact g0 _ (weak_put hwf.weak hb)
  have d4 := decide_eq_true c4
  rw [if_neg (by simp [c4])] at hml
  obtain ⟨x0, x0h⟩ := get_ex (L := D) (i := 0) (by omega)
  obtain ⟨x1, x1h⟩ := get_ex (L := D) (i := 1) (by omega)
  have hg0 : D.getD 0 0 = x0 := by simp [List.getD, x0h]
  have hg1 : D.getD 1 0 = x1 := by simp [List.getD, x1h]
  rw [hg0, hg1] at hA
  by_cases c5 : x0 = 8
  rotate_left
  · have d5 := decide_eq_false c5
    simp (config := {maxSteps := 3000000}) only [run_skip, run_reg, run_seq, run_cond, if_false, at_code_n, ops_nil, ops_grd, grd_tt, grd_ft, ops_mv, ops_pick, ops_bin, ops_ix, ops_load, ops_call, ev_t, ev_c, put_get, opv_mk, args0, List.getD_cons_zero, List.getD_cons_succ, vpick, vbin, vbinI, vix, vload, takeV, V.cells, obsOk, List.map_cons, List.map_nil, List.length_cons, List.length_nil, List.getElem?_cons_zero, Option.map_some, and_true, true_and, Nat.reduceEqDiff, Int.reduceToNat, Int.reduceLE, Nat.zero_add, ↓reduceIte, eq_self, reduceCtorEq, Bool.false_eq_true, d4, bs_get, x0h, d5]
    rw [hR2 (fun h => c5 (hA.1 h).2.2.2.2.2.1)] at ga
    refine Cal.mk (ga _) ?_
    rintro _ _ ⟨rfl, rfl⟩ -
    simp (config := {maxSteps := 3000000}) only [ops_mv, ops_call, ev_t, put_get, opv_mk, obsOk, List.map_cons, List.map_nil, true_and, Nat.reduceEqDiff, ↓reduceIte, eq_self]
    refine Cal.mk (eqB_v (L := []) (M := [])) ?_
    rintro _ _ ⟨rfl, rfl⟩ -
    simp (config := {maxSteps := 3000000}) only [ops_grd, grd_tt, ops_mv, ops_call, ev_t, put_get, opv_mk, obsOk, List.map_nil, true_and, ↓reduceIte, decide_true, eq_self]
    refine Cal.mk alive55_v ?_
    rintro _ _ ⟨rfl, rfl⟩ -
    simp (config := {maxSteps := 3000000}) only [run_ret, at_code_n, at_fin_r, ops_nil, ops_mv, ops_pick, ev_t, put_get, opv_mk, vpick, obsOk, and_true, true_and, Nat.reduceEqDiff, ↓reduceIte, vret, rvAll, rvVal, resv_1, eq_self]
    exact g0 _ (weak_put hwf.weak hb)
  have d5 := decide_eq_true c5
  by_cases c6 : x1 = 0
  rotate_left
  · have d6 := decide_eq_false c6
    simp (config := {maxSteps := 3000000}) only [run_skip, run_reg, run_seq, run_cond, if_false, at_code_n, ops_nil, ops_grd, grd_tt, ops_mv, ops_pick, ops_bin, ops_ix, ops_load, ops_call, ev_t, ev_c, put_get, opv_mk, args0, List.getD_cons_zero, List.getD_cons_succ, vpick, vbin, vbinI, vix, vload, takeV, V.cells, obsOk, List.map_cons, List.map_nil, List.length_cons, List.length_nil, List.getElem?_cons_zero, Option.map_some, and_true, true_and, Nat.reduceEqDiff, Int.reduceToNat, Int.reduceLE, Nat.zero_add, ↓reduceIte, eq_self, reduceCtorEq, d4, bs_get, x0h, d5, x1h, d6]
    rw [hR2 (fun h => c6 (hA.1 h).2.2.2.2.2.2)] at ga
    refine Cal.mk (ga _) ?_
    rintro _ _ ⟨rfl, rfl⟩ -
    simp (config := {maxSteps := 3000000}) only [ops_mv, ops_call, ev_t, put_get, opv_mk, obsOk, List.map_cons, List.map_nil, true_and, Nat.reduceEqDiff, ↓reduceIte, eq_self]
    refine Cal.mk (eqB_v (L := []) (M := [])) ?_
    rintro _ _ ⟨rfl, rfl⟩ -
    simp (config := {maxSteps := 3000000}) only [ops_grd, grd_tt, ops_mv, ops_call, ev_t, put_get, opv_mk, obsOk, List.map_nil, true_and, ↓reduceIte, decide_true, eq_self]
    refine Cal.mk alive55_v ?_
    rintro _ _ ⟨rfl, rfl⟩ -
    simp (config := {maxSteps := 3000000}) only [run_ret, at_code_n, at_fin_r, ops_nil, ops_mv, ops_pick, ev_t, put_get, opv_mk, vpick, obsOk, and_true, true_and, Nat.reduceEqDiff, ↓reduceIte, vret, rvAll, rvVal, resv_1, eq_self]
    exact g0 _ (weak_put hwf.weak hb)
  have d6 := decide_eq_true c6
  have h48 : (D.take 8).drop 4 = (D.drop 4).take 4 := by rw [List.drop_take]
  rw [hR1 (hA.2 ⟨he, c1, c2, c3, hml, c5, c6⟩)] at ga
  obtain ⟨y0, y1⟩ := hyr he
  have ey : y % 4294967296 = y := by omega
  simp (config := {maxSteps := 3000000}) only [run_reg, run_seq, run_cond, if_true, at_code_n, ops_nil, ops_grd, grd_tt, ops_mv, ops_pick, ops_bin, ops_ix, ops_load, ops_slc, ops_call, ev_t, ev_c, put_get, opv_mk, vpick, vbin, vbinI, vix, vload, takeV, vslc, V.cells, obsOk, List.map_cons, List.map_nil, List.length_cons, List.length_nil, List.getElem?_cons_zero, Option.map_some, Option.map_none, and_true, true_and, Nat.reduceEqDiff, Int.reduceToNat, Int.reduceLE, Nat.zero_add, ↓reduceIte, eq_self, d4, bs_get, x0h, d5, x1h, d6, bs_len, bs_take, bs_drop, allSz_bs', h48]
  repeat (apply And.intro; focus (first | omega | (simp; done)))
  refine Cal.mk (rNum_v ((hBD.drop 4).take 4) (by simp; omega)) ?_
  rintro _ _ ⟨rfl, rfl⟩ -
  rw [hyy]
  simp (config := {maxSteps := 3000000}) only [run_reg, at_code_n, ops_nil, ops_conv, ops_fld, ops_load, ops_bld, ops_alcX, ops_store, ev_t, put_get, put_none, opv_mk, stb_some, sto_ptr, Stp, vbld, put_box_same, put_own, put_put, vconv, norm, vfld, vload, takeV, fillV, splice, V.cells, ptrV, obsOk, List.map_cons, List.map_nil, List.length_cons, List.length_nil, List.take_succ_cons, List.take_zero, List.drop_succ_cons, List.drop_zero, List.cons_append, List.nil_append, List.append_nil, List.drop_nil, and_true, true_and, Nat.reduceEqDiff, Nat.reduceAdd, Nat.reduceLT, Nat.reduceLeDiff, Nat.reduceLT, Nat.zero_add, ↓reduceIte, eq_self, ey]
  intro f hf _
  obtain ⟨hbf, hf⟩ := put_box_none hf
  simp (config := {maxSteps := 3000000}) only [ops_mv, ops_fld, ops_load, ops_call, ev_t, put_get, opv_mk, put_box_same, args0, List.getD_cons_zero, vfld, vload, takeV, V.cells, List.map_cons, List.map_nil, List.length_cons, List.length_nil, List.getElem?_cons_zero, List.getElem?_cons_succ, List.take_succ_cons, List.drop_zero, List.take_nil, true_and, Nat.reduceEqDiff, Nat.reduceAdd, Nat.reduceLeDiff, Nat.zero_add, ↓reduceIte, eq_self, reduceCtorEq, put_box_ne (Ne.symm hbf)]
  refine Cal.mk (gm he _ _) ?_
  rintro _ _ ⟨rfl, rfl⟩ -
  simp (config := {maxSteps := 3000000}) only [ops_bld, ops_call, ev_t, ev_c, put_get, opv_mk, vbld, put_box_same, vload, takeV, fillV, splice, V.cells, obsOk, List.map_cons, List.map_nil, List.length_cons, List.length_nil, List.getElem?_cons_zero, List.getElem?_cons_succ, List.take_succ_cons, List.take_zero, List.drop_succ_cons, List.drop_zero, List.cons_append, List.nil_append, List.append_nil, List.drop_nil, and_true, true_and, Nat.reduceEqDiff, Nat.reduceAdd, Nat.reduceLT, Nat.reduceLeDiff, Nat.reduceLT, Nat.zero_add, ↓reduceIte, eq_self, put_box_ne (Ne.symm hbf)]
  refine Cal.mk (gb he _ _ _) ?_
  rintro _ _ ⟨rfl, rfl⟩ -
  simp (config := {maxSteps := 3000000}) only [run_reg, run_seq, at_code_n, ops_nil, ops_mv, ops_call, ev_t, put_get, opv_mk, args0, List.getD_cons_zero, List.getD_cons_succ, obsOk, List.map_cons, List.map_nil, true_and, Nat.reduceEqDiff, ↓reduceIte, eq_self, reduceCtorEq]
  refine Cal.mk (ga _) ?_
  rintro _ _ ⟨rfl, rfl⟩ -
  simp (config := {maxSteps := 3000000}) only [ops_mv, ops_call, ev_t, put_get, opv_mk, obsOk, List.map_cons, List.map_nil, true_and, Nat.reduceEqDiff, ↓reduceIte, eq_self]
  refine Cal.mk (eqB_v (L := IB) (M := IB)) ?_
  rintro _ _ ⟨rfl, rfl⟩ -
  simp (config := {maxSteps := 3000000}) only [ops_grd, grd_tt, ops_mv, ops_call, ev_t, put_get, opv_mk, obsOk, List.map_nil, true_and, ↓reduceIte, decide_true, eq_self]
  refine Cal.mk alive55_v ?_
  rintro _ _ ⟨rfl, rfl⟩ -
  simp (config := {maxSteps := 3000000}) only [run_ret, at_code_n, at_fin_r, ops_nil, ops_mv, ops_pick, ev_t, put_get, opv_mk, vpick, obsOk, and_true, true_and, Nat.reduceEqDiff, ↓reduceIte, vret, rvAll, rvVal, resv_1, eq_self]
  exact g0 _ (weak_putF (weak_put hwf.weak hb) (by rw [put_box_ne hbf]; exact hf))
end
end Go.Proofs.Ytbmkohmhiafphaa
