/- IcmpAbout: what is said about any bytes; and nothing about what says an error, walked. -/
import Derived.Test.YtbmkohmhiafphaaVIcmp3
namespace Go.Proofs.Ytbmkohmhiafphaa
open Go Go.RowKit

section
variable {tk tk' : Tk} {st : St} {L : List Int}
theorem IcmpAbout_v {me : Int} (h0 : 0 ≤ me) (h1 : me < 4294967296) (hB : IsB L) (m : MS) (hm : m.Ok) : VCalls Try.prog 9 [.sc (.int .u32 me), .sl tk (bs L), m.v tk'] st fun r _ => r = .sc (.bool true) := by
  refine vcalls_enter vc9 (Nat.le_of_ble_eq_true rfl) fun hwf hok => ?_
  show Run _ Vc9.body (.fin (finQ Vc9.res _)) _ _
  unfold Vc9
  have g0 : ∀ s : St, st.weak s → ∃ (r' : V) (st'' : St), Wk (V.sc (.bool true)) r' ∧ st''.weak s ∧ r' = V.sc (.bool true) := fun s hw => ⟨_, st, Wk.refl _, hw, rfl⟩
  have ga := fun (hL : L.length ≤ 2000) (st : St) => About_v (tk := tk) (st := st) h0 h1 hB hL m hm
  have gr := fun (hL : L.length ≤ 2000) (st : St) => refAbout_v (tk := tk) (tk' := tk') (st := st) h0 h1 hB hL m hm
  have hR := fun (hL : L.length ≤ 2000) => aboutB_isB h0 h1 hB hL hm
  have gg := fun (hL : L.length ≤ 2000) (st : St) => About_v (tk := .no) (st := st) h0 h1 (hR hL).1 (hR hL).2 m hm
  have hz := fun (hL : L.length ≤ 2000) => about_again h0 h1 hB hL hm
  generalize aboutB me L m = R at *
  generalize aboutB me R m = R2 at *
  obtain ⟨t, c, w, D⟩ := m
  simp only [MS.v] at ga gr gg
  simp only at hz
  simp (config := {maxSteps := 3000000}) only [run_reg, run_seq, run_cond, at_code_n, ops_nil, ops_mv, ops_bin, ops_len, ops_box, ev_t, ev_c, put_get, opv_mk, Bx, args0, List.getD_cons_zero, List.getD_cons_succ, vbin, vbinI, vlen, V.cells, ptrV, obsOk, List.length_cons, List.length_nil, true_and, Nat.reduceEqDiff, Nat.reduceAdd, Nat.zero_add, ↓reduceIte, ne_eq, not_false_eq_true, eq_self, reduceCtorEq, MS.v]
  intro b hb
  by_cases hl : 500 < (L.length : Int)
  · simp (config := {maxSteps := 3000000}) only [run_reg, run_seq, run_ret, if_true, at_code_n, at_code_r, at_fin_r, ops_nil, ops_mv, ev_c, put_get, opv_mk, and_true, true_and, ↓reduceIte, vret, rvAll, rvVal, resv_1, eq_self, bs_len, decide_eq_true hl]
    exact g0 _ (weak_put hwf.weak hb)
  have hL : L.length ≤ 2000 := by omega
  simp (config := {maxSteps := 3000000}) only [run_skip, run_reg, run_seq, if_false, at_code_n, ops_mv, ops_fld, ops_load, ops_call, ev_t, put_get, opv_mk, put_box_same, args0, List.getD_cons_zero, List.getD_cons_succ, vfld, vload, takeV, V.cells, List.map_cons, List.map_nil, List.length_cons, List.length_nil, List.getElem?_cons_zero, List.getElem?_cons_succ, true_and, Nat.reduceEqDiff, Nat.zero_add, Nat.add_zero, ↓reduceIte, eq_self, reduceCtorEq, bs_len, decide_eq_false hl]
  refine Cal.mk (ga hL _) ?_
  rintro _ _ ⟨rfl, rfl⟩ -
  simp (config := {maxSteps := 3000000}) only [run_reg, run_seq, at_code_n, ops_nil, ops_mv, ops_load, ops_call, ev_t, put_get, opv_mk, put_box_same, args0, List.getD_cons_zero, List.getD_cons_succ, vload, takeV, obsOk, List.map_cons, List.map_nil, List.length_cons, List.length_nil, List.take_succ_cons, List.drop_zero, List.take_nil, true_and, Nat.reduceEqDiff, Nat.reduceAdd, Nat.reduceLeDiff, Nat.zero_add, ↓reduceIte, eq_self, reduceCtorEq]
  refine Cal.mk (gr hL _) ?_
  rintro _ _ ⟨rfl, rfl⟩ -
  simp (config := {maxSteps := 3000000}) only [ops_call, ev_t, put_get, obsOk, List.map_cons, List.map_nil, true_and, Nat.reduceEqDiff, ↓reduceIte, eq_self]
  refine Cal.mk (eqB_v (L := R) (M := R)) ?_
  rintro _ _ ⟨rfl, rfl⟩ -
  simp (config := {maxSteps := 3000000}) only [run_skip, run_reg, run_seq, run_cond, if_false, at_code_n, ops_nil, ops_mv, ops_un, ops_fld, ops_load, ops_call, ev_t, put_get, opv_mk, put_box_same, args0, List.getD_cons_zero, vun, vfld, vload, takeV, V.cells, obsOk, List.map_cons, List.map_nil, List.length_cons, List.length_nil, List.getElem?_cons_zero, List.getElem?_cons_succ, true_and, Nat.reduceEqDiff, Nat.zero_add, Nat.add_zero, ↓reduceIte, decide_true, Bool.not_true, eq_self, reduceCtorEq]
  refine Cal.mk (gg hL _) ?_
  rintro _ _ ⟨rfl, rfl⟩ -
  by_cases c1 : R.length = 0
  · simp (config := {maxSteps := 3000000}) only [run_reg, run_seq, at_code_n, ops_nil, ops_grd, grd_tt, grd_tf, ops_mv, ops_pick, ops_bin, ops_len, ops_call, ev_t, ev_c, put_get, opv_mk, vpick, vbin, vbinI, vlen, obsOk, List.map_nil, true_and, Nat.reduceEqDiff, ↓reduceIte, eq_self, bs_len, decide_eq_true (show (R.length : Int) = 0 by omega)]
    refine Cal.mk alive55_v ?_
    rintro _ _ ⟨rfl, rfl⟩ -
    simp (config := {maxSteps := 3000000}) only [run_ret, at_code_n, at_fin_r, ops_nil, ops_mv, ops_pick, ev_t, put_get, opv_mk, vpick, obsOk, and_true, true_and, Nat.reduceEqDiff, ↓reduceIte, vret, rvAll, rvVal, resv_1, eq_self]
    exact g0 _ (weak_put hwf.weak hb)
  have d1 := decide_eq_false (show ¬ (R.length : Int) = 0 by omega)
  by_cases c2 : t = 0
  · simp (config := {maxSteps := 3000000}) only [run_reg, run_seq, at_code_n, ops_nil, ops_grd, grd_tt, grd_ff, grd_tf, ops_mv, ops_pick, ops_bin, ops_fld, ops_load, ops_len, ops_call, ev_t, ev_c, put_get, opv_mk, put_box_same, vpick, vbin, vbinI, vfld, vlen, vload, takeV, V.cells, obsOk, List.map_nil, List.length_cons, List.length_nil, List.getElem?_cons_zero, true_and, Nat.reduceEqDiff, Nat.zero_add, Nat.add_zero, ↓reduceIte, eq_self, Bool.false_eq_true, bs_len, d1, decide_eq_true c2]
    refine Cal.mk alive55_v ?_
    rintro _ _ ⟨rfl, rfl⟩ -
    simp (config := {maxSteps := 3000000}) only [run_ret, at_code_n, at_fin_r, ops_nil, ops_mv, ops_pick, ev_t, put_get, opv_mk, vpick, obsOk, and_true, true_and, Nat.reduceEqDiff, ↓reduceIte, vret, rvAll, rvVal, resv_1, eq_self]
    exact g0 _ (weak_put hwf.weak hb)
  have d2 := decide_eq_false c2
  by_cases c3 : t = 8
  · simp (config := {maxSteps := 3000000}) only [run_reg, run_seq, at_code_n, ops_nil, ops_grd, grd_tt, grd_ff, grd_tf, ops_mv, ops_pick, ops_bin, ops_fld, ops_load, ops_len, ops_call, ev_t, ev_c, put_get, opv_mk, put_box_same, vpick, vbin, vbinI, vfld, vlen, vload, takeV, V.cells, obsOk, List.map_nil, List.length_cons, List.length_nil, List.getElem?_cons_zero, true_and, Nat.reduceEqDiff, Nat.zero_add, Nat.add_zero, ↓reduceIte, eq_self, Bool.false_eq_true, bs_len, d1, d2, decide_eq_true c3]
    refine Cal.mk alive55_v ?_
    rintro _ _ ⟨rfl, rfl⟩ -
    simp (config := {maxSteps := 3000000}) only [run_ret, at_code_n, at_fin_r, ops_nil, ops_mv, ops_pick, ev_t, put_get, opv_mk, vpick, obsOk, and_true, true_and, Nat.reduceEqDiff, ↓reduceIte, vret, rvAll, rvVal, resv_1, eq_self]
    exact g0 _ (weak_put hwf.weak hb)
  have d3 := decide_eq_false c3
  have hR2 : (R2.length : Int) = 0 := by rw [hz hL c2 c3]; rfl
  simp (config := {maxSteps := 3000000}) only [run_reg, run_seq, at_code_n, ops_nil, ops_grd, grd_tt, grd_ff, ops_mv, ops_pick, ops_bin, ops_fld, ops_load, ops_len, ops_call, ev_t, ev_c, put_get, opv_mk, put_box_same, vpick, vbin, vbinI, vfld, vlen, vload, takeV, V.cells, obsOk, List.map_nil, List.length_cons, List.length_nil, List.getElem?_cons_zero, true_and, Nat.reduceEqDiff, Nat.zero_add, Nat.add_zero, ↓reduceIte, eq_self, Bool.false_eq_true, bs_len, d1, d2, d3, decide_eq_true hR2]
  refine Cal.mk alive55_v ?_
  rintro _ _ ⟨rfl, rfl⟩ -
  simp (config := {maxSteps := 3000000}) only [run_ret, at_code_n, at_fin_r, ops_nil, ops_mv, ops_pick, ev_t, put_get, opv_mk, vpick, obsOk, and_true, true_and, Nat.reduceEqDiff, ↓reduceIte, vret, rvAll, rvVal, resv_1, eq_self]
  exact g0 _ (weak_put hwf.weak hb)
end
end Go.Proofs.Ytbmkohmhiafphaa
