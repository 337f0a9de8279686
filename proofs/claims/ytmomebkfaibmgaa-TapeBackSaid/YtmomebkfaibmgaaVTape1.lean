/- What may be kept: contracts. -/
import Derived.Test.YtmomebkfaibmgaaVTapeLaw
import Derived.Test.YtmomebkfaibmgaaVCut
namespace Go.Proofs.Ytmomebkfaibmgaa
open Go

/-- A record's cells. -/
def TR.v (t1 t2 : Tk) (r : TR) : V := .agg [.sc (.int .i64 r.k), .sc (.int .i64 r.ek), .sc (.int .i64 r.ec), .sc (.int .i64 r.en), .sl t1 (bs r.EL), .sc (.int .i64 r.ok), .sc (.int .i64 r.oc), .sc (.int .i64 r.on), .sc (.int .u32 r.oa), .sl t2 (bs r.OL)]
theorem fitsB_dec (k c n : Int) (z : Nat) : fitsB k c n z = decide (0 ≤ k ∧ k ≤ 255 ∧ 0 ≤ c ∧ c ≤ 255 ∧ 0 ≤ n ∧ n ≤ 4294967295 ∧ (z : Int) ≤ 65535) := by
  unfold fitsB
  simp only [Bool.decide_and, Bool.and_assoc]
section
variable {st : St} {k c n : Int}
theorem rfits_v {z : Nat} : VCalls Try.prog 26 [.sc (.int .i64 k), .sc (.int .i64 c), .sc (.int .i64 n), .sc (.int .i64 z)] st fun r st' => r = .sc (.bool (fitsB k c n z)) ∧ st = st' := by
  refine vcalls_enter vc26 (Nat.le_of_ble_eq_true rfl) fun hwf hok => ?_
  show Run _ Vc26.body (.fin (finQ Vc26.res _)) _ _
  unfold Vc26
  rw [fitsB_dec]
  by_cases c0 : 0 ≤ k
  case neg =>
    rw [decide_eq_false (show ¬ (0 ≤ k ∧ k ≤ 255 ∧ 0 ≤ c ∧ c ≤ 255 ∧ 0 ≤ n ∧ n ≤ 4294967295 ∧ (z : Int) ≤ 65535) by omega)]
    simp (config := {maxSteps := 3000000}) only [run_reg, run_seq, run_ret, at_code_n, at_fin_r, ops_nil, ops_grd, grd_ft, ops_mv, ops_pick, ops_bin, ev_t, ev_c, put_get, opv_mk, args0, List.getD_cons_zero, vpick, vbin, vbinI, and_true, true_and, Nat.reduceEqDiff, ↓reduceIte, vret, rvAll, rvVal, resv_1, eq_self, reduceCtorEq, Bool.false_eq_true, decide_eq_false c0]
    exact ⟨_, _, Wk.refl _, hwf.weak, rfl, rfl⟩
  by_cases c1 : k < 256
  case neg =>
    rw [decide_eq_false (show ¬ (0 ≤ k ∧ k ≤ 255 ∧ 0 ≤ c ∧ c ≤ 255 ∧ 0 ≤ n ∧ n ≤ 4294967295 ∧ (z : Int) ≤ 65535) by omega)]
    simp (config := {maxSteps := 3000000}) only [run_reg, run_seq, run_ret, at_code_n, at_fin_r, ops_nil, ops_grd, grd_tt, grd_ft, ops_mv, ops_pick, ops_bin, ev_t, ev_c, put_get, opv_mk, args0, List.getD_cons_zero, vpick, vbin, vbinI, and_true, true_and, Nat.reduceEqDiff, ↓reduceIte, vret, rvAll, rvVal, resv_1, eq_self, reduceCtorEq, Bool.false_eq_true, decide_eq_true c0, decide_eq_false c1]
    exact ⟨_, _, Wk.refl _, hwf.weak, rfl, rfl⟩
  by_cases c2 : 0 ≤ c
  case neg =>
    rw [decide_eq_false (show ¬ (0 ≤ k ∧ k ≤ 255 ∧ 0 ≤ c ∧ c ≤ 255 ∧ 0 ≤ n ∧ n ≤ 4294967295 ∧ (z : Int) ≤ 65535) by omega)]
    simp (config := {maxSteps := 3000000}) only [run_reg, run_seq, run_ret, at_code_n, at_fin_r, ops_nil, ops_grd, grd_tt, grd_ft, ops_mv, ops_pick, ops_bin, ev_t, ev_c, put_get, opv_mk, args0, List.getD_cons_zero, List.getD_cons_succ, vpick, vbin, vbinI, and_true, true_and, Nat.reduceEqDiff, ↓reduceIte, vret, rvAll, rvVal, resv_1, eq_self, reduceCtorEq, Bool.false_eq_true, decide_eq_true c0, decide_eq_true c1, decide_eq_false c2]
    exact ⟨_, _, Wk.refl _, hwf.weak, rfl, rfl⟩
  by_cases c3 : c < 256
  case neg =>
    rw [decide_eq_false (show ¬ (0 ≤ k ∧ k ≤ 255 ∧ 0 ≤ c ∧ c ≤ 255 ∧ 0 ≤ n ∧ n ≤ 4294967295 ∧ (z : Int) ≤ 65535) by omega)]
    simp (config := {maxSteps := 3000000}) only [run_reg, run_seq, run_ret, at_code_n, at_fin_r, ops_nil, ops_grd, grd_tt, grd_ft, ops_mv, ops_pick, ops_bin, ev_t, ev_c, put_get, opv_mk, args0, List.getD_cons_zero, List.getD_cons_succ, vpick, vbin, vbinI, and_true, true_and, Nat.reduceEqDiff, ↓reduceIte, vret, rvAll, rvVal, resv_1, eq_self, reduceCtorEq, Bool.false_eq_true, decide_eq_true c0, decide_eq_true c1, decide_eq_true c2, decide_eq_false c3]
    exact ⟨_, _, Wk.refl _, hwf.weak, rfl, rfl⟩
  by_cases c4 : 0 ≤ n
  case neg =>
    rw [decide_eq_false (show ¬ (0 ≤ k ∧ k ≤ 255 ∧ 0 ≤ c ∧ c ≤ 255 ∧ 0 ≤ n ∧ n ≤ 4294967295 ∧ (z : Int) ≤ 65535) by omega)]
    simp (config := {maxSteps := 3000000}) only [run_reg, run_seq, run_ret, at_code_n, at_fin_r, ops_nil, ops_grd, grd_tt, grd_ft, ops_mv, ops_pick, ops_bin, ev_t, ev_c, put_get, opv_mk, args0, List.getD_cons_zero, List.getD_cons_succ, vpick, vbin, vbinI, and_true, true_and, Nat.reduceEqDiff, ↓reduceIte, vret, rvAll, rvVal, resv_1, eq_self, reduceCtorEq, Bool.false_eq_true, decide_eq_true c0, decide_eq_true c1, decide_eq_true c2, decide_eq_true c3, decide_eq_false c4]
    exact ⟨_, _, Wk.refl _, hwf.weak, rfl, rfl⟩
  by_cases c5 : n < 4294967296
  case neg =>
    rw [decide_eq_false (show ¬ (0 ≤ k ∧ k ≤ 255 ∧ 0 ≤ c ∧ c ≤ 255 ∧ 0 ≤ n ∧ n ≤ 4294967295 ∧ (z : Int) ≤ 65535) by omega)]
    simp (config := {maxSteps := 3000000}) only [run_reg, run_seq, run_ret, at_code_n, at_fin_r, ops_nil, ops_grd, grd_tt, grd_ft, ops_mv, ops_pick, ops_bin, ev_t, ev_c, put_get, opv_mk, args0, List.getD_cons_zero, List.getD_cons_succ, vpick, vbin, vbinI, and_true, true_and, Nat.reduceEqDiff, ↓reduceIte, vret, rvAll, rvVal, resv_1, eq_self, reduceCtorEq, Bool.false_eq_true, decide_eq_true c0, decide_eq_true c1, decide_eq_true c2, decide_eq_true c3, decide_eq_true c4, decide_eq_false c5]
    exact ⟨_, _, Wk.refl _, hwf.weak, rfl, rfl⟩
  by_cases c6 : (z : Int) < 65536
  case neg =>
    rw [decide_eq_false (show ¬ (0 ≤ k ∧ k ≤ 255 ∧ 0 ≤ c ∧ c ≤ 255 ∧ 0 ≤ n ∧ n ≤ 4294967295 ∧ (z : Int) ≤ 65535) by omega)]
    simp (config := {maxSteps := 3000000}) only [run_reg, run_seq, run_ret, at_code_n, at_fin_r, ops_nil, ops_grd, grd_tt, ops_mv, ops_pick, ops_bin, ev_t, ev_c, put_get, opv_mk, args0, List.getD_cons_zero, List.getD_cons_succ, vpick, vbin, vbinI, and_true, true_and, Nat.reduceEqDiff, ↓reduceIte, vret, rvAll, rvVal, resv_1, eq_self, reduceCtorEq, decide_eq_true c0, decide_eq_true c1, decide_eq_true c2, decide_eq_true c3, decide_eq_true c4, decide_eq_true c5, decide_eq_false c6]
    exact ⟨_, _, Wk.refl _, hwf.weak, rfl, rfl⟩
  rw [decide_eq_true (show 0 ≤ k ∧ k ≤ 255 ∧ 0 ≤ c ∧ c ≤ 255 ∧ 0 ≤ n ∧ n ≤ 4294967295 ∧ (z : Int) ≤ 65535 by omega)]
  simp (config := {maxSteps := 3000000}) only [run_reg, run_seq, run_ret, at_code_n, at_fin_r, ops_nil, ops_grd, grd_tt, ops_mv, ops_pick, ops_bin, ev_t, ev_c, put_get, opv_mk, args0, List.getD_cons_zero, List.getD_cons_succ, vpick, vbin, vbinI, and_true, true_and, Nat.reduceEqDiff, ↓reduceIte, vret, rvAll, rvVal, resv_1, eq_self, reduceCtorEq, decide_eq_true c0, decide_eq_true c1, decide_eq_true c2, decide_eq_true c3, decide_eq_true c4, decide_eq_true c5, decide_eq_true c6]
  exact ⟨_, _, Wk.refl _, hwf.weak, rfl, rfl⟩
theorem tfits_v {tk : Tk} {L : List Int} (h : fitsB k c n L.length = true) : VCalls Try.prog 59 [.sc (.int .i64 k), .sc (.int .i64 c), .sc (.int .i64 n), .sl tk (bs L)] st fun r st' => r = .sc (.bool true) ∧ st = st' := by
  refine vcalls_enter vc59 (Nat.le_of_ble_eq_true rfl) fun hwf hok => ?_
  show Run _ Vc59.body (.fin (finQ Vc59.res _)) _ _
  unfold Vc59
  rw [fitsB_dec, decide_eq_true_eq] at h
  obtain ⟨c0, c1, c2, c3, c4, c5, c6⟩ := h
  have hw : n % 18446744073709551616 = n := by omega
  simp (config := {maxSteps := 3000000}) only [run_reg, run_seq, run_ret, at_code_n, at_fin_r, ops_nil, ops_grd, grd_tt, ops_mv, ops_pick, ops_bin, ops_conv, ops_len, ev_t, ev_c, put_get, opv_mk, args0, List.getD_cons_zero, List.getD_cons_succ, vpick, vbin, vbinI, vconv, norm, vlen, and_true, true_and, Nat.reduceEqDiff, ↓reduceIte, vret, rvAll, rvVal, resv_1, eq_self, reduceCtorEq, decide_eq_true c0, decide_eq_true c1, decide_eq_true c2, decide_eq_true c3, decide_eq_true c4, hw, decide_eq_true c5, bs_len, decide_eq_true c6]
  exact ⟨_, _, Wk.refl _, hwf.weak, rfl, rfl⟩
end
end Go.Proofs.Ytmomebkfaibmgaa
