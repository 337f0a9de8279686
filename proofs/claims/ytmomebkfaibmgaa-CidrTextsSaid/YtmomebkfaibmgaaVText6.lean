/- Prefixes: which may be, as texts: contracts. -/
import Derived.Test.YtmomebkfaibmgaaVText5
namespace Go.Proofs.Ytmomebkfaibmgaa
open Go

/-- A prefix's cells. -/
def PF.v (p : PF) : V := .agg [.sc (.int .u32 p.a), .sc (.int .i64 p.b)]
theorem maskN_nat {b : Int} (h0 : 0 ≤ b) (h1 : b ≤ 32) : 4294967295 * 2 ^ (32 - b).toNat % 4294967296 = maskN b := by
  unfold maskN
  rw [if_neg (by omega), if_neg (by omega)]
section
variable {tk : Tk} {st : St} {L : List Int}
theorem mask_v {b : Int} (h0 : 0 ≤ b) (h1 : b ≤ 32) : VCalls Try.prog 55 [.sc (.int .i64 b)] st fun r st' => r = .sc (.int .u32 (maskN b)) ∧ st = st' := by
  refine vcalls_enter vc55 (Nat.le_of_ble_eq_true rfl) fun hwf hok => ?_
  show Run _ Vc55.body (.fin (finQ Vc55.res _)) _ _
  unfold Vc55
  rw [← maskN_nat h0 h1]
  have e1 : min (max b 0) 32 = b := by omega
  have e2 : (32 - b).toNat ≤ 32 := by omega
  simp (config := {maxSteps := 3000000}) only [run_reg, run_seq, run_ret, at_code_n, at_fin_r, ops_nil, ops_mv, ops_bin, ops_mn, ops_mx, ev_t, ev_c, put_get, opv_mk, args0, List.getD_cons_zero, vbin, vbinI, norm, vmm, shAmt, IntKind.bits, and_true, true_and, Int.reduceNeg, Nat.min_def, ↓reduceIte, vret, rvAll, rvVal, resv_1, eq_self, reduceCtorEq, Bool.false_eq_true, e1, e2]
  repeat (apply And.intro; focus (first | omega | (simp; done)))
  exact ⟨_, _, Wk.refl _, hwf.weak, rfl, rfl⟩
theorem cRight_v {p : PF} (h0 : 0 ≤ p.a) (h1 : p.a < 4294967296) : VCalls Try.prog 35 [p.v] st fun r st' => r = .sc (.bool (rightB p.a p.b)) ∧ st = st' := by
  obtain ⟨a, b⟩ := p
  simp only at h0 h1 ⊢
  refine vcalls_enter vc35 (Nat.le_of_ble_eq_true rfl) fun hwf hok => ?_
  show Run _ Vc35.body (.fin (finQ Vc35.res _)) _ _
  unfold Vc35
  by_cases c1 : 0 ≤ b
  case neg =>
    have hr : rightB a b = false := decide_eq_false (fun h => c1 h.1)
    rw [hr]
    simp (config := {maxSteps := 3000000}) only [run_reg, run_seq, at_code_n, ops_nil, ops_grd, ops_mv, ops_bin, ops_fld, ops_load, ops_box, ev_t, ev_c, put_get, opv_mk, Bx, put_box_same, args0, List.getD_cons_zero, vbin, vbinI, vfld, vload, takeV, V.cells, ptrV, obsOk, List.length_cons, List.length_nil, List.getElem?_cons_zero, List.getElem?_cons_succ, true_and, Nat.reduceEqDiff, Nat.reduceAdd, Nat.zero_add, ↓reduceIte, ne_eq, not_false_eq_true, eq_self, reduceCtorEq, PF.v]
    intro c hc
    simp (config := {maxSteps := 3000000}) only [run_ret, at_code_n, at_fin_r, ops_nil, ops_grd, grd_ft, ops_mv, ops_pick, ev_t, ev_c, put_get, opv_mk, vpick, and_true, true_and, Nat.reduceEqDiff, ↓reduceIte, vret, rvAll, rvVal, resv_1, eq_self, Bool.false_eq_true, decide_eq_false c1]
    exact ⟨_, _, Wk.refl _, weak_put hwf.weak hc, rfl, rfl⟩
  by_cases c2 : b ≤ 32
  case neg =>
    have hr : rightB a b = false := decide_eq_false (fun h => c2 h.2.1)
    rw [hr]
    simp (config := {maxSteps := 3000000}) only [run_reg, run_seq, at_code_n, ops_nil, ops_grd, ops_mv, ops_bin, ops_fld, ops_load, ops_box, ev_t, ev_c, put_get, opv_mk, Bx, put_box_same, args0, List.getD_cons_zero, vbin, vbinI, vfld, vload, takeV, V.cells, ptrV, obsOk, List.length_cons, List.length_nil, List.getElem?_cons_zero, List.getElem?_cons_succ, true_and, Nat.reduceEqDiff, Nat.reduceAdd, Nat.zero_add, ↓reduceIte, ne_eq, not_false_eq_true, eq_self, reduceCtorEq, PF.v]
    intro c hc
    simp (config := {maxSteps := 3000000}) only [run_ret, at_code_n, at_fin_r, ops_nil, ops_grd, grd_tt, grd_ft, ops_mv, ops_pick, ops_bin, ops_fld, ops_load, ev_t, ev_c, put_get, opv_mk, put_box_same, vpick, vbin, vbinI, vfld, vload, takeV, V.cells, List.length_cons, List.length_nil, List.getElem?_cons_zero, List.getElem?_cons_succ, and_true, true_and, Nat.reduceEqDiff, Nat.zero_add, ↓reduceIte, vret, rvAll, rvVal, resv_1, eq_self, Bool.false_eq_true, decide_eq_true c1, decide_eq_false c2]
    exact ⟨_, _, Wk.refl _, weak_put hwf.weak hc, rfl, rfl⟩
  have hm := andNot_mask a b h0 h1 c1 c2
  have hr : rightB a b = decide (a % sizeN b = 0) := decide_eq_decide.2 ⟨fun h => h.2.2, fun h => ⟨c1, c2, h⟩⟩
  rw [hr]
  simp (config := {maxSteps := 3000000}) only [run_reg, run_seq, at_code_n, ops_nil, ops_grd, ops_mv, ops_bin, ops_fld, ops_load, ops_box, ev_t, ev_c, put_get, opv_mk, Bx, put_box_same, args0, List.getD_cons_zero, vbin, vbinI, vfld, vload, takeV, V.cells, ptrV, obsOk, List.length_cons, List.length_nil, List.getElem?_cons_zero, List.getElem?_cons_succ, true_and, Nat.reduceEqDiff, Nat.reduceAdd, Nat.zero_add, ↓reduceIte, ne_eq, not_false_eq_true, eq_self, reduceCtorEq, PF.v]
  intro c hc
  simp (config := {maxSteps := 3000000}) only [ops_grd, grd_tt, ops_mv, ops_pick, ops_bin, ops_fld, ops_load, ops_call, ev_t, ev_c, put_get, opv_mk, put_box_same, vpick, vbin, vbinI, vfld, vload, takeV, V.cells, List.map_cons, List.map_nil, List.length_cons, List.length_nil, List.getElem?_cons_zero, List.getElem?_cons_succ, true_and, Nat.reduceEqDiff, Nat.zero_add, Nat.add_zero, ↓reduceIte, eq_self, decide_eq_true c1, decide_eq_true c2]
  refine Cal.mk (mask_v c1 c2) ?_
  rintro _ _ ⟨rfl, rfl⟩ -
  simp (config := {maxSteps := 3000000}) only [run_ret, at_code_n, at_fin_r, ops_nil, ops_grd, grd_tt, ops_mv, ops_pick, ops_bin, ev_t, ev_c, put_get, opv_mk, put_box_same, vpick, vbin, vbinI, vload, takeV, V.cells, obsOk, List.length_cons, List.length_nil, List.getElem?_cons_zero, and_true, true_and, Nat.reduceEqDiff, Nat.zero_add, ↓reduceIte, vret, rvAll, rvVal, resv_1, eq_self, ibit_andNot, hm]
  exact ⟨_, _, Wk.refl _, weak_put hwf.weak hc, rfl, rfl⟩
theorem rRight_v {p : PF} (h0 : 0 ≤ p.a) (h1 : p.a < 4294967296) : VCalls Try.prog 22 [p.v] st fun r st' => r = .sc (.bool (rightB p.a p.b)) ∧ st = st' := by
  obtain ⟨a, b⟩ := p
  simp only at h0 h1 ⊢
  refine vcalls_enter vc22 (Nat.le_of_ble_eq_true rfl) fun hwf hok => ?_
  show Run _ Vc22.body (.fin (finQ Vc22.res _)) _ _
  unfold Vc22
  by_cases c1 : 0 ≤ b
  case neg =>
    have hr : rightB a b = false := decide_eq_false (fun h => c1 h.1)
    rw [hr]
    simp (config := {maxSteps := 3000000}) only [run_reg, run_seq, at_code_n, ops_nil, ops_grd, ops_mv, ops_bin, ops_fld, ops_load, ops_box, ev_t, ev_c, put_get, opv_mk, Bx, put_box_same, args0, List.getD_cons_zero, vbin, vbinI, vfld, vload, takeV, V.cells, ptrV, obsOk, List.length_cons, List.length_nil, List.getElem?_cons_zero, List.getElem?_cons_succ, true_and, Nat.reduceEqDiff, Nat.reduceAdd, Nat.zero_add, ↓reduceIte, ne_eq, not_false_eq_true, eq_self, reduceCtorEq, PF.v]
    intro c hc
    simp (config := {maxSteps := 3000000}) only [run_ret, at_code_n, at_fin_r, ops_nil, ops_grd, grd_ft, ops_mv, ops_pick, ev_t, ev_c, put_get, opv_mk, vpick, and_true, true_and, Nat.reduceEqDiff, ↓reduceIte, vret, rvAll, rvVal, resv_1, eq_self, Bool.false_eq_true, decide_eq_false c1]
    exact ⟨_, _, Wk.refl _, weak_put hwf.weak hc, rfl, rfl⟩
  by_cases c2 : b ≤ 32
  case neg =>
    have hr : rightB a b = false := decide_eq_false (fun h => c2 h.2.1)
    rw [hr]
    simp (config := {maxSteps := 3000000}) only [run_reg, run_seq, at_code_n, ops_nil, ops_grd, ops_mv, ops_bin, ops_fld, ops_load, ops_box, ev_t, ev_c, put_get, opv_mk, Bx, put_box_same, args0, List.getD_cons_zero, vbin, vbinI, vfld, vload, takeV, V.cells, ptrV, obsOk, List.length_cons, List.length_nil, List.getElem?_cons_zero, List.getElem?_cons_succ, true_and, Nat.reduceEqDiff, Nat.reduceAdd, Nat.zero_add, ↓reduceIte, ne_eq, not_false_eq_true, eq_self, reduceCtorEq, PF.v]
    intro c hc
    simp (config := {maxSteps := 3000000}) only [run_ret, at_code_n, at_fin_r, ops_nil, ops_grd, grd_tt, grd_ft, ops_mv, ops_pick, ops_bin, ops_fld, ops_load, ev_t, ev_c, put_get, opv_mk, put_box_same, vpick, vbin, vbinI, vfld, vload, takeV, V.cells, List.length_cons, List.length_nil, List.getElem?_cons_zero, List.getElem?_cons_succ, and_true, true_and, Nat.reduceEqDiff, Nat.zero_add, ↓reduceIte, vret, rvAll, rvVal, resv_1, eq_self, Bool.false_eq_true, decide_eq_true c1, decide_eq_false c2]
    exact ⟨_, _, Wk.refl _, weak_put hwf.weak hc, rfl, rfl⟩
  have hr : rightB a b = decide (a % sizeN b = 0) := decide_eq_decide.2 ⟨fun h => h.2.2, fun h => ⟨c1, c2, h⟩⟩
  have hp := sizeN_pos b
  rw [hr]
  simp (config := {maxSteps := 3000000}) only [run_reg, run_seq, at_code_n, ops_nil, ops_grd, ops_mv, ops_bin, ops_fld, ops_load, ops_box, ev_t, ev_c, put_get, opv_mk, Bx, put_box_same, args0, List.getD_cons_zero, vbin, vbinI, vfld, vload, takeV, V.cells, ptrV, obsOk, List.length_cons, List.length_nil, List.getElem?_cons_zero, List.getElem?_cons_succ, true_and, Nat.reduceEqDiff, Nat.reduceAdd, Nat.zero_add, ↓reduceIte, ne_eq, not_false_eq_true, eq_self, reduceCtorEq, PF.v]
  intro c hc
  simp (config := {maxSteps := 3000000}) only [ops_grd, grd_tt, ops_mv, ops_pick, ops_bin, ops_conv, ops_fld, ops_load, ops_call, ev_t, ev_c, put_get, opv_mk, put_box_same, vpick, vbin, vbinI, vconv, norm, vfld, vload, takeV, V.cells, List.map_cons, List.map_nil, List.length_cons, List.length_nil, List.getElem?_cons_zero, List.getElem?_cons_succ, true_and, Nat.reduceEqDiff, Int.reduceNeg, Nat.zero_add, Nat.add_zero, ↓reduceIte, eq_self, decide_eq_true c1, decide_eq_true c2]
  repeat (apply And.intro; focus (first | omega | (simp; done)))
  refine Cal.mk (rSize_v c1 c2) ?_
  rintro _ _ ⟨rfl, rfl⟩ -
  simp (config := {maxSteps := 3000000}) only [run_ret, at_code_n, at_fin_r, ops_nil, ops_grd, grd_tt, ops_mv, ops_pick, ops_bin, ev_t, ev_c, put_get, opv_mk, put_box_same, vpick, vbin, vbinI, vload, takeV, V.cells, obsOk, List.length_cons, List.length_nil, List.getElem?_cons_zero, and_true, true_and, Nat.reduceEqDiff, Nat.zero_add, ↓reduceIte, vret, rvAll, rvVal, resv_1, eq_self]
  repeat (apply And.intro; focus (first | omega | (simp; done)))
  exact ⟨_, _, Wk.refl _, weak_put hwf.weak hc, rfl, rfl⟩
theorem cText_v {p : PF} (h0 : 0 ≤ p.a) (h1 : p.a < 4294967296) (hb : -9223372036854775808 ≤ p.b ∧ p.b ≤ 9223372036854775807) : VCalls Try.prog 20 [p.v] st fun r st' => r = .sc (.string (strOf (pfT p))) ∧ st = st' := by
  obtain ⟨a, b⟩ := p
  simp only at h0 h1 hb
  refine vcalls_enter vc20 (Nat.le_of_ble_eq_true rfl) fun hwf hok => ?_
  show Run _ Vc20.body (.fin (finQ Vc20.res _)) _ _
  unfold Vc20
  have hT : pfT ⟨a, b⟩ = addrT a ++ 47 :: digs 18 b.toNat := rfl
  have hd : digs 19 b.toNat = digs 18 b.toNat := digs_eq 19 18 _ (by omega) (by omega)
  have hA := fun st : St => addrText_v (st := st) h0 h1
  have hN := fun st : St => hexNum_v (st := st) (n := b) hb.2
  rw [hd] at hN
  have hal := addrT_len a
  have hdl := digs_len 18 b.toNat
  rw [hT]
  generalize addrT a = A at *
  generalize digs 18 b.toNat = D at *
  simp (config := {maxSteps := 3000000}) only [run_reg, run_seq, at_code_n, ops_nil, ops_mv, ops_fld, ops_load, ops_box, ops_call, ev_t, ev_c, put_get, opv_mk, Bx, put_box_same, args0, List.getD_cons_zero, vfld, vload, takeV, V.cells, ptrV, obsOk, List.map_cons, List.map_nil, List.length_cons, List.length_nil, List.getElem?_cons_zero, List.getElem?_cons_succ, true_and, Nat.reduceEqDiff, Nat.reduceAdd, Nat.zero_add, Nat.add_zero, ↓reduceIte, ne_eq, not_false_eq_true, eq_self, reduceCtorEq, PF.v]
  intro c hc
  refine Cal.mk (hA _) ?_
  rintro _ _ ⟨rfl, rfl⟩ -
  simp (config := {maxSteps := 3000000}) only [ops_bin, ops_call, ev_t, ev_c, put_get, opv_mk, put_box_same, vbin, vbinS, vload, takeV, V.cells, obsOk, List.map_cons, List.map_nil, List.length_cons, List.length_nil, List.getElem?_cons_zero, List.getElem?_cons_succ, and_true, true_and, Nat.reduceEqDiff, Nat.reduceLeDiff, Nat.zero_add, ↓reduceIte, eq_self, strOf_47, strOf_size, strOf_append]
  repeat (apply And.intro; focus (first | omega | (simp; done)))
  refine Cal.mk (hN _) ?_
  rintro _ _ ⟨rfl, rfl⟩ -
  simp (config := {maxSteps := 3000000}) only [run_ret, at_code_n, at_fin_r, ops_nil, ops_mv, ops_bin, ev_t, put_get, opv_mk, vbin, vbinS, obsOk, List.length_cons, List.length_nil, and_true, true_and, Nat.reduceEqDiff, Nat.zero_add, ↓reduceIte, vret, rvAll, rvVal, resv_1, eq_self, strOf_size, strOf_append, List.length_append]
  repeat (apply And.intro; focus (first | omega | (simp; done)))
  exact ⟨_, _, Wk.refl _, weak_put hwf.weak hc, by simp, rfl⟩
theorem rpText_v {p : PF} (h0 : 0 ≤ p.a) (h1 : p.a < 4294967296) (hb : -9223372036854775808 ≤ p.b ∧ p.b ≤ 9223372036854775807) : VCalls Try.prog 21 [p.v] st fun r st' => r = .sc (.string (strOf (pfT p))) ∧ st = st' := by
  obtain ⟨a, b⟩ := p
  simp only at h0 h1 hb
  refine vcalls_enter vc21 (Nat.le_of_ble_eq_true rfl) fun hwf hok => ?_
  show Run _ Vc21.body (.fin (finQ Vc21.res _)) _ _
  unfold Vc21
  have hT : pfT ⟨a, b⟩ = addrT a ++ 47 :: digs 18 b.toNat := rfl
  have hA := fun st : St => rText_v (st := st) h0 h1
  have hN := fun st : St => num03i_v (st := st) hb
  have hal := addrT_len a
  have hdl := digs_len 18 b.toNat
  rw [hT]
  generalize addrT a = A at *
  generalize digs 18 b.toNat = D at *
  simp (config := {maxSteps := 3000000}) only [run_reg, run_seq, at_code_n, ops_nil, ops_mv, ops_fld, ops_load, ops_box, ops_call, ev_t, ev_c, put_get, opv_mk, Bx, put_box_same, args0, List.getD_cons_zero, vfld, vload, takeV, V.cells, ptrV, obsOk, List.map_cons, List.map_nil, List.length_cons, List.length_nil, List.getElem?_cons_zero, List.getElem?_cons_succ, true_and, Nat.reduceEqDiff, Nat.reduceAdd, Nat.zero_add, Nat.add_zero, ↓reduceIte, ne_eq, not_false_eq_true, eq_self, reduceCtorEq, PF.v]
  intro c hc
  refine Cal.mk (hA _) ?_
  rintro _ _ ⟨rfl, rfl⟩ -
  simp (config := {maxSteps := 3000000}) only [ops_bin, ops_call, ev_t, ev_c, put_get, opv_mk, put_box_same, vbin, vbinS, vload, takeV, V.cells, obsOk, List.map_cons, List.map_nil, List.length_cons, List.length_nil, List.getElem?_cons_zero, List.getElem?_cons_succ, and_true, true_and, Nat.reduceEqDiff, Nat.reduceLeDiff, Nat.zero_add, ↓reduceIte, eq_self, strOf_47, strOf_size, strOf_append]
  repeat (apply And.intro; focus (first | omega | (simp; done)))
  refine Cal.mk (hN _) ?_
  rintro _ _ ⟨rfl, rfl⟩ -
  simp (config := {maxSteps := 3000000}) only [run_ret, at_code_n, at_fin_r, ops_nil, ops_mv, ops_bin, ev_t, put_get, opv_mk, vbin, vbinS, obsOk, List.length_cons, List.length_nil, and_true, true_and, Nat.reduceEqDiff, Nat.zero_add, ↓reduceIte, vret, rvAll, rvVal, resv_1, eq_self, strOf_size, strOf_append, List.length_append]
  repeat (apply And.intro; focus (first | omega | (simp; done)))
  exact ⟨_, _, Wk.refl _, weak_put hwf.weak hc, by simp, rfl⟩
end
end Go.Proofs.Ytmomebkfaibmgaa
