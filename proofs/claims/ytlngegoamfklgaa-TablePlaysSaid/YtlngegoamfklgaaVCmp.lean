/- cmp.Compare and cmp.Or: contracts. Printed by a program (gen_cmp.py). -/
import Derived.Test.YtlngegoamfklgaaVc
import Derived.Test.YtlngegoamfklgaaVSortC7
namespace Go.Proofs.Ytlngegoamfklgaa
open Go

/-- -1, 0, 1. -/
def cmp3 (x y : Int) : Int := if x < y then -1 else if y < x then 1 else 0
def orI (L : List Int) : Int := (L.find? (fun n => n ≠ 0)).getD 0
section
variable {st : St} {tk : Tk}
set_option maxRecDepth 100000 in
theorem nanInt_v {x : Int} : VCalls Try.prog 138 [.sc (.int .i64 x)] st fun v s => v = .sc (.bool false) ∧ st = s := by
  refine vcalls_enter vc138 (Nat.le_of_ble_eq_true rfl) fun hwf hok => ?_
  show Run _ Vc138.body (.fin (finQ Vc138.res _)) _ _
  unfold Vc138
  simp (config := {maxSteps := 3000000}) only [run_reg, run_seq, run_ret, at_code_n, at_fin_r, ops_nil, ops_mv, ops_bin, ev_t, ev_c, put_get, opv_mk, args0, List.getD_cons_zero, vbin, vbinI, and_true, true_and, Nat.reduceEqDiff, ↓reduceIte, vret, rvAll, rvVal, resv_1, decide_false, ne_eq, not_true_eq_false, eq_self, reduceCtorEq]
  exact ⟨_, _, Wk.refl _, hwf.weak, rfl, rfl⟩
set_option maxRecDepth 100000 in
theorem compareInt_v {x y : Int} : VCalls Try.prog 90 [.sc (.int .i64 x), .sc (.int .i64 y)] st fun v s => v = .sc (.int .i64 (cmp3 x y)) ∧ st = s := by
  refine vcalls_enter vc90 (Nat.le_of_ble_eq_true rfl) fun hwf hok => ?_
  show Run _ Vc90.body (.fin (finQ Vc90.res _)) _ _
  unfold Vc90
  simp (config := {maxSteps := 3000000}) only [run_reg, run_seq, at_code_n, ops_nil, ops_mv, ops_call, ev_t, ev_c, put_get, opv_mk, args0, List.getD_cons_zero, List.map_cons, List.map_nil, true_and, Int.reduceNeg, ↓reduceIte, eq_self, reduceCtorEq]
  refine Cal.mk nanInt_v ?_
  rintro _ _ ⟨rfl, rfl⟩ -
  simp (config := {maxSteps := 3000000}) only [run_reg, run_seq, at_code_n, ops_nil, ops_mv, ops_call, ev_t, put_get, opv_mk, args0, List.getD_cons_zero, List.getD_cons_succ, obsOk, List.map_cons, List.map_nil, true_and, Nat.reduceEqDiff, Int.reduceNeg, ↓reduceIte, eq_self]
  refine Cal.mk nanInt_v ?_
  rintro _ _ ⟨rfl, rfl⟩ -
  by_cases c1 : x < y
  · simp (config := {maxSteps := 3000000}) only [run_skip, run_reg, run_seq, run_ret, run_cond, if_true, if_false, at_code_n, at_code_r, at_fin_r, ops_nil, ops_mv, ops_bin, ev_t, ev_c, put_get, opv_mk, args0, List.getD_cons_zero, List.getD_cons_succ, vbin, vbinI, obsOk, and_true, true_and, Nat.reduceEqDiff, Int.reduceNeg, ↓reduceIte, vret, rvAll, rvVal, resv_1, eq_self, reduceCtorEq, decide_eq_true c1]
    exact ⟨_, _, Wk.refl _, hwf.weak, by simp [cmp3, c1], rfl⟩
  by_cases c2 : y < x
  · simp (config := {maxSteps := 3000000}) only [run_skip, run_reg, run_seq, run_ret, run_cond, if_true, if_false, at_code_n, at_code_r, at_fin_r, ops_nil, ops_mv, ops_bin, ev_t, ev_c, put_get, opv_mk, args0, List.getD_cons_zero, List.getD_cons_succ, vbin, vbinI, obsOk, and_true, true_and, Nat.reduceEqDiff, Int.reduceNeg, ↓reduceIte, vret, rvAll, rvVal, resv_1, eq_self, reduceCtorEq, decide_eq_false c1, decide_eq_true c2]
    exact ⟨_, _, Wk.refl _, hwf.weak, by simp [cmp3, c1, c2], rfl⟩
  · simp (config := {maxSteps := 3000000}) only [run_skip, run_reg, run_seq, run_ret, run_cond, if_false, at_code_n, at_fin_r, ops_nil, ops_mv, ops_bin, ev_t, ev_c, put_get, opv_mk, args0, List.getD_cons_zero, List.getD_cons_succ, vbin, vbinI, obsOk, and_true, true_and, Nat.reduceEqDiff, Int.reduceNeg, ↓reduceIte, vret, rvAll, rvVal, resv_1, eq_self, reduceCtorEq, decide_eq_false c1, decide_eq_false c2]
    exact ⟨_, _, Wk.refl _, hwf.weak, by simp [cmp3, c1, c2], rfl⟩
set_option maxRecDepth 100000 in
theorem nanU16_v {x : Int} : VCalls Try.prog 139 [.sc (.int .u16 x)] st fun v s => v = .sc (.bool false) ∧ st = s := by
  refine vcalls_enter vc139 (Nat.le_of_ble_eq_true rfl) fun hwf hok => ?_
  show Run _ Vc139.body (.fin (finQ Vc139.res _)) _ _
  unfold Vc139
  simp (config := {maxSteps := 3000000}) only [run_reg, run_seq, run_ret, at_code_n, at_fin_r, ops_nil, ops_mv, ops_bin, ev_t, ev_c, put_get, opv_mk, args0, List.getD_cons_zero, vbin, vbinI, and_true, true_and, Nat.reduceEqDiff, ↓reduceIte, vret, rvAll, rvVal, resv_1, decide_false, ne_eq, not_true_eq_false, eq_self, reduceCtorEq]
  exact ⟨_, _, Wk.refl _, hwf.weak, rfl, rfl⟩
set_option maxRecDepth 100000 in
theorem compareU16_v {x y : Int} : VCalls Try.prog 91 [.sc (.int .u16 x), .sc (.int .u16 y)] st fun v s => v = .sc (.int .i64 (cmp3 x y)) ∧ st = s := by
  refine vcalls_enter vc91 (Nat.le_of_ble_eq_true rfl) fun hwf hok => ?_
  show Run _ Vc91.body (.fin (finQ Vc91.res _)) _ _
  unfold Vc91
  simp (config := {maxSteps := 3000000}) only [run_reg, run_seq, at_code_n, ops_nil, ops_mv, ops_call, ev_t, ev_c, put_get, opv_mk, args0, List.getD_cons_zero, List.map_cons, List.map_nil, true_and, Int.reduceNeg, ↓reduceIte, eq_self, reduceCtorEq]
  refine Cal.mk nanU16_v ?_
  rintro _ _ ⟨rfl, rfl⟩ -
  simp (config := {maxSteps := 3000000}) only [run_reg, run_seq, at_code_n, ops_nil, ops_mv, ops_call, ev_t, put_get, opv_mk, args0, List.getD_cons_zero, List.getD_cons_succ, obsOk, List.map_cons, List.map_nil, true_and, Nat.reduceEqDiff, Int.reduceNeg, ↓reduceIte, eq_self]
  refine Cal.mk nanU16_v ?_
  rintro _ _ ⟨rfl, rfl⟩ -
  by_cases c1 : x < y
  · simp (config := {maxSteps := 3000000}) only [run_skip, run_reg, run_seq, run_ret, run_cond, if_true, if_false, at_code_n, at_code_r, at_fin_r, ops_nil, ops_mv, ops_bin, ev_t, ev_c, put_get, opv_mk, args0, List.getD_cons_zero, List.getD_cons_succ, vbin, vbinI, obsOk, and_true, true_and, Nat.reduceEqDiff, Int.reduceNeg, ↓reduceIte, vret, rvAll, rvVal, resv_1, eq_self, reduceCtorEq, decide_eq_true c1]
    exact ⟨_, _, Wk.refl _, hwf.weak, by simp [cmp3, c1], rfl⟩
  by_cases c2 : y < x
  · simp (config := {maxSteps := 3000000}) only [run_skip, run_reg, run_seq, run_ret, run_cond, if_true, if_false, at_code_n, at_code_r, at_fin_r, ops_nil, ops_mv, ops_bin, ev_t, ev_c, put_get, opv_mk, args0, List.getD_cons_zero, List.getD_cons_succ, vbin, vbinI, obsOk, and_true, true_and, Nat.reduceEqDiff, Int.reduceNeg, ↓reduceIte, vret, rvAll, rvVal, resv_1, eq_self, reduceCtorEq, decide_eq_false c1, decide_eq_true c2]
    exact ⟨_, _, Wk.refl _, hwf.weak, by simp [cmp3, c1, c2], rfl⟩
  · simp (config := {maxSteps := 3000000}) only [run_skip, run_reg, run_seq, run_ret, run_cond, if_false, at_code_n, at_fin_r, ops_nil, ops_mv, ops_bin, ev_t, ev_c, put_get, opv_mk, args0, List.getD_cons_zero, List.getD_cons_succ, vbin, vbinI, obsOk, and_true, true_and, Nat.reduceEqDiff, Int.reduceNeg, ↓reduceIte, vret, rvAll, rvVal, resv_1, eq_self, reduceCtorEq, decide_eq_false c1, decide_eq_false c2]
    exact ⟨_, _, Wk.refl _, hwf.weak, by simp [cmp3, c1, c2], rfl⟩
set_option maxRecDepth 100000 in
theorem nanAddr_v {x : Int} : VCalls Try.prog 166 [.sc (.int .u32 x)] st fun v s => v = .sc (.bool false) ∧ st = s := by
  refine vcalls_enter vc166 (Nat.le_of_ble_eq_true rfl) fun hwf hok => ?_
  show Run _ Vc166.body (.fin (finQ Vc166.res _)) _ _
  unfold Vc166
  simp (config := {maxSteps := 3000000}) only [run_reg, run_seq, run_ret, at_code_n, at_fin_r, ops_nil, ops_mv, ops_bin, ev_t, ev_c, put_get, opv_mk, args0, List.getD_cons_zero, vbin, vbinI, and_true, true_and, Nat.reduceEqDiff, ↓reduceIte, vret, rvAll, rvVal, resv_1, decide_false, ne_eq, not_true_eq_false, eq_self, reduceCtorEq]
  exact ⟨_, _, Wk.refl _, hwf.weak, rfl, rfl⟩
set_option maxRecDepth 100000 in
theorem compareAddr_v {x y : Int} : VCalls Try.prog 134 [.sc (.int .u32 x), .sc (.int .u32 y)] st fun v s => v = .sc (.int .i64 (cmp3 x y)) ∧ st = s := by
  refine vcalls_enter vc134 (Nat.le_of_ble_eq_true rfl) fun hwf hok => ?_
  show Run _ Vc134.body (.fin (finQ Vc134.res _)) _ _
  unfold Vc134
  simp (config := {maxSteps := 3000000}) only [run_reg, run_seq, at_code_n, ops_nil, ops_mv, ops_call, ev_t, ev_c, put_get, opv_mk, args0, List.getD_cons_zero, List.map_cons, List.map_nil, true_and, Int.reduceNeg, ↓reduceIte, eq_self, reduceCtorEq]
  refine Cal.mk nanAddr_v ?_
  rintro _ _ ⟨rfl, rfl⟩ -
  simp (config := {maxSteps := 3000000}) only [run_reg, run_seq, at_code_n, ops_nil, ops_mv, ops_call, ev_t, put_get, opv_mk, args0, List.getD_cons_zero, List.getD_cons_succ, obsOk, List.map_cons, List.map_nil, true_and, Nat.reduceEqDiff, Int.reduceNeg, ↓reduceIte, eq_self]
  refine Cal.mk nanAddr_v ?_
  rintro _ _ ⟨rfl, rfl⟩ -
  by_cases c1 : x < y
  · simp (config := {maxSteps := 3000000}) only [run_skip, run_reg, run_seq, run_ret, run_cond, if_true, if_false, at_code_n, at_code_r, at_fin_r, ops_nil, ops_mv, ops_bin, ev_t, ev_c, put_get, opv_mk, args0, List.getD_cons_zero, List.getD_cons_succ, vbin, vbinI, obsOk, and_true, true_and, Nat.reduceEqDiff, Int.reduceNeg, ↓reduceIte, vret, rvAll, rvVal, resv_1, eq_self, reduceCtorEq, decide_eq_true c1]
    exact ⟨_, _, Wk.refl _, hwf.weak, by simp [cmp3, c1], rfl⟩
  by_cases c2 : y < x
  · simp (config := {maxSteps := 3000000}) only [run_skip, run_reg, run_seq, run_ret, run_cond, if_true, if_false, at_code_n, at_code_r, at_fin_r, ops_nil, ops_mv, ops_bin, ev_t, ev_c, put_get, opv_mk, args0, List.getD_cons_zero, List.getD_cons_succ, vbin, vbinI, obsOk, and_true, true_and, Nat.reduceEqDiff, Int.reduceNeg, ↓reduceIte, vret, rvAll, rvVal, resv_1, eq_self, reduceCtorEq, decide_eq_false c1, decide_eq_true c2]
    exact ⟨_, _, Wk.refl _, hwf.weak, by simp [cmp3, c1, c2], rfl⟩
  · simp (config := {maxSteps := 3000000}) only [run_skip, run_reg, run_seq, run_ret, run_cond, if_false, at_code_n, at_fin_r, ops_nil, ops_mv, ops_bin, ev_t, ev_c, put_get, opv_mk, args0, List.getD_cons_zero, List.getD_cons_succ, vbin, vbinI, obsOk, and_true, true_and, Nat.reduceEqDiff, Int.reduceNeg, ↓reduceIte, vret, rvAll, rvVal, resv_1, eq_self, reduceCtorEq, decide_eq_false c1, decide_eq_false c2]
    exact ⟨_, _, Wk.refl _, hwf.weak, by simp [cmp3, c1, c2], rfl⟩
def isV (L : List Int) : List V := L.map fun n => .sc (.int .i64 n)
theorem isV_get {L : List Int} {i : Nat} {x : Int} (h : L[i]? = some x) : (isV L)[i]? = some (.sc (.int .i64 x)) := by simp [isV, h]
theorem isV_len {L : List Int} : (isV L).length = L.length := by simp [isV]
theorem orI_at {L : List Int} {i : Nat} {x : Int} (h : L[i]? = some x) (hx : x ≠ 0) (hb : ∀ (j : Nat) (y : Int), j < i → L[j]? = some y → y = 0) : orI L = x := by
  unfold orI
  have : L.find? (fun n => decide (n ≠ 0)) = some x := by
    rw [List.find?_eq_some_iff_getElem]
    obtain ⟨h1, h2⟩ := List.getElem?_eq_some_iff.1 h
    refine ⟨by simpa using hx, i, h1, h2, fun j hj => ?_⟩
    have := hb j L[j] hj (List.getElem?_eq_getElem (by omega))
    simp [this]
  rw [this]; rfl
theorem orI_none {L : List Int} (hb : ∀ (j : Nat) (y : Int), L[j]? = some y → y = 0) : orI L = 0 := by
  unfold orI
  have : L.find? (fun n => decide (n ≠ 0)) = none := by
    rw [List.find?_eq_none]
    intro x hx
    obtain ⟨j, hj⟩ := List.mem_iff_getElem?.1 hx
    simp [hb j x hj]
  rw [this]; rfl
set_option maxRecDepth 100000 in
theorem cmpOr_v {L : List Int} : VCalls Try.prog 89 [.sl tk (isV L)] st fun v s => v = .sc (.int .i64 (orI L)) ∧ st = s := by
  refine vcalls_enter vc89 (Nat.le_of_ble_eq_true rfl) fun hwf hok => ?_
  show Run _ Vc89.body (.fin (finQ Vc89.res _)) _ _
  unfold Vc89
  have hsm := vlen_max (hok (.sl tk (isV L)) (by simp))
  rw [isV_len] at hsm
  simp (config := {maxSteps := 3000000}) only [run_reg, run_seq, run_blk, at_code_n, ops_nil, ops_mv, ops_len, ev_t, ev_c, put_get, opv_mk, args0, List.getD_cons_zero, vlen, true_and, ↓reduceIte, eq_self, reduceCtorEq]
  refine run_loop [2, 5, 8, 9, 10, 11, 12, 13, 14, 15, 16] (fun B s => ∃ i : Nat, i ≤ L.length ∧ B 8 = .sc (.int .i64 i) ∧ (∀ (j : Nat) (y : Int), j < i → L[j]? = some y → y = 0) ∧ s = st) (fun B _ => L.length - vnat (B 8)) rfl ?_ ?_
  · simp (config := {maxSteps := 3000000}) only [put_get, and_true, ↓reduceIte, eq_self]
    exact ⟨0, by omega, rfl, fun j y hj => by omega⟩
  · rintro B s ⟨i, hi, h8, hb, rfl⟩
    by_cases c1 : i < L.length
    · have hx := List.getElem?_eq_getElem c1
      generalize L[i] = x at hx
      by_cases c2 : x = 0
      · subst c2
        simp (config := {maxSteps := 3000000}) only [run_skip, run_reg, run_seq, run_blk, run_cond, if_true, if_false, at_code_n, at_blk_n, at_rnd_n, ops_nil, ops_mv, ops_bin, ops_ix, ops_load, ev_t, ev_c, put_get, opv_mk, over_get, rel_mk, vnat, vbin, vbinI, norm, vix, vload, takeV, V.cells, List.length_cons, List.length_nil, List.getElem?_cons_zero, and_true, true_and, Nat.reduceEqDiff, Int.toNat_natCast, Int.reduceNeg, Nat.zero_add, ↓reduceIte, decide_false, ne_eq, not_true_eq_false, eq_self, Bool.false_eq_true, List.contains_cons, List.contains_nil, Nat.reduceBEq, Bool.or_false, Bool.or_true, h8, isV_get hx, isV_len, decide_eq_true (show (i : Int) < (L.length : Int) by omega)]
        repeat (apply And.intro; focus (first | omega | (simp; done)))
        refine ⟨⟨i + 1, by omega, by simp, fun j y hj hy => ?_⟩, by omega⟩
        by_cases e : j = i
        · subst e
          rw [hx] at hy
          exact (Option.some.inj hy).symm
        · exact hb j y (by omega) hy
      · simp (config := {maxSteps := 3000000}) only [run_skip, run_reg, run_seq, run_blk, run_ret, run_cond, if_true, at_code_n, at_code_r, at_blk_r, at_rnd_r, at_fin_r, ops_nil, ops_mv, ops_bin, ops_ix, ops_load, ev_t, put_get, opv_mk, over_get, vnat, vbin, vbinI, vix, vload, takeV, V.cells, List.length_cons, List.length_nil, List.getElem?_cons_zero, and_true, true_and, Nat.reduceEqDiff, Int.toNat_natCast, Nat.zero_add, ↓reduceIte, vret, rvAll, rvVal, resv_1, ne_eq, eq_self, Bool.false_eq_true, List.contains_cons, List.contains_nil, Nat.reduceBEq, Bool.or_false, Bool.or_true, h8, isV_get hx, isV_len, decide_eq_true (show (i : Int) < (L.length : Int) by omega), decide_eq_true (show x ≠ 0 from c2)]
        repeat (apply And.intro; focus (first | omega | (simp; done)))
        exact ⟨_, _, Wk.refl _, hwf.weak, by rw [orI_at hx c2 hb], rfl⟩
    · have hall : ∀ (j : Nat) (y : Int), L[j]? = some y → y = 0 := fun j y hy => hb j y (by have := (List.getElem?_eq_some_iff.1 hy).1; omega) hy
      simp (config := {maxSteps := 3000000}) only [run_reg, run_seq, run_exit, run_ret, run_cond, if_false, at_code_n, at_code_x, at_blk_x, at_rnd_x, at_fin_r, ops_nil, ops_mv, ops_bin, ev_t, put_get, opv_mk, over_get, vnat, vbin, vbinI, and_true, true_and, Nat.reduceEqDiff, Int.toNat_natCast, ↓reduceIte, vret, rvAll, rvVal, resv_1, eq_self, Bool.false_eq_true, List.contains_cons, List.contains_nil, Nat.reduceBEq, Bool.or_false, Bool.or_true, h8, isV_len, decide_eq_false (show ¬ (i : Int) < (L.length : Int) by omega)]
      exact ⟨_, _, Wk.refl _, hwf.weak, by rw [orI_none hall], rfl⟩
end
end Go.Proofs.Ytlngegoamfklgaa
