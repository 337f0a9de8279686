/- Package greh and its reference: contracts. -/
import Derived.Test.YtbmkohmhiafphaaVRef1
namespace Go.Proofs.Ytbmkohmhiafphaa
open Go

/-- A packet. -/
structure TD where
  c : Int
  s : Bool
  q : Int
  a : Bool
  k : Int
  L : List Int
def TD.v (t : TD) (tk : Tk) : V := .agg [.sc (.int .u16 t.c), .sc (.bool t.s), .sc (.int .u32 t.q), .sc (.bool t.a), .sc (.int .u32 t.k), .sl tk (bs t.L)]
structure TD.Ok (t : TD) : Prop where
  c0 : 0 ≤ t.c
  c1 : t.c < 65536
  q0 : 0 ≤ t.q
  q1 : t.q < 4294967296
  k0 : 0 ≤ t.k
  k1 : t.k < 4294967296
  L : IsB t.L
def TD.right (t : TD) : Bool := (t.s == decide (0 < t.L.length)) && decide (t.L.length ≤ 1600) && (t.s || decide (t.q = 0)) && (t.a || decide (t.k = 0))

section
variable {tk tk' : Tk} {st : St}
theorem gRight_v (t : TD) : VCalls Try.prog 22 [t.v tk] st fun r st' => r = .sc (.bool t.right) ∧ st = st' := by
  obtain ⟨c, s, q, a, k, L⟩ := t
  refine vcalls_enter vc22 (Nat.le_of_ble_eq_true rfl) fun hwf hok => ?_
  show Run _ Vc22.body (.fin (finQ Vc22.res _)) _ _
  unfold Vc22
  have e1 : decide ((0 : Int) < (L.length : Int)) = decide (0 < L.length) := by simp
  have e2 : decide ((L.length : Int) ≤ 1600) = decide (L.length ≤ 1600) := by rw [decide_eq_decide]; omega
  cases h1 : (s == decide (0 < L.length))
  · simp (config := {maxSteps := 3000000}) (disch := ((fail_if_success refine selfNe ?_); omega)) only [run_reg, run_seq, run_ret, at_code_n, at_fin_r, ops_nil, ops_grd, grd_und, grd_ft, ops_mv, ops_pick, ops_bin, ops_binb, vbinb, ops_fld, ops_load, ops_len, ops_box, ev_t, ev_c, put_get, opv_mk, Bx, put_box_same, args0, List.getD_cons_zero, vpick, vbin, vbinI, vfld, vlen, vload, takeV, V.cells, ptrV, obsOk, List.length_cons, List.length_nil, List.getElem?_cons_zero, List.getElem?_cons_succ, and_true, true_and, Nat.reduceEqDiff, Nat.reduceAdd, Nat.zero_add, ↓reduceIte, vret, rvAll, rvVal, resv_1, ne_eq, not_false_eq_true, eq_self, reduceCtorEq, Bool.false_eq_true, TD.v, bs_len, e1, h1]
    repeat (apply And.intro; focus (first | omega | (simp; done)))
    intro b hb
    exact ⟨_, _, Wk.refl _, weak_put hwf.weak hb, by simp [TD.right, h1], rfl⟩
  by_cases h2 : L.length ≤ 1600
  · cases s <;> cases a
    all_goals
      by_cases h3 : q = 0
      all_goals
        simp (config := {maxSteps := 3000000}) (disch := ((fail_if_success refine selfNe ?_); omega)) only [run_reg, run_seq, run_ret, at_code_n, at_fin_r, ops_nil, ops_grd, grd_und, grd_tt, grd_ff, grd_tf, grd_ft, ops_mv, ops_pick, ops_bin, ops_binb, vbinb, ops_fld, ops_load, ops_len, ops_box, ev_t, ev_c, put_get, opv_mk, Bx, put_box_same, args0, List.getD_cons_zero, vpick, vbin, vbinI, vfld, vlen, vload, takeV, V.cells, ptrV, obsOk, List.length_cons, List.length_nil, List.getElem?_cons_zero, List.getElem?_cons_succ, and_true, true_and, Nat.reduceEqDiff, Nat.reduceAdd, Nat.zero_add, ↓reduceIte, vret, rvAll, rvVal, resv_1, decide_true, decide_false, ne_eq, not_false_eq_true, eq_self, reduceCtorEq, Bool.false_eq_true, TD.v, bs_len, e1, e2, h1, decide_eq_true h2, h3]
        repeat (apply And.intro; focus (first | omega | (simp; done)))
        intro b hb
        exact ⟨_, _, Wk.refl _, weak_put hwf.weak hb, by simp [TD.right, *], rfl⟩
  · simp (config := {maxSteps := 3000000}) (disch := ((fail_if_success refine selfNe ?_); omega)) only [run_reg, run_seq, run_ret, at_code_n, at_fin_r, ops_nil, ops_grd, grd_und, grd_tt, grd_ft, ops_mv, ops_pick, ops_bin, ops_binb, vbinb, ops_fld, ops_load, ops_len, ops_box, ev_t, ev_c, put_get, opv_mk, Bx, put_box_same, args0, List.getD_cons_zero, vpick, vbin, vbinI, vfld, vlen, vload, takeV, V.cells, ptrV, obsOk, List.length_cons, List.length_nil, List.getElem?_cons_zero, List.getElem?_cons_succ, and_true, true_and, Nat.reduceEqDiff, Nat.reduceAdd, Nat.zero_add, ↓reduceIte, vret, rvAll, rvVal, resv_1, ne_eq, not_false_eq_true, eq_self, reduceCtorEq, Bool.false_eq_true, TD.v, bs_len, e1, e2, h1, decide_eq_false h2]
    repeat (apply And.intro; focus (first | omega | (simp; done)))
    intro b hb
    exact ⟨_, _, Wk.refl _, weak_put hwf.weak hb, by simp [TD.right, h1, h2], rfl⟩
theorem refRight_v (t : TD) : VCalls Try.prog 23 [t.v tk] st fun r st' => r = .sc (.bool t.right) ∧ st = st' := by
  obtain ⟨c, s, q, a, k, L⟩ := t
  refine vcalls_enter vc23 (Nat.le_of_ble_eq_true rfl) fun hwf hok => ?_
  show Run _ Vc23.body (.fin (finQ Vc23.res _)) _ _
  unfold Vc23
  have e1 : decide ((0 : Int) < (L.length : Int)) = decide (0 < L.length) := by simp
  by_cases h2 : 1600 < L.length
  · simp (config := {maxSteps := 3000000}) (disch := ((fail_if_success refine selfNe ?_); omega)) only [run_reg, run_seq, run_ret, run_cond, if_true, at_code_n, at_code_r, at_fin_r, ops_nil, ops_grd, grd_tf, ops_mv, ops_pick, ops_bin, ops_fld, ops_load, ops_len, ops_box, ev_t, ev_c, put_get, opv_mk, Bx, put_box_same, args0, List.getD_cons_zero, vpick, vbin, vbinI, vfld, vlen, vload, takeV, V.cells, ptrV, obsOk, List.length_cons, List.length_nil, List.getElem?_cons_zero, List.getElem?_cons_succ, and_true, true_and, Nat.reduceEqDiff, Nat.reduceAdd, Nat.zero_add, ↓reduceIte, vret, rvAll, rvVal, resv_1, ne_eq, not_false_eq_true, eq_self, reduceCtorEq, TD.v, bs_len, decide_eq_true (show (1600 : Int) < (L.length : Int) by omega)]
    repeat (apply And.intro; focus (first | omega | (simp; done)))
    intro b hb
    exact ⟨_, _, Wk.refl _, weak_put hwf.weak hb, by simp [TD.right]; omega, rfl⟩
  cases h1 : (s == decide (0 < L.length))
  · simp (config := {maxSteps := 3000000}) (disch := ((fail_if_success refine selfNe ?_); omega)) only [run_reg, run_seq, run_ret, run_cond, if_true, at_code_n, at_code_r, at_fin_r, ops_nil, ops_grd, grd_ff, ops_mv, ops_pick, ops_bin, ops_binb, vbinb, ops_fld, ops_load, ops_len, ops_box, ev_t, ev_c, put_get, opv_mk, Bx, put_box_same, args0, List.getD_cons_zero, vpick, vbin, vbinI, vfld, vlen, vload, takeV, V.cells, ptrV, obsOk, List.length_cons, List.length_nil, List.getElem?_cons_zero, List.getElem?_cons_succ, and_true, true_and, Nat.reduceEqDiff, Nat.reduceAdd, Nat.zero_add, ↓reduceIte, vret, rvAll, rvVal, resv_1, Bool.not_false, ne_eq, not_false_eq_true, eq_self, reduceCtorEq, Bool.false_eq_true, TD.v, bs_len, decide_eq_false (show ¬ (1600 : Int) < (L.length : Int) by omega), e1, h1]
    repeat (apply And.intro; focus (first | omega | (simp; done)))
    intro b hb
    exact ⟨_, _, Wk.refl _, weak_put hwf.weak hb, by simp [TD.right, h1], rfl⟩
  · cases s <;> cases a
    all_goals
      by_cases h3 : q = 0
      all_goals
        by_cases h4 : k = 0
        all_goals
          simp (config := {maxSteps := 3000000}) (disch := ((fail_if_success refine selfNe ?_); omega)) only [run_skip, run_reg, run_seq, run_ret, run_cond, if_false, at_code_n, at_fin_r, ops_nil, ops_grd, grd_und, grd_tt, grd_ff, grd_ft, ops_mv, ops_pick, ops_bin, ops_un, ops_binb, vbinb, ops_fld, ops_load, ops_len, ops_box, ev_t, ev_c, put_get, opv_mk, Bx, put_box_same, args0, List.getD_cons_zero, vpick, vbin, vbinI, vun, vfld, vlen, vload, takeV, V.cells, ptrV, obsOk, List.length_cons, List.length_nil, List.getElem?_cons_zero, List.getElem?_cons_succ, and_true, true_and, Nat.reduceEqDiff, Nat.reduceAdd, Nat.zero_add, ↓reduceIte, vret, rvAll, rvVal, resv_1, decide_true, decide_false, Bool.not_true, Bool.not_false, ne_eq, not_true_eq_false, not_false_eq_true, eq_self, reduceCtorEq, Bool.false_eq_true, TD.v, bs_len, e1, decide_eq_false (show ¬ (1600 : Int) < (L.length : Int) by omega), h1, h3, h4]
          repeat (apply And.intro; focus (first | omega | (simp; done)))
          intro b hb
          exact ⟨_, _, Wk.refl _, weak_put hwf.weak hb, by simp [TD.right, *] <;> omega, rfl⟩
/-- A chain of appends, beside a box. -/
structure Bd (st s : St) (b : Nat) (cs : List V) (r : V) (L : List Int) : Prop where
  box : s.box b = some cs
  own : Own 1 s r (bs L)
  weak : st.weak s
  lt : s.Lt
  tok : ∀ g k l, r = .sl (.own g k) l → st.sz ≤ g
theorem Bd.start (h : st.Wf) {b : Nat} {cs : List V} (hb : st.sz ≤ b) : Bd st (st.put b cs) b cs (.sl .nil []) [] :=
  ⟨put_box_same, Own.nil, weak_put h.weak hb, h.lt.put, fun g k l e => by cases e⟩
theorem Bd.app {s s' : St} {b : Nat} {cs : List V} {r r' : V} {L L' : List Int} (h : Bd st s b cs r L) (ho : Own 1 s' r' (bs L')) (k : AppSt s r s' r') : Bd st s' b cs r' L' :=
  ⟨by rw [k.box]; exact h.box, ho, k.keeps h.weak h.tok, h.lt.app k, k.fresh h.weak.sz h.tok⟩
theorem Bd.new {s s' : St} {b : Nat} {cs : List V} {r r' : V} {L L' : List Int} (h : Bd st s b cs r L) (ho : Own 1 s' r' (bs L')) (k : New s s' r') : Bd st s' b cs r' L' :=
  ⟨(k.weak.box b cs h.box).1, ho, h.weak.trans k.weak, k.lt, fun g x l e => by have := k.tok g x l e; have := h.weak.sz; omega⟩

def TD.bits (t : TD) : Int := 8193 + (if t.s then 4096 else 0) + (if t.a then 128 else 0)
def TD.bytes (t : TD) : List Int := beL t.bits 2 ++ beL 34827 2 ++ beL t.L.length 2 ++ beL t.c 2 ++ (if t.s then beL t.q 4 else []) ++ (if t.a then beL t.k 4 else []) ++ t.L
theorem or_1 : ibit .or .u16 8193 4096 = 12289 := by decide
theorem or_2 : ibit .or .u16 8193 128 = 8321 := by decide
theorem or_3 : ibit .or .u16 12289 128 = 12417 := by decide
theorem gBuild_v (t : TD) (ht : t.Ok) : VCalls Try.prog 20 [t.v tk] st fun r st' => r = .sl .no (bs (if t.right then t.bytes else [])) ∧ st = st' := by
  have g1 := fun st => gRight_v (tk := tk) (st := st) t
  obtain ⟨c, s, q, a, k, L⟩ := t
  obtain ⟨c0, c1, q0, q1, k0, k1, hB⟩ := ht
  simp only at c0 c1 q0 q1 k0 k1 hB
  refine vcalls_enter vc20 (Nat.le_of_ble_eq_true rfl) fun hwf hok => ?_
  show Run _ Vc20.body (.fin (finQ Vc20.res _)) _ _
  unfold Vc20
  simp only [TD.v] at g1
  simp (config := {maxSteps := 3000000}) (disch := ((fail_if_success refine selfNe ?_); omega)) only [run_reg, run_seq, at_code_n, ops_nil, ops_mv, ops_load, ops_box, ops_call, ev_t, ev_c, put_get, opv_mk, Bx, put_box_same, args0, List.getD_cons_zero, vload, takeV, V.cells, ptrV, obsOk, List.map_cons, List.map_nil, List.length_cons, List.length_nil, List.take_succ_cons, List.drop_zero, List.take_nil, true_and, Nat.reduceEqDiff, Nat.reduceAdd, Nat.reduceLeDiff, Nat.zero_add, ↓reduceIte, ne_eq, not_false_eq_true, eq_self, reduceCtorEq, TD.v]
  repeat (apply And.intro; focus (first | omega | (simp; done)))
  intro b hb
  refine Cal.mk (g1 _) ?_
  rintro _ _ ⟨rfl, rfl⟩ -
  cases hr : (TD.mk c s q a k L).right
  · simp (config := {maxSteps := 3000000}) (disch := ((fail_if_success refine selfNe ?_); omega)) only [run_reg, run_seq, run_ret, run_cond, if_true, at_code_n, at_code_r, at_fin_r, ops_nil, ops_mv, ops_un, ev_t, ev_c, put_get, opv_mk, vun, obsOk, and_true, true_and, ↓reduceIte, vret, rvAll, rvVal, resv_1, Bool.not_false, eq_self, Bool.false_eq_true]
    exact ⟨_, _, Wk.no, weak_put hwf.weak hb, rfl, rfl⟩
  have hL : L.length ≤ 1600 := by simp [TD.right] at hr; exact hr.1.1.2
  have B0 := Bd.start (cs := [.sc (.int .u16 c), .sc (.bool s), .sc (.int .u32 q), .sc (.bool a), .sc (.int .u32 k), .sl tk (bs L)]) hwf hb
  generalize st.put b _ = s0 at B0 ⊢
  generalize hs : s = s'
  generalize ha : a = a'
  cases s' <;> cases a'
  · subst hs ha
    simp (config := {maxSteps := 3000000}) (disch := ((fail_if_success refine selfNe ?_); omega)) only [run_skip, run_reg, run_seq, run_cond, if_false, at_code_n, ops_nil, ops_mv, ops_un, ops_fld, ops_load, ops_call, ev_t, ev_c, put_get, opv_mk, vun, vfld, vload, takeV, V.cells, obsOk, List.map_cons, List.map_nil, List.length_cons, List.length_nil, List.getElem?_cons_zero, List.getElem?_cons_succ, true_and, Nat.reduceEqDiff, Nat.zero_add, ↓reduceIte, Bool.not_true, eq_self, B0.box]
    refine Cal.mk (Put16_v B0.own (by simp only [List.length_nil]; omega) (by omega) (by omega)) ?_
    rintro r1 s1 ⟨x1, x2⟩ -
    have B1 := B0.app x1 x2
    simp (config := {maxSteps := 3000000}) (disch := ((fail_if_success refine selfNe ?_); omega)) only [ops_call, ev_t, ev_c, put_get, obsOk, List.map_cons, List.map_nil, true_and, ↓reduceIte, eq_self]
    refine Cal.mk (Put16_v B1.own (by simp only [List.length_append, List.length_nil, beL_len]; omega) (by omega) (by omega)) ?_
    rintro r2 s2 ⟨x1, x2⟩ -
    have B2 := B1.app x1 x2
    simp (config := {maxSteps := 3000000}) (disch := ((fail_if_success refine selfNe ?_); omega)) only [run_reg, run_seq, at_code_n, ops_nil, ops_mv, ops_conv, ops_fld, ops_load, ops_len, ops_call, ev_t, put_get, opv_mk, vconv, norm, vfld, vlen, vload, takeV, V.cells, obsOk, List.map_cons, List.map_nil, List.length_cons, List.length_nil, List.getElem?_cons_zero, List.getElem?_cons_succ, true_and, Nat.reduceEqDiff, Nat.zero_add, Nat.add_zero, ↓reduceIte, eq_self, B2.box, bs_len, emod_small]
    refine Cal.mk (Put16_v B2.own (by simp only [List.length_append, List.length_nil, beL_len]; omega) (by omega) (by omega)) ?_
    rintro r3 s3 ⟨x1, x2⟩ -
    have B3 := B2.app x1 x2
    simp (config := {maxSteps := 3000000}) (disch := ((fail_if_success refine selfNe ?_); omega)) only [ops_call, ev_t, put_get, vload, takeV, V.cells, obsOk, List.map_cons, List.map_nil, List.length_cons, List.length_nil, List.getElem?_cons_zero, and_true, true_and, Nat.reduceEqDiff, Nat.zero_add, ↓reduceIte, eq_self, B3.box]
    refine Cal.mk (Put16_v B3.own (by simp only [List.length_append, List.length_nil, beL_len]; omega) (by omega) (by omega)) ?_
    rintro r4 s4 ⟨x1, x2⟩ -
    have B4 := B3.app x1 x2
    simp (config := {maxSteps := 3000000}) (disch := ((fail_if_success refine selfNe ?_); omega)) only [run_skip, run_reg, run_seq, run_cond, if_false, at_code_n, ops_nil, ops_mv, ops_fld, ops_load, ops_app, ev_t, put_get, opv_mk, vfld, vload, takeV, V.cells, obsOk, List.length_cons, List.length_nil, List.getElem?_cons_zero, List.getElem?_cons_succ, true_and, Nat.reduceEqDiff, Nat.zero_add, ↓reduceIte, eq_self, B4.box]
    refine App.mk B4.own (allSz_bs _) (by simp only [List.length_append, List.length_nil, beL_len, bs_len, maxLen]; omega) (by simp only [List.length_append, List.length_nil, beL_len, bs_len]; omega) ?_
    intro r s x1 x2
    rw [bs_append] at x1
    have B := B4.app x1 x2
    simp (config := {maxSteps := 3000000}) (disch := ((fail_if_success refine selfNe ?_); omega)) only [run_ret, at_code_n, at_fin_r, ops_nil, ops_mv, ev_t, put_get, opv_mk, obsOk, and_true, true_and, ↓reduceIte, vret, rvAll, rvVal, resv_1, eq_self]
    obtain ⟨tk', rfl⟩ := B.own.sl
    exact ⟨_, _, Wk.no, B.weak, by simp [TD.bytes, TD.bits], rfl⟩
  · subst hs ha
    simp (config := {maxSteps := 3000000}) (disch := ((fail_if_success refine selfNe ?_); omega)) only [run_skip, run_reg, run_seq, run_cond, if_true, if_false, at_code_n, ops_nil, ops_mv, ops_bin, ops_un, ops_fld, ops_load, ops_call, ev_t, ev_c, put_get, opv_mk, vbin, vbinI, vun, vfld, vload, takeV, V.cells, obsOk, List.map_cons, List.map_nil, List.length_cons, List.length_nil, List.getElem?_cons_zero, List.getElem?_cons_succ, true_and, Nat.reduceEqDiff, Nat.zero_add, ↓reduceIte, Bool.not_true, eq_self, B0.box, or_2]
    refine Cal.mk (Put16_v B0.own (by simp only [List.length_nil]; omega) (by omega) (by omega)) ?_
    rintro r1 s1 ⟨x1, x2⟩ -
    have B1 := B0.app x1 x2
    simp (config := {maxSteps := 3000000}) (disch := ((fail_if_success refine selfNe ?_); omega)) only [ops_call, ev_t, ev_c, put_get, obsOk, List.map_cons, List.map_nil, true_and, ↓reduceIte, eq_self]
    refine Cal.mk (Put16_v B1.own (by simp only [List.length_append, List.length_nil, beL_len]; omega) (by omega) (by omega)) ?_
    rintro r2 s2 ⟨x1, x2⟩ -
    have B2 := B1.app x1 x2
    simp (config := {maxSteps := 3000000}) (disch := ((fail_if_success refine selfNe ?_); omega)) only [run_reg, run_seq, at_code_n, ops_nil, ops_mv, ops_conv, ops_fld, ops_load, ops_len, ops_call, ev_t, put_get, opv_mk, vconv, norm, vfld, vlen, vload, takeV, V.cells, obsOk, List.map_cons, List.map_nil, List.length_cons, List.length_nil, List.getElem?_cons_zero, List.getElem?_cons_succ, true_and, Nat.reduceEqDiff, Nat.zero_add, Nat.add_zero, ↓reduceIte, eq_self, B2.box, bs_len, emod_small]
    refine Cal.mk (Put16_v B2.own (by simp only [List.length_append, List.length_nil, beL_len]; omega) (by omega) (by omega)) ?_
    rintro r3 s3 ⟨x1, x2⟩ -
    have B3 := B2.app x1 x2
    simp (config := {maxSteps := 3000000}) (disch := ((fail_if_success refine selfNe ?_); omega)) only [ops_call, ev_t, put_get, vload, takeV, V.cells, obsOk, List.map_cons, List.map_nil, List.length_cons, List.length_nil, List.getElem?_cons_zero, and_true, true_and, Nat.reduceEqDiff, Nat.zero_add, ↓reduceIte, eq_self, B3.box]
    refine Cal.mk (Put16_v B3.own (by simp only [List.length_append, List.length_nil, beL_len]; omega) (by omega) (by omega)) ?_
    rintro r4 s4 ⟨x1, x2⟩ -
    have B4 := B3.app x1 x2
    simp (config := {maxSteps := 3000000}) (disch := ((fail_if_success refine selfNe ?_); omega)) only [run_skip, run_reg, run_seq, run_cond, if_true, if_false, at_code_n, ops_nil, ops_mv, ops_fld, ops_load, ops_call, ev_t, put_get, opv_mk, vfld, vload, takeV, V.cells, obsOk, List.map_cons, List.map_nil, List.length_cons, List.length_nil, List.getElem?_cons_zero, List.getElem?_cons_succ, true_and, Nat.reduceEqDiff, Nat.zero_add, ↓reduceIte, eq_self, B4.box]
    refine Cal.mk (Put32_v B4.own (by simp only [List.length_append, List.length_nil, beL_len]; omega) (by omega) (by omega)) ?_
    rintro r5 s5 ⟨x1, x2⟩ -
    have B5 := B4.app x1 x2
    simp (config := {maxSteps := 3000000}) (disch := ((fail_if_success refine selfNe ?_); omega)) only [run_reg, run_seq, at_code_n, ops_nil, ops_mv, ops_fld, ops_load, ops_app, ev_t, put_get, opv_mk, vfld, vload, takeV, V.cells, obsOk, List.length_cons, List.length_nil, List.getElem?_cons_zero, List.getElem?_cons_succ, true_and, Nat.reduceEqDiff, Nat.zero_add, ↓reduceIte, eq_self, B5.box]
    refine App.mk B5.own (allSz_bs _) (by simp only [List.length_append, List.length_nil, beL_len, bs_len, maxLen]; omega) (by simp only [List.length_append, List.length_nil, beL_len, bs_len]; omega) ?_
    intro r s x1 x2
    rw [bs_append] at x1
    have B := B5.app x1 x2
    simp (config := {maxSteps := 3000000}) (disch := ((fail_if_success refine selfNe ?_); omega)) only [run_ret, at_code_n, at_fin_r, ops_nil, ops_mv, ev_t, put_get, opv_mk, obsOk, and_true, true_and, ↓reduceIte, vret, rvAll, rvVal, resv_1, eq_self]
    obtain ⟨tk', rfl⟩ := B.own.sl
    exact ⟨_, _, Wk.no, B.weak, by simp [TD.bytes, TD.bits], rfl⟩
  · subst hs ha
    simp (config := {maxSteps := 3000000}) (disch := ((fail_if_success refine selfNe ?_); omega)) only [run_skip, run_reg, run_seq, run_cond, if_true, if_false, at_code_n, ops_nil, ops_mv, ops_bin, ops_un, ops_fld, ops_load, ops_call, ev_t, ev_c, put_get, opv_mk, vbin, vbinI, vun, vfld, vload, takeV, V.cells, obsOk, List.map_cons, List.map_nil, List.length_cons, List.length_nil, List.getElem?_cons_zero, List.getElem?_cons_succ, true_and, Nat.reduceEqDiff, Nat.zero_add, ↓reduceIte, Bool.not_true, eq_self, B0.box, or_1]
    refine Cal.mk (Put16_v B0.own (by simp only [List.length_nil]; omega) (by omega) (by omega)) ?_
    rintro r1 s1 ⟨x1, x2⟩ -
    have B1 := B0.app x1 x2
    simp (config := {maxSteps := 3000000}) (disch := ((fail_if_success refine selfNe ?_); omega)) only [ops_call, ev_t, ev_c, put_get, obsOk, List.map_cons, List.map_nil, true_and, ↓reduceIte, eq_self]
    refine Cal.mk (Put16_v B1.own (by simp only [List.length_append, List.length_nil, beL_len]; omega) (by omega) (by omega)) ?_
    rintro r2 s2 ⟨x1, x2⟩ -
    have B2 := B1.app x1 x2
    simp (config := {maxSteps := 3000000}) (disch := ((fail_if_success refine selfNe ?_); omega)) only [run_reg, run_seq, at_code_n, ops_nil, ops_mv, ops_conv, ops_fld, ops_load, ops_len, ops_call, ev_t, put_get, opv_mk, vconv, norm, vfld, vlen, vload, takeV, V.cells, obsOk, List.map_cons, List.map_nil, List.length_cons, List.length_nil, List.getElem?_cons_zero, List.getElem?_cons_succ, true_and, Nat.reduceEqDiff, Nat.zero_add, Nat.add_zero, ↓reduceIte, eq_self, B2.box, bs_len, emod_small]
    refine Cal.mk (Put16_v B2.own (by simp only [List.length_append, List.length_nil, beL_len]; omega) (by omega) (by omega)) ?_
    rintro r3 s3 ⟨x1, x2⟩ -
    have B3 := B2.app x1 x2
    simp (config := {maxSteps := 3000000}) (disch := ((fail_if_success refine selfNe ?_); omega)) only [ops_call, ev_t, put_get, vload, takeV, V.cells, obsOk, List.map_cons, List.map_nil, List.length_cons, List.length_nil, List.getElem?_cons_zero, and_true, true_and, Nat.reduceEqDiff, Nat.zero_add, ↓reduceIte, eq_self, B3.box]
    refine Cal.mk (Put16_v B3.own (by simp only [List.length_append, List.length_nil, beL_len]; omega) (by omega) (by omega)) ?_
    rintro r4 s4 ⟨x1, x2⟩ -
    have B4 := B3.app x1 x2
    simp (config := {maxSteps := 3000000}) (disch := ((fail_if_success refine selfNe ?_); omega)) only [run_reg, run_seq, run_cond, if_true, at_code_n, ops_nil, ops_mv, ops_fld, ops_load, ops_call, ev_t, put_get, opv_mk, vfld, vload, takeV, V.cells, obsOk, List.map_cons, List.map_nil, List.length_cons, List.length_nil, List.getElem?_cons_zero, List.getElem?_cons_succ, true_and, Nat.reduceEqDiff, Nat.zero_add, ↓reduceIte, eq_self, B4.box]
    refine Cal.mk (Put32_v B4.own (by simp only [List.length_append, List.length_nil, beL_len]; omega) (by omega) (by omega)) ?_
    rintro r5 s5 ⟨x1, x2⟩ -
    have B5 := B4.app x1 x2
    simp (config := {maxSteps := 3000000}) (disch := ((fail_if_success refine selfNe ?_); omega)) only [run_skip, run_reg, run_seq, run_cond, if_false, at_code_n, ops_nil, ops_mv, ops_fld, ops_load, ops_app, ev_t, put_get, opv_mk, vfld, vload, takeV, V.cells, obsOk, List.length_cons, List.length_nil, List.getElem?_cons_zero, List.getElem?_cons_succ, true_and, Nat.reduceEqDiff, Nat.zero_add, ↓reduceIte, eq_self, B5.box]
    refine App.mk B5.own (allSz_bs _) (by simp only [List.length_append, List.length_nil, beL_len, bs_len, maxLen]; omega) (by simp only [List.length_append, List.length_nil, beL_len, bs_len]; omega) ?_
    intro r s x1 x2
    rw [bs_append] at x1
    have B := B5.app x1 x2
    simp (config := {maxSteps := 3000000}) (disch := ((fail_if_success refine selfNe ?_); omega)) only [run_ret, at_code_n, at_fin_r, ops_nil, ops_mv, ev_t, put_get, opv_mk, obsOk, and_true, true_and, ↓reduceIte, vret, rvAll, rvVal, resv_1, eq_self]
    obtain ⟨tk', rfl⟩ := B.own.sl
    exact ⟨_, _, Wk.no, B.weak, by simp [TD.bytes, TD.bits], rfl⟩
  · subst hs ha
    simp (config := {maxSteps := 3000000}) (disch := ((fail_if_success refine selfNe ?_); omega)) only [run_skip, run_reg, run_seq, run_cond, if_true, if_false, at_code_n, ops_nil, ops_mv, ops_bin, ops_un, ops_fld, ops_load, ops_call, ev_t, ev_c, put_get, opv_mk, vbin, vbinI, vun, vfld, vload, takeV, V.cells, obsOk, List.map_cons, List.map_nil, List.length_cons, List.length_nil, List.getElem?_cons_zero, List.getElem?_cons_succ, true_and, Nat.reduceEqDiff, Nat.zero_add, ↓reduceIte, Bool.not_true, eq_self, B0.box, or_1, or_3]
    refine Cal.mk (Put16_v B0.own (by simp only [List.length_nil]; omega) (by omega) (by omega)) ?_
    rintro r1 s1 ⟨x1, x2⟩ -
    have B1 := B0.app x1 x2
    simp (config := {maxSteps := 3000000}) (disch := ((fail_if_success refine selfNe ?_); omega)) only [ops_call, ev_t, ev_c, put_get, obsOk, List.map_cons, List.map_nil, true_and, ↓reduceIte, eq_self]
    refine Cal.mk (Put16_v B1.own (by simp only [List.length_append, List.length_nil, beL_len]; omega) (by omega) (by omega)) ?_
    rintro r2 s2 ⟨x1, x2⟩ -
    have B2 := B1.app x1 x2
    simp (config := {maxSteps := 3000000}) (disch := ((fail_if_success refine selfNe ?_); omega)) only [run_reg, run_seq, at_code_n, ops_nil, ops_mv, ops_conv, ops_fld, ops_load, ops_len, ops_call, ev_t, put_get, opv_mk, vconv, norm, vfld, vlen, vload, takeV, V.cells, obsOk, List.map_cons, List.map_nil, List.length_cons, List.length_nil, List.getElem?_cons_zero, List.getElem?_cons_succ, true_and, Nat.reduceEqDiff, Nat.zero_add, Nat.add_zero, ↓reduceIte, eq_self, B2.box, bs_len, emod_small]
    refine Cal.mk (Put16_v B2.own (by simp only [List.length_append, List.length_nil, beL_len]; omega) (by omega) (by omega)) ?_
    rintro r3 s3 ⟨x1, x2⟩ -
    have B3 := B2.app x1 x2
    simp (config := {maxSteps := 3000000}) (disch := ((fail_if_success refine selfNe ?_); omega)) only [ops_call, ev_t, put_get, vload, takeV, V.cells, obsOk, List.map_cons, List.map_nil, List.length_cons, List.length_nil, List.getElem?_cons_zero, and_true, true_and, Nat.reduceEqDiff, Nat.zero_add, ↓reduceIte, eq_self, B3.box]
    refine Cal.mk (Put16_v B3.own (by simp only [List.length_append, List.length_nil, beL_len]; omega) (by omega) (by omega)) ?_
    rintro r4 s4 ⟨x1, x2⟩ -
    have B4 := B3.app x1 x2
    simp (config := {maxSteps := 3000000}) (disch := ((fail_if_success refine selfNe ?_); omega)) only [run_reg, run_seq, run_cond, if_true, at_code_n, ops_nil, ops_mv, ops_fld, ops_load, ops_call, ev_t, put_get, opv_mk, vfld, vload, takeV, V.cells, obsOk, List.map_cons, List.map_nil, List.length_cons, List.length_nil, List.getElem?_cons_zero, List.getElem?_cons_succ, true_and, Nat.reduceEqDiff, Nat.zero_add, ↓reduceIte, eq_self, B4.box]
    refine Cal.mk (Put32_v B4.own (by simp only [List.length_append, List.length_nil, beL_len]; omega) (by omega) (by omega)) ?_
    rintro r5 s5 ⟨x1, x2⟩ -
    have B5 := B4.app x1 x2
    simp (config := {maxSteps := 3000000}) (disch := ((fail_if_success refine selfNe ?_); omega)) only [run_reg, run_seq, run_cond, if_true, at_code_n, ops_nil, ops_mv, ops_fld, ops_load, ops_call, ev_t, put_get, opv_mk, vfld, vload, takeV, V.cells, obsOk, List.map_cons, List.map_nil, List.length_cons, List.length_nil, List.getElem?_cons_zero, List.getElem?_cons_succ, true_and, Nat.reduceEqDiff, Nat.zero_add, ↓reduceIte, eq_self, B5.box]
    refine Cal.mk (Put32_v B5.own (by simp only [List.length_append, List.length_nil, beL_len]; omega) (by omega) (by omega)) ?_
    rintro r6 s6 ⟨x1, x2⟩ -
    have B6 := B5.app x1 x2
    simp (config := {maxSteps := 3000000}) (disch := ((fail_if_success refine selfNe ?_); omega)) only [run_reg, run_seq, at_code_n, ops_nil, ops_mv, ops_fld, ops_load, ops_app, ev_t, put_get, opv_mk, vfld, vload, takeV, V.cells, obsOk, List.length_cons, List.length_nil, List.getElem?_cons_zero, List.getElem?_cons_succ, true_and, Nat.reduceEqDiff, Nat.zero_add, ↓reduceIte, eq_self, B6.box]
    refine App.mk B6.own (allSz_bs _) (by simp only [List.length_append, List.length_nil, beL_len, bs_len, maxLen]; omega) (by simp only [List.length_append, List.length_nil, beL_len, bs_len]; omega) ?_
    intro r s x1 x2
    rw [bs_append] at x1
    have B := B6.app x1 x2
    simp (config := {maxSteps := 3000000}) (disch := ((fail_if_success refine selfNe ?_); omega)) only [run_ret, at_code_n, at_fin_r, ops_nil, ops_mv, ev_t, put_get, opv_mk, obsOk, and_true, true_and, ↓reduceIte, vret, rvAll, rvVal, resv_1, eq_self]
    obtain ⟨tk', rfl⟩ := B.own.sl
    exact ⟨_, _, Wk.no, B.weak, by simp [TD.bytes, TD.bits], rfl⟩
end
end Go.Proofs.Ytbmkohmhiafphaa
