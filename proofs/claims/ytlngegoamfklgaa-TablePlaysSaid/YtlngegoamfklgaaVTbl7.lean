/- The table's law: the statement. -/
import Derived.Test.YtlngegoamfklgaaVTbl6
namespace Go.Proofs.Ytlngegoamfklgaa
open Go

def kys (M : List Key) : List V := M.map keyV
theorem kys_len (M : List Key) : (kys M).length = M.length := by simp [kys]
theorem kys_get {M : List Key} {i : Nat} (h : i < M.length) : (kys M)[i]? = some (.agg [.sc (.int .i64 M[i]!.1), .sc (.int .u16 M[i]!.2)]) := by
  unfold kys
  rw [List.getElem?_map, bang_get h]
  rfl
theorem kys_append (l m : List Key) : kys l ++ kys m = kys (l ++ m) := by simp [kys]
theorem allSz_kys (l : List Key) : allSz 2 (kys l) := fun d hd => by
  obtain ⟨x, _, rfl⟩ := List.mem_map.1 hd; rfl
section
variable {st : St} {most conn : Int} {t2 : Tk}
set_option maxRecDepth 100000 in
theorem eqKey_v {b1 n1 b2 n2 : Nat} {L : List Key} {s1 s2 : List V} (h1 : st.box b1 = some (rowc kval L s1)) (m1 : mono (rowc kval L s1)) (h2 : st.box b2 = some (rowc kval L s2)) (m2 : mono (rowc kval L s2)) (hl : L.length < 4611686018427387904) :
    VCalls Try.prog 53 [dataV b1 L.length n1, dataV b2 L.length n2] st fun r s => r = .sc (.bool true) ∧ st = s := by
  refine vcalls_enter vc53 (Nat.le_of_ble_eq_true rfl) fun hwf hok => ?_
  show Run _ Vc53.body (.fin (finQ Vc53.res _)) _ _
  unfold Vc53
  simp (config := {maxSteps := 3000000}) only [run_skip, run_reg, run_seq, run_blk, run_cond, if_false, at_code_n, ops_nil, ops_mv, ops_bin, ops_len, ev_t, ev_c, put_get, opv_mk, args0, List.getD_cons_zero, List.getD_cons_succ, vbin, vbinI, vlen, true_and, Nat.reduceEqDiff, ↓reduceIte, decide_false, ne_eq, not_true_eq_false, eq_self, reduceCtorEq, dataV]
  refine run_loop [4, 5, 13, 14, 15, 16, 17, 18, 19, 20, 21, 22, 23, 24, 25] (fun B s => ∃ i : Nat, i ≤ L.length ∧ B 13 = .sc (.int .i64 i) ∧ s = st) (fun B _ => L.length - vnat (B 13)) rfl ?_ ?_
  · simp (config := {maxSteps := 3000000}) only [put_get, and_true, ↓reduceIte, eq_self]
    exact ⟨0, by omega, rfl⟩
  · rintro B s ⟨i, hi, h13, rfl⟩
    by_cases c1 : i < L.length
    · simp (config := {maxSteps := 3000000}) only [run_skip, run_reg, run_seq, run_blk, run_cond, if_true, if_false, at_code_n, at_blk_n, at_rnd_n, ops_nil, ops_mv, ops_bin, ops_eqs, veqs, ops_ix, ops_load, ev_t, ev_c, put_get, opv_mk, over_get, rel_mk, vnat, args0, List.getD_cons_zero, List.getD_cons_succ, vbin, vbinI, norm, vix, vload, takeV, takeB, fitsV, and_true, true_and, Nat.reduceEqDiff, Int.toNat_natCast, Int.reduceNeg, Nat.zero_add, ↓reduceIte, decide_true, Bool.not_true, eq_self, reduceCtorEq, Bool.false_eq_true, List.contains_cons, List.contains_nil, Nat.reduceBEq, Bool.or_false, Bool.or_true, h13, h1, h2, rowc_get c1, rowc_len, m1, m2, kval, fitsV, eqV, Bool.and_self, decide_eq_true (show (i : Int) < (L.length : Int) by omega)]
      repeat (apply And.intro; focus (first | omega | (simp; done)))
      exact ⟨⟨i + 1, by omega, by simp⟩, by omega⟩
    · simp (config := {maxSteps := 3000000}) only [run_reg, run_seq, run_exit, run_ret, run_cond, if_false, at_code_n, at_code_x, at_blk_x, at_rnd_x, at_fin_r, ops_nil, ops_mv, ops_bin, ev_t, ev_c, put_get, opv_mk, over_get, vnat, vbin, vbinI, and_true, true_and, Nat.reduceEqDiff, Int.toNat_natCast, ↓reduceIte, vret, rvAll, rvVal, resv_1, eq_self, Bool.false_eq_true, List.contains_cons, List.contains_nil, Nat.reduceBEq, Bool.or_false, Bool.or_true, h13, decide_eq_false (show ¬ (i : Int) < (L.length : Int) by omega)]
      exact ⟨_, _, Wk.refl _, hwf.weak, rfl, rfl⟩
set_option maxRecDepth 100000 in
theorem eqKey1_v {b1 n1 : Nat} {tk : Tk} {L : List Key} {s1 : List V} (h1 : st.box b1 = some (rowc kval L s1)) (m1 : mono (rowc kval L s1)) (hl : L.length < 4611686018427387904) :
    VCalls Try.prog 53 [dataV b1 L.length n1, .sl tk (kys L)] st fun r s => r = .sc (.bool true) ∧ st = s := by
  refine vcalls_enter vc53 (Nat.le_of_ble_eq_true rfl) fun hwf hok => ?_
  show Run _ Vc53.body (.fin (finQ Vc53.res _)) _ _
  unfold Vc53
  simp (config := {maxSteps := 3000000}) only [run_skip, run_reg, run_seq, run_blk, run_cond, if_false, at_code_n, ops_nil, ops_mv, ops_bin, ops_len, ev_t, ev_c, put_get, opv_mk, args0, List.getD_cons_zero, List.getD_cons_succ, vbin, vbinI, vlen, true_and, Nat.reduceEqDiff, ↓reduceIte, decide_false, ne_eq, not_true_eq_false, eq_self, reduceCtorEq, dataV, kys_len]
  refine run_loop [4, 5, 13, 14, 15, 16, 17, 18, 19, 20, 21, 22, 23, 24, 25] (fun B s => ∃ i : Nat, i ≤ L.length ∧ B 13 = .sc (.int .i64 i) ∧ s = st) (fun B _ => L.length - vnat (B 13)) rfl ?_ ?_
  · simp (config := {maxSteps := 3000000}) only [put_get, and_true, ↓reduceIte, eq_self]
    exact ⟨0, by omega, rfl⟩
  · rintro B s ⟨i, hi, h13, rfl⟩
    by_cases c1 : i < L.length
    · simp (config := {maxSteps := 3000000}) only [run_skip, run_reg, run_seq, run_blk, run_cond, if_true, if_false, at_code_n, at_blk_n, at_rnd_n, ops_nil, ops_mv, ops_bin, ops_eqs, veqs, ops_ix, ops_load, ev_t, ev_c, put_get, opv_mk, over_get, rel_mk, vnat, args0, List.getD_cons_zero, List.getD_cons_succ, vbin, vbinI, norm, vix, vload, takeV, takeB, fitsV, V.cells, List.length_cons, List.length_nil, List.take_succ_cons, List.drop_zero, List.take_nil, and_true, true_and, Nat.reduceEqDiff, Nat.reduceAdd, Nat.reduceLeDiff, Int.toNat_natCast, Int.reduceNeg, Nat.zero_add, ↓reduceIte, decide_true, Bool.not_true, eq_self, reduceCtorEq, Bool.false_eq_true, List.contains_cons, List.contains_nil, Nat.reduceBEq, Bool.or_false, Bool.or_true, h13, h1, kys_get c1, rowc_get c1, rowc_len, m1, kval, fitsV, eqV, Bool.and_self, decide_eq_true (show (i : Int) < (L.length : Int) by omega)]
      repeat (apply And.intro; focus (first | omega | (simp; done)))
      exact ⟨⟨i + 1, by omega, by simp⟩, by omega⟩
    · simp (config := {maxSteps := 3000000}) only [run_reg, run_seq, run_exit, run_ret, run_cond, if_false, at_code_n, at_code_x, at_blk_x, at_rnd_x, at_fin_r, ops_nil, ops_mv, ops_bin, ev_t, ev_c, put_get, opv_mk, over_get, vnat, vbin, vbinI, and_true, true_and, Nat.reduceEqDiff, Int.toNat_natCast, ↓reduceIte, vret, rvAll, rvVal, resv_1, eq_self, Bool.false_eq_true, List.contains_cons, List.contains_nil, Nat.reduceBEq, Bool.or_false, Bool.or_true, h13, decide_eq_false (show ¬ (i : Int) < (L.length : Int) by omega)]
      exact ⟨_, _, Wk.refl _, hwf.weak, rfl, rfl⟩
set_option maxRecDepth 100000 in
theorem eqKey0_v {b1 n1 : Nat} : VCalls Try.prog 53 [dataV b1 0 n1, .sl .nil []] st fun r s => r = .sc (.bool true) ∧ st = s := by
  have nc0 : ((0 : Nat) : Int) = 0 := rfl
  refine vcalls_enter vc53 (Nat.le_of_ble_eq_true rfl) fun hwf hok => ?_
  show Run _ Vc53.body (.fin (finQ Vc53.res _)) _ _
  unfold Vc53
  simp (config := {maxSteps := 3000000}) only [run_skip, run_reg, run_seq, run_blk, run_cond, if_false, at_code_n, ops_nil, ops_mv, ops_bin, ops_len, ev_t, ev_c, put_get, opv_mk, args0, List.getD_cons_zero, List.getD_cons_succ, vbin, vbinI, vlen, List.length_nil, true_and, Nat.reduceEqDiff, ↓reduceIte, decide_false, ne_eq, not_true_eq_false, eq_self, reduceCtorEq, dataV, nc0]
  refine run_loop [4, 5, 13, 14, 15, 16, 17, 18, 19, 20, 21, 22, 23, 24, 25] (fun B s => B 13 = .sc (.int .i64 0) ∧ s = st) (fun B _ => 0) rfl ?_ ?_
  · simp (config := {maxSteps := 3000000}) only [put_get, and_true, ↓reduceIte, eq_self]
  · rintro B s ⟨h13, rfl⟩
    simp (config := {maxSteps := 3000000}) only [run_reg, run_seq, run_exit, run_ret, run_cond, if_false, at_code_n, at_code_x, at_blk_x, at_rnd_x, at_fin_r, ops_nil, ops_mv, ops_bin, ev_t, ev_c, put_get, opv_mk, over_get, vbin, vbinI, and_true, true_and, Nat.reduceEqDiff, ↓reduceIte, vret, rvAll, rvVal, resv_1, decide_false, Int.lt_irrefl, eq_self, Bool.false_eq_true, List.contains_cons, List.contains_nil, Nat.reduceBEq, Bool.or_false, Bool.or_true, h13]
    exact ⟨_, _, Wk.refl _, hwf.weak, rfl, rfl⟩
set_option maxRecDepth 100000 in
set_option maxHeartbeats 4000000 in
theorem alive18_v : VCalls Try.prog 56 [] st fun r s => r = .sc (.bool true) ∧ st = s := by
  refine vcalls_enter vc56 (Nat.le_of_ble_eq_true rfl) fun hwf hok => ?_
  show Run _ Vc56.body (.fin (finQ Vc56.res _)) _ _
  unfold Vc56
  simp (config := {maxSteps := 3000000}) only [run_reg, run_seq, at_code_n, ops_nil, ops_mv, ops_call, ev_c, opv_mk, List.map_cons, List.map_nil, true_and]
  refine Cal.mk tblNew_v ?_
  rintro _ s1 ⟨b, mb, rfl, P, hw, hl, fb, fm⟩ -
  simp (config := {maxSteps := 3000000}) only [run_reg, run_seq, at_code_n, ops_nil, ops_grd, grd_ff, ops_mv, ops_pnil, vpnil, ops_bld, ops_call, ev_t, ev_c, put_get, opv_mk, vbld, fillV, splice, V.cells, ptrV, obsOk, List.map_cons, List.map_nil, List.length_cons, List.length_nil, List.take_succ_cons, List.take_zero, List.drop_succ_cons, List.cons_append, List.nil_append, List.append_nil, List.drop_nil, and_true, true_and, Nat.reduceEqDiff, Nat.reduceAdd, Nat.reduceLT, Nat.reduceLeDiff, Nat.reduceLT, Nat.zero_add, ↓reduceIte, eq_self]
  refine Cal.mk (tblPut_v P (by simp) (k := ((0 : Int), (1 : Int)))) ?_
  rintro _ s2 hq -
  have hq : PutQ s1 mb 2 [] [] 0 (0, 1) 7 _ s2 := hq
  rcases hq with ⟨hq, _⟩ | ⟨_, _, rfl, rfl⟩
  · exfalso
    rcases hq with hq | hq
    · cases hq
    · simp [manyT] at hq
  have P1 := P.set (0, 1) 7
  simp only [aset] at P1
  simp (config := {maxSteps := 3000000}) only [run_skip, run_reg, run_seq, run_cond, if_false, at_code_n, ops_nil, ops_grd, grd_ff, ops_mv, ops_pick, ops_un, ops_call, ev_t, ev_c, put_get, opv_mk, vpick, vun, obsOk, List.map_cons, List.map_nil, true_and, Nat.reduceEqDiff, ↓reduceIte, Bool.not_true, eq_self, Bool.false_eq_true]
  refine Cal.mk (tblFresh_v P1 (by simp)) ?_
  rintro v s3 ⟨rfl, hq⟩ -
  rcases hq with ⟨hq, _⟩ | ⟨_, n, n1, n2, n3, n4, rfl⟩
  · simp [manyT] at hq
  have hn : n = 2 := by
    rcases Nat.lt_trichotomy n 2 with h | h | h
    · have : n = 1 := by omega
      subst this
      simp [aget] at n3
    · exact h
    · exact absurd (by simp [aget]) (n4 2 (by omega) h)
  subst hn
  have nc2 : ((2 : Nat) : Int) = 2 := rfl
  simp (config := {maxSteps := 3000000}) only [run_reg, run_seq, at_code_n, ops_nil, ops_grd, grd_tt, ops_mv, ops_pick, ops_bin, ops_ext, ops_call, ev_t, ev_c, put_get, opv_mk, vpick, vbin, vbinI, vext, obsOk, List.map_cons, List.map_nil, List.getElem?_cons_zero, List.getElem?_cons_succ, true_and, Nat.reduceEqDiff, ↓reduceIte, decide_true, eq_self, nc2]
  refine Cal.mk (tblLen_v P1) ?_
  rintro _ _ ⟨rfl, rfl⟩ -
  have nc1 : (([((0, 1), 7)] : List It).length : Int) = 1 := rfl
  simp (config := {maxSteps := 3000000}) only [run_ret, at_code_n, at_fin_r, ops_nil, ops_grd, grd_tt, ops_mv, ops_pick, ops_bin, ev_t, ev_c, put_get, opv_mk, vpick, vbin, vbinI, obsOk, List.length_cons, List.length_nil, and_true, true_and, Nat.reduceEqDiff, Nat.zero_add, ↓reduceIte, vret, rvAll, rvVal, resv_1, eq_self]
  exact ⟨_, _, Wk.refl _, weak_put hw fm, rfl, rfl⟩
end
/-- A call of the law's. -/
structure OpT where
  kind : Int
  x : Int
  c : Int
  n : Int
def OpT.v (o : OpT) : V := .agg [.sc (.int .i64 o.kind), .sc (.int .i64 o.x), .sc (.int .i64 o.c), .sc (.int .u16 o.n)]
def opsT (l : List OpT) : List V := l.map OpT.v
theorem opt_len (l : List OpT) : (opsT l).length = l.length := by simp [opsT]
theorem opt_get {l : List OpT} {i : Nat} {o : OpT} (h : l[i]? = some o) : (opsT l)[i]? = some (.agg [.sc (.int .i64 o.kind), .sc (.int .i64 o.x), .sc (.int .i64 o.c), .sc (.int .u16 o.n)]) := by simp [opsT, h, OpT.v]
/-- A peer's keys of the first j. -/
def ownK (conn : Int) (l : List It) : List Key := (l.map (·.1)).filter fun k => !decide (k.1 ≠ conn)
theorem SrtL.pw {l : List It} (h : SrtL l) : (l.map (·.1)).Pairwise fun x y => ltK y x = false := List.pairwise_map.2 (h.imp fun {a b} hab => ltK_ord.asymm hab)
section
variable {st : St} {most conn : Int} {C : List OpT} {t2 : Tk}
set_option maxRecDepth 100000 in
set_option maxHeartbeats 16000000 in
theorem tablePlays_v : VCalls Try.prog 8 [.sc (.int .i64 most), .sl t2 (opsT C), .sc (.int .i64 conn)] st fun r s => r = .sc (.bool true) ∧ st = s := by
  refine vcalls_enter vc8 (Nat.le_of_ble_eq_true rfl) fun hwf hok => ?_
  show Run _ Vc8.body (.fin (finQ Vc8.res _)) _ _
  unfold Vc8
  have hcm := vlen_max (hok (.sl t2 (opsT C)) (by simp))
  rw [opt_len] at hcm
  by_cases c80 : 80 < C.length
  · simp (config := {maxSteps := 3000000}) only [run_reg, run_seq, run_ret, run_cond, if_true, at_code_n, at_code_r, at_fin_r, ops_nil, ops_mv, ops_bin, ops_len, ev_t, ev_c, put_get, opv_mk, args0, List.getD_cons_zero, List.getD_cons_succ, vbin, vbinI, vlen, and_true, true_and, Nat.reduceEqDiff, ↓reduceIte, vret, rvAll, rvVal, resv_1, eq_self, opt_len, decide_eq_true (show (80 : Int) < (C.length : Int) by omega)]
    exact ⟨_, _, Wk.refl _, hwf.weak, rfl, rfl⟩
  simp (config := {maxSteps := 3000000}) only [run_skip, run_reg, run_seq, run_cond, if_false, at_code_n, ops_nil, ops_mv, ops_bin, ops_len, ops_call, ev_t, ev_c, put_get, opv_mk, args0, List.getD_cons_zero, List.getD_cons_succ, vbin, vbinI, vlen, List.map_cons, List.map_nil, true_and, Nat.reduceEqDiff, ↓reduceIte, eq_self, reduceCtorEq, opt_len, decide_eq_false (show ¬ (80 : Int) < (C.length : Int) by omega)]
  refine Cal.mk tblNew_v ?_
  rintro _ s1 ⟨b, mb, rfl, P, hst, hl, fb, fm⟩ -
  simp (config := {maxSteps := 3000000}) only [run_skip, run_reg, run_seq, run_blk, run_cond, if_false, at_code_n, ops_nil, ops_mv, ops_pnil, vpnil, ev_t, ev_c, put_get, opv_mk, ptrV, obsOk, true_and, ↓reduceIte, eq_self]
  refine run_loop [6, 8, 9, 10, 11, 22, 23, 24, 25, 26, 27, 28, 29, 30, 31, 32, 33, 34, 35, 36, 37, 38, 39, 40, 41, 42, 43, 44, 45, 46, 47, 48, 49, 50, 51, 52, 53, 54, 55, 56, 57, 58, 59, 60, 61, 62, 63] (fun B s => ∃ (i : Nat) (T l : List It) (es : List (V × V × Nat)) (c : Nat) (tv : Tk), i ≤ C.length ∧ l.length ≤ i ∧ B 9 = .sc (.int .i64 i) ∧ B 8 = .sl tv (its l) ∧ TblB s b mb most T es c ∧ T.Perm l ∧ SrtL l ∧ st.weak s ∧ s.Lt) (fun B _ => C.length - vnat (B 9)) rfl ?_ ?_
  · exact ⟨0, [], [], [], 0, .nil, by omega, by simp, rfl, rfl, P, .refl _, .nil, hst, hl⟩
  · clear P hst hl
    rintro B s ⟨i, T, l, es, c, tv, hi, hll, h9, h8, P, hp, hs, hst, hl⟩
    have hTl := hp.length_eq
    by_cases c1 : i < C.length
    · obtain ⟨o, ho⟩ := get_ex c1
      by_cases c3 : o.kind < 0
      · simp (config := {maxSteps := 3000000}) only [run_skip, run_reg, run_seq, run_blk, run_ret, run_cond, if_true, at_code_n, at_code_r, at_blk_r, at_rnd_r, at_fin_r, ops_nil, ops_mv, ops_bin, ops_fld, ops_ix, ops_load, ops_len, ev_t, ev_c, put_get, opv_mk, over_get, vnat, args0, List.getD_cons_zero, List.getD_cons_succ, vbin, vbinI, vfld, vlen, vix, vload, takeV, V.cells, List.length_cons, List.length_nil, List.getElem?_cons_zero, and_true, true_and, Nat.reduceEqDiff, Nat.reduceAdd, Int.toNat_natCast, Nat.zero_add, Nat.add_zero, ↓reduceIte, vret, rvAll, rvVal, resv_1, eq_self, Bool.false_eq_true, List.contains_cons, List.contains_nil, Nat.reduceBEq, Bool.or_false, Bool.or_true, h9, opt_len, opt_get ho, decide_eq_true (show (i : Int) < (C.length : Int) by omega), decide_eq_true c3]
        repeat (apply And.intro; focus (first | omega | (simp; done)))
        exact ⟨_, _, Wk.refl _, hst, rfl, rfl⟩
      simp (config := {maxSteps := 3000000}) only [run_skip, run_reg, run_seq, run_blk, run_cond, if_true, if_false, at_code_n, ops_nil, ops_mv, ops_bin, ops_fld, ops_ix, ops_load, ops_len, ops_call, ev_t, ev_c, put_get, opv_mk, over_get, vnat, args0, List.getD_cons_zero, List.getD_cons_succ, vbin, vbinI, vfld, vlen, vix, vload, takeV, V.cells, List.map_cons, List.map_nil, List.length_cons, List.length_nil, List.getElem?_cons_zero, List.take_succ_cons, List.drop_zero, List.take_nil, and_true, true_and, Nat.reduceEqDiff, Nat.reduceAdd, Nat.reduceLeDiff, Int.toNat_natCast, Nat.zero_add, Nat.add_zero, ↓reduceIte, eq_self, reduceCtorEq, Bool.false_eq_true, List.contains_cons, List.contains_nil, Nat.reduceBEq, Bool.or_false, Bool.or_true, h9, h8, opt_len, opt_get ho, decide_eq_true (show (i : Int) < (C.length : Int) by omega), decide_eq_false c3]
      repeat (apply And.intro; focus (first | omega | (simp; done)))
      refine Cal.mk (step18_v (k := (o.c, o.n)) P (by omega) hp hs (by omega)) ?_
      rintro _ _ ⟨T', l', es', c', rfl, rfl, P', hp', hs', hll'⟩ -
      have hst' := weak_put (b := mb) (cs := [.mp true [.int .i64, .int .u16] es' c']) hst fm
      have hl' := hl.put (b := mb) (cs := [.mp true [.int .i64, .int .u16] es' c'])
      generalize s.put mb [.mp true [.int .i64, .int .u16] es' c'] = s3 at P' hst' hl' ⊢
      have hTl' := hp'.length_eq
      simp (config := {maxSteps := 3000000}) only [run_reg, run_seq, at_code_n, ops_nil, ops_grd, grd_ff, ops_mv, ops_un, ops_ext, ops_call, ev_t, put_get, opv_mk, over_get, vun, vext, obsOk, List.map_cons, List.map_nil, List.getElem?_cons_zero, List.getElem?_cons_succ, true_and, Nat.reduceEqDiff, ↓reduceIte, Bool.not_true, eq_self, Bool.false_eq_true, List.contains_cons, List.contains_nil, Nat.reduceBEq, Bool.or_false]
      refine Cal.mk (tblLen_v P') ?_
      rintro _ _ ⟨rfl, rfl⟩ -
      rw [hTl']
      simp (config := {maxSteps := 3000000}) only [ops_grd, grd_ff, ops_mv, ops_pick, ops_bin, ops_len, ops_call, ev_t, put_get, opv_mk, over_get, args0, List.getD_cons_zero, List.getD_cons_succ, vpick, vbin, vbinI, vlen, obsOk, List.map_cons, List.map_nil, true_and, Nat.reduceEqDiff, ↓reduceIte, decide_false, ne_eq, not_true_eq_false, eq_self, Bool.false_eq_true, List.contains_cons, List.contains_nil, Nat.reduceBEq, Bool.or_false, its_len]
      refine Cal.mk (tblMany_v P' (by omega)) ?_
      rintro _ _ ⟨rfl, rfl⟩ -
      rw [many_same hp' conn]
      simp (config := {maxSteps := 3000000}) only [ops_grd, grd_ff, ops_mv, ops_call, ev_t, put_get, opv_mk, over_get, args0, List.getD_cons_zero, List.getD_cons_succ, obsOk, List.map_cons, List.map_nil, true_and, Nat.reduceEqDiff, ↓reduceIte, eq_self, Bool.false_eq_true, List.contains_cons, List.contains_nil, Nat.reduceBEq, Bool.or_false]
      refine Cal.mk many18_v ?_
      rintro _ _ ⟨rfl, rfl⟩ -
      simp (config := {maxSteps := 3000000}) only [run_skip, run_reg, run_cond, if_false, at_code_n, at_blk_n, at_rnd_n, ops_nil, ops_grd, grd_ff, ops_mv, ops_pick, ops_bin, ev_t, ev_c, put_get, opv_mk, over_get, rel_mk, vpick, vbin, vbinI, norm, obsOk, true_and, Nat.reduceEqDiff, Int.reduceNeg, ↓reduceIte, decide_false, ne_eq, not_true_eq_false, eq_self, Bool.false_eq_true, List.contains_cons, List.contains_nil, Nat.reduceBEq, Bool.or_false, Bool.or_true, h9]
      repeat (apply And.intro; focus (first | omega | (simp; done)))
      exact ⟨⟨i + 1, T', l', es', c', .no, by omega, by omega, by simp, rfl, P', hp', hs', hst', hl'⟩, by omega⟩
    · simp (config := {maxSteps := 3000000}) only [run_reg, run_seq, run_blk, run_exit, run_cond, if_false, at_code_n, at_code_x, at_blk_x, at_rnd_x, ops_nil, ops_mv, ops_bin, ops_len, ev_t, ev_c, put_get, opv_mk, over_get, vnat, args0, List.getD_cons_zero, List.getD_cons_succ, vbin, vbinI, vlen, true_and, Nat.reduceEqDiff, Int.toNat_natCast, ↓reduceIte, eq_self, Bool.false_eq_true, List.contains_cons, List.contains_nil, Nat.reduceBEq, Bool.or_false, Bool.or_true, h9, opt_len, decide_eq_false (show ¬ (i : Int) < (C.length : Int) by omega)]
      refine run_loop [12, 13, 14, 64, 65, 66, 67, 68, 69, 70, 71, 72, 73, 74, 75, 76, 77, 78, 79, 80, 81, 82, 83, 84, 85, 86, 87, 88, 89, 90, 91, 92, 93] (fun D s' => ∃ (j : Nat) (v : V), j ≤ l.length ∧ D 14 = .sc (.int .i64 j) ∧ D 12 = v ∧ RO 2 s s' v (kys ((l.take j).map (·.1))) ∧ ((D 13 = .sl .nil [] ∧ ownK conn (l.take j) = []) ∨ ∃ ob cap sp, D 13 = dataV ob (ownK conn (l.take j)).length cap ∧ RBC kval s s' ob cap (ownK conn (l.take j)) sp)) (fun D _ => l.length - vnat (D 14)) rfl ?_ ?_
      · exact ⟨0, .sl .nil [], by omega, rfl, rfl, RO.nil hl.weak hl, .inl ⟨rfl, rfl⟩⟩
      · rintro D s' ⟨j, v, hj, h14, h12, R1, hI⟩
        by_cases c2 : j < l.length
        · obtain ⟨x, hx⟩ := get_ex c2
          have htk : (l.take (j + 1)).map (·.1) = (l.take j).map (·.1) ++ [x.1] := by rw [List.take_add_one, hx]; simp
          have hok1 : ownK conn (l.take (j + 1)) = ownK conn (l.take j) ++ if x.1.1 = conn then [x.1] else [] := by
            unfold ownK
            rw [htk, List.filter_append]
            congr 1
            by_cases e : x.1.1 = conn <;> simp [e]
          have hol : (ownK conn (l.take j)).length ≤ j := Nat.le_trans (List.length_filter_le _ _) (by simp; omega)
          obtain ⟨tr, rfl⟩ := R1.sl
          simp (config := {maxSteps := 3000000}) only [run_skip, run_reg, run_seq, run_blk, run_cond, if_true, at_code_n, ops_nil, ops_mv, ops_bin, ops_fld, ops_ix, ops_load, ops_len, ops_bsl, ops_app, ev_t, put_get, opv_mk, over_get, vnat, vbsl, vbin, vbinI, vfld, vlen, vix, vload, takeV, V.cells, strip, strip1, allLen, List.map_cons, List.map_nil, List.length_cons, List.length_nil, List.take_succ_cons, List.take_zero, List.drop_zero, and_true, true_and, Nat.reduceEqDiff, Nat.reduceAdd, Nat.reduceLeDiff, Int.toNat_natCast, Nat.zero_add, Nat.add_zero, ↓reduceIte, eq_self, Bool.false_eq_true, List.contains_cons, List.contains_nil, Nat.reduceBEq, Bool.or_false, Bool.or_true, h14, h12, h8, its_get hx, its_len, decide_eq_true (show (j : Int) < (l.length : Int) by omega)]
          repeat (apply And.intro; focus (first | omega | (simp; done)))
          refine App.mk (bytes := 16) (l := kys ((l.take j).map (·.1))) (ys := kys [x.1]) R1.own (allSz_kys _) (by simp only [kys_len, List.length_map, List.length_take, List.length_cons, List.length_nil, maxLen]; omega) (by simp only [kys_len, List.length_map, List.length_take, List.length_cons, List.length_nil]; omega) ?_
          intro r1 s2 k1 k2
          have R2 := R1.app k1 k2
          rw [kys_append, ← htk] at R2
          by_cases cc : x.1.1 = conn
          · rw [if_pos cc] at hok1
            rcases hI with ⟨h13, hn⟩ | ⟨ob, cap, sp, h13, R3⟩
            · simp (config := {maxSteps := 3000000}) only [run_reg, run_seq, run_cond, if_true, at_code_n, ops_nil, ops_mv, ops_bin, ops_fld, ops_ix, ops_load, ops_bsl, ops_app, ev_t, put_get, opv_mk, over_get, vbsl, args0, List.getD_cons_zero, List.getD_cons_succ, vbin, vbinI, vfld, vix, vload, takeV, V.cells, strip, strip1, allLen, obsOk, List.map_cons, List.map_nil, List.length_cons, List.length_nil, List.getElem?_cons_zero, List.take_succ_cons, List.take_zero, List.drop_zero, and_true, true_and, Nat.reduceEqDiff, Nat.reduceAdd, Nat.reduceLeDiff, Int.toNat_natCast, Nat.zero_add, Nat.add_zero, ↓reduceIte, eq_self, Bool.false_eq_true, List.contains_cons, List.contains_nil, Nat.reduceBEq, Bool.or_false, Bool.or_true, h14, h13, h8, its_get hx, decide_eq_true cc]
              repeat (apply And.intro; focus (first | omega | (simp; done)))
              refine App.pushC0 (bytes := 16) (val := kval) (x := x.1) (by omega) ?_
              intro b' cap' sp' q1 q2 q3 q4
              have R4 := RBC.mk0 (base := s) R2.weak R2.lt q1 q2 q3 q4
              have R5 := R2.put (c := b') (cs := rowc kval [x.1] sp') (by have := R2.weak.sz; omega)
              simp (config := {maxSteps := 3000000}) only [run_reg, at_code_n, at_blk_n, at_rnd_n, ops_nil, ops_mv, ops_bin, ev_t, ev_c, put_get, opv_mk, over_get, rel_mk, vbin, vbinI, norm, obsOk, List.length_cons, List.length_nil, true_and, Nat.reduceEqDiff, Int.reduceNeg, Nat.zero_add, ↓reduceIte, eq_self, List.contains_cons, List.contains_nil, Nat.reduceBEq, Bool.or_false, Bool.or_true, h14]
              repeat (apply And.intro; focus (first | omega | (simp; done)))
              exact ⟨⟨j + 1, _, by omega, by simp, rfl, R5, .inr ⟨b', cap', sp', by rw [hok1, hn]; rfl, by rw [hok1, hn]; exact R4⟩⟩, by omega⟩
            · have R3' : RBC kval s s2 ob cap (ownK conn (l.take j)) sp := ⟨by rw [k2.box]; exact R3.box, R3.len, R3.mono, R3.max, R2.weak, R2.lt, R3.fresh⟩
              simp (config := {maxSteps := 3000000}) only [run_reg, run_seq, run_cond, if_true, at_code_n, ops_nil, ops_mv, ops_bin, ops_fld, ops_ix, ops_load, ops_bsl, ops_app, ev_t, put_get, opv_mk, over_get, vbsl, args0, List.getD_cons_zero, List.getD_cons_succ, vbin, vbinI, vfld, vix, vload, takeV, V.cells, strip, strip1, allLen, obsOk, List.map_cons, List.map_nil, List.length_cons, List.length_nil, List.getElem?_cons_zero, List.take_succ_cons, List.take_zero, List.drop_zero, and_true, true_and, Nat.reduceEqDiff, Nat.reduceAdd, Nat.reduceLeDiff, Int.toNat_natCast, Nat.zero_add, Nat.add_zero, ↓reduceIte, eq_self, Bool.false_eq_true, List.contains_cons, List.contains_nil, Nat.reduceBEq, Bool.or_false, Bool.or_true, h14, h13, h8, its_get hx, decide_eq_true cc]
              repeat (apply And.intro; focus (first | omega | (simp; done)))
              refine App.pushC (bytes := 16) (val := kval) (x := x.1) R3'.box R3'.len R3'.mono R3'.max (by unfold maxLen; omega) (by omega) ?_
              intro b' cap' sp' q1 q2 q3 q4 q5
              have R4 := R3'.push q1 q3 q4 q5
              have R5 := R2.put (c := b') (cs := rowc kval (ownK conn (l.take j) ++ [x.1]) sp') R4.fresh
              simp (config := {maxSteps := 3000000}) only [run_reg, at_code_n, at_blk_n, at_rnd_n, ops_nil, ops_mv, ops_bin, ev_t, ev_c, put_get, opv_mk, over_get, rel_mk, vbin, vbinI, norm, obsOk, true_and, Nat.reduceEqDiff, Int.reduceNeg, ↓reduceIte, eq_self, List.contains_cons, List.contains_nil, Nat.reduceBEq, Bool.or_false, Bool.or_true, h14]
              repeat (apply And.intro; focus (first | omega | (simp; done)))
              exact ⟨⟨j + 1, _, by omega, by simp, rfl, R5, .inr ⟨b', cap', sp', by rw [hok1], by rw [hok1]; exact R4⟩⟩, by omega⟩
          · rw [if_neg cc, List.append_nil] at hok1
            simp (config := {maxSteps := 3000000}) only [run_skip, run_reg, run_seq, run_cond, if_false, at_code_n, at_blk_n, at_rnd_n, ops_nil, ops_mv, ops_bin, ops_fld, ops_ix, ops_load, ev_t, ev_c, put_get, opv_mk, over_get, rel_mk, args0, List.getD_cons_zero, List.getD_cons_succ, vbin, vbinI, norm, vfld, vix, vload, takeV, V.cells, obsOk, List.length_cons, List.length_nil, List.getElem?_cons_zero, and_true, true_and, Nat.reduceEqDiff, Nat.reduceAdd, Int.toNat_natCast, Int.reduceNeg, Nat.zero_add, Nat.add_zero, ↓reduceIte, eq_self, Bool.false_eq_true, List.contains_cons, List.contains_nil, Nat.reduceBEq, Bool.or_false, Bool.or_true, h14, h8, its_get hx, decide_eq_false cc]
            repeat (apply And.intro; focus (first | omega | (simp; done)))
            refine ⟨⟨j + 1, _, by omega, by simp, rfl, R2, ?_⟩, by omega⟩
            rw [hok1]
            rcases hI with ⟨h13, hn⟩ | ⟨ob, cap, sp, h13, R3⟩
            · exact .inl ⟨h13, hn⟩
            · exact .inr ⟨ob, cap, sp, h13, ⟨by rw [k2.box]; exact R3.box, R3.len, R3.mono, R3.max, R2.weak, R2.lt, R3.fresh⟩⟩
        · obtain rfl : j = l.length := by omega
          rw [List.take_length] at R1 hI
          obtain ⟨tr, rfl⟩ := R1.sl
          have P2 : TblB s' b mb most T es c := ⟨(R1.weak.box b _ P.box).1, (R1.weak.box mb _ P.mbox).1, P.mp, P.bm⟩
          simp (config := {maxSteps := 3000000}) only [run_reg, run_seq, run_exit, run_cond, if_false, at_code_n, at_code_x, at_blk_x, at_rnd_x, ops_nil, ops_mv, ops_bin, ops_len, ops_call, ev_t, put_get, opv_mk, over_get, vnat, vbin, vbinI, vlen, List.map_cons, List.map_nil, true_and, Nat.reduceEqDiff, Int.toNat_natCast, ↓reduceIte, decide_false, Int.lt_irrefl, eq_self, Bool.false_eq_true, List.contains_cons, List.contains_nil, Nat.reduceBEq, Bool.or_false, Bool.or_true, h14, h8, its_len]
          refine Cal.mk (tblKeys_v P2 (by omega)) ?_
          rintro _ s3 ⟨kb, M, sp1, m1, m2, rfl, R6⟩ -
          have hM : M = l.map (·.1) := sortK_uniq (m1.trans (hp.map _)) (.refl _) m2 hs.pw
          subst hM
          simp (config := {maxSteps := 3000000}) only [ops_mv, ops_call, ev_t, put_get, opv_mk, over_get, obsOk, List.map_cons, List.map_nil, true_and, Nat.reduceEqDiff, ↓reduceIte, eq_self, List.contains_cons, List.contains_nil, Nat.reduceBEq, Bool.or_false, h12]
          refine Cal.mk (eqKey1_v R6.box R6.mono (by simp; omega)) ?_
          rintro _ _ ⟨rfl, rfl⟩ -
          have P3 : TblB s3 b mb most T es c := ⟨(R6.weak.box b _ P2.box).1, (R6.weak.box mb _ P2.mbox).1, P.mp, P.bm⟩
          simp (config := {maxSteps := 3000000}) only [ops_grd, grd_tt, ops_mv, ops_call, ev_t, put_get, opv_mk, over_get, args0, List.getD_cons_zero, List.getD_cons_succ, obsOk, List.map_cons, List.map_nil, true_and, Nat.reduceEqDiff, ↓reduceIte, eq_self, Bool.false_eq_true, List.contains_cons, List.contains_nil, Nat.reduceBEq, Bool.or_false]
          refine Cal.mk (tblOf_v P3 (by omega)) ?_
          rintro _ s4 ⟨qb, M2, sp2, m3, m4, rfl, R7⟩ -
          have hM2 : M2 = l.map (·.1) := sortK_uniq (m3.trans (hp.map _)) (.refl _) m4 hs.pw
          subst hM2
          have hw4 : s'.weak s4 := weak_tr R6.weak R7.weak
          have hol : (ownK conn l).length ≤ l.length := Nat.le_trans (List.length_filter_le _ _) (by simp)
          rcases hI with ⟨h13, hn⟩ | ⟨ob, cap, sp, h13, R3⟩
          · have e0 : ((l.map (·.1)).filter fun k => !decide (k.1 ≠ conn)).length = 0 := by
              have : (ownK conn l).length = 0 := by rw [hn]; rfl
              exact this
            rw [e0]
            simp (config := {maxSteps := 3000000}) only [ops_grd, grd_tt, ops_mv, ops_call, ev_t, put_get, opv_mk, over_get, obsOk, List.map_cons, List.map_nil, true_and, Nat.reduceEqDiff, ↓reduceIte, eq_self, List.contains_cons, List.contains_nil, Nat.reduceBEq, Bool.or_false, Bool.or_true, h13]
            refine Cal.mk eqKey0_v ?_
            rintro _ _ ⟨rfl, rfl⟩ -
            simp (config := {maxSteps := 3000000}) only [ops_grd, grd_tt, ops_mv, ops_pick, ops_call, ev_t, put_get, opv_mk, vpick, obsOk, List.map_nil, true_and, Nat.reduceEqDiff, ↓reduceIte, eq_self]
            refine Cal.mk alive18_v ?_
            rintro _ _ ⟨rfl, rfl⟩ -
            simp (config := {maxSteps := 3000000}) only [run_ret, at_code_n, at_fin_r, ops_nil, ops_mv, ops_pick, ev_t, put_get, opv_mk, vpick, obsOk, and_true, true_and, Nat.reduceEqDiff, ↓reduceIte, vret, rvAll, rvVal, resv_1, eq_self]
            exact ⟨_, _, Wk.refl _, weak_tr hst (weak_tr R1.weak hw4), rfl, rfl⟩
          · simp (config := {maxSteps := 3000000}) only [ops_grd, grd_tt, ops_mv, ops_call, ev_t, put_get, opv_mk, over_get, obsOk, List.map_cons, List.map_nil, true_and, Nat.reduceEqDiff, ↓reduceIte, ne_eq, eq_self, List.contains_cons, List.contains_nil, Nat.reduceBEq, Bool.or_false, Bool.or_true, h13]
            refine Cal.mk (eqKey_v (L := ownK conn l) R7.box R7.mono (hw4.box ob _ R3.box).1 R3.mono (by omega)) ?_
            rintro _ _ ⟨rfl, rfl⟩ -
            simp (config := {maxSteps := 3000000}) only [ops_grd, grd_tt, ops_mv, ops_pick, ops_call, ev_t, put_get, opv_mk, vpick, obsOk, List.map_nil, true_and, Nat.reduceEqDiff, ↓reduceIte, eq_self]
            refine Cal.mk alive18_v ?_
            rintro _ _ ⟨rfl, rfl⟩ -
            simp (config := {maxSteps := 3000000}) only [run_ret, at_code_n, at_fin_r, ops_nil, ops_mv, ops_pick, ev_t, put_get, opv_mk, vpick, obsOk, and_true, true_and, Nat.reduceEqDiff, ↓reduceIte, vret, rvAll, rvVal, resv_1, eq_self]
            exact ⟨_, _, Wk.refl _, weak_tr hst (weak_tr R1.weak hw4), rfl, rfl⟩
end
end Go.Proofs.Ytlngegoamfklgaa
