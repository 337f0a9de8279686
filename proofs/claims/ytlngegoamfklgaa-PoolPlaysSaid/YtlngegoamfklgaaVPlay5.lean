/- The pool's law, call by call: the statement. Printed by a program (gen_play5.py). -/
import Derived.Test.YtlngegoamfklgaaVPlay4
namespace Go.Proofs.Ytlngegoamfklgaa
open Go

section
variable {st : St} {first many : Int} {S : List (ByteArray × Int)} {C : List OpR} {tk t2 : Tk}
set_option maxRecDepth 100000 in
theorem eqAddr_v {b1 n1 b2 n2 : Nat} {L : List Int} {s1 s2 : List V} (h1 : st.box b1 = some (row uval L s1)) (h2 : st.box b2 = some (row uval L s2)) (hl : L.length < 4611686018427387904) :
    VCalls Try.prog 40 [dataV b1 L.length n1, dataV b2 L.length n2] st fun r s => r = .sc (.bool true) ∧ st = s := by
  refine vcalls_enter vc40 (Nat.le_of_ble_eq_true rfl) fun hwf hok => ?_
  show Run _ Vc40.body (.fin (finQ Vc40.res _)) _ _
  unfold Vc40
  simp (config := {maxSteps := 3000000}) only [run_skip, run_reg, run_seq, run_blk, run_cond, if_false, at_code_n, ops_nil, ops_mv, ops_bin, ops_len, ev_t, ev_c, put_get, opv_mk, args0, List.getD_cons_zero, List.getD_cons_succ, vbin, vbinI, vlen, true_and, Nat.reduceEqDiff, ↓reduceIte, decide_false, ne_eq, not_true_eq_false, eq_self, reduceCtorEq, dataV]
  refine run_loop [4, 5, 13, 14, 15, 16, 17, 18, 19, 20, 21, 22, 23, 24, 25] (fun B s => ∃ i : Nat, i ≤ L.length ∧ B 13 = .sc (.int .i64 i) ∧ s = st) (fun B _ => L.length - vnat (B 13)) rfl ?_ ?_
  · simp (config := {maxSteps := 3000000}) only [put_get, and_true, ↓reduceIte, eq_self]
    exact ⟨0, by omega, rfl⟩
  · rintro B s ⟨i, hi, h13, rfl⟩
    by_cases c1 : i < L.length
    · simp (config := {maxSteps := 3000000}) only [run_skip, run_reg, run_seq, run_blk, run_cond, if_true, if_false, at_code_n, at_blk_n, at_rnd_n, ops_nil, ops_mv, ops_bin, ops_ix, ops_load, ev_t, ev_c, put_get, opv_mk, over_get, rel_mk, vnat, args0, List.getD_cons_zero, List.getD_cons_succ, vbin, vbinI, norm, vix, vload, takeV, takeB, V.cells, List.length_cons, List.length_nil, and_true, true_and, Nat.reduceEqDiff, Int.toNat_natCast, Int.reduceNeg, Nat.zero_add, Nat.mul_one, ↓reduceIte, decide_false, ne_eq, not_true_eq_false, eq_self, reduceCtorEq, Bool.false_eq_true, List.contains_cons, List.contains_nil, Nat.reduceBEq, Bool.or_false, Bool.or_true, h13, h1, h2, row_get c1, decide_eq_true (show (i : Int) < (L.length : Int) by omega)]
      repeat (apply And.intro; focus (first | omega | (simp; done)))
      exact ⟨⟨i + 1, by omega, by simp⟩, by omega⟩
    · simp (config := {maxSteps := 3000000}) only [run_reg, run_seq, run_exit, run_ret, run_cond, if_false, at_code_n, at_code_x, at_blk_x, at_rnd_x, at_fin_r, ops_nil, ops_mv, ops_bin, ev_t, ev_c, put_get, opv_mk, over_get, vnat, vbin, vbinI, and_true, true_and, Nat.reduceEqDiff, Int.toNat_natCast, ↓reduceIte, vret, rvAll, rvVal, resv_1, eq_self, Bool.false_eq_true, List.contains_cons, List.contains_nil, Nat.reduceBEq, Bool.or_false, Bool.or_true, h13, decide_eq_false (show ¬ (i : Int) < (L.length : Int) by omega)]
      exact ⟨_, _, Wk.refl _, hwf.weak, rfl, rfl⟩
set_option maxRecDepth 100000 in
theorem eqAddr0_v {b1 n1 : Nat} : VCalls Try.prog 40 [dataV b1 0 n1, .sl .nil []] st fun r s => r = .sc (.bool true) ∧ st = s := by
  have nc0 : ((0 : Nat) : Int) = 0 := rfl
  refine vcalls_enter vc40 (Nat.le_of_ble_eq_true rfl) fun hwf hok => ?_
  show Run _ Vc40.body (.fin (finQ Vc40.res _)) _ _
  unfold Vc40
  simp (config := {maxSteps := 3000000}) only [run_skip, run_reg, run_seq, run_blk, run_cond, if_false, at_code_n, ops_nil, ops_mv, ops_bin, ops_len, ev_t, ev_c, put_get, opv_mk, args0, List.getD_cons_zero, List.getD_cons_succ, vbin, vbinI, vlen, List.length_nil, true_and, Nat.reduceEqDiff, ↓reduceIte, decide_false, ne_eq, not_true_eq_false, eq_self, reduceCtorEq, dataV, nc0]
  refine run_loop [4, 5, 13, 14, 15, 16, 17, 18, 19, 20, 21, 22, 23, 24, 25] (fun B s => B 13 = .sc (.int .i64 0) ∧ s = st) (fun B _ => 0) rfl ?_ ?_
  · simp (config := {maxSteps := 3000000}) only [put_get, and_true, ↓reduceIte, eq_self]
  · rintro B s ⟨h13, rfl⟩
    simp (config := {maxSteps := 3000000}) only [run_reg, run_seq, run_exit, run_ret, run_cond, if_false, at_code_n, at_code_x, at_blk_x, at_rnd_x, at_fin_r, ops_nil, ops_mv, ops_bin, ev_t, ev_c, put_get, opv_mk, over_get, vbin, vbinI, and_true, true_and, Nat.reduceEqDiff, ↓reduceIte, vret, rvAll, rvVal, resv_1, decide_false, Int.lt_irrefl, eq_self, Bool.false_eq_true, List.contains_cons, List.contains_nil, Nat.reduceBEq, Bool.or_false, Bool.or_true, h13]
    exact ⟨_, _, Wk.refl _, hwf.weak, rfl, rfl⟩
theorem sortA0_v : VCalls Try.prog 37 [.sl .nil []] st fun _ s => st = s := osort0_v vc37 vc71 vc120 tab_ok sortsA
theorem sortI_uniq {L M N : List Int} (h1 : M.Perm L) (h2 : N.Perm L) (k1 : M.Pairwise (fun x y => ltI y x = false)) (k2 : N.Pairwise (fun x y => ltI y x = false)) : M = N := srt_eq ltI_ord ltI_tight (h1.trans h2.symm) k1 k2
set_option maxRecDepth 100000 in
set_option maxHeartbeats 16000000 in
theorem poolPlays_v {ask : Int} (h0 : 0 ≤ first) (h1 : first ≤ 4294967295) (hS : ∀ s ∈ S, 0 ≤ s.2 ∧ s.2 ≤ 4294967295) : VCalls Try.prog 6 [shapeV first many tk S, .sl t2 (opsV C), .sc (.int .u32 ask)] st fun r s => r = .sc (.bool true) ∧ st = s := by
  have bT : (true == true) = true := rfl
  have bF : (false == false) = true := rfl
  refine vcalls_enter vc6 (Nat.le_of_ble_eq_true rfl) fun hwf hok => ?_
  show Run _ Vc6.body (.fin (finQ Vc6.res _)) _ _
  unfold Vc6
  have hsm : (S.length : Int) ≤ 9223372036854775807 := by
    have := hok (shapeV first many tk S) (by simp)
    have := vlen_max (this.part (i := 2) rfl)
    rwa [sts_len] at this
  have hcm := vlen_max (hok (.sl t2 (opsV C)) (by simp))
  rw [opl_len] at hcm
  by_cases c20 : 20 < S.length
  · simp (config := {maxSteps := 3000000}) only [run_reg, run_seq, run_ret, run_cond, if_true, at_code_n, at_code_r, at_fin_r, ops_nil, ops_grd, grd_tf, ops_mv, ops_pick, ops_bin, ops_fld, ops_load, ops_len, ops_box, ev_t, ev_c, put_get, opv_mk, Bx, put_box_same, args0, List.getD_cons_zero, vpick, vbin, vbinI, vfld, vlen, vload, takeV, takeB, V.cells, ptrV, obsOk, List.length_cons, List.length_nil, List.getElem?_cons_zero, List.getElem?_cons_succ, and_true, true_and, Nat.reduceEqDiff, Nat.reduceAdd, Nat.zero_add, ↓reduceIte, vret, rvAll, rvVal, resv_1, ne_eq, not_false_eq_true, eq_self, reduceCtorEq, shapeV, sts_len, decide_eq_true (show (20 : Int) < (S.length : Int) by omega)]
    intro d hd
    exact ⟨_, _, Wk.refl _, weak_put hwf.weak hd, rfl, rfl⟩
  by_cases c80 : 80 < C.length
  · simp (config := {maxSteps := 3000000}) only [run_reg, run_seq, run_ret, run_cond, if_true, at_code_n, at_code_r, at_fin_r, ops_nil, ops_grd, grd_ff, ops_mv, ops_pick, ops_bin, ops_fld, ops_load, ops_len, ops_box, ev_t, ev_c, put_get, opv_mk, Bx, put_box_same, args0, List.getD_cons_zero, List.getD_cons_succ, vpick, vbin, vbinI, vfld, vlen, vload, takeV, takeB, V.cells, ptrV, obsOk, List.length_cons, List.length_nil, List.getElem?_cons_zero, List.getElem?_cons_succ, and_true, true_and, Nat.reduceEqDiff, Nat.reduceAdd, Nat.zero_add, ↓reduceIte, vret, rvAll, rvVal, resv_1, ne_eq, not_false_eq_true, eq_self, reduceCtorEq, Bool.false_eq_true, shapeV, sts_len, opl_len, decide_eq_false (show ¬ (20 : Int) < (S.length : Int) by omega), decide_eq_true (show (80 : Int) < (C.length : Int) by omega)]
    intro d hd
    exact ⟨_, _, Wk.refl _, weak_put hwf.weak hd, rfl, rfl⟩
  simp (config := {maxSteps := 3000000}) only [run_skip, run_reg, run_seq, run_cond, if_false, at_code_n, ops_nil, ops_grd, grd_ff, ops_mv, ops_pick, ops_bin, ops_fld, ops_load, ops_len, ops_box, ops_call, ev_t, ev_c, put_get, opv_mk, Bx, put_box_same, args0, List.getD_cons_zero, List.getD_cons_succ, vpick, vbin, vbinI, vfld, vlen, vload, takeV, takeB, V.cells, ptrV, obsOk, List.map_cons, List.map_nil, List.length_cons, List.length_nil, List.getElem?_cons_zero, List.getElem?_cons_succ, true_and, Nat.reduceEqDiff, Nat.reduceAdd, Nat.zero_add, Nat.add_zero, ↓reduceIte, ne_eq, not_false_eq_true, eq_self, reduceCtorEq, Bool.false_eq_true, shapeV, sts_len, opl_len, decide_eq_false (show ¬ (20 : Int) < (S.length : Int) by omega), decide_eq_false (show ¬ (80 : Int) < (C.length : Int) by omega)]
  intro d hd
  refine Cal.mk (new_v h0 h1 (fun s hs => (hS s hs).1)) ?_
  rintro _ s1 (⟨hne, rfl, rfl⟩ | ⟨hE, b, kb, hb, kes, kc, rfl, P, hw, hl, fb, fk, fh⟩) -
  · simp (config := {maxSteps := 3000000}) only [run_reg, run_seq, at_code_n, ops_nil, ops_mv, ops_load, ops_ext, ops_call, ev_t, put_get, opv_mk, put_box_same, vext, vload, takeV, takeB, mono_two, obsOk, List.map_cons, List.map_nil, List.length_cons, List.length_nil, List.getElem?_cons_zero, List.getElem?_cons_succ, List.take_succ_cons, List.drop_zero, List.take_nil, and_true, true_and, Nat.reduceEqDiff, Nat.reduceAdd, Nat.reduceLeDiff, Nat.zero_add, ↓reduceIte, eq_self]
    refine Cal.mk (why29_v h0 h1 hS) ?_
    rintro _ _ ⟨rfl, rfl⟩ -
    simp (config := {maxSteps := 3000000}) only [run_reg, run_seq, run_cond, if_true, at_code_n, ops_nil, ops_mv, ops_bin, ops_load, ops_call, ev_t, ev_c, put_get, opv_mk, put_box_same, vbin, vbinI, vload, takeV, takeB, mono_two, obsOk, List.map_cons, List.map_nil, List.length_cons, List.length_nil, List.take_succ_cons, List.drop_zero, List.take_nil, and_true, true_and, Nat.reduceEqDiff, Nat.reduceAdd, Nat.reduceLeDiff, Nat.zero_add, ↓reduceIte, ne_eq, eq_self, decide_eq_true (show newE first many S ≠ 0 from hne)]
    refine Cal.mk (why29_v h0 h1 hS) ?_
    rintro _ _ ⟨rfl, rfl⟩ -
    simp (config := {maxSteps := 3000000}) only [ops_grd, grd_tt, ops_mv, ops_pick, ops_bin, ops_pnil, vpnil, ops_call, ev_t, put_get, opv_mk, vpick, vbin, vbinI, obsOk, List.map_nil, true_and, Nat.reduceEqDiff, ↓reduceIte, decide_true, Bool.not_false, eq_self]
    refine Cal.mk alive29_v ?_
    rintro _ _ ⟨rfl, rfl⟩ -
    simp (config := {maxSteps := 3000000}) only [run_ret, at_code_n, at_code_r, at_fin_r, ops_nil, ops_mv, ops_pick, ev_t, put_get, opv_mk, vpick, obsOk, and_true, true_and, Nat.reduceEqDiff, ↓reduceIte, vret, rvAll, rvVal, resv_1, eq_self]
    exact ⟨_, _, Wk.refl _, weak_put hwf.weak hd, rfl, rfl⟩
  · have hm64 := (newE_ok hE).1
    have hnm := newE_names hE
    have hds := (hw.box d _ put_box_same).1
    have hst : st.weak s1 := weak_tr (weak_put hwf.weak hd) hw
    have fh2 : st.sz ≤ hb := by simp only [put_sz] at fh; omega
    have hdb : d < hb := by simp only [put_sz] at fh; omega
    clear fb fk fh hw
    simp (config := {maxSteps := 3000000}) only [run_reg, run_seq, at_code_n, ops_nil, ops_mv, ops_load, ops_ext, ops_call, ev_t, put_get, opv_mk, vext, vload, takeV, takeB, mono_two, ptrV, obsOk, List.map_cons, List.map_nil, List.length_cons, List.length_nil, List.getElem?_cons_zero, List.getElem?_cons_succ, List.take_succ_cons, List.drop_zero, List.take_nil, and_true, true_and, Nat.reduceEqDiff, Nat.reduceAdd, Nat.reduceLeDiff, Nat.zero_add, ↓reduceIte, eq_self, hds]
    refine Cal.mk (why29_v h0 h1 hS) ?_
    rintro _ _ ⟨rfl, rfl⟩ -
    rw [hE]
    simp (config := {maxSteps := 3000000}) only [run_skip, run_reg, run_seq, run_blk, run_cond, if_false, at_code_n, ops_nil, ops_grd, grd_ff, ops_mv, ops_pick, ops_bin, ops_pnil, vpnil, ev_t, ev_c, put_get, opv_mk, vpick, vbin, vbinI, obsOk, true_and, Nat.reduceEqDiff, ↓reduceIte, decide_false, ne_eq, not_true_eq_false, eq_self, Bool.false_eq_true]
    have u0 : ones [] = [] := rfl
    refine run_loop [6, 9, 10, 11, 12, 57, 58, 59, 60, 61, 62, 63, 64, 65, 66, 67, 68, 69, 70, 71, 72, 73, 74, 75, 76, 77, 78, 79, 80, 81, 82, 83, 84, 85, 86, 87, 88, 89, 90, 91] (fun B s => ∃ (i : Nat) (l : List (Int × ByteArray)) (hes : List (V × V × Nat)) (hc : Nat) (tv : Tk), i ≤ C.length ∧ l.length ≤ i ∧ B 10 = .sc (.int .i64 i) ∧ B 9 = .sl tv (ones l) ∧ PoolB s b kb hb first many (swp S) l kes hes kc hc ∧ (l.map (·.1)).Nodup ∧ st.weak s ∧ s.Lt ∧ s.box d = some [.sc (.int .u32 first), .sc (.int .i64 many), .sl tk (sts S)]) (fun B _ => C.length - vnat (B 10)) rfl ?_ ?_
    · exact ⟨0, [], [], 0, .nil, by omega, by simp, rfl, rfl, P, .nil, hst, hl, hds⟩
    · clear P hst hl hds
      rintro B s ⟨i, l, hes, hc, tv, hi, hll, h10, h9, P, hnd, hst, hl, hds⟩
      by_cases c1 : i < C.length
      · obtain ⟨o, ho⟩ := get_ex c1
        by_cases c3 : o.kind < 0
        · simp (config := {maxSteps := 3000000}) only [run_skip, run_reg, run_seq, run_blk, run_ret, run_cond, if_true, at_code_n, at_code_r, at_blk_r, at_rnd_r, at_fin_r, ops_nil, ops_mv, ops_bin, ops_fld, ops_ix, ops_load, ops_len, ev_t, ev_c, put_get, opv_mk, over_get, vnat, args0, List.getD_cons_zero, List.getD_cons_succ, vbin, vbinI, vfld, vlen, vix, vload, takeV, V.cells, List.length_cons, List.length_nil, List.getElem?_cons_zero, and_true, true_and, Nat.reduceEqDiff, Nat.reduceAdd, Int.toNat_natCast, Nat.zero_add, Nat.add_zero, ↓reduceIte, vret, rvAll, rvVal, resv_1, eq_self, Bool.false_eq_true, List.contains_cons, List.contains_nil, Nat.reduceBEq, Bool.or_false, Bool.or_true, h10, opl_len, opl_get ho, decide_eq_true (show (i : Int) < (C.length : Int) by omega), decide_eq_true c3]
          repeat (apply And.intro; focus (first | omega | (simp; done)))
          exact ⟨_, _, Wk.refl _, hst, rfl, rfl⟩
        simp (config := {maxSteps := 3000000}) only [run_skip, run_reg, run_seq, run_blk, run_cond, if_true, if_false, at_code_n, ops_nil, ops_mv, ops_bin, ops_fld, ops_ix, ops_load, ops_len, ops_call, ev_t, ev_c, put_get, opv_mk, over_get, vnat, args0, List.getD_cons_zero, List.getD_cons_succ, vbin, vbinI, vfld, vlen, vix, vload, takeV, takeB, mono_two, V.cells, List.map_cons, List.map_nil, List.length_cons, List.length_nil, List.getElem?_cons_zero, List.take_succ_cons, List.drop_zero, List.take_nil, and_true, true_and, Nat.reduceEqDiff, Nat.reduceAdd, Nat.reduceLeDiff, Int.toNat_natCast, Nat.zero_add, Nat.add_zero, ↓reduceIte, eq_self, Bool.false_eq_true, List.contains_cons, List.contains_nil, Nat.reduceBEq, Bool.or_false, Bool.or_true, h10, h9, hds, opl_len, opl_get ho, decide_eq_true (show (i : Int) < (C.length : Int) by omega), decide_eq_false c3]
        repeat (apply And.intro; focus (first | omega | (simp; done)))
        refine Cal.mk (step29_v (o := o) P hm64 hnm hnd (by omega) (by omega)) ?_
        rintro _ _ ⟨l', hes', hc', rfl, rfl, P', hnd', hll'⟩ -
        have hds' : (s.put hb [.mp false [.int .u32] hes' hc']).box d = some [.sc (.int .u32 first), .sc (.int .i64 many), .sl tk (sts S)] := by rw [put_box_ne (by omega)]; exact hds
        have hst' := weak_put (b := hb) (cs := [.mp false [.int .u32] hes' hc']) hst fh2
        have hl' := hl.put (b := hb) (cs := [.mp false [.int .u32] hes' hc'])
        generalize s.put hb [.mp false [.int .u32] hes' hc'] = s3 at P' hds' hst' hl' ⊢
        simp (config := {maxSteps := 3000000}) only [run_reg, run_seq, at_code_n, ops_nil, ops_grd, grd_ff, ops_mv, ops_un, ops_load, ops_ext, ops_call, ev_t, put_get, opv_mk, over_get, vun, vext, vload, takeV, takeB, mono_two, obsOk, List.map_cons, List.map_nil, List.length_cons, List.length_nil, List.getElem?_cons_zero, List.getElem?_cons_succ, List.take_succ_cons, List.drop_zero, List.take_nil, and_true, true_and, Nat.reduceEqDiff, Nat.reduceAdd, Nat.reduceLeDiff, Nat.zero_add, ↓reduceIte, Bool.not_true, eq_self, Bool.false_eq_true, List.contains_cons, List.contains_nil, Nat.reduceBEq, Bool.or_false, hds']
        refine Cal.mk (poolFree_v P' hm64) ?_
        rintro _ _ ⟨rfl, rfl⟩ -
        simp (config := {maxSteps := 3000000}) only [ops_grd, grd_ff, ops_call, ev_t, put_get, over_get, vload, takeV, takeB, mono_two, obsOk, List.map_cons, List.map_nil, List.length_cons, List.length_nil, List.take_succ_cons, List.drop_zero, List.take_nil, and_true, true_and, Nat.reduceEqDiff, Nat.reduceAdd, Nat.reduceLeDiff, Nat.zero_add, ↓reduceIte, eq_self, Bool.false_eq_true, List.contains_cons, List.contains_nil, Nat.reduceBEq, Bool.or_false, hds']
        refine Cal.mk (free29_v hm64) ?_
        rintro _ _ ⟨rfl, rfl⟩ -
        have hfl := freeN_len (first := first) (kept := swp S) (l := l') many.toNat
        simp (config := {maxSteps := 3000000}) only [run_skip, run_reg, run_cond, if_false, at_code_n, at_blk_n, at_rnd_n, ops_nil, ops_grd, grd_ff, ops_mv, ops_pick, ops_bin, ops_len, ev_t, ev_c, put_get, opv_mk, over_get, rel_mk, vpick, vbin, vbinI, norm, vlen, obsOk, true_and, Nat.reduceEqDiff, Int.reduceNeg, ↓reduceIte, decide_false, ne_eq, not_true_eq_false, eq_self, Bool.false_eq_true, List.contains_cons, List.contains_nil, Nat.reduceBEq, Bool.or_false, Bool.or_true, h10, us_len]
        repeat (apply And.intro; focus (first | omega | (simp; done)))
        exact ⟨⟨i + 1, l', hes', hc', .no, by omega, by omega, by simp, rfl, P', hnd', hst', hl', hds'⟩, by omega⟩
      · simp (config := {maxSteps := 3000000}) only [run_reg, run_seq, run_blk, run_exit, run_cond, if_false, at_code_n, at_code_x, at_blk_x, at_rnd_x, ops_nil, ops_mv, ops_bin, ops_len, ev_t, ev_c, put_get, opv_mk, over_get, vnat, args0, List.getD_cons_zero, List.getD_cons_succ, vbin, vbinI, vlen, true_and, Nat.reduceEqDiff, Int.toNat_natCast, ↓reduceIte, eq_self, Bool.false_eq_true, List.contains_cons, List.contains_nil, Nat.reduceBEq, Bool.or_false, Bool.or_true, h10, opl_len, decide_eq_false (show ¬ (i : Int) < (C.length : Int) by omega)]
        refine run_loop [13, 14, 92, 93, 94, 95, 96, 97, 98, 99, 100, 101, 102, 103, 104, 105] (fun C s' => ∃ i : Nat, i ≤ l.length ∧ C 14 = .sc (.int .i64 i) ∧ ((i = 0 ∧ C 13 = .sl .nil [] ∧ s' = s) ∨ (0 < i ∧ ∃ b cap sp, C 13 = dataV b ((l.take i).map (·.1)).length cap ∧ RB uval s s' b cap ((l.take i).map (·.1)) sp))) (fun C _ => l.length - vnat (C 14)) rfl ?_ ?_
        · simp (config := {maxSteps := 3000000}) only [put_get, and_true, Nat.reduceEqDiff, ↓reduceIte, eq_self]
          exact ⟨0, by omega, rfl, .inl rfl⟩
        · rintro D s' ⟨j, hj, h14, hI⟩
          by_cases c2 : j < l.length
          · obtain ⟨x, hx⟩ := get_ex c2
            have htk : (l.take (j + 1)).map (·.1) = (l.take j).map (·.1) ++ [x.1] := by rw [List.take_add_one, hx]; simp
            have hlen : ((l.take j).map (·.1)).length = j := by simp; omega
            rcases hI with ⟨rfl, h13, rfl⟩ | ⟨hj0, ob, cap, sp, h13, R⟩
            · simp (config := {maxSteps := 3000000}) only [run_skip, run_reg, run_seq, run_blk, run_cond, if_true, at_code_n, ops_nil, ops_mv, ops_bin, ops_fld, ops_ix, ops_load, ops_len, ops_bsl, ops_app, ev_t, put_get, opv_mk, over_get, vnat, vbsl, vbin, vbinI, vfld, vlen, vix, vload, takeV, V.cells, strip, strip1, allLen, List.map_cons, List.map_nil, List.length_cons, List.length_nil, List.getElem?_cons_zero, and_true, true_and, Nat.reduceEqDiff, Nat.reduceAdd, Int.toNat_natCast, Nat.zero_add, Nat.add_zero, ↓reduceIte, eq_self, Bool.false_eq_true, List.contains_cons, List.contains_nil, Nat.reduceBEq, Bool.or_false, Bool.or_true, h14, h13, h9, ones_get hx, ones_len, decide_eq_true (show ((0 : Nat) : Int) < (l.length : Int) by omega)]
              repeat (apply And.intro; focus (first | omega | (simp; done)))
              refine App.push0 (bytes := 4) (val := uval) (x := x.1) (by omega) ?_
              intro b' cap' sp' k1 k2 k3 k4
              have R2 := RB.mk0 (base := s') hl.weak hl k1 k2 k3 k4
              simp (config := {maxSteps := 3000000}) only [run_reg, at_code_n, at_blk_n, at_rnd_n, ops_nil, ops_mv, ops_bin, ev_t, ev_c, put_get, opv_mk, over_get, rel_mk, vbin, vbinI, norm, obsOk, List.length_cons, List.length_nil, true_and, Nat.reduceEqDiff, Int.reduceNeg, Nat.zero_add, ↓reduceIte, eq_self, List.contains_cons, List.contains_nil, Nat.reduceBEq, Bool.or_false, Bool.or_true, h14]
              repeat (apply And.intro; focus (first | omega | (simp; done)))
              exact ⟨⟨1, by omega, rfl, .inr ⟨by omega, b', cap', sp', by rw [htk]; rfl, by rw [htk]; exact R2⟩⟩, by omega⟩
            · simp (config := {maxSteps := 3000000}) only [run_skip, run_reg, run_seq, run_blk, run_cond, if_true, at_code_n, ops_nil, ops_mv, ops_bin, ops_fld, ops_ix, ops_load, ops_len, ops_bsl, ops_app, ev_t, put_get, opv_mk, over_get, vnat, vbsl, vbin, vbinI, vfld, vlen, vix, vload, takeV, V.cells, strip, strip1, allLen, List.map_cons, List.map_nil, List.length_cons, List.length_nil, List.getElem?_cons_zero, and_true, true_and, Nat.reduceEqDiff, Nat.reduceAdd, Int.toNat_natCast, Nat.zero_add, Nat.add_zero, ↓reduceIte, eq_self, Bool.false_eq_true, List.contains_cons, List.contains_nil, Nat.reduceBEq, Bool.or_false, Bool.or_true, h14, h13, h9, ones_get hx, ones_len, decide_eq_true (show (j : Int) < (l.length : Int) by omega)]
              repeat (apply And.intro; focus (first | omega | (simp; done)))
              refine App.push (bytes := 4) (val := uval) (x := x.1) R.box R.len R.mono R.max (by rw [hlen]; unfold maxLen; omega) (by rw [hlen]; omega) ?_
              intro b' cap' sp' k1 k2 k3 k4 k5
              have R2 := R.push k1 k3 k4 k5
              simp (config := {maxSteps := 3000000}) only [run_reg, at_code_n, at_blk_n, at_rnd_n, ops_nil, ops_mv, ops_bin, ev_t, ev_c, put_get, opv_mk, over_get, rel_mk, vbin, vbinI, norm, obsOk, true_and, Nat.reduceEqDiff, Int.reduceNeg, ↓reduceIte, eq_self, List.contains_cons, List.contains_nil, Nat.reduceBEq, Bool.or_false, Bool.or_true, h14]
              repeat (apply And.intro; focus (first | omega | (simp; done)))
              exact ⟨⟨j + 1, by omega, by simp, .inr ⟨by omega, b', cap', sp', by rw [htk], by rw [htk]; exact R2⟩⟩, by omega⟩
          · obtain rfl : j = l.length := by omega
            have htk : l.take l.length = l := List.take_length
            rcases hI with ⟨hl0, h13, rfl⟩ | ⟨hj0, ob, cap, sp, h13, R⟩
            · simp (config := {maxSteps := 3000000}) only [run_reg, run_seq, run_exit, run_cond, if_false, at_code_n, at_code_x, at_blk_x, at_rnd_x, ops_nil, ops_mv, ops_bin, ops_len, ops_call, ev_t, put_get, opv_mk, over_get, vnat, vbin, vbinI, vlen, List.map_cons, List.map_nil, true_and, Nat.reduceEqDiff, Int.toNat_natCast, ↓reduceIte, decide_false, Int.lt_irrefl, eq_self, Bool.false_eq_true, List.contains_cons, List.contains_nil, Nat.reduceBEq, Bool.or_false, Bool.or_true, h14, h13, h9, ones_len]
              refine Cal.mk sortA0_v ?_
              rintro _ _ rfl -
              simp (config := {maxSteps := 3000000}) only [run_reg, run_seq, at_code_n, ops_nil, ops_mv, ops_call, ev_t, put_get, opv_mk, over_get, args0, List.getD_cons_zero, List.getD_cons_succ, obsOk, List.map_cons, List.map_nil, true_and, Nat.reduceEqDiff, ↓reduceIte, eq_self, Bool.false_eq_true, List.contains_cons, List.contains_nil, Nat.reduceBEq, Bool.or_false]
              refine Cal.mk (poolHolder_v P) ?_
              rintro _ _ ⟨rfl, rfl⟩ -
              simp (config := {maxSteps := 3000000}) only [run_reg, run_seq, at_code_n, ops_nil, ops_mv, ops_ext, ops_call, ev_t, put_get, opv_mk, over_get, args0, List.getD_cons_zero, List.getD_cons_succ, vext, obsOk, List.map_cons, List.map_nil, List.getElem?_cons_zero, List.getElem?_cons_succ, true_and, Nat.reduceEqDiff, ↓reduceIte, eq_self, Bool.false_eq_true, List.contains_cons, List.contains_nil, Nat.reduceBEq, Bool.or_false, Bool.or_true, h9]
              refine Cal.mk has29_v ?_
              rintro _ _ ⟨r, hr, rfl, rfl⟩ -
              rcases hr with ⟨rfl, hg⟩ | ⟨k, q, rfl, hq, hqa, hg, _⟩
              · simp (config := {maxSteps := 3000000}) only [run_skip, run_reg, run_seq, run_cond, if_false, at_code_n, ops_nil, ops_grd, grd_tt, grd_ff, grd_ft, ops_mv, ops_pick, ops_bin, ops_un, ops_binb, vbinb, ops_call, ev_t, ev_c, put_get, opv_mk, over_get, vpick, vbin, vbinI, vbinS, vun, obsOk, List.map_cons, List.map_nil, true_and, Nat.reduceEqDiff, Int.reduceLE, Int.reduceNeg, ↓reduceIte, decide_false, Bool.not_true, Bool.not_false, ne_eq, not_true_eq_false, eq_self, Bool.false_eq_true, List.contains_cons, List.contains_nil, Nat.reduceBEq, Bool.or_false, hg, Option.isSome_none, Option.getD_none, bF]
                refine Cal.mk (poolHeld_v P (by omega)) ?_
                rintro _ s3 ⟨b2, M, sp2, p1, p2, rfl, R3⟩ -
                have hM0 : M.length = 0 := by rw [p1.length_eq]; simpa using hl0
                rw [hM0]
                simp (config := {maxSteps := 3000000}) only [ops_mv, ops_call, ev_t, put_get, opv_mk, over_get, obsOk, List.map_cons, List.map_nil, true_and, Nat.reduceEqDiff, Int.reduceNeg, ↓reduceIte, eq_self, List.contains_cons, List.contains_nil, Nat.reduceBEq, Bool.or_false, h13]
                refine Cal.mk eqAddr0_v ?_
                rintro _ _ ⟨rfl, rfl⟩ -
                simp (config := {maxSteps := 3000000}) only [ops_grd, grd_tt, ops_mv, ops_call, ev_t, put_get, opv_mk, obsOk, List.map_nil, true_and, Int.reduceNeg, ↓reduceIte, eq_self]
                refine Cal.mk alive29_v ?_
                rintro _ _ ⟨rfl, rfl⟩ -
                simp (config := {maxSteps := 3000000}) only [run_ret, at_code_n, at_fin_r, ops_nil, ops_mv, ops_pick, ev_t, put_get, opv_mk, vpick, obsOk, and_true, true_and, Nat.reduceEqDiff, Int.reduceNeg, ↓reduceIte, vret, rvAll, rvVal, resv_1, eq_self]
                exact ⟨_, _, Wk.refl _, weak_tr hst R3.weak, rfl, rfl⟩
              · have hk0 : (0 : Int) ≤ (k : Int) := by omega
                simp (config := {maxSteps := 3000000}) only [run_skip, run_reg, run_seq, run_cond, if_false, at_code_n, ops_nil, ops_grd, grd_tt, grd_ff, grd_ft, ops_mv, ops_pick, ops_bin, ops_un, ops_binb, vbinb, ops_fld, ops_ix, ops_load, ops_call, ev_t, ev_c, put_get, opv_mk, over_get, vpick, vbin, vbinI, vbinS, vun, vfld, vix, vload, takeV, V.cells, obsOk, List.map_cons, List.map_nil, List.length_cons, List.length_nil, List.getElem?_cons_zero, List.getElem?_cons_succ, and_true, true_and, Nat.reduceEqDiff, Nat.reduceAdd, Int.toNat_natCast, Nat.zero_add, ↓reduceIte, decide_true, decide_false, Bool.not_true, ne_eq, not_true_eq_false, eq_self, Bool.false_eq_true, List.contains_cons, List.contains_nil, Nat.reduceBEq, Bool.or_false, Bool.or_true, h9, hg, Option.isSome_some, Option.getD_some, bT, ones_get hq, hk0]
                repeat (apply And.intro; focus (first | omega | (simp; done)))
                refine Cal.mk (poolHeld_v P (by omega)) ?_
                rintro _ s3 ⟨b2, M, sp2, p1, p2, rfl, R3⟩ -
                have hM0 : M.length = 0 := by rw [p1.length_eq]; simpa using hl0
                rw [hM0]
                simp (config := {maxSteps := 3000000}) only [ops_mv, ops_call, ev_t, put_get, opv_mk, over_get, obsOk, List.map_cons, List.map_nil, true_and, Nat.reduceEqDiff, ↓reduceIte, eq_self, List.contains_cons, List.contains_nil, Nat.reduceBEq, Bool.or_false, h13]
                refine Cal.mk eqAddr0_v ?_
                rintro _ _ ⟨rfl, rfl⟩ -
                simp (config := {maxSteps := 3000000}) only [ops_grd, grd_tt, ops_mv, ops_call, ev_t, put_get, opv_mk, obsOk, List.map_nil, true_and, ↓reduceIte, eq_self]
                refine Cal.mk alive29_v ?_
                rintro _ _ ⟨rfl, rfl⟩ -
                simp (config := {maxSteps := 3000000}) only [run_ret, at_code_n, at_fin_r, ops_nil, ops_mv, ops_pick, ev_t, put_get, opv_mk, vpick, obsOk, and_true, true_and, Nat.reduceEqDiff, ↓reduceIte, vret, rvAll, rvVal, resv_1, eq_self]
                exact ⟨_, _, Wk.refl _, weak_tr hst R3.weak, rfl, rfl⟩
            · rw [htk] at h13 R
              simp (config := {maxSteps := 3000000}) only [run_reg, run_seq, run_exit, run_cond, if_false, at_code_n, at_code_x, at_blk_x, at_rnd_x, ops_nil, ops_mv, ops_bin, ops_len, ops_call, ev_t, put_get, opv_mk, over_get, vnat, vbin, vbinI, vlen, List.map_cons, List.map_nil, true_and, Nat.reduceEqDiff, Int.toNat_natCast, ↓reduceIte, decide_false, Int.lt_irrefl, eq_self, Bool.false_eq_true, List.contains_cons, List.contains_nil, Nat.reduceBEq, Bool.or_false, Bool.or_true, h14, h13, h9, ones_len]
              have cc := sortA_v (st := s') (b := ob) (cap := cap) (L := l.map (·.1)) (sp := sp) R.mono (by simp; omega)
              rw [R.self] at cc
              refine Cal.mk cc ?_
              rintro _ _ ⟨N, n1, n2, rfl⟩ -
              have hN := n1.length_eq
              have R2 := R.mix hN
              have P2 : PoolB (s'.put ob (row uval N sp)) b kb hb first many (swp S) l kes hes kc hc := ⟨(R2.weak.box b _ P.box).1, ⟨(R2.weak.box kb _ P.kept.box).1, P.kept.mp⟩, ⟨(R2.weak.box hb _ P.held.box).1, P.held.mp⟩, P.bk, P.bh, P.kh⟩
              generalize s'.put ob (row uval N sp) = s4 at R2 P2 ⊢
              rw [← hN] at h13
              simp (config := {maxSteps := 3000000}) only [run_reg, run_seq, at_code_n, ops_nil, ops_mv, ops_call, ev_t, put_get, opv_mk, over_get, args0, List.getD_cons_zero, List.getD_cons_succ, obsOk, List.map_cons, List.map_nil, true_and, Nat.reduceEqDiff, ↓reduceIte, eq_self, Bool.false_eq_true, List.contains_cons, List.contains_nil, Nat.reduceBEq, Bool.or_false]
              refine Cal.mk (poolHolder_v P2) ?_
              rintro _ _ ⟨rfl, rfl⟩ -
              simp (config := {maxSteps := 3000000}) only [run_reg, run_seq, at_code_n, ops_nil, ops_mv, ops_ext, ops_call, ev_t, put_get, opv_mk, over_get, args0, List.getD_cons_zero, List.getD_cons_succ, vext, obsOk, List.map_cons, List.map_nil, List.getElem?_cons_zero, List.getElem?_cons_succ, true_and, Nat.reduceEqDiff, ↓reduceIte, eq_self, Bool.false_eq_true, List.contains_cons, List.contains_nil, Nat.reduceBEq, Bool.or_false, Bool.or_true, h9]
              refine Cal.mk has29_v ?_
              rintro _ _ ⟨r, hr, rfl, rfl⟩ -
              rcases hr with ⟨rfl, hg⟩ | ⟨k, q, rfl, hq, hqa, hg, _⟩
              · simp (config := {maxSteps := 3000000}) only [run_skip, run_reg, run_seq, run_cond, if_false, at_code_n, ops_nil, ops_grd, grd_tt, grd_ff, grd_ft, ops_mv, ops_pick, ops_bin, ops_un, ops_binb, vbinb, ops_call, ev_t, ev_c, put_get, opv_mk, over_get, vpick, vbin, vbinI, vbinS, vun, obsOk, List.map_cons, List.map_nil, true_and, Nat.reduceEqDiff, Int.reduceLE, Int.reduceNeg, ↓reduceIte, decide_false, Bool.not_true, Bool.not_false, ne_eq, not_true_eq_false, eq_self, Bool.false_eq_true, List.contains_cons, List.contains_nil, Nat.reduceBEq, Bool.or_false, hg, Option.isSome_none, Option.getD_none, bF]
                refine Cal.mk (poolHeld_v P2 (by omega)) ?_
                rintro _ s3 ⟨b2, M, sp2, p1, p2, rfl, R3⟩ -
                have hMN : M = N := sortI_uniq p1 n1 p2 n2
                subst hMN
                simp (config := {maxSteps := 3000000}) only [ops_mv, ops_call, ev_t, put_get, opv_mk, over_get, obsOk, List.map_cons, List.map_nil, true_and, Nat.reduceEqDiff, Int.reduceNeg, ↓reduceIte, eq_self, List.contains_cons, List.contains_nil, Nat.reduceBEq, Bool.or_false, h13]
                refine Cal.mk (eqAddr_v R3.box (R3.weak.box ob _ R2.box).1 (by have := R3.len; have := R3.max; unfold maxLen at this; omega)) ?_
                rintro _ _ ⟨rfl, rfl⟩ -
                simp (config := {maxSteps := 3000000}) only [ops_grd, grd_tt, ops_mv, ops_call, ev_t, put_get, opv_mk, obsOk, List.map_nil, true_and, Int.reduceNeg, ↓reduceIte, eq_self]
                refine Cal.mk alive29_v ?_
                rintro _ _ ⟨rfl, rfl⟩ -
                simp (config := {maxSteps := 3000000}) only [run_ret, at_code_n, at_fin_r, ops_nil, ops_mv, ops_pick, ev_t, put_get, opv_mk, vpick, obsOk, and_true, true_and, Nat.reduceEqDiff, Int.reduceNeg, ↓reduceIte, vret, rvAll, rvVal, resv_1, eq_self]
                exact ⟨_, _, Wk.refl _, weak_tr hst (weak_tr R2.weak R3.weak), rfl, rfl⟩
              · have hk0 : (0 : Int) ≤ (k : Int) := by omega
                simp (config := {maxSteps := 3000000}) only [run_skip, run_reg, run_seq, run_cond, if_false, at_code_n, ops_nil, ops_grd, grd_tt, grd_ff, grd_ft, ops_mv, ops_pick, ops_bin, ops_un, ops_binb, vbinb, ops_fld, ops_ix, ops_load, ops_call, ev_t, ev_c, put_get, opv_mk, over_get, vpick, vbin, vbinI, vbinS, vun, vfld, vix, vload, takeV, V.cells, obsOk, List.map_cons, List.map_nil, List.length_cons, List.length_nil, List.getElem?_cons_zero, List.getElem?_cons_succ, and_true, true_and, Nat.reduceEqDiff, Nat.reduceAdd, Int.toNat_natCast, Nat.zero_add, ↓reduceIte, decide_true, decide_false, Bool.not_true, ne_eq, not_true_eq_false, eq_self, Bool.false_eq_true, List.contains_cons, List.contains_nil, Nat.reduceBEq, Bool.or_false, Bool.or_true, h9, hg, Option.isSome_some, Option.getD_some, bT, ones_get hq, hk0]
                repeat (apply And.intro; focus (first | omega | (simp; done)))
                refine Cal.mk (poolHeld_v P2 (by omega)) ?_
                rintro _ s3 ⟨b2, M, sp2, p1, p2, rfl, R3⟩ -
                have hMN : M = N := sortI_uniq p1 n1 p2 n2
                subst hMN
                simp (config := {maxSteps := 3000000}) only [ops_mv, ops_call, ev_t, put_get, opv_mk, over_get, obsOk, List.map_cons, List.map_nil, true_and, Nat.reduceEqDiff, ↓reduceIte, eq_self, List.contains_cons, List.contains_nil, Nat.reduceBEq, Bool.or_false, h13]
                refine Cal.mk (eqAddr_v R3.box (R3.weak.box ob _ R2.box).1 (by have := R3.len; have := R3.max; unfold maxLen at this; omega)) ?_
                rintro _ _ ⟨rfl, rfl⟩ -
                simp (config := {maxSteps := 3000000}) only [ops_grd, grd_tt, ops_mv, ops_call, ev_t, put_get, opv_mk, obsOk, List.map_nil, true_and, ↓reduceIte, eq_self]
                refine Cal.mk alive29_v ?_
                rintro _ _ ⟨rfl, rfl⟩ -
                simp (config := {maxSteps := 3000000}) only [run_ret, at_code_n, at_fin_r, ops_nil, ops_mv, ops_pick, ev_t, put_get, opv_mk, vpick, obsOk, and_true, true_and, Nat.reduceEqDiff, ↓reduceIte, vret, rvAll, rvVal, resv_1, eq_self]
                exact ⟨_, _, Wk.refl _, weak_tr hst (weak_tr R2.weak R3.weak), rfl, rfl⟩
end
end Go.Proofs.Ytlngegoamfklgaa
