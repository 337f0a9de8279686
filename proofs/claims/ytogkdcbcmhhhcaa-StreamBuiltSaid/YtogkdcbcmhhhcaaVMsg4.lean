/- msg.Right: contract. -/
import Derived.Test.YtogkdcbcmhhhcaaVMsg3
namespace Go.Proofs.Ytogkdcbcmhhhcaa
open Go

theorem tail_drop' {α : Type} (L : List α) (n : Nat) : (L.drop n).tail = L.drop (n + 1) := by rw [List.tail_drop]
theorem headD_drop {α : Type} {L : List α} {n : Nat} {x d : α} (h : L[n]? = some x) : (L.drop n).headD d = x := by rw [drop_cons h]; rfl
section
variable {st : St} {m : MB}
theorem right_v (hm : m.Ok) : VCalls Try.prog 52 [m.v] st fun r st' => r = .sc (.bool (rK (layoutL m.ty) m.N m.T && decide (0 < sizeT m.ty))) ∧ st = st' := by
  refine vcalls_enter vc52 (Nat.le_of_ble_eq_true rfl) fun hwf hok => ?_
  show Run _ Vc52.body (.fin (finQ Vc52.res _)) _ _
  unfold Vc52
  have hK4 := layout_kOk m.ty
  have hl := layout_len m.ty
  have hcn := layout_cnt m.ty
  have hct := layout_txt m.ty
  have hL := fun st : St => layout_v (st := st) m.ty
  generalize layoutL m.ty = K at *
  obtain ⟨C, hC⟩ : ∃ C, C = m.cells := ⟨_, rfl⟩
  have hC13 : C.length = 13 := by rw [hC]; exact MB.len hm.n9 hm.t3
  have g0 : C[0]? = some (.sc (.int .i64 m.ty)) := by rw [hC]; rfl
  have gN : ∀ {n : Nat} {x : Int}, m.N[n]? = some x → C[1 + n]? = some (.sc (.int .u32 x)) := fun h => by rw [hC]; exact MB.getN h
  have gT : ∀ {s : Nat} {t : List Int}, m.T[s]? = some t → C[10 + s]? = some (.sc (.string (strOf t))) := fun h => by rw [hC]; exact MB.getT hm.n9 h
  have hv : m.v = .agg C := by rw [hC]; rfl
  have n9 := hm.n9
  have t3 := hm.t3
  rw [hv]
  clear hok
  simp (config := {maxSteps := 3000000}) only [run_reg, run_seq, at_code_n, ops_nil, ops_mv, ops_fld, ops_load, ops_box, ops_call, ev_t, ev_c, put_get, opv_mk, Bx, put_box_same, args0, List.getD_cons_zero, vfld, vload, takeV, V.cells, ptrV, obsOk, List.map_cons, List.map_nil, List.length_cons, List.length_nil, true_and, Nat.reduceEqDiff, Nat.zero_add, Nat.add_zero, ↓reduceIte, ne_eq, not_false_eq_true, eq_self, reduceCtorEq, hC13, g0]
  intro b hb
  refine Cal.mk (hL _) ?_
  rintro _ _ ⟨rfl, rfl⟩ -
  simp (config := {maxSteps := 3000000}) only [run_blk, at_code_n, ops_nil, ops_mv, ops_len, ev_t, ev_c, put_get, opv_mk, vlen, obsOk, true_and, ↓reduceIte, eq_self, is_len]
  obtain ⟨X, hX⟩ : ∃ X, rK K m.N m.T = X := ⟨_, rfl⟩
  rw [hX]
  refine run_loop [2, 3, 4, 6, 11, 12, 13, 14, 15, 16, 17, 18, 19, 20, 21, 22, 23, 24, 25, 26, 27, 28, 29, 30, 31, 32, 33, 34, 35, 36, 37, 38, 39, 40, 41, 42, 43, 44, 45, 46, 47, 48, 49, 50, 51, 52, 53, 54] (fun B s => s = st.put b C ∧ ∃ i n q : Nat, i ≤ K.length ∧ B 11 = .sc (.int .i64 i) ∧ B 3 = .sc (.int .i64 n) ∧ B 4 = .sc (.int .i64 q) ∧ X = rK (K.drop i) (m.N.drop n) (m.T.drop q) ∧ n + (K.drop i).countP isNum ≤ 9 ∧ q + (K.drop i).countP isTxt ≤ 3) (fun B _ => K.length - vnat (B 11)) rfl ?_ ?_
  · simp (config := {maxSteps := 3000000}) only [put_get, true_and, Nat.reduceEqDiff, ↓reduceIte, eq_self]
    exact ⟨0, 0, 0, by omega, by simp, by simp, by simp, hX.symm, by simpa using hcn, by simpa using hct⟩
  · rintro B s ⟨rfl, i, n, q, hi, h11, h3, h4, he, hn, hq⟩
    clear hX
    by_cases hlt : i < K.length
    · obtain ⟨k, hk⟩ := get_ex hlt
      have hkk := hK4 k (List.mem_of_getElem? hk)
      unfold kOk at hkk
      have hlt' := decide_eq_true (show (i : Int) < (K.length : Int) by omega)
      have hsd : K.drop i = k :: K.drop (i + 1) := drop_cons hk
      rw [hsd, List.countP_cons] at hn hq
      rw [hsd] at he
      by_cases c1 : 4 < k
      · have e1 : isTxt k = true := by simp [isTxt, c1]
        rw [e1] at hq
        simp only [↓reduceIte] at hq
        obtain ⟨t, ht⟩ := get_ex (L := m.T) (i := q) (by omega)
        have tB := hm.tb t (List.mem_of_getElem? ht)
        have tl := hm.tl t (List.mem_of_getElem? ht)
        have gt := gT ht
        rw [rK_txt c1, headD_drop ht, tail_drop'] at he
        have c1' := decide_eq_true c1
        by_cases c2 : k < (t.length : Int)
        · have hf : tOk k t = false := by simp [tOk]; omega
          rw [hf, Bool.false_and] at he
          simp (config := {maxSteps := 3000000}) only [run_skip, run_reg, run_seq, run_blk, run_ret, run_cond, if_true, at_code_n, at_code_r, at_blk_r, at_rnd_r, at_fin_r, ops_nil, ops_grd, grd_tf, ops_mv, ops_pick, ops_bin, ops_fld, ops_ix, ops_ixa, ops_load, ops_slen, ev_t, ev_c, put_get, opv_mk, over_get, vnat, put_box_same, vpick, vbin, vbinI, vfld, vslen, vix, vixa, vload, takeV, V.cells, List.length_cons, List.length_nil, List.getElem?_cons_zero, Option.map_some, and_true, true_and, Nat.reduceEqDiff, Int.toNat_natCast, Nat.zero_add, Nat.mul_one, ↓reduceIte, vret, rvAll, rvVal, resv_1, eq_self, Bool.false_eq_true, List.contains_cons, List.contains_nil, Nat.reduceBEq, Bool.or_false, Bool.or_true, h11, h4, is_get, hk, hlt', c1', gt, strOf_size, decide_eq_true c2]
          repeat (apply And.intro; focus (first | omega | (simp; done)))
          exact ⟨_, _, Wk.refl _, weak_put hwf.weak hb, by rw [he]; rfl, rfl⟩
        have hbt : bytesOf (strOf t) = t := bytesOf_strOf tB
        have hbl : byL (strOf t) = bs t := byL_strOf tB
        simp (config := {maxSteps := 3000000}) only [run_skip, run_reg, run_seq, run_blk, run_cond, if_true, at_code_n, ops_nil, ops_grd, grd_ff, ops_mv, ops_bin, ops_s2b, vs2b, ops_fld, ops_ix, ops_ixa, ops_load, ops_slen, ops_call, ev_t, ev_c, put_get, opv_mk, over_get, vnat, put_box_same, vbin, vbinI, vfld, vslen, vix, vixa, vload, takeV, V.cells, List.map_cons, List.map_nil, List.length_cons, List.length_nil, List.getElem?_cons_zero, Option.map_some, and_true, true_and, Nat.reduceEqDiff, Int.toNat_natCast, Nat.zero_add, Nat.mul_one, ↓reduceIte, eq_self, Bool.false_eq_true, List.contains_cons, List.contains_nil, Nat.reduceBEq, Bool.or_false, Bool.or_true, h11, h4, is_get, hk, hlt', c1', gt, strOf_size, decide_eq_false c2, hbl]
        repeat (apply And.intro; focus (first | omega | (simp; done)))
        refine ⟨by unfold maxLen; omega, ?_⟩
        refine Cal.mk (text_v (L := t) (by omega)) ?_
        rintro _ _ ⟨rfl, rfl⟩ -
        have hinj := strOf_inj tB (stripL_isB tB)
        by_cases c3 : stripL t = t
        · have hf : tOk k t = true := by simp [tOk, c3]; omega
          rw [hf, Bool.true_and] at he
          simp (config := {maxSteps := 3000000}) only [run_skip, run_reg, run_cond, if_false, at_code_n, at_blk_n, at_rnd_n, ops_nil, ops_grd, grd_ff, ops_mv, ops_pick, ops_bin, ev_t, ev_c, put_get, opv_mk, over_get, rel_mk, put_box_same, vpick, vbin, vbinI, vbinS, norm, vload, takeV, V.cells, obsOk, List.length_cons, List.length_nil, and_true, true_and, Nat.reduceEqDiff, Int.reduceNeg, Nat.zero_add, ↓reduceIte, ne_eq, eq_self, Bool.false_eq_true, List.contains_cons, List.contains_nil, Nat.reduceBEq, Bool.or_false, Bool.or_true, h11, h3, h4, gt, decide_eq_false (show ¬ ¬ strOf t = strOf (stripL t) from fun h => h (hinj.2 c3.symm))]
          repeat (apply And.intro; focus (first | omega | (simp; done)))
          exact ⟨⟨i + 1, n, q + 1, by omega, by simp, by first | exact h3 | simp, by simp, he, by omega, by omega⟩, by omega⟩
        · have hf : tOk k t = false := by simp [tOk, c3]
          rw [hf, Bool.false_and] at he
          simp (config := {maxSteps := 3000000}) only [run_reg, run_seq, run_ret, run_cond, if_true, at_code_n, at_code_r, at_blk_r, at_rnd_r, at_fin_r, ops_nil, ops_grd, grd_ff, ops_mv, ops_pick, ops_bin, ev_t, ev_c, put_get, opv_mk, put_box_same, vpick, vbin, vbinS, vload, takeV, V.cells, obsOk, List.length_cons, List.length_nil, and_true, true_and, Nat.reduceEqDiff, Nat.zero_add, ↓reduceIte, vret, rvAll, rvVal, resv_1, ne_eq, eq_self, Bool.false_eq_true, gt, decide_eq_true (show ¬ strOf t = strOf (stripL t) from fun h => c3 (hinj.1 h).symm)]
          repeat (apply And.intro; focus (first | omega | (simp; done)))
          exact ⟨_, _, Wk.refl _, weak_put hwf.weak hb, by rw [he]; rfl, rfl⟩
      · have e1 : isTxt k = false := by simp [isTxt]; omega
        rw [e1] at hq
        have c1' := decide_eq_false c1
        by_cases c2 : 0 < k
        · have e2 : isNum k = true := by simp [isNum]; omega
          rw [e2] at hn
          simp only [↓reduceIte] at hn
          obtain ⟨x, hx⟩ := get_ex (L := m.N) (i := n) (by omega)
          have xr := hm.nr x (List.mem_of_getElem? hx)
          have gx := gN hx
          have ex : x % 18446744073709551616 = x := by omega
          have c2' := decide_eq_true c2
          rw [rK_num (by omega) (by omega), headD_drop hx, tail_drop'] at he
          have h124 : k = 1 ∨ k = 2 ∨ k = 4 := by omega
          rcases h124 with rfl | rfl | rfl
          · rw [show (256 : Int) ^ (1 : Int).toNat = 256 from rfl] at he
            by_cases c3 : 256 ≤ x
            · rw [decide_eq_false (show ¬ x < 256 by omega), Bool.false_and] at he
              simp (config := {maxSteps := 3000000}) only [run_skip, run_reg, run_seq, run_blk, run_ret, run_cond, if_true, if_false, at_code_n, at_code_r, at_blk_r, at_rnd_r, at_fin_r, ops_nil, ops_mv, ops_bin, ops_conv, ops_fld, ops_ix, ops_ixa, ops_load, ev_t, ev_c, put_get, opv_mk, over_get, vnat, put_box_same, vbin, vbinI, vconv, norm, vfld, vix, vixa, vload, takeV, V.cells, shAmt, IntKind.bits, List.length_cons, List.length_nil, List.getElem?_cons_zero, Option.map_some, and_true, true_and, Nat.reduceEqDiff, Nat.reduceLeDiff, Int.reduceToNat, Int.toNat_natCast, Int.reduceLE, Int.reduceLT, Int.reducePow, Int.reduceMul, Int.reduceNeg, Int.reduceMod, Nat.min_def, Nat.zero_add, Nat.mul_one, ↓reduceIte, vret, rvAll, rvVal, resv_1, decide_true, decide_false, eq_self, Bool.false_eq_true, List.contains_cons, List.contains_nil, Nat.reduceBEq, Bool.or_false, Bool.or_true, h11, h3, is_get, hk, hlt', gx, ex, decide_eq_true c3]
              repeat (apply And.intro; focus (first | omega | (simp; done)))
              exact ⟨_, _, Wk.refl _, weak_put hwf.weak hb, by rw [he]; rfl, rfl⟩
            · rw [decide_eq_true (show x < 256 by omega), Bool.true_and] at he
              simp (config := {maxSteps := 3000000}) only [run_skip, run_reg, run_seq, run_blk, run_cond, if_true, if_false, at_code_n, at_blk_n, at_rnd_n, ops_nil, ops_mv, ops_bin, ops_conv, ops_fld, ops_ix, ops_ixa, ops_load, ev_t, ev_c, put_get, opv_mk, over_get, rel_mk, vnat, put_box_same, vbin, vbinI, vconv, norm, vfld, vix, vixa, vload, takeV, V.cells, shAmt, IntKind.bits, List.length_cons, List.length_nil, List.getElem?_cons_zero, Option.map_some, and_true, true_and, Nat.reduceEqDiff, Nat.reduceLeDiff, Int.reduceToNat, Int.toNat_natCast, Int.reduceLE, Int.reduceLT, Int.reducePow, Int.reduceMul, Int.reduceNeg, Int.reduceMod, Nat.min_def, Nat.zero_add, Nat.mul_one, ↓reduceIte, decide_true, decide_false, eq_self, Bool.false_eq_true, List.contains_cons, List.contains_nil, Nat.reduceBEq, Bool.or_false, Bool.or_true, h11, h3, h4, is_get, hk, hlt', gx, ex, decide_eq_false c3]
              repeat (apply And.intro; focus (first | omega | (simp; done)))
              exact ⟨⟨i + 1, n + 1, q, by omega, by simp, by simp, by first | exact h4 | simp, he, by omega, by simpa using hq⟩, by omega⟩
          · rw [show (256 : Int) ^ (2 : Int).toNat = 65536 from rfl] at he
            by_cases c3 : 65536 ≤ x
            · rw [decide_eq_false (show ¬ x < 65536 by omega), Bool.false_and] at he
              simp (config := {maxSteps := 3000000}) only [run_skip, run_reg, run_seq, run_blk, run_ret, run_cond, if_true, if_false, at_code_n, at_code_r, at_blk_r, at_rnd_r, at_fin_r, ops_nil, ops_mv, ops_bin, ops_conv, ops_fld, ops_ix, ops_ixa, ops_load, ev_t, ev_c, put_get, opv_mk, over_get, vnat, put_box_same, vbin, vbinI, vconv, norm, vfld, vix, vixa, vload, takeV, V.cells, shAmt, IntKind.bits, List.length_cons, List.length_nil, List.getElem?_cons_zero, Option.map_some, and_true, true_and, Nat.reduceEqDiff, Nat.reduceLeDiff, Int.reduceToNat, Int.toNat_natCast, Int.reduceLE, Int.reduceLT, Int.reducePow, Int.reduceMul, Int.reduceNeg, Int.reduceMod, Nat.min_def, Nat.zero_add, Nat.mul_one, ↓reduceIte, vret, rvAll, rvVal, resv_1, decide_true, decide_false, eq_self, Bool.false_eq_true, List.contains_cons, List.contains_nil, Nat.reduceBEq, Bool.or_false, Bool.or_true, h11, h3, is_get, hk, hlt', gx, ex, decide_eq_true c3]
              repeat (apply And.intro; focus (first | omega | (simp; done)))
              exact ⟨_, _, Wk.refl _, weak_put hwf.weak hb, by rw [he]; rfl, rfl⟩
            · rw [decide_eq_true (show x < 65536 by omega), Bool.true_and] at he
              simp (config := {maxSteps := 3000000}) only [run_skip, run_reg, run_seq, run_blk, run_cond, if_true, if_false, at_code_n, at_blk_n, at_rnd_n, ops_nil, ops_mv, ops_bin, ops_conv, ops_fld, ops_ix, ops_ixa, ops_load, ev_t, ev_c, put_get, opv_mk, over_get, rel_mk, vnat, put_box_same, vbin, vbinI, vconv, norm, vfld, vix, vixa, vload, takeV, V.cells, shAmt, IntKind.bits, List.length_cons, List.length_nil, List.getElem?_cons_zero, Option.map_some, and_true, true_and, Nat.reduceEqDiff, Nat.reduceLeDiff, Int.reduceToNat, Int.toNat_natCast, Int.reduceLE, Int.reduceLT, Int.reducePow, Int.reduceMul, Int.reduceNeg, Int.reduceMod, Nat.min_def, Nat.zero_add, Nat.mul_one, ↓reduceIte, decide_true, decide_false, eq_self, Bool.false_eq_true, List.contains_cons, List.contains_nil, Nat.reduceBEq, Bool.or_false, Bool.or_true, h11, h3, h4, is_get, hk, hlt', gx, ex, decide_eq_false c3]
              repeat (apply And.intro; focus (first | omega | (simp; done)))
              exact ⟨⟨i + 1, n + 1, q, by omega, by simp, by simp, by first | exact h4 | simp, he, by omega, by simpa using hq⟩, by omega⟩
          · rw [show (256 : Int) ^ (4 : Int).toNat = 4294967296 from rfl] at he
            rw [decide_eq_true (show x < 4294967296 by omega), Bool.true_and] at he
            simp (config := {maxSteps := 3000000}) only [run_skip, run_reg, run_seq, run_blk, run_cond, if_true, if_false, at_code_n, at_blk_n, at_rnd_n, ops_nil, ops_mv, ops_bin, ops_conv, ops_fld, ops_ix, ops_ixa, ops_load, ev_t, ev_c, put_get, opv_mk, over_get, rel_mk, vnat, put_box_same, vbin, vbinI, vconv, norm, vfld, vix, vixa, vload, takeV, V.cells, shAmt, IntKind.bits, List.length_cons, List.length_nil, List.getElem?_cons_zero, Option.map_some, and_true, true_and, Nat.reduceEqDiff, Nat.reduceLeDiff, Int.reduceToNat, Int.toNat_natCast, Int.reduceLE, Int.reduceLT, Int.reducePow, Int.reduceMul, Int.reduceNeg, Int.reduceMod, Nat.min_def, Nat.zero_add, Nat.mul_one, ↓reduceIte, decide_true, decide_false, Int.lt_irrefl, eq_self, Bool.false_eq_true, List.contains_cons, List.contains_nil, Nat.reduceBEq, Bool.or_false, Bool.or_true, h11, h3, h4, is_get, hk, hlt', gx, ex, decide_eq_false (show ¬ (4294967296 : Int) ≤ x by omega)]
            repeat (apply And.intro; focus (first | omega | (simp; done)))
            exact ⟨⟨i + 1, n + 1, q, by omega, by simp, by simp, by first | exact h4 | simp, he, by omega, by simpa using hq⟩, by omega⟩
        · have e2 : isNum k = false := by simp [isNum]; omega
          rw [e2] at hn
          rw [rK_neg (by omega)] at he
          simp (config := {maxSteps := 3000000}) only [run_skip, run_reg, run_seq, run_blk, run_cond, if_true, if_false, at_code_n, at_blk_n, at_rnd_n, ops_nil, ops_mv, ops_bin, ops_ix, ops_load, ev_t, ev_c, put_get, opv_mk, over_get, rel_mk, vnat, vbin, vbinI, norm, vix, vload, takeV, V.cells, List.length_cons, List.length_nil, List.getElem?_cons_zero, Option.map_some, and_true, true_and, Nat.reduceEqDiff, Int.toNat_natCast, Int.reduceNeg, Nat.zero_add, ↓reduceIte, eq_self, Bool.false_eq_true, List.contains_cons, List.contains_nil, Nat.reduceBEq, Bool.or_false, Bool.or_true, h11, h3, h4, is_get, hk, hlt', c1', decide_eq_false c2]
          repeat (apply And.intro; focus (first | omega | (simp; done)))
          exact ⟨⟨i + 1, n, q, by omega, by simp, by first | exact h3 | simp, by first | exact h4 | simp, he, by simpa using hn, by simpa using hq⟩, by omega⟩
    · obtain rfl : i = K.length := by omega
      rw [List.drop_of_length_le (Nat.le_refl _)] at he hn hq
      simp only [List.countP_nil, Nat.add_zero] at hn hq
      simp (config := {maxSteps := 3000000}) only [run_reg, run_seq, run_blk, run_exit, run_cond, if_false, at_code_n, at_code_x, at_blk_x, at_rnd_x, ops_nil, ops_bin, ev_t, put_get, opv_mk, over_get, vnat, vbin, vbinI, true_and, Nat.reduceEqDiff, Int.toNat_natCast, ↓reduceIte, decide_false, Int.lt_irrefl, eq_self, Bool.false_eq_true, List.contains_cons, List.contains_nil, Nat.reduceBEq, Bool.or_false, Bool.or_true, h11]
      refine run_loop [2, 3, 55, 56, 57, 58, 59, 60, 61, 62, 63] (fun B s => s = st.put b C ∧ ∃ n : Nat, n ≤ 9 ∧ B 3 = .sc (.int .i64 n) ∧ X = rK [] (m.N.drop n) (m.T.drop q)) (fun B _ => 9 - vnat (B 3)) rfl ?_ ?_
      · simp (config := {maxSteps := 3000000}) only [put_get, over_get, true_and, Nat.reduceEqDiff, ↓reduceIte, eq_self, List.contains_cons, List.contains_nil, Nat.reduceBEq, Bool.or_false, Bool.or_true, h3]
        exact ⟨n, hn, rfl, he⟩
      · rintro B2 s ⟨rfl, n, hn, h3, hX⟩
        have hX2 : X = ((m.N.drop n).all (fun x => decide (x = 0)) && (m.T.drop q).all (fun x => decide (x = []))) := hX
        by_cases hlt : n < 9
        · obtain ⟨x, hx⟩ := get_ex (L := m.N) (i := n) (by omega)
          have gx := gN hx
          rw [drop_cons hx, List.all_cons] at hX2
          by_cases c0 : x = 0
          · simp (config := {maxSteps := 3000000}) only [run_skip, run_reg, run_seq, run_blk, run_cond, if_true, if_false, at_code_n, at_blk_n, at_rnd_n, ops_nil, ops_mv, ops_bin, ops_fld, ops_ixa, ops_load, ev_t, ev_c, put_get, opv_mk, over_get, rel_mk, vnat, put_box_same, vbin, vbinI, norm, vfld, vixa, vload, takeV, V.cells, List.length_cons, List.length_nil, true_and, Nat.reduceEqDiff, Int.toNat_natCast, Int.reduceNeg, Nat.zero_add, Nat.mul_one, ↓reduceIte, ne_eq, eq_self, Bool.false_eq_true, List.contains_cons, List.contains_nil, Nat.reduceBEq, Bool.or_false, Bool.or_true, h3, gx, decide_eq_true (show (n : Int) < 9 by omega), decide_eq_false (show ¬ ¬ x = 0 from fun h => h c0)]
            repeat (apply And.intro; focus (first | omega | (simp; done)))
            exact ⟨⟨n + 1, by omega, by simp, by rw [hX2, decide_eq_true c0, Bool.true_and]; rfl⟩, by omega⟩
          · simp (config := {maxSteps := 3000000}) only [run_skip, run_reg, run_seq, run_blk, run_ret, run_cond, if_true, at_code_n, at_code_r, at_blk_r, at_rnd_r, at_fin_r, ops_nil, ops_mv, ops_bin, ops_fld, ops_ixa, ops_load, ev_t, ev_c, put_get, opv_mk, over_get, vnat, put_box_same, vbin, vbinI, vfld, vixa, vload, takeV, V.cells, List.length_cons, List.length_nil, and_true, true_and, Nat.reduceEqDiff, Int.toNat_natCast, Nat.zero_add, Nat.mul_one, ↓reduceIte, vret, rvAll, rvVal, resv_1, ne_eq, eq_self, Bool.false_eq_true, List.contains_cons, List.contains_nil, Nat.reduceBEq, Bool.or_false, Bool.or_true, h3, gx, decide_eq_true (show (n : Int) < 9 by omega), decide_eq_true c0]
            repeat (apply And.intro; focus (first | omega | (simp; done)))
            exact ⟨_, _, Wk.refl _, weak_put hwf.weak hb, by rw [hX2, decide_eq_false c0]; rfl, rfl⟩
        · obtain rfl : n = 9 := by omega
          rw [List.drop_of_length_le (by omega), List.all_nil, Bool.true_and] at hX2
          simp (config := {maxSteps := 3000000}) only [run_reg, run_seq, run_blk, run_exit, run_cond, if_false, at_code_n, at_code_x, at_blk_x, at_rnd_x, ops_nil, ops_mv, ops_bin, ev_t, ev_c, put_get, opv_mk, over_get, vnat, vbin, vbinI, true_and, Nat.reduceSub, Int.reduceToNat, ↓reduceIte, decide_false, Int.lt_irrefl, eq_self, List.contains_cons, List.contains_nil, Nat.reduceBEq, Bool.or_false, Bool.or_true, h3, nc9']
          refine run_loop [2, 4, 64, 65, 66, 67, 68, 69, 70, 71, 72] (fun B s => s = st.put b C ∧ ∃ q : Nat, q ≤ 3 ∧ B 4 = .sc (.int .i64 q) ∧ X = (m.T.drop q).all (fun x => decide (x = []))) (fun B _ => 3 - vnat (B 4)) rfl ?_ ?_
          · simp (config := {maxSteps := 3000000}) only [put_get, over_get, true_and, Nat.reduceEqDiff, ↓reduceIte, eq_self, Bool.false_eq_true, List.contains_cons, List.contains_nil, Nat.reduceBEq, Bool.or_false, Bool.or_true, h4]
            exact ⟨q, hq, rfl, hX2⟩
          · rintro B3 s ⟨rfl, q, hq, h4, hX3⟩
            by_cases hlt : q < 3
            · obtain ⟨t, ht⟩ := get_ex (L := m.T) (i := q) (by omega)
              have gt := gT ht
              have hinj := strOf_inj (hm.tb t (List.mem_of_getElem? ht)) isB_nil
              rw [drop_cons ht, List.all_cons] at hX3
              by_cases c0 : t = []
              · simp (config := {maxSteps := 3000000}) only [run_skip, run_reg, run_seq, run_blk, run_cond, if_true, if_false, at_code_n, at_blk_n, at_rnd_n, ops_nil, ops_mv, ops_bin, ops_fld, ops_ixa, ops_load, ev_t, ev_c, put_get, opv_mk, over_get, rel_mk, vnat, put_box_same, vbin, vbinI, vbinS, norm, vfld, vixa, vload, takeV, V.cells, List.length_cons, List.length_nil, true_and, Nat.reduceEqDiff, Int.toNat_natCast, Int.reduceNeg, Nat.zero_add, Nat.mul_one, ↓reduceIte, ne_eq, eq_self, Bool.false_eq_true, List.contains_cons, List.contains_nil, Nat.reduceBEq, Bool.or_false, Bool.or_true, h4, gt, strOf_nil, decide_eq_true (show (q : Int) < 3 by omega), decide_eq_false (show ¬ ¬ strOf t = strOf [] from fun h => h (hinj.2 c0))]
                repeat (apply And.intro; focus (first | omega | (simp; done)))
                exact ⟨⟨q + 1, by omega, by simp, by rw [hX3, decide_eq_true c0, Bool.true_and]⟩, by omega⟩
              · simp (config := {maxSteps := 3000000}) only [run_skip, run_reg, run_seq, run_blk, run_ret, run_cond, if_true, at_code_n, at_code_r, at_blk_r, at_rnd_r, at_fin_r, ops_nil, ops_mv, ops_bin, ops_fld, ops_ixa, ops_load, ev_t, ev_c, put_get, opv_mk, over_get, vnat, put_box_same, vbin, vbinI, vbinS, vfld, vixa, vload, takeV, V.cells, List.length_cons, List.length_nil, and_true, true_and, Nat.reduceEqDiff, Int.toNat_natCast, Nat.zero_add, Nat.mul_one, ↓reduceIte, vret, rvAll, rvVal, resv_1, ne_eq, eq_self, Bool.false_eq_true, List.contains_cons, List.contains_nil, Nat.reduceBEq, Bool.or_false, Bool.or_true, h4, gt, strOf_nil, decide_eq_true (show (q : Int) < 3 by omega), decide_eq_true (show ¬ strOf t = strOf [] from fun h => c0 (hinj.1 h))]
                repeat (apply And.intro; focus (first | omega | (simp; done)))
                exact ⟨_, _, Wk.refl _, weak_put hwf.weak hb, by rw [hX3, decide_eq_false c0]; rfl, rfl⟩
            · obtain rfl : q = 3 := by omega
              rw [List.drop_of_length_le (by omega), List.all_nil] at hX3
              rw [hX3, Bool.true_and]
              simp (config := {maxSteps := 3000000}) only [run_reg, run_seq, run_exit, run_cond, if_false, at_code_n, at_code_x, at_blk_x, at_rnd_x, ops_nil, ops_mv, ops_bin, ops_fld, ops_load, ops_call, ev_t, ev_c, put_get, opv_mk, over_get, vnat, put_box_same, vbin, vbinI, vfld, vload, takeV, V.cells, List.map_cons, List.map_nil, List.length_cons, List.length_nil, true_and, Nat.reduceEqDiff, Nat.reduceSub, Int.reduceToNat, Nat.zero_add, Nat.add_zero, ↓reduceIte, decide_false, Int.lt_irrefl, eq_self, Bool.false_eq_true, List.contains_cons, List.contains_nil, Nat.reduceBEq, Bool.or_false, Bool.or_true, h4, nc3', g0]
              refine Cal.mk (msgSize_v m.ty) ?_
              rintro _ _ ⟨rfl, rfl⟩ -
              simp (config := {maxSteps := 3000000}) only [run_ret, at_code_n, at_fin_r, ops_nil, ops_mv, ops_bin, ev_t, ev_c, put_get, opv_mk, vbin, vbinI, obsOk, and_true, true_and, ↓reduceIte, vret, rvAll, rvVal, resv_1, eq_self]
              exact ⟨_, _, Wk.refl _, weak_put hwf.weak hb, rfl, rfl⟩
end
end Go.Proofs.Ytogkdcbcmhhhcaa
