/- Package sum and catwalkref05: the checksum as a contract. -/
import Derived.Test.YtbmkohmhiafphaaVSumLaw
namespace Go.Proofs.Ytbmkohmhiafphaa
open Go

theorem u32_low {x : Int} (h₀ : 0 ≤ x) (h₁ : x < 4294967296) : ibit .and .u32 x 65535 = x % 65536 := bits_mask .u32 32 (by decide) (fun n q0 q1 => IntWalk.u32_in _ (by omega)) 16 (by decide) x h₀ h₁
theorem u16_not {x : Int} (h₀ : 0 ≤ x) (h₁ : x ≤ 65535) : ibit .xor .u16 IntKind.u16.max x = 65535 - x := by
  obtain ⟨k, rfl⟩ : ∃ k : Nat, x = k := ⟨x.toNat, by omega⟩
  have h2 : (BitVec.ofInt 16 IntKind.u16.max ^^^ BitVec.ofInt 16 (k : Int)).toNat = 65535 - k := by
    have h1 : BitVec.ofInt 16 IntKind.u16.max = BitVec.allOnes 16 := by decide
    rw [h1, BitVec.allOnes_xor, BitVec.toNat_not]
    simp
    omega
  show IntKind.wrap .u16 (((BitVec.ofInt 16 IntKind.u16.max ^^^ BitVec.ofInt 16 (k : Int)).toNat : Nat) : Int) = _
  rw [h2]
  show ((65535 - k : Nat) : Int) % 65536 = _
  omega

theorem put_swap {st : St} {b c : Nat} {x y z : List V} (h : b ≠ c) : ((st.put b x).put c y).put b z = (st.put b z).put c y := by
  simp only [St.put, St.mk.injEq, true_and]
  refine ⟨funext fun q => ?_, by omega⟩
  by_cases h1 : q = b
  · subst h1; simp [h]
  · by_cases h2 : q = c
    · subst h2; simp [h1]
    · simp [h1, h2]
section
variable {tk tk' : Tk} {st : St} {L : List Int}
def sumV (n : Int) (odd : Bool) : V := .agg [.sc (.int .u32 n), .sc (.bool odd)]
theorem sumAdd_v (hB : IsB L) : VCalls Try.prog 61 [sumV 0 false, .sl tk (bs L)] st fun r st' => (∃ odd, r = sumV (nrm (sumP L L.length)) odd) ∧ st = st' := by
  refine vcalls_enter vc61 (Nat.le_of_ble_eq_true rfl) fun hwf hok => ?_
  show Run _ Vc61.body (.fin (finQ Vc61.res _)) _ _
  unfold Vc61
  have hm := vlen_max (hok _ (List.mem_cons_of_mem _ (List.mem_cons_self ..)))
  rw [bs_len] at hm
  simp (config := {maxSteps := 3000000}) only [run_reg, run_seq, run_blk, at_code_n, ops_nil, ops_mv, ops_len, ops_box, ops_alc, ev_t, ev_c, put_get, opv_mk, Bx, put_sz, args0, List.getD_cons_zero, List.getD_cons_succ, vlen, V.cells, ptrV, obsOk, List.length_cons, List.length_nil, true_and, Nat.reduceEqDiff, Nat.reduceAdd, Nat.zero_add, ↓reduceIte, ne_eq, not_false_eq_true, eq_self, reduceCtorEq, sumV, bs_len]
  intro b hb c hc
  obtain ⟨hc1, hbc⟩ : st.sz ≤ c ∧ b < c := by omega
  clear hc
  refine run_loop [6, 9, 10, 11, 12, 13, 14, 15, 16, 17, 18, 19, 20, 21, 22, 23, 24, 25, 26, 27, 28, 29, 30, 31, 32, 33, 34, 35, 36, 37, 38, 39, 40] (fun B s => ∃ i : Nat, i ≤ L.length ∧ B 9 = .sc (.int .i64 i) ∧ s = (st.put b [.sc (.int .u32 (nrm (sumP L i))), .sc (.bool (decide (i % 2 = 1)))]).put c [.sc (.int .u32 0), .sc (.bool false)]) (fun B _ => L.length - vnat (B 9)) rfl ?_ ?_
  · simp (config := {maxSteps := 3000000}) only [put_get, ↓reduceIte, eq_self]
    exact ⟨0, by omega, by simp, by simp [sumP, nrm]⟩
  · rintro B s ⟨i, hi, h9, rfl⟩
    obtain ⟨n0, n1⟩ := nrm_range (sumP_range hB i).1
    by_cases hlt : i < L.length
    · obtain ⟨x, hx⟩ := get_ex hlt
      obtain ⟨x0, x1⟩ := hB.get hx
      have hgd : L.getD i 0 = x := by simp [List.getD, hx]
      have hs : sumP L (i + 1) = sumP L i + (if i % 2 = 1 then x else 256 * x) := by simp only [sumP, hgd]
      have hst := nrm_step (S := sumP L i) (x := if i % 2 = 1 then x else 256 * x) (sumP_range hB i).1 (by split <;> omega) (by split <;> omega)
      by_cases ho : i % 2 = 1
      · rw [if_pos ho] at hs hst
        rw [decide_eq_true ho]
        have e1 : 0 ≤ nrm (sumP L i) + x ∧ nrm (sumP L i) + x < 4294967296 := by omega
        have e2 : 0 ≤ nrm (sumP L (i + 1)) ∧ nrm (sumP L (i + 1)) < 4294967296 := by have := nrm_range (sumP_range hB (i + 1)).1; omega
        rw [← hs] at hst
        simp (config := {maxSteps := 3000000}) only [run_skip, run_reg, run_seq, run_blk, run_cond, if_true, at_code_n, at_blk_n, at_rnd_n, ops_nil, ops_mv, ops_bin, ops_un, ops_conv, ops_fld, ops_ix, ops_load, ops_store, ev_t, ev_c, put_get, put_none, opv_mk, stb_some, sto_ptr, over_get, rel_mk, vnat, Stp, put_box_same, vbin, vbinI, vun, vconv, norm, vfld, vix, vload, takeV, splice, V.cells, obsOk, shAmt, IntKind.bits, List.length_cons, List.length_nil, List.getElem?_cons_zero, List.getElem?_cons_succ, List.take_succ_cons, List.take_zero, List.drop_succ_cons, List.drop_zero, List.cons_append, List.nil_append, List.append_nil, List.drop_nil, Option.map_some, and_true, true_and, Nat.reduceEqDiff, Nat.reduceAdd, Nat.reduceLT, Nat.reduceLeDiff, Nat.reduceLT, Int.reduceToNat, Int.toNat_natCast, Int.reduceLE, Int.reducePow, Int.reduceNeg, Nat.min_def, Nat.zero_add, Nat.add_zero, ↓reduceIte, Bool.not_true, eq_self, Bool.false_eq_true, List.contains_cons, List.contains_nil, Nat.reduceBEq, Bool.or_false, Bool.or_true, h9, put_box_ne (Nat.ne_of_lt hbc), decide_eq_true (show (i : Int) < (L.length : Int) by omega), bs_get, hx, emod_small (show 0 ≤ x by omega) (show x < 4294967296 by omega), emod_small e1.1 e1.2, u32_low e1.1 e1.2, hst, emod_small e2.1 e2.2, put_swap (Nat.ne_of_lt hbc), Int.reducePow]
        repeat (apply And.intro; focus (first | omega | (simp; done)))
        exact ⟨⟨i + 1, by omega, by simp, by rw [decide_eq_false (by omega)]⟩, by omega⟩
      · rw [if_neg ho] at hs hst
        rw [decide_eq_false ho]
        have e1 : 0 ≤ nrm (sumP L i) + 256 * x ∧ nrm (sumP L i) + 256 * x < 4294967296 := by omega
        have e2 : 0 ≤ nrm (sumP L (i + 1)) ∧ nrm (sumP L (i + 1)) < 4294967296 := by have := nrm_range (sumP_range hB (i + 1)).1; omega
        rw [← hs] at hst
        simp (config := {maxSteps := 3000000}) only [run_skip, run_reg, run_seq, run_blk, run_cond, if_true, if_false, at_code_n, at_blk_n, at_rnd_n, ops_nil, ops_mv, ops_bin, ops_un, ops_conv, ops_fld, ops_ix, ops_load, ops_store, ev_t, ev_c, put_get, put_none, opv_mk, stb_some, sto_ptr, over_get, rel_mk, vnat, Stp, put_box_same, vbin, vbinI, vun, vconv, norm, vfld, vix, vload, takeV, splice, V.cells, obsOk, shAmt, IntKind.bits, List.length_cons, List.length_nil, List.getElem?_cons_zero, List.getElem?_cons_succ, List.take_succ_cons, List.take_zero, List.drop_succ_cons, List.drop_zero, List.cons_append, List.nil_append, List.append_nil, List.drop_nil, Option.map_some, and_true, true_and, Nat.reduceEqDiff, Nat.reduceAdd, Nat.reduceLT, Nat.reduceLeDiff, Nat.reduceLT, Int.reduceToNat, Int.toNat_natCast, Int.reduceLE, Int.reducePow, Int.reduceNeg, Nat.min_def, Nat.zero_add, Nat.add_zero, ↓reduceIte, Bool.not_false, eq_self, Bool.false_eq_true, List.contains_cons, List.contains_nil, Nat.reduceBEq, Bool.or_false, Bool.or_true, h9, put_box_ne (Nat.ne_of_lt hbc), decide_eq_true (show (i : Int) < (L.length : Int) by omega), bs_get, hx, emod_small (show 0 ≤ x by omega) (show x < 4294967296 by omega), Int.mul_comm x 256, emod_small (show 0 ≤ 256 * x by omega) (show 256 * x < 4294967296 by omega), emod_small e1.1 e1.2, u32_low e1.1 e1.2, hst, emod_small e2.1 e2.2, put_swap (Nat.ne_of_lt hbc), Int.reducePow]
        repeat (apply And.intro; focus (first | omega | (simp; done)))
        exact ⟨⟨i + 1, by omega, by simp, by rw [decide_eq_true (by omega)]⟩, by omega⟩
    · obtain rfl : i = L.length := by omega
      simp (config := {maxSteps := 3000000}) only [run_reg, run_seq, run_exit, run_ret, run_cond, if_false, at_code_n, at_code_x, at_blk_x, at_rnd_x, at_fin_r, ops_nil, ops_bin, ops_load, ops_store, ev_t, put_get, put_none, opv_mk, stb_some, sto_ptr, over_get, vnat, Stp, put_box_same, put_put, vbin, vbinI, vload, takeV, splice, V.cells, obsOk, List.length_cons, List.length_nil, List.take_succ_cons, List.take_zero, List.drop_succ_cons, List.drop_zero, List.nil_append, List.append_nil, List.take_nil, List.drop_nil, and_true, true_and, Nat.reduceEqDiff, Nat.reduceAdd, Nat.reduceLT, Nat.reduceLeDiff, Nat.reduceLT, Int.toNat_natCast, Nat.zero_add, ↓reduceIte, vret, rvAll, rvVal, resv_1, decide_false, Int.lt_irrefl, eq_self, Bool.false_eq_true, List.contains_cons, List.contains_nil, Nat.reduceBEq, Bool.or_false, Bool.or_true, h9, put_box_ne (Nat.ne_of_lt hbc), Int.lt_irrefl]
      exact ⟨_, _, Wk.refl _, weak_put (weak_put hwf.weak hb) hc1, ⟨_, rfl⟩, rfl⟩
theorem sumValue_v {n : Int} {odd : Bool} (h0 : 0 ≤ n) (h1 : n ≤ 65535) : VCalls Try.prog 62 [sumV n odd] st fun r st' => r = .sc (.int .u16 (65535 - n)) ∧ st = st' := by
  refine vcalls_enter vc62 (Nat.le_of_ble_eq_true rfl) fun hwf hok => ?_
  show Run _ Vc62.body (.fin (finQ Vc62.res _)) _ _
  unfold Vc62
  have e1 : n / 65536 = 0 := by omega
  have e2 : n % 65536 = n := by omega
  have e3 : n % 4294967296 = n := by omega
  have e4 : ibit .xor .u16 (if IntKind.u16.signed = true then -1 else IntKind.u16.max) n = 65535 - n := u16_not h0 h1
  simp (config := {maxSteps := 3000000}) only [run_reg, run_seq, run_ret, at_code_n, at_fin_r, ops_nil, ops_mv, ops_bin, ops_un, ops_conv, ops_fld, ops_load, ops_box, ev_t, ev_c, put_get, opv_mk, Bx, put_box_same, args0, List.getD_cons_zero, vbin, vbinI, vun, vconv, norm, vfld, vload, takeV, V.cells, ptrV, obsOk, shAmt, IntKind.bits, List.length_cons, List.length_nil, List.getElem?_cons_zero, and_true, true_and, Nat.reduceEqDiff, Nat.reduceAdd, Nat.reduceLeDiff, Int.reduceToNat, Int.reduceLE, Int.reducePow, Int.reduceNeg, Nat.min_def, Nat.zero_add, Nat.add_zero, ↓reduceIte, vret, rvAll, rvVal, resv_1, ne_eq, not_false_eq_true, eq_self, reduceCtorEq, sumV, u32_low (show 0 ≤ n by omega) (show n < 4294967296 by omega), e1, Int.zero_add, e2, e3, e4]
  intro b hb
  exact ⟨_, _, Wk.refl _, weak_put hwf.weak hb, rfl, rfl⟩
theorem sumOf_v (hB : IsB L) : VCalls Try.prog 47 [.sl tk (bs L)] st fun r st' => r = .sc (.int .u16 (ckS L)) ∧ st = st' := by
  refine vcalls_enter vc47 (Nat.le_of_ble_eq_true rfl) fun hwf hok => ?_
  show Run _ Vc47.body (.fin (finQ Vc47.res _)) _ _
  unfold Vc47
  obtain ⟨n0, n1⟩ := nrm_range (sumP_range hB L.length).1
  simp (config := {maxSteps := 3000000}) only [run_reg, run_seq, at_code_n, ops_nil, ops_mv, ops_bld, ops_call, ev_t, ev_c, put_get, opv_mk, vbld, args0, List.getD_cons_zero, fillV, List.map_cons, List.map_nil, true_and, Nat.reduceEqDiff, ↓reduceIte, eq_self, reduceCtorEq]
  refine Cal.mk (sumAdd_v hB) ?_
  rintro _ _ ⟨⟨odd, rfl⟩, rfl⟩ -
  simp (config := {maxSteps := 3000000}) only [ops_call, ev_t, put_get, obsOk, List.map_cons, List.map_nil, true_and, ↓reduceIte, eq_self]
  refine Cal.mk (sumValue_v n0 n1) ?_
  rintro _ _ ⟨rfl, rfl⟩ -
  simp (config := {maxSteps := 3000000}) only [run_ret, at_code_n, at_fin_r, ops_nil, ops_mv, ev_t, put_get, opv_mk, obsOk, and_true, true_and, ↓reduceIte, vret, rvAll, rvVal, resv_1, eq_self]
  exact ⟨_, _, Wk.refl _, hwf.weak, rfl, rfl⟩
theorem sumRight_v (hB : IsB L) : VCalls Try.prog 44 [.sl tk (bs L)] st fun r st' => r = .sc (.bool (decide (ckS L = 0))) ∧ st = st' := by
  refine vcalls_enter vc44 (Nat.le_of_ble_eq_true rfl) fun hwf hok => ?_
  show Run _ Vc44.body (.fin (finQ Vc44.res _)) _ _
  unfold Vc44
  simp (config := {maxSteps := 3000000}) only [run_reg, run_seq, at_code_n, ops_nil, ops_mv, ops_call, ev_t, ev_c, put_get, opv_mk, args0, List.getD_cons_zero, List.map_cons, List.map_nil, true_and, ↓reduceIte, eq_self, reduceCtorEq]
  refine Cal.mk (sumOf_v hB) ?_
  rintro _ _ ⟨rfl, rfl⟩ -
  simp (config := {maxSteps := 3000000}) only [run_ret, at_code_n, at_fin_r, ops_nil, ops_mv, ops_bin, ev_t, ev_c, put_get, opv_mk, vbin, vbinI, obsOk, and_true, true_and, ↓reduceIte, vret, rvAll, rvVal, resv_1, eq_self]
  exact ⟨_, _, Wk.refl _, hwf.weak, rfl, rfl⟩
/-- Words. -/
def ws (W : List Int) : List V := W.map fun n => .sc (.int .i64 n)
theorem ws_len (W : List Int) : (ws W).length = W.length := by simp [ws]
theorem ws_get (W : List Int) (i : Nat) : (ws W)[i]? = (W[i]?).map fun n => .sc (.int .i64 n) := by simp [ws]
theorem ws_append (W X : List Int) : ws W ++ ws X = ws (W ++ X) := by simp [ws]
/-- The words of bytes. -/
def wordsOf : List Int → List Int
  | [] => []
  | [a] => [256 * a]
  | a :: b :: L => (256 * a + b) :: wordsOf L
def wd (L : List Int) (i : Nat) : Int := 256 * L.getD i 0 + (if i + 1 < L.length then L.getD (i + 1) 0 else 0)
def wordsTo (L : List Int) : Nat → List Int
  | 0 => []
  | j + 1 => wordsTo L j ++ [wd L (2 * j)]
theorem wordsTo_len (L : List Int) : ∀ j, (wordsTo L j).length = j
  | 0 => rfl
  | j + 1 => by simp [wordsTo, wordsTo_len L j]
theorem words_v (hB : IsB L) (hL : L.length ≤ 1000000000000) : VCalls Try.prog 48 [.sl tk (bs L)] st fun r st' => r = .sl .no (ws (wordsTo L ((L.length + 1) / 2))) ∧ st = st' := by
  refine vcalls_enter vc48 (Nat.le_of_ble_eq_true rfl) fun hwf hok => ?_
  show Run _ Vc48.body (.fin (finQ Vc48.res _)) _ _
  unfold Vc48
  simp (config := {maxSteps := 3000000}) only [run_reg, run_seq, run_blk, at_code_n, ops_nil, ops_mv, ev_c, opv_mk, true_and]
  refine run_loop [3, 4, 5, 6, 7, 8, 9, 10, 11, 12, 13, 14, 15, 16, 17, 18, 19, 20, 21, 22, 23, 24, 25, 26, 27, 28, 29, 30, 31, 32, 33, 34] (fun B s => ∃ j : Nat, j ≤ (L.length + 1) / 2 ∧ B 4 = .sc (.int .i64 (2 * (j : Int))) ∧ Own 1 s (B 3) (ws (wordsTo L j)) ∧ st.weak s ∧ s.Lt ∧ ∀ g k l, B 3 = .sl (.own g k) l → st.sz ≤ g) (fun B _ => L.length + 1 - vnat (B 4)) rfl ?_ ?_
  · simp (config := {maxSteps := 3000000}) only [put_get, Nat.reduceEqDiff, ↓reduceIte, eq_self]
    exact ⟨0, by omega, by simp, .inl ⟨rfl, rfl⟩, hwf.weak, hwf.lt, fun g k l e => by cases e⟩
  · rintro B s ⟨j, hj, h4, h3, hw, hlt, htk⟩
    by_cases hi : 2 * j < L.length
    · obtain ⟨x, hx⟩ := get_ex hi
      obtain ⟨x0, x1⟩ := hB.get hx
      have hgd : L.getD (2 * j) 0 = x := by simp [List.getD, hx]
      have hn : (2 * (j : Int)).toNat = 2 * j := by omega
      have hn1 : (2 * (j : Int) + 1).toNat = 2 * j + 1 := by omega
      by_cases hi1 : 2 * j + 1 < L.length
      · obtain ⟨y, hy⟩ := get_ex hi1
        obtain ⟨y0, y1⟩ := hB.get hy
        have hgd1 : L.getD (2 * j + 1) 0 = y := by simp [List.getD, hy]
        have hwd : wd L (2 * j) = 256 * x + y := by simp only [wd, hgd, hgd1, if_pos hi1]
        simp (config := {maxSteps := 3000000}) only [run_skip, run_reg, run_seq, run_blk, run_cond, if_true, at_code_n, ops_nil, ops_mv, ops_bin, ops_conv, ops_ix, ops_load, ops_len, ops_bsl, ops_app, ev_t, ev_c, put_get, opv_mk, over_get, vnat, vbsl, args0, List.getD_cons_zero, vbin, vbinI, vconv, norm, vlen, vix, vload, takeV, V.cells, strip, strip1, allLen, List.map_cons, List.map_nil, List.length_cons, List.length_nil, List.getElem?_cons_zero, Option.map_some, and_true, true_and, Nat.reduceEqDiff, Int.reduceNeg, Nat.zero_add, ↓reduceIte, eq_self, reduceCtorEq, Bool.false_eq_true, List.contains_cons, List.contains_nil, Nat.reduceBEq, Bool.or_false, Bool.or_true, h4, bs_len, decide_eq_true (show 2 * (j : Int) < (L.length : Int) by omega), decide_eq_true (show 2 * (j : Int) + 1 < (L.length : Int) by omega), bs_get, hn, hn1, hx, hy]
        repeat (apply And.intro; focus (first | omega | (simp; done)))
        refine App.mk h3 (by simp [allSz, V.cells]) (by simp [ws_len, wordsTo_len, maxLen]; omega) (by simp [ws_len, wordsTo_len]; omega) ?_
        intro r s2 k1 k2
        rw [show [V.sc (.int .i64 (256 * x + y))] = ws [(256 * x + y)] from rfl, ws_append] at k1
        simp (config := {maxSteps := 3000000}) only [run_reg, at_code_n, at_blk_n, at_rnd_n, ops_nil, ops_mv, ops_bin, ev_t, ev_c, put_get, opv_mk, over_get, rel_mk, vbin, vbinI, norm, obsOk, true_and, Nat.reduceEqDiff, Int.reduceNeg, ↓reduceIte, eq_self, List.contains_cons, List.contains_nil, Nat.reduceBEq, Bool.or_false, Bool.or_true, h4]
        repeat (apply And.intro; focus (first | omega | (simp; done)))
        exact ⟨⟨j + 1, by omega, by simp only [V.sc.injEq, Value.int.injEq, true_and]; omega, by simpa only [wordsTo, hwd] using k1, k2.keeps hw htk, hlt.app k2, k2.fresh hw.sz htk⟩, by omega⟩
      · have hwd : wd L (2 * j) = 256 * x := by simp only [wd, hgd, if_neg hi1, Int.add_zero]
        simp (config := {maxSteps := 3000000}) only [run_skip, run_reg, run_seq, run_blk, run_cond, if_true, if_false, at_code_n, ops_nil, ops_mv, ops_bin, ops_conv, ops_ix, ops_load, ops_len, ops_bsl, ops_app, ev_t, ev_c, put_get, opv_mk, over_get, vnat, vbsl, args0, List.getD_cons_zero, vbin, vbinI, vconv, norm, vlen, vix, vload, takeV, V.cells, strip, strip1, allLen, List.map_cons, List.map_nil, List.length_cons, List.length_nil, List.getElem?_cons_zero, Option.map_some, and_true, true_and, Nat.reduceEqDiff, Int.reduceNeg, Nat.zero_add, ↓reduceIte, eq_self, reduceCtorEq, Bool.false_eq_true, List.contains_cons, List.contains_nil, Nat.reduceBEq, Bool.or_false, Bool.or_true, h4, bs_len, decide_eq_true (show 2 * (j : Int) < (L.length : Int) by omega), decide_eq_false (show ¬ 2 * (j : Int) + 1 < (L.length : Int) by omega), bs_get, hn, hx]
        repeat (apply And.intro; focus (first | omega | (simp; done)))
        refine App.mk h3 (by simp [allSz, V.cells]) (by simp [ws_len, wordsTo_len, maxLen]; omega) (by simp [ws_len, wordsTo_len]; omega) ?_
        intro r s2 k1 k2
        rw [show [V.sc (.int .i64 (256 * x))] = ws [(256 * x)] from rfl, ws_append] at k1
        simp (config := {maxSteps := 3000000}) only [run_reg, at_code_n, at_blk_n, at_rnd_n, ops_nil, ops_mv, ops_bin, ev_t, ev_c, put_get, opv_mk, over_get, rel_mk, vbin, vbinI, norm, obsOk, true_and, Nat.reduceEqDiff, Int.reduceNeg, ↓reduceIte, eq_self, List.contains_cons, List.contains_nil, Nat.reduceBEq, Bool.or_false, Bool.or_true, h4]
        repeat (apply And.intro; focus (first | omega | (simp; done)))
        exact ⟨⟨j + 1, by omega, by simp only [V.sc.injEq, Value.int.injEq, true_and]; omega, by simpa only [wordsTo, hwd] using k1, k2.keeps hw htk, hlt.app k2, k2.fresh hw.sz htk⟩, by omega⟩
    · obtain rfl : j = (L.length + 1) / 2 := by omega
      simp (config := {maxSteps := 3000000}) only [run_reg, run_seq, run_exit, run_ret, run_cond, if_false, at_code_n, at_code_x, at_blk_x, at_rnd_x, at_fin_r, ops_nil, ops_mv, ops_bin, ops_len, ev_t, put_get, opv_mk, over_get, vnat, args0, List.getD_cons_zero, vbin, vbinI, vlen, and_true, true_and, Nat.reduceEqDiff, ↓reduceIte, vret, rvAll, rvVal, resv_1, eq_self, reduceCtorEq, Bool.false_eq_true, List.contains_cons, List.contains_nil, Nat.reduceBEq, Bool.or_false, Bool.or_true, h4, bs_len, decide_eq_false (show ¬ 2 * (((L.length + 1) / 2 : Nat) : Int) < (L.length : Int) by omega)]
      obtain ⟨tk', h3'⟩ := h3.sl
      rw [h3']
      exact ⟨_, _, Wk.no, hw, rfl, rfl⟩
theorem wordsTo_get (L : List Int) {i : Nat} : ∀ {m : Nat}, i < m → (wordsTo L m)[i]? = some (wd L (2 * i))
  | 0, h => by omega
  | m + 1, h => by
    rw [wordsTo, List.getElem?_append, wordsTo_len]
    split
    · rename_i h2; exact wordsTo_get L h2
    · have : i = m := by omega
      subst this
      simp
/-- The sum of the first j words. -/
def wsum (L : List Int) : Nat → Int
  | 0 => 0
  | j + 1 => wsum L j + wd L (2 * j)
theorem wsum_eq (L : List Int) : ∀ j, j ≤ (L.length + 1) / 2 → wsum L j = sumP L (min (2 * j) L.length)
  | 0, _ => by simp [wsum, sumP]
  | j + 1, h => by
    have ih := wsum_eq L j (by omega)
    rw [wsum, ih, Nat.min_eq_left (by omega)]
    have a1 : ¬ (2 * j) % 2 = 1 := by omega
    have a2 : (2 * j + 1) % 2 = 1 := by omega
    by_cases h1 : 2 * j + 1 < L.length
    · rw [Nat.min_eq_left (by omega), show 2 * (j + 1) = 2 * j + 1 + 1 by omega]
      simp only [sumP, if_pos a2, if_neg a1, wd, if_pos h1]
      omega
    · have e : min (2 * (j + 1)) L.length = 2 * j + 1 := by omega
      rw [e]
      simp only [sumP, if_neg a1, wd, if_neg h1]
      omega
theorem ref05Of_v (hB : IsB L) (hL : L.length ≤ 1000000000) : VCalls Try.prog 18 [.sl tk (bs L)] st fun r st' => r = .sc (.int .i64 (ckS L)) ∧ st = st' := by
  refine vcalls_enter vc18 (Nat.le_of_ble_eq_true rfl) fun hwf hok => ?_
  show Run _ Vc18.body (.fin (finQ Vc18.res _)) _ _
  unfold Vc18
  simp (config := {maxSteps := 3000000}) only [run_reg, run_seq, at_code_n, ops_nil, ops_mv, ops_call, ev_t, ev_c, put_get, opv_mk, args0, List.getD_cons_zero, List.map_cons, List.map_nil, true_and, ↓reduceIte, eq_self, reduceCtorEq]
  refine Cal.mk (words_v hB (by omega)) ?_
  rintro _ _ ⟨rfl, rfl⟩ -
  generalize hm : (L.length + 1) / 2 = m
  have hfin : wsum L m = sumP L L.length := by rw [wsum_eq L m (by omega), Nat.min_eq_right (by omega)]
  simp (config := {maxSteps := 3000000}) only [run_reg, run_seq, run_blk, at_code_n, ops_nil, ops_mv, ev_t, ev_c, put_get, opv_mk, obsOk, true_and, ↓reduceIte, eq_self]
  refine run_loop [3, 5, 8, 9, 10, 11, 12, 13, 14, 15, 16, 17, 18, 19] (fun B s => st = s ∧ ∃ j : Nat, j ≤ m ∧ B 5 = .sc (.int .i64 j) ∧ B 3 = .sc (.int .i64 (wsum L j))) (fun B _ => m - vnat (B 5)) rfl ?_ ?_
  · simp (config := {maxSteps := 3000000}) only [put_get, true_and, Nat.reduceEqDiff, ↓reduceIte, eq_self]
    exact ⟨0, by omega, by simp, by simp [wsum]⟩
  · rintro B s ⟨rfl, j, hj, h5, h3⟩
    by_cases hlt : j < m
    · have hr1 := sumP_range hB (min (2 * j) L.length)
      have hr2 := sumP_range hB (min (2 * (j + 1)) L.length)
      rw [← wsum_eq L j (by omega)] at hr1
      rw [← wsum_eq L (j + 1) (by omega)] at hr2
      have hs : wsum L (j + 1) = wsum L j + wd L (2 * j) := rfl
      simp (config := {maxSteps := 3000000}) only [run_skip, run_reg, run_seq, run_blk, run_cond, if_true, at_code_n, at_blk_n, at_rnd_n, ops_nil, ops_mv, ops_bin, ops_ix, ops_load, ops_len, ev_t, ev_c, put_get, opv_mk, over_get, rel_mk, vnat, vbin, vbinI, norm, vlen, vix, vload, takeV, V.cells, List.length_cons, List.length_nil, List.getElem?_cons_zero, Option.map_some, and_true, true_and, Nat.reduceEqDiff, Int.toNat_natCast, Int.reduceNeg, Nat.zero_add, ↓reduceIte, eq_self, Bool.false_eq_true, List.contains_cons, List.contains_nil, Nat.reduceBEq, Bool.or_false, Bool.or_true, h5, h3, ws_len, wordsTo_len, decide_eq_true (show (j : Int) < (m : Int) by omega), ws_get, wordsTo_get L hlt, ← hs]
      repeat (apply And.intro; focus (first | omega | (simp; done)))
      exact ⟨⟨j + 1, by omega, by simp, rfl⟩, by omega⟩
    · obtain rfl : j = m := by omega
      simp (config := {maxSteps := 3000000}) only [run_reg, run_seq, run_blk, run_exit, run_cond, if_false, at_code_n, at_code_x, at_blk_x, at_rnd_x, ops_nil, ops_mv, ops_bin, ops_len, ev_t, put_get, opv_mk, over_get, vnat, vbin, vbinI, vlen, true_and, Nat.reduceEqDiff, Int.toNat_natCast, ↓reduceIte, decide_false, Int.lt_irrefl, eq_self, Bool.false_eq_true, List.contains_cons, List.contains_nil, Nat.reduceBEq, Bool.or_false, Bool.or_true, h5, ws_len, wordsTo_len]
      rw [hfin] at h3
      have h0 := sumP_range hB L.length
      refine run_loop [3, 20, 21, 22, 23, 24, 25, 26] (fun B s => st = s ∧ ∃ n : Int, 0 ≤ n ∧ n ≤ 65280 * (L.length : Int) ∧ nrm n = nrm (sumP L L.length) ∧ B 3 = .sc (.int .i64 n)) (fun B _ => vnat (B 3)) rfl ?_ ?_
      · simp (config := {maxSteps := 3000000}) only [put_get, over_get, true_and, Nat.reduceEqDiff, ↓reduceIte, eq_self, List.contains_cons, List.contains_nil, Nat.reduceBEq, Bool.or_false, h3]
        exact ⟨_, h0.1, h0.2, rfl, by simp⟩
      · rintro B s ⟨rfl, n, n0, n1, hn, h3'⟩
        by_cases hb : 65535 < n
        · have := nrm_fold n0
          simp (config := {maxSteps := 3000000}) only [run_skip, run_reg, run_seq, run_blk, run_cond, if_true, at_code_n, at_blk_n, at_rnd_n, ops_nil, ops_mv, ops_bin, ev_t, ev_c, put_get, opv_mk, over_get, rel_mk, vnat, vbin, vbinI, norm, and_true, true_and, Nat.reduceEqDiff, Int.reduceLT, Int.reduceNeg, ↓reduceIte, eq_self, List.contains_cons, List.contains_nil, Nat.reduceBEq, Bool.or_false, h3', decide_eq_true hb]
          repeat (apply And.intro; focus (first | omega | (simp; done)))
          exact ⟨⟨n / 65536 + n % 65536, by omega, by omega, by rw [this, hn], rfl⟩, by omega⟩
        · rw [nrm_small n0 (by omega)] at hn
          simp (config := {maxSteps := 3000000}) only [run_reg, run_seq, run_exit, run_ret, run_cond, if_false, at_code_n, at_code_x, at_blk_x, at_rnd_x, at_fin_r, ops_nil, ops_mv, ops_bin, ev_t, ev_c, put_get, opv_mk, over_get, vnat, vbin, vbinI, norm, and_true, true_and, Nat.reduceEqDiff, Int.reduceNeg, ↓reduceIte, vret, rvAll, rvVal, resv_1, eq_self, List.contains_cons, List.contains_nil, Nat.reduceBEq, Bool.or_false, h3', decide_eq_false hb]
          repeat (apply And.intro; focus (first | omega | (simp; done)))
          exact ⟨_, _, Wk.refl _, hwf.weak, by rw [hn]; rfl, rfl⟩
end
end Go.Proofs.Ytbmkohmhiafphaa
