/- Package be: contracts. -/
import Derived.Test.YtmomebkfaibmgaaVData
import Derived.Test.YtmomebkfaibmgaaVc
namespace Go.Proofs.Ytmomebkfaibmgaa
open Go

/-- What is read of bytes from a place on: the number, the place behind it, and whether there are too few. -/
def rdNum (L : List Int) (at_ : Nat) (bad : Bool) (size : Int) : Int × Nat × Bool :=
  if size < 1 ∨ 8 < size ∨ bad = true ∨ (L.length : Int) - at_ < size then (0, at_, true) else (numL ((L.drop at_).take size.toNat), at_ + size.toNat, false)
def rdTake (L : List Int) (at_ : Nat) (bad : Bool) (k : Int) : List Int × Nat × Bool :=
  if k < 0 ∨ bad = true ∨ (L.length : Int) - at_ < k then ([], at_, true) else ((L.drop at_).take k.toNat, at_ + k.toNat, false)
theorem rdNum_lt {L : List Int} {at_ : Nat} {bad : Bool} (hB : IsB L) {k : Nat} (hk : 1 ≤ k) : 0 ≤ (rdNum L at_ bad k).1 ∧ (rdNum L at_ bad k).1 < 256 ^ k := by
  have hp := pow256_pos k
  unfold rdNum
  split
  · simp only; omega
  · have := numL_range _ ((L.drop at_).take ((k : Int)).toNat) rfl ((hB.drop _).take _)
    have hl : ((L.drop at_).take ((k : Int)).toNat).length = k := by simp; omega
    rw [hl] at this
    exact this
/-- A reader's cells. -/
def rdr (tk : Tk) (L : List Int) (at_ : Nat) (bad : Bool) : List V := [.sl tk (bs L), .sc (.int .i64 at_), .sc (.bool bad)]
theorem rdr_max {st : St} (h : st.Wf) {b : Nat} {tk : Tk} {L : List Int} {at_ : Nat} {bad : Bool} (hb : st.box b = some (rdr tk L at_ bad)) : L.length ≤ 9223372036854775807 := by
  have := vlen_max (h.ok b _ hb _ (List.mem_cons_self ..))
  rw [bs_len] at this; omega

section
variable {tk : Tk} {L : List Int} {st : St} {b at_ : Nat} {bad : Bool}
theorem Get16_v (hB : IsB L) : VCalls Try.prog 62 [.sl tk (bs L)] st fun r st' => r = .sc (.int .u16 (if L.length < 2 then 0 else numL (L.take 2))) ∧ st = st' := by
  refine vcalls_enter vc62 (Nat.le_of_ble_eq_true rfl) fun hwf hok => ?_
  show Run _ Vc62.body (.fin (finQ Vc62.res _)) _ _
  unfold Vc62
  simp (config := {maxSteps := 3000000}) (disch := ((fail_if_success refine selfNe ?_); omega)) only [run_reg, run_seq, run_cond, at_code_n, ops_nil, ops_mv, ops_bin, ops_len, ev_t, ev_c, put_get, opv_mk, args0, List.getD_cons_zero, vbin, vbinI, vlen, true_and, ↓reduceIte, eq_self, reduceCtorEq, bs_len]
  refine If.dec (fun h => ?_) (fun h => ?_)
  · simp (config := {maxSteps := 3000000}) (disch := ((fail_if_success refine selfNe ?_); omega)) only [run_reg, run_seq, run_ret, at_code_n, at_code_r, at_fin_r, ops_nil, ops_mv, ev_c, put_get, opv_mk, and_true, true_and, ↓reduceIte, vret, rvAll, rvVal, resv_1, eq_self]
    exact ⟨_, _, Wk.refl _, hwf.weak, by rw [if_pos (by omega)], rfl⟩
  · obtain ⟨a, h0⟩ := get_ex (L := L) (i := 0) (by omega)
    obtain ⟨b, h1⟩ := get_ex (L := L) (i := 1) (by omega)
    have b0 := hB.get h0
    have b1 := hB.get h1
    have hn : numL (L.take 2) = 256 * a + b := by
      match L, h with
      | x :: y :: L, _ => simp at h0 h1; subst h0 h1; simp [numL]
    simp (config := {maxSteps := 3000000}) (disch := ((fail_if_success refine selfNe ?_); omega)) only [run_skip, run_reg, run_seq, run_ret, at_code_n, at_fin_r, ops_nil, ops_mv, ops_bin, ops_conv, ops_ix, ops_load, ev_t, ev_c, put_get, opv_mk, args0, List.getD_cons_zero, vbin, vbinI, vconv, norm, vix, vload, takeV, V.cells, shAmt, IntKind.bits, List.length_cons, List.length_nil, List.getElem?_cons_zero, Option.map_some, and_true, true_and, Nat.reduceEqDiff, Nat.reduceLeDiff, Int.reduceToNat, Int.reduceLE, Int.reducePow, Nat.min_def, Nat.zero_add, ↓reduceIte, vret, rvAll, rvVal, resv_1, eq_self, reduceCtorEq, bs_get, h0, h1, emod_small, ibit_or, u16_join]
    exact ⟨_, _, Wk.refl _, hwf.weak, by rw [if_neg (by omega), hn], rfl⟩
theorem New_v : VCalls Try.prog 28 [.sl tk (bs L)] st fun r st' => ∃ b, st.sz ≤ b ∧ r = ptrV b ∧ st' = st.put b (rdr tk L 0 false) := by
  refine vcalls_enter vc28 (Nat.le_of_ble_eq_true rfl) fun hwf hok => ?_
  show Run _ Vc28.body (.fin (finQ Vc28.res _)) _ _
  unfold Vc28
  simp (config := {maxSteps := 3000000}) (disch := ((fail_if_success refine selfNe ?_); omega)) only [run_reg, run_seq, run_ret, at_code_n, at_fin_r, ops_nil, ops_mv, ops_bld, ops_box, ev_t, ev_c, put_get, opv_mk, Bx, vbld, args0, List.getD_cons_zero, fillV, splice, V.cells, ptrV, obsOk, List.map_cons, List.map_nil, List.length_cons, List.length_nil, List.take_zero, List.drop_succ_cons, List.drop_zero, List.cons_append, List.nil_append, and_true, true_and, Nat.reduceAdd, Nat.reduceLT, Nat.reduceLeDiff, Nat.reduceLT, Nat.zero_add, ↓reduceIte, vret, rvAll, rvVal, resv_1, ne_eq, not_false_eq_true, eq_self, reduceCtorEq]
  exact fun b hb => ⟨_, _, Wk.refl _, weak_both hwf.weak, b, hb, rfl, rfl⟩
theorem Left_v (hb : st.box b = some (rdr tk L at_ bad)) (h : at_ ≤ L.length) : VCalls Try.prog 29 [ptrV b] st fun r st' => r = .sc (.int .i64 (L.length - at_)) ∧ st = st' := by
  refine vcalls_enter vc29 (Nat.le_of_ble_eq_true rfl) fun hwf hok => ?_
  show Run _ Vc29.body (.fin (finQ Vc29.res _)) _ _
  unfold Vc29
  have hm := rdr_max hwf hb
  simp (config := {maxSteps := 3000000}) (disch := ((fail_if_success refine selfNe ?_); omega)) only [run_reg, run_seq, run_ret, at_code_n, at_fin_r, ops_nil, ops_mv, ops_bin, ops_fld, ops_load, ops_nilck, ops_len, ev_t, ev_c, put_get, opv_mk, args0, List.getD_cons_zero, vbin, vbinI, norm, vfld, vnil, vlen, vload, takeV, V.cells, ptrV, List.length_cons, List.length_nil, List.getElem?_cons_zero, List.getElem?_cons_succ, and_true, true_and, Nat.reduceEqDiff, Int.reduceNeg, Nat.zero_add, Nat.add_zero, ↓reduceIte, vret, rvAll, rvVal, resv_1, eq_self, reduceCtorEq, hb, rdr, bs_len]
  repeat (apply And.intro; focus (first | omega | (simp; done)))
  exact ⟨_, _, Wk.refl _, hwf.weak, rfl, rfl⟩
theorem Num_v (hb : st.box b = some (rdr tk L at_ bad)) (h : at_ ≤ L.length) (hB : IsB L) (size : Int) : VCalls Try.prog 60 [ptrV b, .sc (.int .i64 size)] st fun r st' =>
    r = .sc (.int .u64 (rdNum L at_ bad size).1) ∧ st' = st.put b (rdr tk L (rdNum L at_ bad size).2.1 (rdNum L at_ bad size).2.2) := by
  refine vcalls_enter vc60 (Nat.le_of_ble_eq_true rfl) fun hwf hok => ?_
  show Run _ Vc60.body (.fin (finQ Vc60.res _)) _ _
  unfold Vc60
  have hm := rdr_max hwf hb
  by_cases h1 : size < 1
  · have e : rdNum L at_ bad size = (0, at_, true) := if_pos (.inl h1)
    simp (config := {maxSteps := 3000000}) (disch := ((fail_if_success refine selfNe ?_); omega)) only [run_reg, run_seq, run_ret, run_cond, if_true, at_code_n, at_code_r, at_fin_r, ops_nil, ops_grd, grd_tf, ops_mv, ops_pick, ops_bin, ops_fld, ops_nilck, ops_store, ev_t, ev_c, put_get, put_none, opv_mk, stb_some, sto_ptr, Stp, args0, List.getD_cons_zero, List.getD_cons_succ, vpick, vbin, vbinI, vfld, vnil, splice, V.cells, ptrV, obsOk, List.length_cons, List.length_nil, List.take_succ_cons, List.take_zero, List.drop_succ_cons, List.cons_append, List.nil_append, List.append_nil, List.drop_nil, and_true, true_and, Nat.reduceEqDiff, Nat.reduceAdd, Nat.reduceLT, Nat.reduceLeDiff, Nat.reduceLT, Nat.zero_add, ↓reduceIte, vret, rvAll, rvVal, resv_1, eq_self, reduceCtorEq, hb, rdr, e, decide_eq_true h1]
    repeat (apply And.intro; focus (first | omega | (simp; done)))
    exact ⟨_, _, Wk.refl _, weak_both hwf.weak, rfl, rfl⟩
  by_cases h2 : 8 < size
  · have e : rdNum L at_ bad size = (0, at_, true) := if_pos (.inr (.inl h2))
    simp (config := {maxSteps := 3000000}) (disch := ((fail_if_success refine selfNe ?_); omega)) only [run_reg, run_seq, run_ret, run_cond, if_true, at_code_n, at_code_r, at_fin_r, ops_nil, ops_grd, grd_ff, grd_tf, ops_mv, ops_pick, ops_bin, ops_fld, ops_nilck, ops_store, ev_t, ev_c, put_get, put_none, opv_mk, stb_some, sto_ptr, Stp, args0, List.getD_cons_zero, List.getD_cons_succ, vpick, vbin, vbinI, vfld, vnil, splice, V.cells, ptrV, obsOk, List.length_cons, List.length_nil, List.take_succ_cons, List.take_zero, List.drop_succ_cons, List.cons_append, List.nil_append, List.append_nil, List.drop_nil, and_true, true_and, Nat.reduceEqDiff, Nat.reduceAdd, Nat.reduceLT, Nat.reduceLeDiff, Nat.reduceLT, Nat.zero_add, ↓reduceIte, vret, rvAll, rvVal, resv_1, eq_self, reduceCtorEq, Bool.false_eq_true, hb, rdr, e, decide_eq_false h1, decide_eq_true h2]
    repeat (apply And.intro; focus (first | omega | (simp; done)))
    exact ⟨_, _, Wk.refl _, weak_both hwf.weak, rfl, rfl⟩
  cases bad with
  | true =>
    have e : rdNum L at_ true size = (0, at_, true) := if_pos (.inr (.inr (.inl rfl)))
    simp (config := {maxSteps := 3000000}) (disch := ((fail_if_success refine selfNe ?_); omega)) only [run_reg, run_seq, run_ret, run_cond, if_true, at_code_n, at_code_r, at_fin_r, ops_nil, ops_grd, grd_ff, grd_tf, ops_mv, ops_pick, ops_bin, ops_fld, ops_load, ops_nilck, ops_store, ev_t, ev_c, put_get, put_none, opv_mk, stb_some, sto_ptr, Stp, args0, List.getD_cons_zero, List.getD_cons_succ, vpick, vbin, vbinI, vfld, vnil, vload, takeV, splice, V.cells, ptrV, obsOk, List.length_cons, List.length_nil, List.getElem?_cons_zero, List.getElem?_cons_succ, List.take_succ_cons, List.take_zero, List.drop_succ_cons, List.cons_append, List.nil_append, List.append_nil, List.drop_nil, and_true, true_and, Nat.reduceEqDiff, Nat.reduceAdd, Nat.reduceLT, Nat.reduceLeDiff, Nat.reduceLT, Nat.zero_add, ↓reduceIte, vret, rvAll, rvVal, resv_1, eq_self, reduceCtorEq, Bool.false_eq_true, hb, rdr, e, decide_eq_false h1, decide_eq_false h2]
    repeat (apply And.intro; focus (first | omega | (simp; done)))
    exact ⟨_, _, Wk.refl _, weak_both hwf.weak, rfl, rfl⟩
  | false =>
  simp (config := {maxSteps := 3000000}) (disch := ((fail_if_success refine selfNe ?_); omega)) only [run_reg, run_seq, at_code_n, ops_nil, ops_grd, grd_ff, ops_mv, ops_pick, ops_bin, ops_fld, ops_load, ops_nilck, ops_call, ev_t, ev_c, put_get, opv_mk, args0, List.getD_cons_zero, List.getD_cons_succ, vpick, vbin, vbinI, vfld, vnil, vload, takeV, V.cells, ptrV, List.map_cons, List.map_nil, List.length_cons, List.length_nil, List.getElem?_cons_zero, List.getElem?_cons_succ, true_and, Nat.reduceEqDiff, Nat.zero_add, ↓reduceIte, eq_self, reduceCtorEq, Bool.false_eq_true, hb, rdr, decide_eq_false h1, decide_eq_false h2]
  repeat (apply And.intro; focus (first | omega | (simp; done)))
  refine Cal.mk (Left_v hb h) ?_
  rintro _ _ ⟨rfl, rfl⟩ -
  by_cases h3 : (L.length : Int) - at_ < size
  · have e : rdNum L at_ false size = (0, at_, true) := if_pos (.inr (.inr (.inr h3)))
    simp (config := {maxSteps := 3000000}) (disch := ((fail_if_success refine selfNe ?_); omega)) only [run_reg, run_seq, run_ret, run_cond, if_true, at_code_n, at_code_r, at_fin_r, ops_nil, ops_grd, grd_ff, ops_mv, ops_pick, ops_bin, ops_fld, ops_nilck, ops_store, ev_t, ev_c, put_get, put_none, opv_mk, stb_some, sto_ptr, Stp, args0, List.getD_cons_zero, List.getD_cons_succ, vpick, vbin, vbinI, vfld, vnil, splice, V.cells, obsOk, List.length_cons, List.length_nil, List.take_succ_cons, List.take_zero, List.drop_succ_cons, List.cons_append, List.nil_append, List.append_nil, List.drop_nil, and_true, true_and, Nat.reduceEqDiff, Nat.reduceAdd, Nat.reduceLT, Nat.reduceLeDiff, Nat.reduceLT, Nat.zero_add, ↓reduceIte, vret, rvAll, rvVal, resv_1, eq_self, reduceCtorEq, Bool.false_eq_true, hb, rdr, e, decide_eq_true h3]
    repeat (apply And.intro; focus (first | omega | (simp; done)))
    exact ⟨_, _, Wk.refl _, weak_both hwf.weak, rfl, rfl⟩
  have e : rdNum L at_ false size = (numL ((L.drop at_).take size.toNat), at_ + size.toNat, false) := if_neg (by simp; omega)
  have hM : (L.take ((at_ : Int) + size).toNat).drop at_ = (L.drop at_).take size.toNat := by rw [List.drop_take]; congr 1; omega
  have hMl : ((L.drop at_).take size.toNat).length = size.toNat := by simp; omega
  have hMB : IsB ((L.drop at_).take size.toNat) := (hB.drop _).take _
  generalize (L.drop at_).take size.toNat = M at *
  simp (config := {maxSteps := 3000000}) (disch := ((fail_if_success refine selfNe ?_); omega)) only [run_skip, run_reg, run_seq, run_blk, run_cond, if_false, at_code_n, ops_nil, ops_grd, grd_ff, ops_mv, ops_pick, ops_bin, ops_fld, ops_load, ops_nilck, ops_len, ops_slc, ev_t, ev_c, put_get, opv_mk, args0, List.getD_cons_zero, List.getD_cons_succ, vpick, vbin, vbinI, norm, vfld, vnil, vlen, vload, takeV, vslc, V.cells, obsOk, List.length_cons, List.length_nil, List.getElem?_cons_zero, List.getElem?_cons_succ, Option.map_some, true_and, Nat.reduceEqDiff, Int.toNat_natCast, Int.reduceNeg, Nat.zero_add, Nat.add_zero, ↓reduceIte, eq_self, reduceCtorEq, Bool.false_eq_true, hb, rdr, e, decide_eq_false h3, allSz_bs', bs_len, bs_take, bs_drop, hM]
  repeat (apply And.intro; focus (first | omega | (simp; done)))
  refine run_loop [5, 7, 45, 46, 47, 48, 49, 50, 51, 52, 53, 54] (fun B s => st = s ∧ ∃ i : Nat, i ≤ size.toNat ∧ B 45 = .sc (.int .i64 i) ∧ B 5 = .sc (.int .u64 (numL (M.take i)))) (fun B _ => size.toNat - vnat (B 45)) rfl ?_ ?_
  · simp (config := {maxSteps := 3000000}) (disch := ((fail_if_success refine selfNe ?_); omega)) only [put_get, true_and, Nat.reduceEqDiff, ↓reduceIte, eq_self]
    exact ⟨0, by omega, by simp, by simp [numL_nil]⟩
  · rintro B s ⟨rfl, i, hi, h45, h5⟩
    by_cases hlt : i < size.toNat
    · obtain ⟨c, hc⟩ := get_ex (L := M) (i := i) (by omega)
      have bc := hMB.get hc
      have hr := numL_range _ (M.take i) rfl (hMB.take i)
      have hpw : (256 : Int) ^ (M.take i).length ≤ 72057594037927936 := by
        have h7 : ∀ k : Nat, k ≤ 7 → (256 : Int) ^ k ≤ 72057594037927936 := by decide
        exact h7 _ (by simp; omega)
      have hsn : numL (M.take (i + 1)) = 256 * numL (M.take i) + c := by rw [List.take_add_one, hc]; exact numL_snoc _ _
      simp (config := {maxSteps := 3000000}) (disch := ((fail_if_success refine selfNe ?_); omega)) only [run_skip, run_reg, run_seq, run_blk, run_cond, if_true, at_code_n, at_blk_n, at_rnd_n, ops_nil, ops_mv, ops_bin, ops_conv, ops_ix, ops_load, ev_t, ev_c, put_get, opv_mk, over_get, rel_mk, vnat, vbin, vbinI, vconv, norm, vix, vload, takeV, V.cells, shAmt, IntKind.bits, List.length_cons, List.length_nil, List.getElem?_cons_zero, Option.map_some, and_true, true_and, Nat.reduceEqDiff, Nat.reduceLeDiff, Int.reduceToNat, Int.toNat_natCast, Int.reduceLE, Int.reducePow, Int.reduceNeg, Nat.min_def, Nat.zero_add, ↓reduceIte, eq_self, Bool.false_eq_true, List.contains_cons, List.contains_nil, Nat.reduceBEq, Bool.or_false, Bool.or_true, h45, h5, decide_eq_true (show (i : Int) < (M.length : Int) by omega), bs_get, hc, emod_small, ibit_or, u64_join]
      repeat (apply And.intro; focus (first | omega | (simp; done)))
      exact ⟨⟨i + 1, by omega, by simp, by rw [hsn]⟩, by omega⟩
    · obtain rfl : i = size.toNat := by omega
      have ht : M.take size.toNat = M := List.take_of_length_le (by omega)
      rw [ht] at h5
      simp (config := {maxSteps := 3000000}) (disch := ((fail_if_success refine selfNe ?_); omega)) only [run_reg, run_seq, run_exit, run_ret, run_cond, if_false, at_code_n, at_code_x, at_blk_x, at_rnd_x, at_fin_r, ops_nil, ops_mv, ops_bin, ops_fld, ops_load, ops_nilck, ops_store, ev_t, put_get, put_none, opv_mk, stb_some, sto_ptr, over_get, vnat, Stp, args0, List.getD_cons_zero, List.getD_cons_succ, vbin, vbinI, norm, vfld, vnil, vload, takeV, splice, V.cells, obsOk, List.length_cons, List.length_nil, List.getElem?_cons_zero, List.getElem?_cons_succ, List.take_succ_cons, List.take_zero, List.drop_succ_cons, List.drop_zero, List.cons_append, List.nil_append, and_true, true_and, Nat.reduceEqDiff, Nat.reduceAdd, Nat.reduceLT, Nat.reduceLeDiff, Nat.reduceLT, Int.toNat_natCast, Int.reduceNeg, Nat.zero_add, ↓reduceIte, vret, rvAll, rvVal, resv_1, eq_self, reduceCtorEq, Bool.false_eq_true, List.contains_cons, List.contains_nil, Nat.reduceBEq, Bool.or_false, Bool.or_true, h45, h5, decide_eq_false (show ¬ (size.toNat : Int) < (M.length : Int) by omega), hb, rdr]
      repeat (apply And.intro; focus (first | omega | (simp; done)))
      exact ⟨_, _, Wk.refl _, weak_both hwf.weak, rfl, by rw [show ((at_ + size.toNat : Nat) : Int) = at_ + size by omega]⟩
theorem Own.nil {size : Nat} {st : St} : Own size st (.sl .nil []) [] := .inl ⟨rfl, rfl⟩
theorem Own.sl {size : Nat} {st : St} {v : V} {l : List V} (h : Own size st v l) : ∃ tk, v = .sl tk l := by
  rcases h with ⟨rfl, rfl⟩ | ⟨g, rfl, _⟩
  · exact ⟨_, rfl⟩
  · exact ⟨_, rfl⟩
theorem u8_mod {n : Int} : norm .u8 n = (True, .sc (.int .u8 (n % 256))) := rfl
theorem Put16_v {x : V} {n : Int} (hown : Own 1 st x (bs L)) (hl : L.length ≤ 1000000000000) (h0 : 0 ≤ n) (h1 : n < 65536) : VCalls Try.prog 47 [x, .sc (.int .u16 n)] st fun r st' => Own 1 st' r (bs (L ++ beL n 2)) ∧ AppSt st x st' r := by
  refine vcalls_enter vc47 (Nat.le_of_ble_eq_true rfl) fun hwf hok => ?_
  show Run _ Vc47.body (.fin (finQ Vc47.res _)) _ _
  unfold Vc47
  simp (config := {maxSteps := 3000000}) (disch := ((fail_if_success refine selfNe ?_); omega)) only [run_reg, run_seq, at_code_n, ops_nil, ops_mv, ops_bin, ops_conv, ops_bsl, ops_app, ev_t, ev_c, put_get, opv_mk, vbsl, args0, List.getD_cons_zero, List.getD_cons_succ, vbin, vbinI, vconv, norm, V.cells, strip, strip1, allLen, shAmt, IntKind.bits, List.map_cons, List.map_nil, List.length_cons, List.length_nil, and_true, true_and, Nat.reduceEqDiff, Nat.reduceLeDiff, Int.reduceToNat, Int.reduceLE, Int.reducePow, Nat.min_def, Nat.zero_add, ↓reduceIte, eq_self, reduceCtorEq]
  refine App.mk hown (by simp [allSz, V.cells]) (by rw [bs_len]; unfold maxLen; simp; omega) (by rw [bs_len]; simp; omega) ?_
  intro r st' k1 k2
  simp (config := {maxSteps := 3000000}) (disch := ((fail_if_success refine selfNe ?_); omega)) only [run_ret, at_code_n, at_fin_r, ops_nil, ops_mv, ev_t, put_get, opv_mk, obsOk, and_true, true_and, ↓reduceIte, vret, rvAll, rvVal, resv_1, eq_self]
  refine ⟨_, _, Wk.refl _, k2.weak hwf, ?_, k2⟩
  rw [← bs_append]
  have e : beL n 2 = [n / 256 % 256, n % 256] := by simp [beL]
  rw [e]; exact k1
theorem Put32_v {x : V} {n : Int} (hown : Own 1 st x (bs L)) (hl : L.length ≤ 1000000000000) (h0 : 0 ≤ n) (h1 : n < 4294967296) : VCalls Try.prog 48 [x, .sc (.int .u32 n)] st fun r st' => Own 1 st' r (bs (L ++ beL n 4)) ∧ AppSt st x st' r := by
  refine vcalls_enter vc48 (Nat.le_of_ble_eq_true rfl) fun hwf hok => ?_
  show Run _ Vc48.body (.fin (finQ Vc48.res _)) _ _
  unfold Vc48
  simp (config := {maxSteps := 3000000}) (disch := ((fail_if_success refine selfNe ?_); omega)) only [run_reg, run_seq, at_code_n, ops_nil, ops_mv, ops_bin, ops_conv, ops_bsl, ops_app, ev_t, ev_c, put_get, opv_mk, vbsl, args0, List.getD_cons_zero, List.getD_cons_succ, vbin, vbinI, vconv, norm, V.cells, strip, strip1, allLen, shAmt, IntKind.bits, List.map_cons, List.map_nil, List.length_cons, List.length_nil, and_true, true_and, Nat.reduceEqDiff, Nat.reduceLeDiff, Int.reduceToNat, Int.reduceLE, Int.reducePow, Nat.min_def, Nat.zero_add, ↓reduceIte, eq_self, reduceCtorEq]
  refine App.mk hown (by simp [allSz, V.cells]) (by rw [bs_len]; unfold maxLen; simp; omega) (by rw [bs_len]; simp; omega) ?_
  intro r st' k1 k2
  simp (config := {maxSteps := 3000000}) (disch := ((fail_if_success refine selfNe ?_); omega)) only [run_ret, at_code_n, at_fin_r, ops_nil, ops_mv, ev_t, put_get, opv_mk, obsOk, and_true, true_and, ↓reduceIte, vret, rvAll, rvVal, resv_1, eq_self]
  refine ⟨_, _, Wk.refl _, k2.weak hwf, ?_, k2⟩
  rw [← bs_append]
  have e : beL n 4 = [n / 16777216 % 256, n / 65536 % 256, n / 256 % 256, n % 256] := by simp [beL]
  rw [e]; exact k1
theorem U8_v (hb : st.box b = some (rdr tk L at_ bad)) (h : at_ ≤ L.length) (hB : IsB L) : VCalls Try.prog 49 [ptrV b] st fun r st' =>
    r = .sc (.int .u8 (rdNum L at_ bad 1).1) ∧ st' = st.put b (rdr tk L (rdNum L at_ bad 1).2.1 (rdNum L at_ bad 1).2.2) := by
  have hr : 0 ≤ (rdNum L at_ bad 1).1 ∧ (rdNum L at_ bad 1).1 < 256 := by simpa using rdNum_lt (L := L) (at_ := at_) (bad := bad) hB (k := 1) (by omega)
  refine vcalls_enter vc49 (Nat.le_of_ble_eq_true rfl) fun hwf hok => ?_
  show Run _ Vc49.body (.fin (finQ Vc49.res _)) _ _
  unfold Vc49
  simp (config := {maxSteps := 3000000}) (disch := ((fail_if_success refine selfNe ?_); omega)) only [run_reg, run_seq, at_code_n, ops_nil, ops_mv, ops_call, ev_t, ev_c, put_get, opv_mk, args0, List.getD_cons_zero, ptrV, List.map_cons, List.map_nil, true_and, ↓reduceIte, eq_self, reduceCtorEq]
  refine Cal.mk (Num_v hb h hB 1) ?_
  rintro _ _ ⟨rfl, rfl⟩ -
  simp (config := {maxSteps := 3000000}) (disch := ((fail_if_success refine selfNe ?_); omega)) only [run_ret, at_code_n, at_fin_r, ops_nil, ops_mv, ops_conv, ev_t, put_get, opv_mk, vconv, norm, obsOk, and_true, true_and, ↓reduceIte, vret, rvAll, rvVal, resv_1, eq_self, emod_small]
  exact ⟨_, _, Wk.refl _, weak_both hwf.weak, rfl, rfl⟩
theorem U16_v (hb : st.box b = some (rdr tk L at_ bad)) (h : at_ ≤ L.length) (hB : IsB L) : VCalls Try.prog 52 [ptrV b] st fun r st' =>
    r = .sc (.int .u16 (rdNum L at_ bad 2).1) ∧ st' = st.put b (rdr tk L (rdNum L at_ bad 2).2.1 (rdNum L at_ bad 2).2.2) := by
  have hr : 0 ≤ (rdNum L at_ bad 2).1 ∧ (rdNum L at_ bad 2).1 < 65536 := by simpa using rdNum_lt (L := L) (at_ := at_) (bad := bad) hB (k := 2) (by omega)
  refine vcalls_enter vc52 (Nat.le_of_ble_eq_true rfl) fun hwf hok => ?_
  show Run _ Vc52.body (.fin (finQ Vc52.res _)) _ _
  unfold Vc52
  simp (config := {maxSteps := 3000000}) (disch := ((fail_if_success refine selfNe ?_); omega)) only [run_reg, run_seq, at_code_n, ops_nil, ops_mv, ops_call, ev_t, ev_c, put_get, opv_mk, args0, List.getD_cons_zero, ptrV, List.map_cons, List.map_nil, true_and, ↓reduceIte, eq_self, reduceCtorEq]
  refine Cal.mk (Num_v hb h hB 2) ?_
  rintro _ _ ⟨rfl, rfl⟩ -
  simp (config := {maxSteps := 3000000}) (disch := ((fail_if_success refine selfNe ?_); omega)) only [run_ret, at_code_n, at_fin_r, ops_nil, ops_mv, ops_conv, ev_t, put_get, opv_mk, vconv, norm, obsOk, and_true, true_and, ↓reduceIte, vret, rvAll, rvVal, resv_1, eq_self, emod_small]
  exact ⟨_, _, Wk.refl _, weak_both hwf.weak, rfl, rfl⟩
theorem U32_v (hb : st.box b = some (rdr tk L at_ bad)) (h : at_ ≤ L.length) (hB : IsB L) : VCalls Try.prog 50 [ptrV b] st fun r st' =>
    r = .sc (.int .u32 (rdNum L at_ bad 4).1) ∧ st' = st.put b (rdr tk L (rdNum L at_ bad 4).2.1 (rdNum L at_ bad 4).2.2) := by
  have hr : 0 ≤ (rdNum L at_ bad 4).1 ∧ (rdNum L at_ bad 4).1 < 4294967296 := by simpa using rdNum_lt (L := L) (at_ := at_) (bad := bad) hB (k := 4) (by omega)
  refine vcalls_enter vc50 (Nat.le_of_ble_eq_true rfl) fun hwf hok => ?_
  show Run _ Vc50.body (.fin (finQ Vc50.res _)) _ _
  unfold Vc50
  simp (config := {maxSteps := 3000000}) (disch := ((fail_if_success refine selfNe ?_); omega)) only [run_reg, run_seq, at_code_n, ops_nil, ops_mv, ops_call, ev_t, ev_c, put_get, opv_mk, args0, List.getD_cons_zero, ptrV, List.map_cons, List.map_nil, true_and, ↓reduceIte, eq_self, reduceCtorEq]
  refine Cal.mk (Num_v hb h hB 4) ?_
  rintro _ _ ⟨rfl, rfl⟩ -
  simp (config := {maxSteps := 3000000}) (disch := ((fail_if_success refine selfNe ?_); omega)) only [run_ret, at_code_n, at_fin_r, ops_nil, ops_mv, ops_conv, ev_t, put_get, opv_mk, vconv, norm, obsOk, and_true, true_and, ↓reduceIte, vret, rvAll, rvVal, resv_1, eq_self, emod_small]
  exact ⟨_, _, Wk.refl _, weak_both hwf.weak, rfl, rfl⟩
theorem Bad_v (hb : st.box b = some (rdr tk L at_ bad)) : VCalls Try.prog 53 [ptrV b] st fun r st' => r = .sc (.bool bad) ∧ st = st' := by
  refine vcalls_enter vc53 (Nat.le_of_ble_eq_true rfl) fun hwf hok => ?_
  show Run _ Vc53.body (.fin (finQ Vc53.res _)) _ _
  unfold Vc53
  simp (config := {maxSteps := 3000000}) (disch := ((fail_if_success refine selfNe ?_); omega)) only [run_reg, run_seq, run_ret, at_code_n, at_fin_r, ops_nil, ops_mv, ops_fld, ops_load, ops_nilck, ev_t, ev_c, put_get, opv_mk, args0, List.getD_cons_zero, vfld, vnil, vload, takeV, V.cells, ptrV, List.length_cons, List.length_nil, List.getElem?_cons_zero, List.getElem?_cons_succ, and_true, true_and, Nat.zero_add, ↓reduceIte, vret, rvAll, rvVal, resv_1, eq_self, reduceCtorEq, hb, rdr]
  exact ⟨_, _, Wk.refl _, hwf.weak, rfl, rfl⟩
theorem Take_v (hb : st.box b = some (rdr tk L at_ bad)) (h : at_ ≤ L.length) (hL : L.length ≤ 1000000000000) (n : Int) : VCalls Try.prog 51 [ptrV b, .sc (.int .i64 n)] st fun r st' =>
    r = .sl .no (bs (rdTake L at_ bad n).1) ∧ st' = st.put b (rdr tk L (rdTake L at_ bad n).2.1 (rdTake L at_ bad n).2.2) := by
  refine vcalls_enter vc51 (Nat.le_of_ble_eq_true rfl) fun hwf hok => ?_
  show Run _ Vc51.body (.fin (finQ Vc51.res _)) _ _
  unfold Vc51
  by_cases h1 : n < 0
  · have e : rdTake L at_ bad n = ([], at_, true) := if_pos (.inl h1)
    simp (config := {maxSteps := 3000000}) (disch := ((fail_if_success refine selfNe ?_); omega)) only [run_reg, run_seq, run_ret, run_cond, if_true, at_code_n, at_code_r, at_fin_r, ops_nil, ops_grd, grd_tf, ops_mv, ops_pick, ops_bin, ops_fld, ops_nilck, ops_store, ev_t, ev_c, put_get, put_none, opv_mk, stb_some, sto_ptr, Stp, args0, List.getD_cons_zero, List.getD_cons_succ, vpick, vbin, vbinI, vfld, vnil, splice, V.cells, ptrV, obsOk, List.length_cons, List.length_nil, List.take_succ_cons, List.take_zero, List.drop_succ_cons, List.cons_append, List.nil_append, List.append_nil, List.drop_nil, and_true, true_and, Nat.reduceEqDiff, Nat.reduceAdd, Nat.reduceLT, Nat.reduceLeDiff, Nat.reduceLT, Nat.zero_add, ↓reduceIte, vret, rvAll, rvVal, resv_1, eq_self, reduceCtorEq, hb, rdr, e, decide_eq_true h1]
    repeat (apply And.intro; focus (first | omega | (simp; done)))
    exact ⟨_, _, Wk.no, weak_both hwf.weak, rfl, rfl⟩
  cases bad with
  | true =>
    have e : rdTake L at_ true n = ([], at_, true) := if_pos (.inr (.inl rfl))
    simp (config := {maxSteps := 3000000}) (disch := ((fail_if_success refine selfNe ?_); omega)) only [run_reg, run_seq, run_ret, run_cond, if_true, at_code_n, at_code_r, at_fin_r, ops_nil, ops_grd, grd_ff, grd_tf, ops_mv, ops_pick, ops_bin, ops_fld, ops_load, ops_nilck, ops_store, ev_t, ev_c, put_get, put_none, opv_mk, stb_some, sto_ptr, Stp, args0, List.getD_cons_zero, List.getD_cons_succ, vpick, vbin, vbinI, vfld, vnil, vload, takeV, splice, V.cells, ptrV, obsOk, List.length_cons, List.length_nil, List.getElem?_cons_zero, List.getElem?_cons_succ, List.take_succ_cons, List.take_zero, List.drop_succ_cons, List.cons_append, List.nil_append, List.append_nil, List.drop_nil, and_true, true_and, Nat.reduceEqDiff, Nat.reduceAdd, Nat.reduceLT, Nat.reduceLeDiff, Nat.reduceLT, Nat.zero_add, ↓reduceIte, vret, rvAll, rvVal, resv_1, eq_self, reduceCtorEq, Bool.false_eq_true, hb, rdr, e, decide_eq_false h1]
    repeat (apply And.intro; focus (first | omega | (simp; done)))
    exact ⟨_, _, Wk.no, weak_both hwf.weak, rfl, rfl⟩
  | false =>
  simp (config := {maxSteps := 3000000}) (disch := ((fail_if_success refine selfNe ?_); omega)) only [run_reg, run_seq, at_code_n, ops_nil, ops_grd, grd_ff, ops_mv, ops_pick, ops_bin, ops_fld, ops_load, ops_nilck, ops_call, ev_t, ev_c, put_get, opv_mk, args0, List.getD_cons_zero, List.getD_cons_succ, vpick, vbin, vbinI, vfld, vnil, vload, takeV, V.cells, ptrV, List.map_cons, List.map_nil, List.length_cons, List.length_nil, List.getElem?_cons_zero, List.getElem?_cons_succ, true_and, Nat.reduceEqDiff, Nat.zero_add, ↓reduceIte, eq_self, reduceCtorEq, Bool.false_eq_true, hb, rdr, decide_eq_false h1]
  repeat (apply And.intro; focus (first | omega | (simp; done)))
  refine Cal.mk (Left_v hb h) ?_
  rintro _ _ ⟨rfl, rfl⟩ -
  by_cases h3 : (L.length : Int) - at_ < n
  · have e : rdTake L at_ false n = ([], at_, true) := if_pos (.inr (.inr h3))
    simp (config := {maxSteps := 3000000}) (disch := ((fail_if_success refine selfNe ?_); omega)) only [run_reg, run_seq, run_ret, run_cond, if_true, at_code_n, at_code_r, at_fin_r, ops_nil, ops_grd, grd_ff, ops_mv, ops_pick, ops_bin, ops_fld, ops_nilck, ops_store, ev_t, ev_c, put_get, put_none, opv_mk, stb_some, sto_ptr, Stp, args0, List.getD_cons_zero, List.getD_cons_succ, vpick, vbin, vbinI, vfld, vnil, splice, V.cells, obsOk, List.length_cons, List.length_nil, List.take_succ_cons, List.take_zero, List.drop_succ_cons, List.cons_append, List.nil_append, List.append_nil, List.drop_nil, and_true, true_and, Nat.reduceEqDiff, Nat.reduceAdd, Nat.reduceLT, Nat.reduceLeDiff, Nat.reduceLT, Nat.zero_add, ↓reduceIte, vret, rvAll, rvVal, resv_1, eq_self, reduceCtorEq, Bool.false_eq_true, hb, rdr, e, decide_eq_true h3]
    repeat (apply And.intro; focus (first | omega | (simp; done)))
    exact ⟨_, _, Wk.no, weak_both hwf.weak, rfl, rfl⟩
  have e : rdTake L at_ false n = ((L.drop at_).take n.toNat, at_ + n.toNat, false) := if_neg (by simp; omega)
  have hM : (L.take ((at_ : Int) + n).toNat).drop at_ = (L.drop at_).take n.toNat := by rw [List.drop_take]; congr 1; omega
  have hMl : ((L.drop at_).take n.toNat).length = n.toNat := by simp; omega
  generalize (L.drop at_).take n.toNat = M at *
  have ht : ((at_ : Int) + n - n).toNat = at_ := by omega
  simp (config := {maxSteps := 3000000}) (disch := ((fail_if_success refine selfNe ?_); omega)) only [run_skip, run_reg, run_seq, run_cond, if_false, at_code_n, ops_nil, ops_grd, grd_ff, ops_mv, ops_pick, ops_bin, ops_fld, ops_load, ops_nilck, ops_slc, ops_store, ops_app, ev_t, ev_c, put_get, put_none, opv_mk, stb_some, sto_ptr, Stp, put_box_same, args0, List.getD_cons_zero, List.getD_cons_succ, vpick, vbin, vbinI, norm, vfld, vnil, vload, takeV, vslc, splice, V.cells, obsOk, List.length_cons, List.length_nil, List.getElem?_cons_zero, List.getElem?_cons_succ, List.take_succ_cons, List.take_zero, List.drop_succ_cons, List.drop_zero, List.cons_append, List.nil_append, Option.map_some, true_and, Nat.reduceEqDiff, Nat.reduceAdd, Nat.reduceLT, Nat.reduceLeDiff, Nat.reduceLT, Int.reduceNeg, Nat.zero_add, Nat.add_zero, ↓reduceIte, eq_self, reduceCtorEq, Bool.false_eq_true, hb, rdr, e, decide_eq_false h3, allSz_bs', bs_len, bs_take, bs_drop, ht, hM]
  repeat (apply And.intro; focus (first | omega | (simp; done)))
  refine App.mk Own.nil (allSz_bs _) (by simp [bs_len, maxLen]; omega) (by simp [bs_len]; omega) ?_
  intro r s' k1 k2
  simp (config := {maxSteps := 3000000}) (disch := ((fail_if_success refine selfNe ?_); omega)) only [run_ret, at_code_n, at_fin_r, ops_nil, ops_mv, ev_t, put_get, opv_mk, obsOk, and_true, true_and, ↓reduceIte, vret, rvAll, rvVal, resv_1, eq_self]
  obtain ⟨tk', rfl⟩ := k1.sl
  exact ⟨_, _, Wk.no, (by have := k2.over hwf.lt.put; rwa [show (at_ : Int) + n = ((at_ + n.toNat : Nat) : Int) by omega] at this), rfl, rfl⟩
end
end Go.Proofs.Ytmomebkfaibmgaa
