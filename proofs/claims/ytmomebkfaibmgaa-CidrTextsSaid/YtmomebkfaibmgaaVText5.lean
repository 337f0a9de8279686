/- The document's texts of addresses and prefixes; prefixes that may be: contracts. -/
import Derived.Test.YtmomebkfaibmgaaVText4
namespace Go.Proofs.Ytmomebkfaibmgaa
open Go

section
variable {tk : Tk} {st : St} {L : List Int}
theorem num03b_v : ∀ (k n : Nat) (st : St), n < 10 ^ (k + 1) → n ≤ 9223372036854775807 → k ≤ 18 → VCalls Try.prog 42 [.sc (.int .i64 n)] st fun r st' => r = .sc (.string (strOf (digs k n))) ∧ st = st' := by
  have fin : ∀ (n : Nat) (st : St), n < 10 → VCalls Try.prog 42 [.sc (.int .i64 n)] st fun r st' => r = .sc (.string (strOf [48 + (n : Int)])) ∧ st = st' := by
    intro n st h
    refine vcalls_enter vc42 (Nat.le_of_ble_eq_true rfl) fun hwf hok => ?_
    show Run _ Vc42.body (.fin (finQ Vc42.res _)) _ _
    unfold Vc42
    have e1 : (48 + (n : Int)) % 256 = 48 + n := by omega
    simp (config := {maxSteps := 3000000}) only [run_skip, run_reg, run_seq, run_ret, run_cond, if_true, if_false, at_code_n, at_code_r, at_fin_r, ops_nil, ops_mv, ops_bin, ops_b2s, vb2s, ops_conv, ops_bsl, ev_t, ev_c, put_get, opv_mk, vbsl, args0, List.getD_cons_zero, vbin, vbinI, vconv, norm, V.cells, strip, strip1, allLen, List.map_cons, List.map_nil, List.length_cons, List.length_nil, Option.map_some, and_true, true_and, Int.reduceNeg, Nat.zero_add, ↓reduceIte, vret, rvAll, rvVal, resv_1, eq_self, reduceCtorEq, decide_eq_true (show (n : Int) < 10 by omega), decide_eq_false (show ¬ (n : Int) < 0 by omega), e1, u8sOf]
    repeat (apply And.intro; focus (first | omega | (simp; done)))
    exact ⟨_, _, Wk.refl _, hwf.weak, rfl, rfl⟩
  intro k
  induction k with
  | zero => exact fun n st h _ _ => fin n st (by simpa using h)
  | succ k ih =>
    intro n st h hb hk
    by_cases h10 : n < 10
    · unfold digs
      rw [if_pos h10]
      exact fin n st h10
    · unfold digs
      rw [if_neg h10]
      refine vcalls_enter vc42 (Nat.le_of_ble_eq_true rfl) fun hwf hok => ?_
      show Run _ Vc42.body (.fin (finQ Vc42.res _)) _ _
      unfold Vc42
      have hq : ((n : Int) / 10) = ((n / 10 : Nat) : Int) := by omega
      have hr : ((n : Int) % 10) = ((n % 10 : Nat) : Int) := by omega
      have e1 : (48 + ((n % 10 : Nat) : Int)) % 256 = 48 + ((n % 10 : Nat) : Int) := by omega
      have hdl := digs_len k (n / 10)
      simp (config := {maxSteps := 3000000}) only [run_skip, run_reg, run_seq, run_cond, if_false, at_code_n, ops_nil, ops_mv, ops_bin, ops_b2s, vb2s, ops_conv, ops_bsl, ops_call, ev_t, ev_c, put_get, opv_mk, vbsl, args0, List.getD_cons_zero, vbin, vbinI, vconv, norm, V.cells, strip, strip1, allLen, List.map_cons, List.map_nil, List.length_cons, List.length_nil, Option.map_some, and_true, true_and, Nat.reduceEqDiff, Int.reduceLT, Int.reduceNeg, Nat.zero_add, ↓reduceIte, eq_self, reduceCtorEq, decide_eq_false (show ¬ (n : Int) < 10 by omega), hq, hr, e1, u8sOf]
      repeat (apply And.intro; focus (first | omega | (simp; done)))
      refine Cal.mk (ih (n / 10) _ (by rw [Nat.pow_succ] at h; omega) (by omega) (by omega)) ?_
      rintro _ _ ⟨rfl, rfl⟩ -
      simp (config := {maxSteps := 3000000}) only [run_ret, at_code_n, at_fin_r, ops_nil, ops_mv, ops_bin, ev_t, put_get, opv_mk, vbin, vbinS, obsOk, List.length_cons, List.length_nil, and_true, true_and, Nat.reduceEqDiff, Nat.reduceLeDiff, Nat.zero_add, ↓reduceIte, vret, rvAll, rvVal, resv_1, eq_self, strOf_size, strOf_append]
      repeat (apply And.intro; focus (first | omega | (simp; done)))
      exact ⟨_, _, Wk.refl _, hwf.weak, rfl, rfl⟩
theorem num03i_v {n : Int} (h : -9223372036854775808 ≤ n ∧ n ≤ 9223372036854775807) : VCalls Try.prog 42 [.sc (.int .i64 n)] st fun r st' => r = .sc (.string (strOf (digs 18 n.toNat))) ∧ st = st' := by
  by_cases h0 : 0 ≤ n
  · have := num03b_v 18 n.toNat st (by omega) (by omega) (by omega)
    rwa [show ((n.toNat : Nat) : Int) = n by omega] at this
  · have e : digs 18 n.toNat = [48] := by rw [show n.toNat = 0 by omega]; rfl
    rw [e]
    refine vcalls_enter vc42 (Nat.le_of_ble_eq_true rfl) fun hwf hok => ?_
    show Run _ Vc42.body (.fin (finQ Vc42.res _)) _ _
    unfold Vc42
    simp (config := {maxSteps := 3000000}) only [run_reg, run_seq, run_ret, run_cond, if_true, at_code_n, at_code_r, at_fin_r, ops_nil, ops_mv, ops_bin, ops_b2s, vb2s, ops_conv, ops_bsl, ev_t, ev_c, put_get, opv_mk, vbsl, args0, List.getD_cons_zero, vbin, vbinI, vconv, norm, V.cells, strip, strip1, allLen, List.map_cons, List.map_nil, List.length_cons, List.length_nil, Option.map_some, and_true, true_and, Int.reduceLE, Int.reduceAdd, Int.reduceNeg, Int.reduceMod, Nat.zero_add, ↓reduceIte, vret, rvAll, rvVal, resv_1, eq_self, reduceCtorEq, decide_eq_true (show n < 10 by omega), decide_eq_true (show n < 0 by omega), u8sOf]
    exact ⟨_, _, Wk.refl _, hwf.weak, rfl, rfl⟩
theorem rBytes_v {a : Int} (h0 : 0 ≤ a) (h1 : a < 4294967296) : VCalls Try.prog 57 [.sc (.int .u32 a)] st fun r st' => r = .agg (bs (beL a 4)) ∧ st = st' := by
  refine vcalls_enter vc57 (Nat.le_of_ble_eq_true rfl) fun hwf hok => ?_
  show Run _ Vc57.body (.fin (finQ Vc57.res _)) _ _
  unfold Vc57
  have hb : beL a 4 = [a / 16777216 % 256, a / 65536 % 256, a / 256 % 256, a % 256] := beL4 a
  rw [hb]
  have e1 : a / 65536 % 256 % 256 = a / 65536 % 256 := by omega
  have e2 : a / 256 % 256 % 256 = a / 256 % 256 := by omega
  have e3 : a % 256 % 256 = a % 256 := by omega
  have e4 : a / 16777216 % 4294967296 = a / 16777216 := by omega
  have e5 : a / 65536 % 4294967296 = a / 65536 := by omega
  have e6 : a / 256 % 4294967296 = a / 256 := by omega
  simp (config := {maxSteps := 3000000}) only [run_reg, run_seq, run_ret, at_code_n, at_fin_r, ops_nil, ops_mv, ops_bin, ops_conv, ops_bld, ops_alc, ops_store, ev_t, ev_c, put_get, put_none, opv_mk, stb_some, sto_ptr, Stp, vbld, put_box_same, put_put, args0, List.getD_cons_zero, vbin, vbinI, vconv, norm, vload, takeV, fillV, splice, V.cells, ptrV, obsOk, List.map_cons, List.map_nil, List.length_cons, List.length_nil, List.take_succ_cons, List.take_zero, List.drop_succ_cons, List.drop_zero, List.cons_append, List.nil_append, List.append_nil, List.take_nil, List.drop_nil, and_true, true_and, Nat.reduceEqDiff, Nat.reduceAdd, Nat.reduceLT, Nat.reduceLeDiff, Nat.reduceLT, Int.reduceLT, Nat.zero_add, ↓reduceIte, vret, rvAll, rvVal, resv_1, eq_self, reduceCtorEq]
  intro b hb
  simp (config := {maxSteps := 3000000}) only [e4, e5, e6, e1, e2, e3]
  repeat (apply And.intro; focus (first | omega | (simp; done)))
  exact ⟨_, _, Wk.refl _, weak_put hwf.weak hb, rfl, rfl⟩
theorem rText_v {a : Int} (h0 : 0 ≤ a) (h1 : a < 4294967296) : VCalls Try.prog 41 [.sc (.int .u32 a)] st fun r st' => r = .sc (.string (strOf (addrT a))) ∧ st = st' := by
  refine vcalls_enter vc41 (Nat.le_of_ble_eq_true rfl) fun hwf hok => ?_
  show Run _ Vc41.body (.fin (finQ Vc41.res _)) _ _
  unfold Vc41
  have hb : beL a 4 = [a / 16777216 % 256, a / 65536 % 256, a / 256 % 256, a % 256] := beL4 a
  have hT : addrT a = digs 2 (a / 16777216 % 256).toNat ++ 46 :: (digs 2 (a / 65536 % 256).toNat ++ 46 :: (digs 2 (a / 256 % 256).toNat ++ 46 :: digs 2 (a % 256).toNat)) := rfl
  have hB := rBytes_v (st := st) h0 h1
  rw [hb] at hB
  rw [hT]
  have q0 : 0 ≤ a / 16777216 % 256 ∧ a / 16777216 % 256 < 256 := by omega
  have q1 : 0 ≤ a / 65536 % 256 ∧ a / 65536 % 256 < 256 := by omega
  have q2 : 0 ≤ a / 256 % 256 ∧ a / 256 % 256 < 256 := by omega
  have q3 : 0 ≤ a % 256 ∧ a % 256 < 256 := by omega
  generalize a / 16777216 % 256 = b0 at *
  generalize a / 65536 % 256 = b1 at *
  generalize a / 256 % 256 = b2 at *
  generalize a % 256 = b3 at *
  clear hb hT
  have l0 := digs_len 2 b0.toNat
  have l1 := digs_len 2 b1.toNat
  have l2 := digs_len 2 b2.toNat
  have l3 := digs_len 2 b3.toNat
  have num : ∀ (x : Int) (_ : 0 ≤ x ∧ x < 256) (st : St), VCalls Try.prog 42 [.sc (.int .i64 x)] st fun r st' => r = .sc (.string (strOf (digs 2 x.toNat))) ∧ st = st' := fun x hx st => by
    have := num03b_v 2 x.toNat st (by omega) (by omega) (by omega)
    rwa [show ((x.toNat : Nat) : Int) = x by omega] at this
  have n0 := num b0 q0
  have n1 := num b1 q1
  have n2 := num b2 q2
  have n3 := num b3 q3
  generalize digs 2 b0.toNat = d0 at *
  generalize digs 2 b1.toNat = d1 at *
  generalize digs 2 b2.toNat = d2 at *
  generalize digs 2 b3.toNat = d3 at *
  clear num
  simp (config := {maxSteps := 3000000}) only [run_reg, run_seq, at_code_n, ops_nil, ops_mv, ops_call, ev_t, ev_c, put_get, opv_mk, args0, List.getD_cons_zero, List.map_cons, List.map_nil, true_and, ↓reduceIte, eq_self, reduceCtorEq]
  refine Cal.mk hB ?_
  rintro _ _ ⟨rfl, rfl⟩ -
  simp (config := {maxSteps := 3000000}) only [run_reg, run_seq, at_code_n, ops_nil, ops_conv, ops_ixa, ops_load, ops_alc, ops_store, ops_call, ev_t, ev_c, put_get, put_none, opv_mk, stb_some, sto_ptr, Stp, put_box_same, put_put, vconv, norm, vixa, vload, takeV, splice, V.cells, ptrV, obsOk, List.map_cons, List.map_nil, List.length_cons, List.length_nil, List.getElem?_cons_zero, List.getElem?_cons_succ, List.take_zero, List.drop_succ_cons, List.nil_append, List.append_nil, List.drop_nil, true_and, Nat.reduceEqDiff, Nat.reduceAdd, Nat.reduceLT, Nat.reduceLeDiff, Nat.reduceLT, Int.reduceToNat, Int.reduceLE, Int.reduceNeg, Nat.zero_add, Nat.add_zero, Nat.mul_one, ↓reduceIte, eq_self, bs_cons, bs_nil]
  intro b hb
  simp (config := {maxSteps := 3000000}) only [Int.reduceNeg, strOf_46]
  repeat (apply And.intro; focus (first | omega | (simp; done)))
  refine Cal.mk (n0 _) ?_
  rintro _ _ ⟨rfl, rfl⟩ -
  simp (config := {maxSteps := 3000000}) only [ops_bin, ops_call, ev_t, ev_c, put_get, opv_mk, put_box_same, vbin, vbinS, vload, takeV, V.cells, obsOk, List.map_cons, List.map_nil, List.length_cons, List.length_nil, List.getElem?_cons_zero, List.getElem?_cons_succ, and_true, true_and, Nat.reduceEqDiff, Nat.reduceLeDiff, Nat.zero_add, ↓reduceIte, eq_self, strOf_size, strOf_append]
  repeat (apply And.intro; focus (first | omega | (simp; done)))
  refine Cal.mk (n1 _) ?_
  rintro _ _ ⟨rfl, rfl⟩ -
  simp (config := {maxSteps := 3000000}) only [ops_bin, ops_call, ev_t, ev_c, put_get, opv_mk, put_box_same, vbin, vbinS, vload, takeV, V.cells, obsOk, List.map_cons, List.map_nil, List.length_cons, List.length_nil, List.getElem?_cons_zero, List.getElem?_cons_succ, and_true, true_and, Nat.reduceEqDiff, Nat.reduceLeDiff, Nat.zero_add, ↓reduceIte, eq_self, strOf_size, strOf_append, List.length_append]
  repeat (apply And.intro; focus (first | omega | (simp; done)))
  refine Cal.mk (n2 _) ?_
  rintro _ _ ⟨rfl, rfl⟩ -
  simp (config := {maxSteps := 3000000}) only [ops_bin, ops_call, ev_t, ev_c, put_get, opv_mk, put_box_same, vbin, vbinS, vload, takeV, V.cells, obsOk, List.map_cons, List.map_nil, List.length_cons, List.length_nil, List.getElem?_cons_zero, List.getElem?_cons_succ, and_true, true_and, Nat.reduceEqDiff, Nat.reduceLeDiff, Nat.zero_add, ↓reduceIte, eq_self, strOf_size, strOf_append, List.length_append]
  repeat (apply And.intro; focus (first | omega | (simp; done)))
  refine Cal.mk (n3 _) ?_
  rintro _ _ ⟨rfl, rfl⟩ -
  simp (config := {maxSteps := 3000000}) only [run_ret, at_code_n, at_fin_r, ops_nil, ops_mv, ops_bin, ev_t, put_get, opv_mk, vbin, vbinS, obsOk, List.length_cons, List.length_nil, and_true, true_and, Nat.reduceEqDiff, Nat.zero_add, ↓reduceIte, vret, rvAll, rvVal, resv_1, eq_self, strOf_size, strOf_append, List.length_append]
  repeat (apply And.intro; focus (first | omega | (simp; done)))
  exact ⟨_, _, Wk.refl _, weak_put hwf.weak hb, by simp, rfl⟩
theorem rRead_v (hB : IsB L) (hl : L.length ≤ 1000000) : VCalls Try.prog 37 [.sc (.string (strOf L))] st fun r st' => r = .tup [.sc (.int .u32 (addrR L).1), .sc (.bool (addrR L).2)] ∧ st = st' := by
  refine vcalls_enter vc37 (Nat.le_of_ble_eq_true rfl) fun hwf hok => ?_
  show Run _ Vc37.body (.fin (finQ Vc37.res _)) _ _
  unfold Vc37
  have hQB : ∀ M ∈ splL 46 L, IsB M := splL_isB hB
  have hsp := fun st : St => split03_v (st := st) (c := 46) hB hl
  have hR : addrR L = if (splL 46 L).length = 4 ∧ (splL 46 L).all chunkOk = true then (numL (vals (splL 46 L)), true) else (0, false) := rfl
  rw [hR]
  clear hR
  generalize splL 46 L = Q at *
  simp (config := {maxSteps := 3000000}) only [run_reg, run_seq, at_code_n, ops_nil, ops_mv, ops_call, ev_t, ev_c, put_get, opv_mk, args0, List.getD_cons_zero, List.map_cons, List.map_nil, true_and, ↓reduceIte, eq_self, reduceCtorEq]
  refine Cal.mk (hsp _) ?_
  rintro r s0 ⟨k1, k2⟩ -
  obtain ⟨tk, rfl⟩ := k1.sl
  by_cases h4 : Q.length = 4
  case neg =>
    rw [if_neg (fun h => h4 h.1)]
    simp (config := {maxSteps := 3000000}) only [run_reg, run_seq, run_ret, run_cond, if_true, at_code_n, at_code_r, at_fin_r, ops_nil, ops_mv, ops_bin, ops_len, ev_t, ev_c, put_get, opv_mk, args0, vbin, vbinI, vlen, vload, takeV, V.cells, obsOk, List.map_cons, List.map_nil, and_true, true_and, Nat.reduceEqDiff, ↓reduceIte, vret, rvAll, rvVal, resv_2, ne_eq, eq_self, ss_len, decide_eq_true (show ¬ (Q.length : Int) = 4 by omega)]
    exact ⟨_, _, Wk.refl _, k2.weak, rfl, rfl⟩
  have h4' : (Q.length : Int) = 4 := by omega
  simp (config := {maxSteps := 3000000}) only [run_skip, run_reg, run_seq, run_blk, run_cond, if_false, at_code_n, ops_nil, ops_mv, ops_bin, ops_len, ev_t, ev_c, put_get, opv_mk, vbin, vbinI, vlen, obsOk, true_and, ↓reduceIte, decide_false, ne_eq, not_true_eq_false, eq_self, ss_len, h4']
  refine run_loop [2, 3, 5, 6, 7, 8, 14, 15, 16, 17, 18, 19, 20, 21, 22, 23, 24, 25, 26, 27, 28, 29, 30, 31, 32, 33, 34, 35, 36] (fun B s => s0 = s ∧ ∃ i : Nat, i ≤ 4 ∧ B 6 = .sc (.int .i64 i) ∧ B 5 = .sc (.int .u32 (numL (vals (Q.take i)))) ∧ (Q.take i).all chunkOk = true) (fun B _ => 4 - vnat (B 6)) rfl ?_ ?_
  · simp (config := {maxSteps := 3000000}) only [put_get, true_and, Nat.reduceEqDiff, ↓reduceIte, eq_self]
    exact ⟨0, by omega, rfl, rfl, rfl⟩
  · rintro B s ⟨rfl, i, hi, h6, h5, hall⟩
    have hvB : ∀ i, (Q.take i).all chunkOk = true → IsB (vals (Q.take i)) := fun i hh x hx => by
      obtain ⟨M, hM, rfl⟩ := List.mem_map.1 hx
      have h1 := List.all_eq_true.1 hh M hM
      have h2 := rdH_nonneg (L := M)
      simp only [chunkOk, Bool.and_eq_true, decide_eq_true_eq] at h1
      omega
    by_cases hlt : i < 4
    · obtain ⟨M, hM⟩ := get_ex (L := Q) (i := i) (by omega)
      have bM := hQB M (List.mem_of_getElem? hM)
      have hlt' := decide_eq_true (show (i : Int) < 4 by omega)
      have hrd := fun st : St => readNum03_v (st := st) bM
      rw [rdN_eq] at hrd
      have hsn : Q.take (i + 1) = Q.take i ++ [M] := by rw [List.take_add_one, hM]; rfl
      have hfail : chunkOk M = false → ¬ (Q.length = 4 ∧ Q.all chunkOk = true) := fun h ⟨_, hh⟩ => by
        have := List.all_eq_true.1 hh M (List.mem_of_getElem? hM)
        rw [h] at this; cases this
      simp (config := {maxSteps := 3000000}) only [run_skip, run_reg, run_seq, run_blk, run_cond, if_true, at_code_n, ops_nil, ops_mv, ops_bin, ops_ix, ops_load, ops_call, ev_t, ev_c, put_get, opv_mk, over_get, vnat, vbin, vbinI, vix, vload, takeV, V.cells, List.map_cons, List.map_nil, List.length_cons, List.length_nil, List.getElem?_cons_zero, Option.map_some, and_true, true_and, Nat.reduceEqDiff, Int.toNat_natCast, Nat.zero_add, ↓reduceIte, eq_self, Bool.false_eq_true, List.contains_cons, List.contains_nil, Nat.reduceBEq, Bool.or_false, Bool.or_true, h6, hlt', ss_get, hM]
      repeat (apply And.intro; focus (first | omega | (simp; done)))
      refine Cal.mk (hrd _) ?_
      rintro _ _ ⟨rfl, rfl⟩ -
      by_cases d1 : (rdH M).2 = true
      case neg =>
        simp only [Bool.not_eq_true] at d1
        rw [if_neg (hfail (by unfold chunkOk; rw [d1]; rfl))]
        simp (config := {maxSteps := 3000000}) only [run_reg, run_seq, run_ret, run_cond, if_true, at_code_n, at_code_r, at_blk_r, at_rnd_r, at_fin_r, ops_nil, ops_grd, grd_tf, ops_mv, ops_pick, ops_un, ops_ext, ev_t, ev_c, put_get, opv_mk, over_get, args0, vpick, vun, vext, vload, takeV, V.cells, obsOk, List.map_cons, List.map_nil, List.getElem?_cons_zero, List.getElem?_cons_succ, and_true, true_and, Nat.reduceEqDiff, ↓reduceIte, vret, rvAll, rvVal, resv_2, Bool.not_false, eq_self, List.contains_cons, List.contains_nil, Bool.or_false, d1]
        exact ⟨_, _, Wk.refl _, k2.weak, rfl, rfl⟩
      have hnn := rdH_nonneg (L := M)
      by_cases d2 : 255 < (rdH M).1
      · rw [if_neg (hfail (by unfold chunkOk; rw [d1, decide_eq_false (by omega)]; rfl))]
        simp (config := {maxSteps := 3000000}) only [run_reg, run_seq, run_ret, run_cond, if_true, at_code_n, at_code_r, at_blk_r, at_rnd_r, at_fin_r, ops_nil, ops_grd, grd_ff, ops_mv, ops_pick, ops_bin, ops_un, ops_ext, ev_t, ev_c, put_get, opv_mk, over_get, args0, vpick, vbin, vbinI, vun, vext, vload, takeV, V.cells, obsOk, List.map_cons, List.map_nil, List.getElem?_cons_zero, List.getElem?_cons_succ, and_true, true_and, Nat.reduceEqDiff, ↓reduceIte, vret, rvAll, rvVal, resv_2, Bool.not_true, eq_self, Bool.false_eq_true, List.contains_cons, List.contains_nil, Bool.or_false, d1, decide_eq_true d2]
        exact ⟨_, _, Wk.refl _, k2.weak, rfl, rfl⟩
      have hck : chunkOk M = true := by unfold chunkOk; rw [d1, decide_eq_true (by omega)]; rfl
      have hall2 : (Q.take (i + 1)).all chunkOk = true := by rw [hsn, List.all_append, hall]; simp [hck]
      have hr1 := numL_range _ (vals (Q.take i)) rfl (hvB i hall)
      have hp1 : (256 : Int) ^ (vals (Q.take i)).length ≤ 16777216 := by
        have h3 : ∀ k : Nat, k ≤ 3 → (256 : Int) ^ k ≤ 16777216 := by decide
        exact h3 _ (by rw [vals_len]; simp; omega)
      have hnum : numL (vals (Q.take (i + 1))) = 256 * numL (vals (Q.take i)) + (rdH M).1 := by rw [hsn, vals_snoc, numL_snoc]
      have e1 : 256 * numL (vals (Q.take i)) % 4294967296 = 256 * numL (vals (Q.take i)) := by omega
      have e2 : (rdH M).1 % 4294967296 = (rdH M).1 := by omega
      have e3 : (256 * numL (vals (Q.take i)) + (rdH M).1) % 4294967296 = 256 * numL (vals (Q.take i)) + (rdH M).1 := by omega
      simp (config := {maxSteps := 3000000}) only [run_skip, run_reg, run_seq, run_cond, if_false, at_code_n, at_blk_n, at_rnd_n, ops_nil, ops_grd, grd_ff, ops_mv, ops_pick, ops_bin, ops_un, ops_conv, ops_ext, ev_t, ev_c, put_get, opv_mk, over_get, rel_mk, vpick, vbin, vbinI, vun, vconv, norm, vext, obsOk, List.getElem?_cons_zero, List.getElem?_cons_succ, and_true, true_and, Nat.reduceEqDiff, Int.reduceNeg, ↓reduceIte, Bool.not_true, eq_self, Bool.false_eq_true, List.contains_cons, List.contains_nil, Nat.reduceBEq, Bool.or_false, Bool.or_true, h6, h5, d1, decide_eq_false d2, e1, e2, e3]
      repeat (apply And.intro; focus (first | omega | (simp; done)))
      exact ⟨⟨i + 1, by omega, by simp, by rw [hnum], hall2⟩, by omega⟩
    · obtain rfl : i = 4 := by omega
      rw [List.take_of_length_le (by omega)] at h5 hall
      rw [if_pos ⟨h4, hall⟩]
      have h44 : ((4 : Nat) : Int) = 4 := rfl
      simp (config := {maxSteps := 3000000}) only [run_reg, run_seq, run_exit, run_ret, run_cond, if_false, at_code_n, at_code_x, at_blk_x, at_rnd_x, at_fin_r, ops_nil, ops_mv, ops_bin, ev_t, ev_c, put_get, opv_mk, over_get, vnat, args0, vbin, vbinI, vload, takeV, V.cells, List.map_cons, List.map_nil, and_true, true_and, Nat.reduceEqDiff, Nat.reduceSub, Int.reduceToNat, ↓reduceIte, vret, rvAll, rvVal, resv_2, decide_false, Int.lt_irrefl, eq_self, List.contains_cons, List.contains_nil, Nat.reduceBEq, Bool.or_false, Bool.or_true, h6, h5, h44]
      exact ⟨_, _, Wk.refl _, k2.weak, rfl, rfl⟩
theorem rSize_v {b : Int} (h0 : 0 ≤ b) (h1 : b ≤ 32) : VCalls Try.prog 43 [.sc (.int .i64 b)] st fun r st' => r = .sc (.int .i64 (sizeN b)) ∧ st = st' := by
  refine vcalls_enter vc43 (Nat.le_of_ble_eq_true rfl) fun hwf hok => ?_
  show Run _ Vc43.body (.fin (finQ Vc43.res _)) _ _
  unfold Vc43
  obtain ⟨n, rfl⟩ : ∃ n : Nat, b = n := ⟨b.toNat, by omega⟩
  have hs : sizeN (n : Int) = 2 ^ (32 - n) := by unfold sizeN; rw [show ((32 : Int) - n).toNat = 32 - n by omega]
  rw [hs]
  simp (config := {maxSteps := 3000000}) only [run_reg, run_seq, run_blk, at_code_n, ops_nil, ops_mv, ev_t, ev_c, put_get, opv_mk, args0, List.getD_cons_zero, true_and, ↓reduceIte, eq_self, reduceCtorEq]
  refine run_loop [3, 4, 6, 7, 8, 9, 10, 11] (fun B s => st = s ∧ ∃ i : Nat, n ≤ i ∧ i ≤ 32 ∧ B 4 = .sc (.int .i64 i) ∧ B 3 = .sc (.int .i64 (2 ^ (i - n)))) (fun B _ => 32 - vnat (B 4)) rfl ?_ ?_
  · simp (config := {maxSteps := 3000000}) only [put_get, true_and, Nat.reduceEqDiff, ↓reduceIte, eq_self]
    exact ⟨n, by omega, by omega, rfl, by simp⟩
  · rintro B s ⟨rfl, i, hn, hi, h4, h3⟩
    by_cases hlt : i < 32
    · have hp : (2 : Int) ^ (i - n) ≤ 4294967296 ∧ 0 < (2 : Int) ^ (i - n) := by
        have h33 : ∀ k : Nat, k ≤ 32 → (2 : Int) ^ k ≤ 4294967296 := by decide
        exact ⟨h33 _ (by omega), Int.pow_pos (by omega)⟩
      have hs2 : (2 : Int) * 2 ^ (i - n) = 2 ^ (i + 1 - n) := by rw [show i + 1 - n = (i - n) + 1 by omega, Int.pow_succ, Int.mul_comm]
      simp (config := {maxSteps := 3000000}) only [run_skip, run_reg, run_seq, run_blk, run_cond, if_true, at_code_n, at_blk_n, at_rnd_n, ops_nil, ops_mv, ops_bin, ev_t, ev_c, put_get, opv_mk, over_get, rel_mk, vnat, vbin, vbinI, norm, true_and, Nat.reduceEqDiff, Int.toNat_natCast, Int.reduceNeg, ↓reduceIte, eq_self, List.contains_cons, List.contains_nil, Nat.reduceBEq, Bool.or_false, Bool.or_true, h4, h3, hs2, decide_eq_true (show (i : Int) < 32 by omega)]
      have hp2 : (2 : Int) ^ (i + 1 - n) ≤ 8589934592 ∧ 0 < (2 : Int) ^ (i + 1 - n) := by rw [← hs2]; omega
      repeat (apply And.intro; focus (first | omega | (simp; done)))
      exact ⟨⟨i + 1, by omega, by omega, by simp, rfl⟩, by omega⟩
    · obtain rfl : i = 32 := by omega
      have h32 : ((32 : Nat) : Int) = 32 := rfl
      simp (config := {maxSteps := 3000000}) only [run_reg, run_seq, run_exit, run_ret, run_cond, if_false, at_code_n, at_code_x, at_blk_x, at_rnd_x, at_fin_r, ops_nil, ops_mv, ops_bin, ev_t, ev_c, put_get, opv_mk, over_get, vnat, vbin, vbinI, and_true, true_and, Nat.reduceEqDiff, Nat.reduceSub, Int.reduceToNat, ↓reduceIte, vret, rvAll, rvVal, resv_1, decide_false, Int.lt_irrefl, eq_self, List.contains_cons, List.contains_nil, Nat.reduceBEq, Bool.or_false, Bool.or_true, h4, h3, h32]
      exact ⟨_, _, Wk.refl _, hwf.weak, rfl, rfl⟩
end
end Go.Proofs.Ytmomebkfaibmgaa
