/- catwalkref03: numbers as texts, words: contracts. -/
import Derived.Test.YtmomebkfaibmgaaVRef1
import Derived.Test.YtmomebkfaibmgaaVStr
namespace Go.Proofs.Ytmomebkfaibmgaa
open Go

theorem num03_v : ∀ (k n : Nat) (st : St), n < 10 ^ (k + 1) → k ≤ 13 → VCalls Try.prog 42 [.sc (.int .i64 n)] st fun r st' => r = .sc (.string (strOf (digs k n))) ∧ st = st' := by
  have fin : ∀ (n : Nat) (st : St), n < 10 → VCalls Try.prog 42 [.sc (.int .i64 n)] st fun r st' => r = .sc (.string (strOf [48 + (n : Int)])) ∧ st = st' := by
    intro n st h
    refine vcalls_enter vc42 (Nat.le_of_ble_eq_true rfl) fun hwf hok => ?_
    show Run _ Vc42.body (.fin (finQ Vc42.res _)) _ _
    unfold Vc42
    have e1 : (48 + (n : Int)) % 256 = 48 + n := by omega
    simp (config := {maxSteps := 3000000}) only [run_skip, run_reg, run_seq, run_ret, run_cond, if_true, if_false, at_code_n, at_code_r, at_fin_r, ops_nil, ops_mv, ops_bin, ops_b2s, vb2s, ops_conv, ops_bsl, ev_t, ev_c, put_get, opv_mk, vbsl, args0, List.getD_cons_zero, vbin, vbinI, vconv, norm, V.cells, strip, strip1, allLen, List.map_cons, List.map_nil, List.length_cons, List.length_nil, Option.map_some, and_true, true_and, Int.reduceNeg, Nat.zero_add, ↓reduceIte, vret, rvAll, rvVal, resv_1, eq_self, reduceCtorEq, decide_eq_true (show (n : Int) < 10 by omega), decide_eq_false (show ¬ (n : Int) < 0 by omega), e1, u8sOf]
    repeat (apply And.intro; focus (first | omega | (simp; done)))
    exact ⟨_, _, Wk.refl _, hwf.weak, rfl, rfl⟩
  intro k
  induction k with
  | zero => exact fun n st h _ => fin n st (by simpa using h)
  | succ k ih =>
    intro n st h hk
    by_cases h10 : n < 10
    · unfold digs
      rw [if_pos h10]
      exact fin n st h10
    · have hpw : (10 : Nat) ^ (k + 1 + 1) ≤ 1000000000000000 := by
        have h13 : ∀ k : Nat, k ≤ 13 → (10 : Nat) ^ (k + 1) ≤ 1000000000000000 := by decide
        exact h13 _ hk
      unfold digs
      rw [if_neg h10]
      refine vcalls_enter vc42 (Nat.le_of_ble_eq_true rfl) fun hwf hok => ?_
      show Run _ Vc42.body (.fin (finQ Vc42.res _)) _ _
      unfold Vc42
      have hq : ((n : Int) / 10) = ((n / 10 : Nat) : Int) := by omega
      have hr : ((n : Int) % 10) = ((n % 10 : Nat) : Int) := by omega
      have e1 : (48 + ((n % 10 : Nat) : Int)) % 256 = 48 + ((n % 10 : Nat) : Int) := by omega
      have hdl := digs_len k (n / 10)
      simp (config := {maxSteps := 3000000}) only [run_skip, run_reg, run_seq, run_cond, if_false, at_code_n, ops_nil, ops_mv, ops_bin, ops_b2s, vb2s, ops_conv, ops_bsl, ops_call, ev_t, ev_c, put_get, opv_mk, vbsl, args0, List.getD_cons_zero, vbin, vbinI, vconv, norm, V.cells, strip, strip1, allLen, List.map_cons, List.map_nil, List.length_cons, List.length_nil, Option.map_some, and_true, true_and, Nat.reduceEqDiff, Int.reduceLT, Int.reduceNeg, Nat.zero_add, ↓reduceIte, eq_self, reduceCtorEq, decide_eq_false (show ¬ (n : Int) < 10 by omega), hq, hr, e1, u8sOf]
      repeat (apply And.intro; focus (first | omega | (simp; done)))
      refine Cal.mk (ih (n / 10) _ (by rw [Nat.pow_succ] at h; omega) (by omega)) ?_
      rintro _ _ ⟨rfl, rfl⟩ -
      simp (config := {maxSteps := 3000000}) only [run_ret, at_code_n, at_fin_r, ops_nil, ops_mv, ops_bin, ev_t, put_get, opv_mk, vbin, vbinS, obsOk, List.length_cons, List.length_nil, and_true, true_and, Nat.reduceEqDiff, Nat.reduceLeDiff, Nat.zero_add, ↓reduceIte, vret, rvAll, rvVal, resv_1, eq_self, strOf_size, strOf_append]
      repeat (apply And.intro; focus (first | omega | (simp; done)))
      exact ⟨_, _, Wk.refl _, hwf.weak, rfl, rfl⟩
section
variable {st : St} {L : List Int}
theorem readNum03_v (hB : IsB L) : VCalls Try.prog 38 [.sc (.string (strOf L))] st fun r st' => r = .tup [.sc (.int .i64 (rdN L).1), .sc (.bool (rdN L).2)] ∧ st = st' := by
  refine vcalls_enter vc38 (Nat.le_of_ble_eq_true rfl) fun hwf hok => ?_
  show Run _ Vc38.body (.fin (finQ Vc38.res _)) _ _
  unfold Vc38
  by_cases h13 : 13 < L.length
  · have e : rdN L = (0, false) := by unfold rdN; rw [if_pos h13]
    rw [e]
    simp (config := {maxSteps := 3000000}) only [run_reg, run_seq, run_ret, run_cond, if_true, at_code_n, at_code_r, at_fin_r, ops_nil, ops_mv, ops_bin, ops_slen, ev_t, ev_c, put_get, opv_mk, args0, List.getD_cons_zero, vbin, vbinI, vslen, vload, takeV, V.cells, List.map_cons, List.map_nil, and_true, true_and, Nat.reduceEqDiff, ↓reduceIte, vret, rvAll, rvVal, resv_2, eq_self, reduceCtorEq, strOf_size, decide_eq_true (show (13 : Int) < (L.length : Int) by omega)]
    exact ⟨_, _, Wk.refl _, hwf.weak, rfl, rfl⟩
  simp (config := {maxSteps := 3000000}) only [run_skip, run_reg, run_seq, run_blk, run_cond, if_false, at_code_n, ops_nil, ops_mv, ops_bin, ops_slen, ev_t, ev_c, put_get, opv_mk, args0, List.getD_cons_zero, vbin, vbinI, vslen, true_and, ↓reduceIte, eq_self, reduceCtorEq, strOf_size, decide_eq_false (show ¬ (13 : Int) < (L.length : Int) by omega)]
  refine run_loop [2, 3, 4, 5, 9, 10, 11, 12, 13, 14, 15, 16, 17, 18, 19, 20, 21, 22, 23, 24, 25, 26, 27, 28, 29, 30, 31, 32] (fun B s => st = s ∧ ∃ i : Nat, i ≤ L.length ∧ B 5 = .sc (.int .i64 i) ∧ B 4 = .sc (.int .i64 (valL (L.take i))) ∧ (L.take i).all digOk = true) (fun B _ => L.length - vnat (B 5)) rfl ?_ ?_
  · simp (config := {maxSteps := 3000000}) only [put_get, true_and, Nat.reduceEqDiff, ↓reduceIte, eq_self]
    exact ⟨0, by omega, by simp, by simp [valL], by simp⟩
  · rintro B s ⟨rfl, i, hi, h5, h4, hd⟩
    by_cases hlt : i < L.length
    · obtain ⟨c, hc⟩ := get_ex hlt
      have bc := hB.get hc
      have hv := valL_le hd (by simp; omega)
      have hsn : valL (L.take (i + 1)) = 10 * valL (L.take i) + c - 48 := by rw [List.take_add_one, hc]; exact valL_snoc _ _
      have hall : (L.take (i + 1)).all digOk = digOk c := by rw [List.take_add_one, hc]; simp [hd]
      have hbad : ¬ (48 ≤ c ∧ c ≤ 57) → rdN L = (0, false) := fun hn => by
        unfold rdN
        rw [if_neg h13, if_neg]
        intro hA
        have := List.all_eq_true.1 hA c (List.mem_of_getElem? hc)
        simp [digOk] at this
        exact hn this
      have hlt' := decide_eq_true (show (i : Int) < (L.length : Int) by omega)
      by_cases c1 : c < 48
      · rw [hbad (by omega)]
        simp (config := {maxSteps := 3000000}) only [run_skip, run_reg, run_seq, run_blk, run_ret, run_cond, if_true, at_code_n, at_code_r, at_blk_r, at_rnd_r, at_fin_r, ops_nil, ops_grd, grd_tf, ops_mv, ops_pick, ops_bin, ops_sidx, vsidx, ops_slen, ev_t, ev_c, put_get, opv_mk, over_get, vnat, args0, List.getD_cons_zero, vpick, vbin, vbinI, vslen, vload, takeV, V.cells, List.map_cons, List.map_nil, and_true, true_and, Nat.reduceEqDiff, Int.toNat_natCast, ↓reduceIte, vret, rvAll, rvVal, resv_2, eq_self, reduceCtorEq, Bool.false_eq_true, List.contains_cons, List.contains_nil, Nat.reduceBEq, Bool.or_false, Bool.or_true, h5, strOf_size, hlt', bytesOf_strOf hB, hc, decide_eq_true c1]
        repeat (apply And.intro; focus (first | omega | (simp; done)))
        exact ⟨_, _, Wk.refl _, hwf.weak, rfl, rfl⟩
      by_cases c2 : 57 < c
      · rw [hbad (by omega)]
        simp (config := {maxSteps := 3000000}) only [run_skip, run_reg, run_seq, run_blk, run_ret, run_cond, if_true, at_code_n, at_code_r, at_blk_r, at_rnd_r, at_fin_r, ops_nil, ops_grd, grd_ff, ops_mv, ops_pick, ops_bin, ops_sidx, vsidx, ops_slen, ev_t, ev_c, put_get, opv_mk, over_get, vnat, args0, List.getD_cons_zero, vpick, vbin, vbinI, vslen, vload, takeV, V.cells, List.map_cons, List.map_nil, and_true, true_and, Nat.reduceEqDiff, Int.toNat_natCast, ↓reduceIte, vret, rvAll, rvVal, resv_2, eq_self, reduceCtorEq, Bool.false_eq_true, List.contains_cons, List.contains_nil, Nat.reduceBEq, Bool.or_false, Bool.or_true, h5, strOf_size, hlt', bytesOf_strOf hB, hc, decide_eq_false c1, decide_eq_true c2]
        repeat (apply And.intro; focus (first | omega | (simp; done)))
        exact ⟨_, _, Wk.refl _, hwf.weak, rfl, rfl⟩
      simp (config := {maxSteps := 3000000}) only [run_skip, run_reg, run_seq, run_blk, run_cond, if_true, if_false, at_code_n, at_blk_n, at_rnd_n, ops_nil, ops_grd, grd_ff, ops_mv, ops_pick, ops_bin, ops_sidx, vsidx, ops_conv, ops_slen, ev_t, ev_c, put_get, opv_mk, over_get, rel_mk, vnat, args0, List.getD_cons_zero, vpick, vbin, vbinI, vconv, norm, vslen, true_and, Nat.reduceEqDiff, Int.toNat_natCast, Int.reduceNeg, ↓reduceIte, eq_self, reduceCtorEq, Bool.false_eq_true, List.contains_cons, List.contains_nil, Nat.reduceBEq, Bool.or_false, Bool.or_true, h5, h4, strOf_size, hlt', bytesOf_strOf hB, hc, decide_eq_false c1, decide_eq_false c2]
      repeat (apply And.intro; focus (first | omega | (simp; done)))
      exact ⟨⟨i + 1, by omega, by simp, by rw [hsn], by rw [hall]; simp [digOk]; omega⟩, by omega⟩
    · obtain rfl : i = L.length := by omega
      rw [List.take_of_length_le (Nat.le_refl _)] at h4 hd
      have hv := valL_le hd (by omega)
      obtain ⟨n, hn⟩ : ∃ n : Nat, valL L = n := ⟨(valL L).toNat, by omega⟩
      have hrd : rdN L = if digs 13 n = L ∧ (n : Int) ≤ 1099511627776 then ((n : Int), true) else (0, false) := by
        unfold rdN
        rw [if_neg h13, if_pos hd, hn, Int.toNat_natCast]
      rw [hrd]
      rw [hn] at h4 hv
      simp (config := {maxSteps := 3000000}) only [run_reg, run_seq, run_exit, run_cond, if_false, at_code_n, at_code_x, at_blk_x, at_rnd_x, ops_nil, ops_mv, ops_bin, ops_slen, ops_call, ev_t, put_get, opv_mk, over_get, vnat, args0, List.getD_cons_zero, vbin, vbinI, vslen, List.map_cons, List.map_nil, true_and, Nat.reduceEqDiff, Int.toNat_natCast, ↓reduceIte, decide_false, Int.lt_irrefl, eq_self, reduceCtorEq, Bool.false_eq_true, List.contains_cons, List.contains_nil, Nat.reduceBEq, Bool.or_false, Bool.or_true, h5, h4, strOf_size]
      refine Cal.mk (num03_v 13 n _ (by omega) (by omega)) ?_
      rintro _ _ ⟨rfl, rfl⟩ -
      have hdB := digs_isB 13 n (by omega)
      have hdec := strOf_inj hdB hB
      by_cases d1 : digs 13 n = L
      · by_cases d2 : (1099511627776 : Int) < n
        · rw [if_neg (by omega)]
          simp (config := {maxSteps := 3000000}) only [run_reg, run_seq, run_ret, run_cond, if_true, at_code_n, at_code_r, at_fin_r, ops_nil, ops_grd, grd_ff, ops_mv, ops_pick, ops_bin, ev_t, ev_c, put_get, opv_mk, over_get, args0, List.getD_cons_zero, vpick, vbin, vbinI, vbinS, vload, takeV, V.cells, obsOk, List.map_cons, List.map_nil, and_true, true_and, Nat.reduceEqDiff, ↓reduceIte, vret, rvAll, rvVal, resv_2, ne_eq, eq_self, reduceCtorEq, Bool.false_eq_true, List.contains_cons, List.contains_nil, Nat.reduceBEq, Bool.or_false, Bool.or_true, h4, decide_eq_false (show ¬ ¬ strOf (digs 13 n) = strOf L from fun h => h (hdec.2 d1)), decide_eq_true d2]
          exact ⟨_, _, Wk.refl _, hwf.weak, rfl, rfl⟩
        · rw [if_pos ⟨d1, by omega⟩]
          simp (config := {maxSteps := 3000000}) only [run_skip, run_reg, run_seq, run_ret, run_cond, if_false, at_code_n, at_fin_r, ops_nil, ops_grd, grd_ff, ops_mv, ops_pick, ops_bin, ev_t, ev_c, put_get, opv_mk, over_get, args0, List.getD_cons_zero, vpick, vbin, vbinI, vbinS, vload, takeV, V.cells, obsOk, List.map_cons, List.map_nil, and_true, true_and, Nat.reduceEqDiff, ↓reduceIte, vret, rvAll, rvVal, resv_2, ne_eq, eq_self, reduceCtorEq, Bool.false_eq_true, List.contains_cons, List.contains_nil, Nat.reduceBEq, Bool.or_false, Bool.or_true, h4, decide_eq_false (show ¬ ¬ strOf (digs 13 n) = strOf L from fun h => h (hdec.2 d1)), decide_eq_false d2]
          exact ⟨_, _, Wk.refl _, hwf.weak, rfl, rfl⟩
      · rw [if_neg (fun h => d1 h.1)]
        simp (config := {maxSteps := 3000000}) only [run_reg, run_seq, run_ret, run_cond, if_true, at_code_n, at_code_r, at_fin_r, ops_nil, ops_grd, grd_tf, ops_mv, ops_pick, ops_bin, ev_t, ev_c, put_get, opv_mk, over_get, args0, List.getD_cons_zero, vpick, vbin, vbinS, vload, takeV, V.cells, obsOk, List.map_cons, List.map_nil, and_true, true_and, Nat.reduceEqDiff, ↓reduceIte, vret, rvAll, rvVal, resv_2, ne_eq, eq_self, reduceCtorEq, Bool.false_eq_true, List.contains_cons, List.contains_nil, Nat.reduceBEq, Bool.or_false, decide_eq_true (show ¬ strOf (digs 13 n) = strOf L from fun h => d1 (hdec.1 h))]
        exact ⟨_, _, Wk.refl _, hwf.weak, rfl, rfl⟩
theorem New.nil (h : st.weak st) (hl : st.Lt) : New st st (.sl .nil []) := ⟨h, hl, fun g k l e => by cases e⟩
theorem New.app {s s' : St} {x r : V} (h : New st s x) (k : AppSt s x s' r) : New st s' r :=
  ⟨k.keeps h.weak h.tok, h.lt.app k, k.fresh h.weak.sz h.tok⟩
theorem split03_v {c : Int} (hB : IsB L) (hl : L.length ≤ 1000000) : VCalls Try.prog 36 [.sc (.string (strOf L)), .sc (.int .u8 c)] st fun r st' => Own 1 st' r (ss (splL c L)) ∧ New st st' r := by
  refine vcalls_enter vc36 (Nat.le_of_ble_eq_true rfl) fun hwf hok => ?_
  show Run _ Vc36.body (.fin (finQ Vc36.res _)) _ _
  unfold Vc36
  simp (config := {maxSteps := 3000000}) only [run_reg, run_seq, run_blk, at_code_n, ops_nil, ops_mv, ev_c, opv_mk, true_and]
  refine run_loop [5, 6, 7, 8, 9, 10, 11, 12, 13, 14, 15, 16, 17, 18, 19, 20, 21, 22, 23, 24, 25, 26, 27, 28, 29] (fun B s => ∃ i : Nat, i ≤ L.length ∧ B 7 = .sc (.int .i64 i) ∧ B 6 = .sc (.string (strOf (splF c (L.take i)).2)) ∧ Own 1 s (B 5) (ss (splF c (L.take i)).1) ∧ New st s (B 5)) (fun B _ => L.length - vnat (B 7)) rfl ?_ ?_
  · simp (config := {maxSteps := 3000000}) only [put_get, Nat.reduceEqDiff, ↓reduceIte, eq_self]
    exact ⟨0, by omega, by simp, by simp [splF, strOf_nil], .inl ⟨rfl, by simp [splF, ss]⟩, .nil hwf.weak hwf.lt⟩
  · rintro B s ⟨i, hi, h7, h6, ho, hn⟩
    have hlen := splF_len c (L.take i) ([], [])
    have hln : (L.take i).length ≤ i := by simp; omega
    simp only [List.length_nil, Nat.zero_add] at hlen
    by_cases hlt : i < L.length
    · obtain ⟨x, hx⟩ := get_ex hlt
      have bx := hB.get hx
      have hsn : splF c (L.take (i + 1)) = splS c (splF c (L.take i)) x := by rw [List.take_add_one, hx]; exact splF_snoc _ _ _
      have hlt' := decide_eq_true (show (i : Int) < (L.length : Int) by omega)
      change (splF c (L.take i)).1.length ≤ _ ∧ (splF c (L.take i)).2.length ≤ _ at hlen
      generalize splF c (L.take i) = q at *
      obtain ⟨acc, one⟩ := q
      simp only at h6 ho hlen
      by_cases c1 : x = c
      · have hst : splS c (acc, one) x = (acc ++ [one], []) := if_pos c1
        simp (config := {maxSteps := 3000000}) only [run_skip, run_reg, run_seq, run_blk, run_cond, if_true, at_code_n, ops_nil, ops_mv, ops_bin, ops_sidx, vsidx, ops_slen, ops_bsl, ops_app, ev_t, put_get, opv_mk, over_get, vnat, vbsl, args0, List.getD_cons_zero, List.getD_cons_succ, vbin, vbinI, vslen, V.cells, strip, strip1, allLen, List.map_cons, List.map_nil, List.length_cons, List.length_nil, and_true, true_and, Nat.reduceEqDiff, Int.toNat_natCast, Nat.zero_add, ↓reduceIte, eq_self, reduceCtorEq, Bool.false_eq_true, List.contains_cons, List.contains_nil, Nat.reduceBEq, Bool.or_false, Bool.or_true, h7, h6, strOf_size, hlt', bytesOf_strOf hB, hx, decide_eq_true c1]
        repeat (apply And.intro; focus (first | omega | (simp; done)))
        refine App.mk (l := ss acc) ho (ys := ss [one]) (allSz_ss _) (by simp [ss_len, maxLen]; omega) (by simp [ss_len]; omega) ?_
        intro r s1 k1 k2
        rw [ss_append] at k1
        simp (config := {maxSteps := 3000000}) only [run_reg, at_code_n, at_blk_n, at_rnd_n, ops_nil, ops_mv, ops_bin, ev_t, ev_c, put_get, opv_mk, over_get, rel_mk, vbin, vbinI, norm, obsOk, true_and, Nat.reduceEqDiff, Int.reduceNeg, ↓reduceIte, eq_self, List.contains_cons, List.contains_nil, Nat.reduceBEq, Bool.or_false, Bool.or_true, h7]
        repeat (apply And.intro; focus (first | omega | (simp; done)))
        exact ⟨⟨i + 1, by omega, by simp, by rw [hsn, hst, strOf_nil], by rw [hsn, hst]; exact k1, hn.app k2⟩, by omega⟩
      · have hst : splS c (acc, one) x = (acc, one ++ [x]) := if_neg c1
        simp (config := {maxSteps := 3000000}) only [run_skip, run_reg, run_seq, run_blk, run_cond, if_true, if_false, at_code_n, at_blk_n, at_rnd_n, ops_nil, ops_mv, ops_bin, ops_b2s, ops_sidx, vsidx, vb2s, ops_slen, ops_bsl, ev_t, ev_c, put_get, opv_mk, over_get, rel_mk, vnat, vbsl, args0, List.getD_cons_zero, List.getD_cons_succ, vbin, vbinI, vbinS, norm, vslen, V.cells, strip, strip1, allLen, List.map_cons, List.map_nil, List.length_cons, List.length_nil, Option.map_some, and_true, true_and, Nat.reduceEqDiff, Nat.reduceLeDiff, Int.toNat_natCast, Int.reduceNeg, Nat.zero_add, ↓reduceIte, eq_self, reduceCtorEq, Bool.false_eq_true, List.contains_cons, List.contains_nil, Nat.reduceBEq, Bool.or_false, Bool.or_true, h7, h6, strOf_size, hlt', bytesOf_strOf hB, hx, decide_eq_false c1, u8sOf, strOf_append]
        repeat (apply And.intro; focus (first | omega | (simp; done)))
        exact ⟨⟨i + 1, by omega, by simp, by rw [hsn, hst], by rw [hsn, hst]; exact ho, hn⟩, by omega⟩
    · obtain rfl : i = L.length := by omega
      rw [List.take_of_length_le (Nat.le_refl _)] at h6 ho hlen
      change (splF c L).1.length ≤ _ ∧ (splF c L).2.length ≤ _ at hlen
      simp (config := {maxSteps := 3000000}) only [run_reg, run_seq, run_exit, run_cond, if_false, at_code_n, at_code_x, at_blk_x, at_rnd_x, ops_nil, ops_mv, ops_bin, ops_slen, ops_bsl, ops_app, ev_t, put_get, opv_mk, over_get, vnat, vbsl, args0, List.getD_cons_zero, vbin, vbinI, vslen, V.cells, strip, strip1, allLen, List.map_cons, List.map_nil, List.length_cons, List.length_nil, and_true, true_and, Nat.reduceEqDiff, Int.toNat_natCast, Nat.zero_add, ↓reduceIte, decide_false, Int.lt_irrefl, eq_self, reduceCtorEq, Bool.false_eq_true, List.contains_cons, List.contains_nil, Nat.reduceBEq, Bool.or_false, Bool.or_true, h7, h6, strOf_size]
      refine App.mk (l := ss (splF c L).1) ho (ys := ss [(splF c L).2]) (allSz_ss _) (by simp [ss_len, maxLen]; omega) (by simp [ss_len]; omega) ?_
      intro r s1 k1 k2
      rw [ss_append] at k1
      have hn2 := hn.app k2
      simp (config := {maxSteps := 3000000}) only [run_ret, at_code_n, at_fin_r, ops_nil, ops_mv, ev_t, put_get, opv_mk, obsOk, and_true, true_and, ↓reduceIte, vret, rvAll, rvVal, resv_1, eq_self]
      exact ⟨_, _, Wk.refl _, hn2.lt.weak, k1, hn2⟩
end
end Go.Proofs.Ytmomebkfaibmgaa
