/- hex.ReadNum, and package addr's texts: contracts. -/
import Derived.Test.YtmomebkfaibmgaaVText1
namespace Go.Proofs.Ytmomebkfaibmgaa
open Go

theorem rdH_none {L : List Int} (h : ¬ (L.length ≤ 13 ∧ plainN L = true ∧ L.all digOk = true ∧ valL L ≤ 1099511627776)) : rdH L = (0, false) := if_neg h
theorem strOf_46 : (⟨#[46]⟩ : ByteArray) = strOf [46] := rfl
theorem strOf_47 : (⟨#[47]⟩ : ByteArray) = strOf [47] := rfl
theorem strOf_e : (⟨#[]⟩ : ByteArray) = strOf [] := rfl
theorem digs_byte {x : Int} (h : 0 ≤ x ∧ x < 256) : digs 19 x.toNat = digs 2 x.toNat := digs_eq 19 2 _ (by omega) (by omega)
def errOf (b : Bool) : Int := if b then 0 else 11
section
variable {tk : Tk} {st : St} {L : List Int}
theorem hexRead_v (hB : IsB L) : VCalls Try.prog 34 [.sc (.string (strOf L))] st fun r st' => r = .tup [.sc (.int .i64 (rdH L).1), .sc (.int .i64 (errOf (rdH L).2))] ∧ st = st' := by
  refine vcalls_enter vc34 (Nat.le_of_ble_eq_true rfl) fun hwf hok => ?_
  show Run _ Vc34.body (.fin (finQ Vc34.res _)) _ _
  unfold Vc34
  have hinj := strOf_inj hB isB_nil
  by_cases h0 : L = []
  · have e : rdH L = (0, false) := rdH_none (fun h => by rw [h0] at h; simp [plainN] at h)
    rw [e]
    simp (config := {maxSteps := 3000000}) only [run_reg, run_seq, run_ret, run_cond, if_true, at_code_n, at_code_r, at_fin_r, ops_nil, ops_grd, grd_und, grd_tf, ops_mv, ops_pick, ops_bin, ev_t, ev_c, put_get, opv_mk, args0, List.getD_cons_zero, vpick, vbin, vbinS, vload, takeV, V.cells, List.map_cons, List.map_nil, and_true, true_and, Nat.reduceEqDiff, ↓reduceIte, vret, rvAll, rvVal, resv_2, eq_self, reduceCtorEq, strOf_e, decide_eq_true (hinj.2 h0)]
    exact ⟨_, _, Wk.refl _, hwf.weak, rfl, rfl⟩
  have h0' := decide_eq_false (show ¬ strOf L = strOf [] from fun h => h0 (hinj.1 h))
  have hpos : 0 < L.length := List.length_pos_iff.2 h0
  by_cases h13 : 13 < L.length
  · have e : rdH L = (0, false) := rdH_none (fun h => by omega)
    rw [e]
    simp (config := {maxSteps := 3000000}) only [run_reg, run_seq, run_ret, run_cond, if_true, at_code_n, at_code_r, at_fin_r, ops_nil, ops_grd, grd_und, grd_ff, grd_tf, ops_mv, ops_pick, ops_bin, ops_slen, ev_t, ev_c, put_get, opv_mk, args0, List.getD_cons_zero, vpick, vbin, vbinI, vbinS, vslen, vload, takeV, V.cells, List.map_cons, List.map_nil, and_true, true_and, Nat.reduceEqDiff, ↓reduceIte, vret, rvAll, rvVal, resv_2, eq_self, reduceCtorEq, Bool.false_eq_true, strOf_e, h0', strOf_size, decide_eq_true (show (13 : Int) < (L.length : Int) by omega)]
    exact ⟨_, _, Wk.refl _, hwf.weak, rfl, rfl⟩
  have h13' := decide_eq_false (show ¬ (13 : Int) < (L.length : Int) by omega)
  obtain ⟨c0, hc0⟩ := get_ex (L := L) (i := 0) (by omega)
  have hg0 : L.getD 0 0 = c0 := by simp [List.getD, hc0]
  by_cases h1 : L.length = 1
  · have hpl : plainN L = true := by unfold plainN; rw [decide_eq_true hpos, decide_eq_true h1]; rfl
    simp (config := {maxSteps := 3000000}) only [run_skip, run_reg, run_seq, run_blk, run_cond, if_false, at_code_n, ops_nil, ops_grd, grd_ff, grd_ft, ops_mv, ops_pick, ops_bin, ops_slen, ev_t, ev_c, put_get, opv_mk, args0, List.getD_cons_zero, vpick, vbin, vbinI, vbinS, vslen, true_and, Nat.reduceEqDiff, ↓reduceIte, eq_self, reduceCtorEq, Bool.false_eq_true, strOf_e, h0', strOf_size, h13', decide_eq_false (show ¬ (1 : Int) < (L.length : Int) by omega)]
    repeat (apply And.intro; focus (first | omega | (simp; done)))
    refine run_loop [2, 3, 4, 5, 25, 26, 27, 28, 29, 30, 31, 32, 33, 34, 35, 36, 37, 38, 39, 40, 41, 42, 43, 44, 45, 46] (fun B s => st = s ∧ ∃ i : Nat, i ≤ L.length ∧ B 25 = .sc (.int .i64 i) ∧ B 4 = .sc (.int .i64 (valL (L.take i))) ∧ (L.take i).all digOk = true) (fun B _ => L.length - vnat (B 25)) rfl ?_ ?_
    · simp (config := {maxSteps := 3000000}) only [put_get, true_and, Nat.reduceEqDiff, ↓reduceIte, eq_self]
      exact ⟨0, by omega, by simp, by simp [valL], by simp⟩
    · rintro B s ⟨rfl, i, hi, h5, h4, hd⟩
      by_cases hlt : i < L.length
      · obtain ⟨c, hc⟩ := get_ex hlt
        have bc := hB.get hc
        have hv := valL_le hd (by simp; omega)
        have hsn : valL (L.take (i + 1)) = 10 * valL (L.take i) + c - 48 := by rw [List.take_add_one, hc]; exact valL_snoc _ _
        have hall : (L.take (i + 1)).all digOk = digOk c := by rw [List.take_add_one, hc]; simp [hd]
        have hbad : ¬ (48 ≤ c ∧ c ≤ 57) → rdH L = (0, false) := fun hn => rdH_none (fun h => by
          have := List.all_eq_true.1 h.2.2.1 c (List.mem_of_getElem? hc)
          simp [digOk] at this
          exact hn this)
        have hlt' := decide_eq_true (show (i : Int) < (L.length : Int) by omega)
        by_cases c1 : c < 48
        · rw [hbad (by omega)]
          simp (config := {maxSteps := 3000000}) only [run_skip, run_reg, run_seq, run_blk, run_ret, run_cond, if_true, at_code_n, at_code_r, at_blk_r, at_rnd_r, at_fin_r, ops_nil, ops_grd, grd_tf, ops_mv, ops_pick, ops_bin, ops_sidx, vsidx, ev_t, ev_c, put_get, opv_mk, over_get, vnat, args0, List.getD_cons_zero, vpick, vbin, vbinI, vload, takeV, V.cells, List.map_cons, List.map_nil, and_true, true_and, Nat.reduceEqDiff, Int.toNat_natCast, ↓reduceIte, vret, rvAll, rvVal, resv_2, eq_self, reduceCtorEq, Bool.false_eq_true, List.contains_cons, List.contains_nil, Nat.reduceBEq, Bool.or_false, Bool.or_true, h5, hlt', bytesOf_strOf hB, hc, decide_eq_true c1]
          repeat (apply And.intro; focus (first | omega | (simp; done)))
          exact ⟨_, _, Wk.refl _, hwf.weak, rfl, rfl⟩
        by_cases c2 : 57 < c
        · rw [hbad (by omega)]
          simp (config := {maxSteps := 3000000}) only [run_skip, run_reg, run_seq, run_blk, run_ret, run_cond, if_true, at_code_n, at_code_r, at_blk_r, at_rnd_r, at_fin_r, ops_nil, ops_grd, grd_ff, ops_mv, ops_pick, ops_bin, ops_sidx, vsidx, ev_t, ev_c, put_get, opv_mk, over_get, vnat, args0, List.getD_cons_zero, vpick, vbin, vbinI, vload, takeV, V.cells, List.map_cons, List.map_nil, and_true, true_and, Nat.reduceEqDiff, Int.toNat_natCast, ↓reduceIte, vret, rvAll, rvVal, resv_2, eq_self, reduceCtorEq, Bool.false_eq_true, List.contains_cons, List.contains_nil, Nat.reduceBEq, Bool.or_false, Bool.or_true, h5, hlt', bytesOf_strOf hB, hc, decide_eq_false c1, decide_eq_true c2]
          repeat (apply And.intro; focus (first | omega | (simp; done)))
          exact ⟨_, _, Wk.refl _, hwf.weak, rfl, rfl⟩
        have e8 : (c - 48) % 256 = c - 48 := by omega
        simp (config := {maxSteps := 3000000}) only [run_skip, run_reg, run_seq, run_blk, run_cond, if_true, if_false, at_code_n, at_blk_n, at_rnd_n, ops_nil, ops_grd, grd_ff, ops_mv, ops_pick, ops_bin, ops_sidx, vsidx, ops_conv, ev_t, ev_c, put_get, opv_mk, over_get, rel_mk, vnat, args0, List.getD_cons_zero, vpick, vbin, vbinI, vconv, norm, and_true, true_and, Nat.reduceEqDiff, Int.toNat_natCast, Int.reduceNeg, ↓reduceIte, eq_self, reduceCtorEq, Bool.false_eq_true, List.contains_cons, List.contains_nil, Nat.reduceBEq, Bool.or_false, Bool.or_true, h5, h4, hlt', bytesOf_strOf hB, hc, decide_eq_false c1, decide_eq_false c2, e8]
        repeat (apply And.intro; focus (first | omega | (simp; done)))
        exact ⟨⟨i + 1, by omega, by simp, by rw [hsn]; exact congrArg (fun z => V.sc (.int .i64 z)) (by omega), by rw [hall]; simp [digOk]; omega⟩, by omega⟩
      · obtain rfl : i = L.length := by omega
        rw [List.take_of_length_le (Nat.le_refl _)] at h4 hd
        have hv := valL_le hd (by omega)
        by_cases c3 : 1099511627776 < valL L
        · rw [rdH_none (fun h => by omega)]
          simp (config := {maxSteps := 3000000}) only [run_reg, run_seq, run_exit, run_ret, run_cond, if_true, if_false, at_code_n, at_code_x, at_code_r, at_blk_x, at_rnd_x, at_fin_r, ops_nil, ops_mv, ops_bin, ev_t, ev_c, put_get, opv_mk, over_get, vnat, args0, vbin, vbinI, vload, takeV, V.cells, List.map_cons, List.map_nil, and_true, true_and, Nat.reduceEqDiff, Int.toNat_natCast, ↓reduceIte, vret, rvAll, rvVal, resv_2, decide_false, Int.lt_irrefl, eq_self, Bool.false_eq_true, List.contains_cons, List.contains_nil, Nat.reduceBEq, Bool.or_false, Bool.or_true, h5, h4, decide_eq_true c3]
          exact ⟨_, _, Wk.refl _, hwf.weak, rfl, rfl⟩
        · have e : rdH L = (valL L, true) := if_pos ⟨by omega, hpl, hd, by omega⟩
          rw [e]
          simp (config := {maxSteps := 3000000}) only [run_skip, run_reg, run_seq, run_exit, run_ret, run_cond, if_false, at_code_n, at_code_x, at_blk_x, at_rnd_x, at_fin_r, ops_nil, ops_mv, ops_bin, ev_t, ev_c, put_get, opv_mk, over_get, vnat, args0, vbin, vbinI, vload, takeV, V.cells, List.map_cons, List.map_nil, and_true, true_and, Nat.reduceEqDiff, Int.toNat_natCast, ↓reduceIte, vret, rvAll, rvVal, resv_2, decide_false, Int.lt_irrefl, eq_self, Bool.false_eq_true, List.contains_cons, List.contains_nil, Nat.reduceBEq, Bool.or_false, Bool.or_true, h5, h4, decide_eq_false c3]
          exact ⟨_, _, Wk.refl _, hwf.weak, rfl, rfl⟩
  have h1' := decide_eq_true (show (1 : Int) < (L.length : Int) by omega)
  by_cases h48 : c0 = 48
  · have hpl : plainN L = false := by unfold plainN; rw [hg0, h48, decide_eq_false h1]; simp
    rw [rdH_none (fun h => by rw [hpl] at h; simp at h)]
    simp (config := {maxSteps := 3000000}) only [run_reg, run_seq, run_ret, run_cond, if_true, at_code_n, at_code_r, at_fin_r, ops_nil, ops_grd, grd_tt, grd_ff, ops_mv, ops_pick, ops_bin, ops_sidx, vsidx, ops_slen, ev_t, ev_c, put_get, opv_mk, args0, List.getD_cons_zero, vpick, vbin, vbinI, vbinS, vslen, vload, takeV, V.cells, List.map_cons, List.map_nil, and_true, true_and, Nat.reduceEqDiff, Int.reduceToNat, Int.reduceLE, ↓reduceIte, vret, rvAll, rvVal, resv_2, eq_self, reduceCtorEq, Bool.false_eq_true, strOf_e, h0', strOf_size, h13', h1', bytesOf_strOf hB, hc0, decide_eq_true h48]
    repeat (apply And.intro; focus (first | omega | (simp; done)))
    exact ⟨_, _, Wk.refl _, hwf.weak, rfl, rfl⟩
  · have hpl : plainN L = true := by unfold plainN; rw [hg0, decide_eq_true hpos, decide_eq_true (show c0 ≠ 48 from h48)]; simp
    simp (config := {maxSteps := 3000000}) only [run_skip, run_reg, run_seq, run_blk, run_cond, if_false, at_code_n, ops_nil, ops_grd, grd_tt, grd_ff, ops_mv, ops_pick, ops_bin, ops_sidx, vsidx, ops_slen, ev_t, ev_c, put_get, opv_mk, args0, List.getD_cons_zero, vpick, vbin, vbinI, vbinS, vslen, true_and, Nat.reduceEqDiff, Int.reduceToNat, Int.reduceLE, ↓reduceIte, eq_self, reduceCtorEq, Bool.false_eq_true, strOf_e, h0', strOf_size, h13', h1', bytesOf_strOf hB, hc0, decide_eq_false h48]
    repeat (apply And.intro; focus (first | omega | (simp; done)))
    refine run_loop [2, 3, 4, 5, 25, 26, 27, 28, 29, 30, 31, 32, 33, 34, 35, 36, 37, 38, 39, 40, 41, 42, 43, 44, 45, 46] (fun B s => st = s ∧ ∃ i : Nat, i ≤ L.length ∧ B 25 = .sc (.int .i64 i) ∧ B 4 = .sc (.int .i64 (valL (L.take i))) ∧ (L.take i).all digOk = true) (fun B _ => L.length - vnat (B 25)) rfl ?_ ?_
    · simp (config := {maxSteps := 3000000}) only [put_get, true_and, Nat.reduceEqDiff, ↓reduceIte, eq_self]
      exact ⟨0, by omega, by simp, by simp [valL], by simp⟩
    · rintro B s ⟨rfl, i, hi, h5, h4, hd⟩
      by_cases hlt : i < L.length
      · obtain ⟨c, hc⟩ := get_ex hlt
        have bc := hB.get hc
        have hv := valL_le hd (by simp; omega)
        have hsn : valL (L.take (i + 1)) = 10 * valL (L.take i) + c - 48 := by rw [List.take_add_one, hc]; exact valL_snoc _ _
        have hall : (L.take (i + 1)).all digOk = digOk c := by rw [List.take_add_one, hc]; simp [hd]
        have hbad : ¬ (48 ≤ c ∧ c ≤ 57) → rdH L = (0, false) := fun hn => rdH_none (fun h => by
          have := List.all_eq_true.1 h.2.2.1 c (List.mem_of_getElem? hc)
          simp [digOk] at this
          exact hn this)
        have hlt' := decide_eq_true (show (i : Int) < (L.length : Int) by omega)
        by_cases c1 : c < 48
        · rw [hbad (by omega)]
          simp (config := {maxSteps := 3000000}) only [run_skip, run_reg, run_seq, run_blk, run_ret, run_cond, if_true, at_code_n, at_code_r, at_blk_r, at_rnd_r, at_fin_r, ops_nil, ops_grd, grd_tf, ops_mv, ops_pick, ops_bin, ops_sidx, vsidx, ev_t, ev_c, put_get, opv_mk, over_get, vnat, args0, List.getD_cons_zero, vpick, vbin, vbinI, vload, takeV, V.cells, List.map_cons, List.map_nil, and_true, true_and, Nat.reduceEqDiff, Int.toNat_natCast, ↓reduceIte, vret, rvAll, rvVal, resv_2, eq_self, reduceCtorEq, Bool.false_eq_true, List.contains_cons, List.contains_nil, Nat.reduceBEq, Bool.or_false, Bool.or_true, h5, hlt', bytesOf_strOf hB, hc, decide_eq_true c1]
          repeat (apply And.intro; focus (first | omega | (simp; done)))
          exact ⟨_, _, Wk.refl _, hwf.weak, rfl, rfl⟩
        by_cases c2 : 57 < c
        · rw [hbad (by omega)]
          simp (config := {maxSteps := 3000000}) only [run_skip, run_reg, run_seq, run_blk, run_ret, run_cond, if_true, at_code_n, at_code_r, at_blk_r, at_rnd_r, at_fin_r, ops_nil, ops_grd, grd_ff, ops_mv, ops_pick, ops_bin, ops_sidx, vsidx, ev_t, ev_c, put_get, opv_mk, over_get, vnat, args0, List.getD_cons_zero, vpick, vbin, vbinI, vload, takeV, V.cells, List.map_cons, List.map_nil, and_true, true_and, Nat.reduceEqDiff, Int.toNat_natCast, ↓reduceIte, vret, rvAll, rvVal, resv_2, eq_self, reduceCtorEq, Bool.false_eq_true, List.contains_cons, List.contains_nil, Nat.reduceBEq, Bool.or_false, Bool.or_true, h5, hlt', bytesOf_strOf hB, hc, decide_eq_false c1, decide_eq_true c2]
          repeat (apply And.intro; focus (first | omega | (simp; done)))
          exact ⟨_, _, Wk.refl _, hwf.weak, rfl, rfl⟩
        have e8 : (c - 48) % 256 = c - 48 := by omega
        simp (config := {maxSteps := 3000000}) only [run_skip, run_reg, run_seq, run_blk, run_cond, if_true, if_false, at_code_n, at_blk_n, at_rnd_n, ops_nil, ops_grd, grd_ff, ops_mv, ops_pick, ops_bin, ops_sidx, vsidx, ops_conv, ev_t, ev_c, put_get, opv_mk, over_get, rel_mk, vnat, args0, List.getD_cons_zero, vpick, vbin, vbinI, vconv, norm, and_true, true_and, Nat.reduceEqDiff, Int.toNat_natCast, Int.reduceNeg, ↓reduceIte, eq_self, reduceCtorEq, Bool.false_eq_true, List.contains_cons, List.contains_nil, Nat.reduceBEq, Bool.or_false, Bool.or_true, h5, h4, hlt', bytesOf_strOf hB, hc, decide_eq_false c1, decide_eq_false c2, e8]
        repeat (apply And.intro; focus (first | omega | (simp; done)))
        exact ⟨⟨i + 1, by omega, by simp, by rw [hsn]; exact congrArg (fun z => V.sc (.int .i64 z)) (by omega), by rw [hall]; simp [digOk]; omega⟩, by omega⟩
      · obtain rfl : i = L.length := by omega
        rw [List.take_of_length_le (Nat.le_refl _)] at h4 hd
        have hv := valL_le hd (by omega)
        by_cases c3 : 1099511627776 < valL L
        · rw [rdH_none (fun h => by omega)]
          simp (config := {maxSteps := 3000000}) only [run_reg, run_seq, run_exit, run_ret, run_cond, if_true, if_false, at_code_n, at_code_x, at_code_r, at_blk_x, at_rnd_x, at_fin_r, ops_nil, ops_mv, ops_bin, ev_t, ev_c, put_get, opv_mk, over_get, vnat, args0, vbin, vbinI, vload, takeV, V.cells, List.map_cons, List.map_nil, and_true, true_and, Nat.reduceEqDiff, Int.toNat_natCast, ↓reduceIte, vret, rvAll, rvVal, resv_2, decide_false, Int.lt_irrefl, eq_self, Bool.false_eq_true, List.contains_cons, List.contains_nil, Nat.reduceBEq, Bool.or_false, Bool.or_true, h5, h4, decide_eq_true c3]
          exact ⟨_, _, Wk.refl _, hwf.weak, rfl, rfl⟩
        · have e : rdH L = (valL L, true) := if_pos ⟨by omega, hpl, hd, by omega⟩
          rw [e]
          simp (config := {maxSteps := 3000000}) only [run_skip, run_reg, run_seq, run_exit, run_ret, run_cond, if_false, at_code_n, at_code_x, at_blk_x, at_rnd_x, at_fin_r, ops_nil, ops_mv, ops_bin, ev_t, ev_c, put_get, opv_mk, over_get, vnat, args0, vbin, vbinI, vload, takeV, V.cells, List.map_cons, List.map_nil, and_true, true_and, Nat.reduceEqDiff, Int.toNat_natCast, ↓reduceIte, vret, rvAll, rvVal, resv_2, decide_false, Int.lt_irrefl, eq_self, Bool.false_eq_true, List.contains_cons, List.contains_nil, Nat.reduceBEq, Bool.or_false, Bool.or_true, h5, h4, decide_eq_false c3]
          exact ⟨_, _, Wk.refl _, hwf.weak, rfl, rfl⟩
end
end Go.Proofs.Ytmomebkfaibmgaa
