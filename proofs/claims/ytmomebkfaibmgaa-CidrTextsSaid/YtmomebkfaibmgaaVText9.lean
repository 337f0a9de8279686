/- The law of prefixes' texts: contract. -/
import Derived.Test.YtmomebkfaibmgaaVText8
namespace Go.Proofs.Ytmomebkfaibmgaa
open Go

theorem pws_get {L : List (Int × Int)} {i : Nat} {a b : Int} (h : L[i]? = some (a, b)) : (pws L)[i]? = some (.agg [.sc (.int .u32 a), .sc (.int .i64 b)]) := by simp [pws, h]
theorem cover_ex : coverL 167772161 167772164 = [(167772161, 32), (167772162, 31), (167772164, 32)] := by decide +kernel
theorem pfE (a b c d : Int) : eqV [V.sc (.int .u32 a), V.sc (.int .i64 b)] [V.sc (.int .u32 c), V.sc (.int .i64 d)] = (decide (a = c) && (decide (b = d) && true)) := rfl
section
variable {tk tk' : Tk} {st : St} {L M : List (Int × Int)}
theorem eqPf_v : VCalls Try.prog 45 [.sl tk (pws L), .sl tk' (pws M)] st fun r st' => r = .sc (.bool (decide (L = M))) ∧ st = st' := by
  refine vcalls_enter vc45 (Nat.le_of_ble_eq_true rfl) fun hwf hok => ?_
  show Run _ Vc45.body (.fin (finQ Vc45.res _)) _ _
  unfold Vc45
  have hL := vlen_max (hok _ (List.mem_cons_self ..))
  rw [pws_len] at hL
  by_cases hl : L.length = M.length
  · simp (config := {maxSteps := 3000000}) only [run_skip, run_reg, run_seq, run_blk, run_cond, if_false, at_code_n, ops_nil, ops_mv, ops_bin, ops_len, ev_t, ev_c, put_get, opv_mk, args0, List.getD_cons_zero, List.getD_cons_succ, vbin, vbinI, vlen, true_and, Nat.reduceEqDiff, ↓reduceIte, ne_eq, eq_self, reduceCtorEq, pws_len, decide_eq_false (show ¬ ¬ (L.length : Int) = (M.length : Int) by omega)]
    refine run_loop [4, 5, 13, 14, 15, 16, 17, 18, 19, 20, 21, 22, 23, 24, 25] (fun B s => st = s ∧ ∃ i : Nat, i ≤ L.length ∧ B 13 = .sc (.int .i64 i) ∧ L.take i = M.take i) (fun B _ => L.length - vnat (B 13)) rfl ?_ ?_
    · simp (config := {maxSteps := 3000000}) only [put_get, true_and, ↓reduceIte, eq_self]
      exact ⟨0, by omega, by simp, by simp⟩
    · rintro B s ⟨rfl, i, hi, h13, he⟩
      by_cases hlt : i < L.length
      · obtain ⟨⟨a, b⟩, hc⟩ := get_ex hlt
        obtain ⟨⟨c, d⟩, hd⟩ := get_ex (L := M) (i := i) (by omega)
        by_cases hx : a = c ∧ b = d
        · have he1 : eqV [V.sc (.int .u32 a), V.sc (.int .i64 b)] [V.sc (.int .u32 c), V.sc (.int .i64 d)] = true := by rw [pfE]; simp [hx.1, hx.2]
          simp (config := {maxSteps := 3000000}) only [run_skip, run_reg, run_seq, run_blk, run_cond, if_true, if_false, at_code_n, at_blk_n, at_rnd_n, ops_nil, ops_mv, ops_bin, ops_eqs, veqs, ops_ix, ops_load, ev_t, ev_c, put_get, opv_mk, over_get, rel_mk, vnat, args0, List.getD_cons_zero, List.getD_cons_succ, vbin, vbinI, norm, vix, vload, takeV, V.cells, List.length_cons, List.length_nil, List.take_succ_cons, List.drop_zero, List.take_nil, and_true, true_and, Nat.reduceEqDiff, Nat.reduceAdd, Nat.reduceLeDiff, Int.toNat_natCast, Int.reduceNeg, Nat.zero_add, ↓reduceIte, Bool.not_true, eq_self, reduceCtorEq, Bool.false_eq_true, List.contains_cons, List.contains_nil, Nat.reduceBEq, Bool.or_false, Bool.or_true, h13, decide_eq_true (show (i : Int) < (L.length : Int) by omega), pws_get hc, pws_get hd, fitsV, he1]
          repeat (apply And.intro; focus (first | omega | (simp; done)))
          obtain ⟨rfl, rfl⟩ := hx
          exact ⟨⟨i + 1, by omega, by simp, by rw [List.take_add_one, List.take_add_one, hc, hd, he]⟩, by omega⟩
        · have he1 : eqV [V.sc (.int .u32 a), V.sc (.int .i64 b)] [V.sc (.int .u32 c), V.sc (.int .i64 d)] = false := by
            rw [pfE, Bool.and_true]
            rcases Classical.not_and_iff_not_or_not.1 hx with h | h
            · rw [decide_eq_false h, Bool.false_and]
            · rw [decide_eq_false h, Bool.and_false]
          simp (config := {maxSteps := 3000000}) only [run_skip, run_reg, run_seq, run_blk, run_ret, run_cond, if_true, at_code_n, at_code_r, at_blk_r, at_rnd_r, at_fin_r, ops_nil, ops_mv, ops_bin, ops_eqs, veqs, ops_ix, ops_load, ev_t, ev_c, put_get, opv_mk, over_get, vnat, args0, List.getD_cons_zero, List.getD_cons_succ, vbin, vbinI, vix, vload, takeV, V.cells, List.length_cons, List.length_nil, List.take_succ_cons, List.drop_zero, List.take_nil, and_true, true_and, Nat.reduceEqDiff, Nat.reduceAdd, Nat.reduceLeDiff, Int.toNat_natCast, Nat.zero_add, ↓reduceIte, vret, rvAll, rvVal, resv_1, Bool.not_false, eq_self, reduceCtorEq, Bool.false_eq_true, List.contains_cons, List.contains_nil, Nat.reduceBEq, Bool.or_false, Bool.or_true, h13, decide_eq_true (show (i : Int) < (L.length : Int) by omega), pws_get hc, pws_get hd, fitsV, he1]
          repeat (apply And.intro; focus (first | omega | (simp; done)))
          exact ⟨_, _, Wk.refl _, hwf.weak, by rw [decide_eq_false]; rintro rfl; rw [hc] at hd; cases hd; exact hx ⟨rfl, rfl⟩, rfl⟩
      · obtain rfl : i = L.length := by omega
        simp (config := {maxSteps := 3000000}) only [run_reg, run_seq, run_exit, run_ret, run_cond, if_false, at_code_n, at_code_x, at_blk_x, at_rnd_x, at_fin_r, ops_nil, ops_mv, ops_bin, ev_t, ev_c, put_get, opv_mk, over_get, vnat, vbin, vbinI, and_true, true_and, Nat.reduceEqDiff, Int.toNat_natCast, ↓reduceIte, vret, rvAll, rvVal, resv_1, decide_false, Int.lt_irrefl, eq_self, Bool.false_eq_true, List.contains_cons, List.contains_nil, Nat.reduceBEq, Bool.or_false, Bool.or_true, h13]
        rw [List.take_of_length_le (Nat.le_refl _), List.take_of_length_le (by omega)] at he
        exact ⟨_, _, Wk.refl _, hwf.weak, by rw [decide_eq_true he], rfl⟩
  · simp (config := {maxSteps := 3000000}) only [run_reg, run_seq, run_ret, run_cond, if_true, at_code_n, at_code_r, at_fin_r, ops_nil, ops_mv, ops_bin, ops_len, ev_t, ev_c, put_get, opv_mk, args0, List.getD_cons_zero, List.getD_cons_succ, vbin, vbinI, vlen, and_true, true_and, Nat.reduceEqDiff, ↓reduceIte, vret, rvAll, rvVal, resv_1, ne_eq, eq_self, reduceCtorEq, pws_len, decide_eq_true (show ¬ (L.length : Int) = (M.length : Int) by omega)]
    exact ⟨_, _, Wk.refl _, hwf.weak, by rw [decide_eq_false]; rintro rfl; exact hl rfl, rfl⟩
theorem alive26_v : VCalls Try.prog 23 [] st fun r st' => r = .sc (.bool true) ∧ st = st' := by
  refine vcalls_enter vc23 (Nat.le_of_ble_eq_true rfl) fun hwf hok => ?_
  show Run _ Vc23.body (.fin (finQ Vc23.res _)) _ _
  unfold Vc23
  simp (config := {maxSteps := 3000000}) only [run_reg, run_seq, at_code_n, ops_nil, ops_mv, ops_call, ev_c, opv_mk, List.map_cons, List.map_nil, true_and]
  refine Cal.mk (Cover_v (by omega) (by omega) (by omega) (by omega)) ?_
  rintro _ _ ⟨rfl, rfl⟩ -
  rw [cover_ex]
  simp (config := {maxSteps := 3000000}) only [run_reg, run_seq, at_code_n, ops_nil, ops_mv, ops_bld, ops_bslo, ev_t, ev_c, put_get, opv_mk, vbld, fillV, splice, V.cells, strip, strip1, obsOk, List.map_cons, List.map_nil, List.length_cons, List.length_nil, List.take_succ_cons, List.take_zero, List.drop_succ_cons, List.drop_zero, List.cons_append, List.nil_append, List.append_nil, List.drop_nil, and_true, true_and, Nat.reduceEqDiff, Nat.reduceAdd, Nat.reduceLT, Nat.reduceLeDiff, Nat.reduceLT, Nat.zero_add, ↓reduceIte, eq_self]
  refine Bo.own (by simp [allLen, V.cells]) ?_
  intro g hg
  simp (config := {maxSteps := 3000000}) only [ops_call, ev_t, put_get, obsOk, List.map_cons, List.map_nil, List.length_cons, List.length_nil, true_and, Nat.reduceEqDiff, Nat.reduceAdd, Nat.zero_add, ↓reduceIte, eq_self]
  refine Cal.mk (eqPf_v (M := [(167772161, 32), (167772162, 31), (167772164, 32)])) ?_
  rintro _ _ ⟨rfl, rfl⟩ -
  have e1 : decide (([(167772161, 32), (167772162, 31), (167772164, 32)] : List (Int × Int)) = [(167772161, 32), (167772162, 31), (167772164, 32)]) = true := by decide
  rw [e1]
  simp (config := {maxSteps := 3000000}) only [run_ret, at_code_n, at_fin_r, ops_nil, ops_mv, ev_t, put_get, opv_mk, obsOk, and_true, true_and, ↓reduceIte, vret, rvAll, rvVal, resv_1, eq_self]
  exact ⟨_, _, Wk.refl _, weak_use hwf.weak hg, rfl, rfl⟩
end
section
variable {st : St} {L : List Int}
theorem pfT_isB {p : PF} (hb : p.b ≤ 9223372036854775807) : IsB (pfT p) := by
  have h47 : IsB [47] := isB_one (by omega) (by omega)
  have hd : IsB (digs 18 p.b.toNat) := digs_isB 18 _ (by omega)
  have : IsB (addrT p.a ++ ([47] ++ digs 18 p.b.toNat)) := (addrT_isB _).append (h47.append hd)
  exact this
theorem pfT_len {p : PF} : (pfT p).length ≤ 100 := by
  have := addrT_len p.a
  have := digs_len 18 p.b.toNat
  unfold pfT
  simp only [List.length_append, List.length_cons]
  omega
theorem pfR_bits (L : List Int) : 0 ≤ (pfR L).1.b ∧ (pfR L).1.b ≤ 1099511627776 := by
  unfold pfR
  split
  · unfold pfOf
    split
    · exact rdH_nonneg
    · simp
  · simp
set_option maxRecDepth 100000 in
set_option maxHeartbeats 2000000 in
theorem CidrTexts_v {p : PF} (hB : IsB L) (h0 : 0 ≤ p.a) (h1 : p.a < 4294967296) (hb : -9223372036854775808 ≤ p.b ∧ p.b ≤ 9223372036854775807) : VCalls Try.prog 5 [p.v, .sc (.string (strOf L))] st fun r st' => r = .sc (.bool true) ∧ st = st' := by
  obtain ⟨pa, pb⟩ := p
  simp only at h0 h1 hb
  refine vcalls_enter vc5 (Nat.le_of_ble_eq_true rfl) fun hwf hok => ?_
  show Run _ Vc5.body (.fin (finQ Vc5.res _)) _ _
  unfold Vc5
  by_cases c1 : L.length > 100
  · simp (config := {maxSteps := 3000000}) only [run_reg, run_seq, run_cond, at_code_n, ops_nil, ops_mv, ops_bin, ops_slen, ops_box, ev_t, ev_c, put_get, opv_mk, Bx, args0, List.getD_cons_zero, List.getD_cons_succ, vbin, vbinI, vslen, V.cells, ptrV, obsOk, List.length_cons, List.length_nil, true_and, Nat.reduceEqDiff, Nat.reduceAdd, Nat.zero_add, ↓reduceIte, ne_eq, not_false_eq_true, eq_self, reduceCtorEq, PF.v]
    intro b hb1
    simp (config := {maxSteps := 3000000}) only [run_reg, run_seq, run_ret, if_true, at_code_n, at_code_r, at_fin_r, ops_nil, ops_mv, ev_c, put_get, opv_mk, and_true, true_and, ↓reduceIte, vret, rvAll, rvVal, resv_1, eq_self, strOf_size, decide_eq_true (show (L.length : Int) > 100 by omega)]
    exact ⟨_, _, Wk.refl _, weak_put hwf.weak hb1, rfl, rfl⟩
  have r1 := fun st : St => cRead_v (st := st) hB (by omega)
  have r2 := fun st : St => rpRead_v (st := st) hB (by omega)
  have hrng := pfR_rng hB
  have hbits := pfR_bits L
  generalize pfR L = q at *
  obtain ⟨⟨qa, qb⟩, ok⟩ := q
  simp only [PF.v] at r1 r2 hrng hbits
  have t1 := fun st : St => cText_v (st := st) (p := ⟨pa, pb⟩) h0 h1 hb
  have t2 := fun st : St => rpText_v (st := st) (p := ⟨pa, pb⟩) h0 h1 hb
  have r3 := fun st : St => cRead_v (st := st) (pfT_isB (p := ⟨pa, pb⟩) hb.2) (by have := @pfT_len ⟨pa, pb⟩; omega)
  have rr := fun st : St => rRight_v (st := st) (p := ⟨pa, pb⟩) h0 h1
  have hback := pfT_back (p := ⟨pa, pb⟩) h0 h1
  simp only [PF.v] at t1 t2 r3 rr hback
  generalize pfT ⟨pa, pb⟩ = T at *
  generalize rightB pa pb = right at *
  simp (config := {maxSteps := 3000000}) only [run_reg, run_seq, run_cond, at_code_n, ops_nil, ops_mv, ops_bin, ops_slen, ops_box, ev_t, ev_c, put_get, opv_mk, Bx, args0, List.getD_cons_zero, List.getD_cons_succ, vbin, vbinI, vslen, V.cells, ptrV, obsOk, List.length_cons, List.length_nil, true_and, Nat.reduceEqDiff, Nat.reduceAdd, Nat.zero_add, ↓reduceIte, ne_eq, not_false_eq_true, eq_self, reduceCtorEq, PF.v]
  intro b hb1
  simp (config := {maxSteps := 3000000}) only [run_skip, run_reg, run_seq, if_false, at_code_n, ops_mv, ops_call, ev_t, put_get, opv_mk, args0, List.getD_cons_zero, List.getD_cons_succ, List.map_cons, List.map_nil, true_and, Nat.reduceEqDiff, ↓reduceIte, eq_self, strOf_size, decide_eq_false (show ¬ (L.length : Int) > 100 by omega)]
  refine Cal.mk (r1 _) ?_
  rintro _ _ ⟨rfl, rfl⟩ -
  simp (config := {maxSteps := 3000000}) only [run_reg, run_seq, at_code_n, ops_nil, ops_mv, ops_ext, ops_alc, ops_store, ops_call, ev_t, put_get, put_none, opv_mk, stb_some, sto_ptr, Stp, put_box_same, put_sz, put_put, args0, List.getD_cons_zero, List.getD_cons_succ, vext, splice, V.cells, ptrV, obsOk, List.map_cons, List.map_nil, List.length_cons, List.length_nil, List.getElem?_cons_zero, List.getElem?_cons_succ, List.take_zero, List.drop_succ_cons, List.nil_append, List.append_nil, List.drop_nil, true_and, Nat.reduceEqDiff, Nat.reduceAdd, Nat.reduceLT, Nat.reduceLeDiff, Nat.reduceLT, Nat.zero_add, ↓reduceIte, eq_self]
  intro c hc1
  refine Cal.mk (r2 _) ?_
  rintro _ _ ⟨rfl, rfl⟩ -
  simp (config := {maxSteps := 3000000}) only [run_reg, run_seq, at_code_n, ops_nil, ops_mv, ops_load, ops_ext, ops_alc, ops_store, ev_t, put_get, put_none, opv_mk, stb_some, sto_ptr, Stp, put_box_same, put_sz, put_put, vext, vload, takeV, splice, V.cells, ptrV, obsOk, List.length_cons, List.length_nil, List.getElem?_cons_zero, List.getElem?_cons_succ, List.take_zero, List.drop_succ_cons, List.drop_zero, List.nil_append, List.append_nil, List.drop_nil, true_and, Nat.reduceEqDiff, Nat.reduceAdd, Nat.reduceLT, Nat.reduceLeDiff, Nat.reduceLT, Nat.zero_add, ↓reduceIte, eq_self]
  intro d hd1
  have hbc : b < c := by first | omega | (simp only [put_sz] at hc1; omega)
  have hcd : c < d := by first | omega | (simp only [put_sz] at hd1; omega)
  have hbd : b < d := by omega
  have he : ∀ x y : Int, eqV [V.sc (.int .u32 x), V.sc (.int .i64 y)] [V.sc (.int .u32 x), V.sc (.int .i64 y)] = true := fun x y => by rw [pfE]; simp
  have nbc := Nat.ne_of_lt hbc
  have ncb := Nat.ne_of_gt hbc
  have ncd := Nat.ne_of_lt hcd
  have ndc := Nat.ne_of_gt hcd
  have nbd := Nat.ne_of_lt hbd
  have ndb := Nat.ne_of_gt hbd
  have hsd : st.sz ≤ d := by first | omega | (simp only [put_sz] at hd1; omega)
  have hsc : st.sz ≤ c := by first | omega | (simp only [put_sz] at hc1; omega)
  have hw3 := fun es ds cs : List V => weak_put (cs := es) (weak_put (cs := ds) (weak_put (cs := cs) hwf.weak hb1) hsc) hsd
  have hbb : ∀ x : Bool, (!(x == x)) = false := fun x => by cases x <;> rfl
  have hss : decide (¬ strOf T = strOf T) = false := by simp
  have hbkT : ∀ x : PF × Bool, (V.tup [x.1.v, .sc (.int .i64 (errOf x.2))]) = .tup [.agg [.sc (.int .u32 x.1.a), .sc (.int .i64 x.1.b)], .sc (.int .i64 (errOf x.2))] := fun x => rfl
  cases ok
  · have e4 : errOf false = 11 := rfl
    simp (config := {maxSteps := 3000000}) only [ops_grd, grd_tt, grd_ff, ops_mv, ops_pick, ops_bin, ops_un, ops_binb, ops_eqs, vbinb, veqs, ops_load, ops_call, ev_t, ev_c, put_get, opv_mk, put_box_same, vpick, vbin, vbinI, vun, vload, takeV, List.map_cons, List.map_nil, List.length_cons, List.length_nil, List.take_succ_cons, List.drop_zero, List.take_nil, and_true, true_and, Nat.reduceEqDiff, Nat.reduceAdd, Nat.reduceLeDiff, Int.reduceEq, Nat.zero_add, ↓reduceIte, decide_false, Bool.not_true, Bool.not_false, ne_eq, not_true_eq_false, eq_self, Bool.false_eq_true, e4, put_box_ne nbc, put_box_ne ncd, put_box_ne nbd, fitsV, he, hbb]
    refine Cal.mk (t1 _) ?_
    rintro _ _ ⟨rfl, rfl⟩ -
    simp (config := {maxSteps := 3000000}) only [ops_grd, grd_ff, ops_call, ev_t, put_get, put_box_same, vload, takeV, obsOk, List.map_cons, List.map_nil, List.length_cons, List.length_nil, List.take_succ_cons, List.drop_zero, List.take_nil, and_true, true_and, Nat.reduceEqDiff, Nat.reduceAdd, Nat.reduceLeDiff, Nat.zero_add, ↓reduceIte, eq_self, put_box_ne nbc, put_box_ne nbd]
    refine Cal.mk (t2 _) ?_
    rintro _ _ ⟨rfl, rfl⟩ -
    simp (config := {maxSteps := 3000000}) only [run_skip, run_reg, run_seq, run_cond, if_false, at_code_n, ops_nil, ops_grd, grd_ff, ops_pick, ops_bin, ops_load, ops_call, ev_t, put_get, opv_mk, put_box_same, vpick, vbin, vbinS, vload, takeV, obsOk, List.map_cons, List.map_nil, List.length_cons, List.length_nil, List.take_succ_cons, List.drop_zero, List.take_nil, true_and, Nat.reduceEqDiff, Nat.reduceAdd, Nat.reduceLeDiff, Nat.zero_add, ↓reduceIte, decide_false, ne_eq, not_true_eq_false, eq_self, Bool.false_eq_true, put_box_ne nbc, put_box_ne nbd]
    refine Cal.mk (t1 _) ?_
    rintro _ _ ⟨rfl, rfl⟩ -
    simp (config := {maxSteps := 3000000}) only [ops_call, ev_t, put_get, obsOk, List.map_cons, List.map_nil, true_and, ↓reduceIte, eq_self]
    refine Cal.mk (r3 _) ?_
    rintro _ _ ⟨rfl, rfl⟩ -
    simp (config := {maxSteps := 3000000}) only [run_reg, run_seq, at_code_n, ops_nil, ops_mv, ops_load, ops_ext, ops_alc, ops_store, ev_t, put_get, put_none, opv_mk, stb_some, sto_ptr, Stp, put_box_same, put_sz, put_put, vext, vload, takeV, splice, V.cells, ptrV, obsOk, List.length_cons, List.length_nil, List.getElem?_cons_zero, List.getElem?_cons_succ, List.take_zero, List.drop_succ_cons, List.drop_zero, List.nil_append, List.append_nil, List.drop_nil, true_and, Nat.reduceEqDiff, Nat.reduceAdd, Nat.reduceLT, Nat.reduceLeDiff, Nat.reduceLT, Nat.zero_add, ↓reduceIte, eq_self]
    intro e he1
    have hbe : b < e := by first | omega | (simp only [put_sz] at he1; omega)
    have hce : c < e := by first | omega | (simp only [put_sz] at he1; omega)
    have hde : d < e := by first | omega | (simp only [put_sz] at he1; omega)
    have hse : st.sz ≤ e := by omega
    have nbe := Nat.ne_of_lt hbe
    have neb := Nat.ne_of_gt hbe
    have nce := Nat.ne_of_lt hce
    have nec := Nat.ne_of_gt hce
    have nde := Nat.ne_of_lt hde
    have ned := Nat.ne_of_gt hde
    simp (config := {maxSteps := 3000000}) only [ops_call, ev_t, put_get, opv_mk, put_box_same, List.map_cons, List.map_nil, List.length_cons, List.length_nil, List.take_succ_cons, List.take_nil, true_and, Nat.reduceAdd, Nat.reduceLeDiff, Nat.zero_add, ↓reduceIte, eq_self, put_box_ne nbe, put_box_ne nbc, put_box_ne nbd]
    refine Cal.mk (rr _) ?_
    rintro _ _ ⟨rfl, rfl⟩ -
    cases right
    · simp (config := {maxSteps := 3000000}) only [ops_grd, grd_und, grd_tt, grd_tf, ops_mv, ops_pick, ops_un, ops_call, ev_t, ev_c, put_get, opv_mk, vpick, vun, obsOk, List.map_nil, true_and, Nat.reduceEqDiff, ↓reduceIte, Bool.not_false, eq_self]
      refine Cal.mk alive26_v ?_
      rintro _ _ ⟨rfl, rfl⟩ -
      simp (config := {maxSteps := 3000000}) only [run_ret, at_code_n, at_fin_r, ops_nil, ops_mv, ops_pick, ev_t, put_get, opv_mk, vpick, obsOk, and_true, true_and, Nat.reduceEqDiff, ↓reduceIte, vret, rvAll, rvVal, resv_1, eq_self]
      exact ⟨_, _, Wk.refl _, weak_put (hw3 _ _ _) hse, rfl, rfl⟩
    · have e5 : errOf true = 0 := rfl
      rw [hback rfl]
      simp (config := {maxSteps := 3000000}) only [ops_grd, grd_tt, grd_ff, ops_mv, ops_pick, ops_bin, ops_un, ops_eqs, veqs, ops_load, ops_call, ev_t, ev_c, put_get, opv_mk, put_box_same, vpick, vbin, vbinI, vun, vload, takeV, obsOk, List.map_nil, List.length_cons, List.length_nil, List.take_succ_cons, List.drop_zero, List.take_nil, and_true, true_and, Nat.reduceEqDiff, Nat.reduceAdd, Nat.reduceLeDiff, Nat.zero_add, ↓reduceIte, decide_true, Bool.not_true, eq_self, Bool.false_eq_true, put_box_ne nbe, put_box_ne nbc, put_box_ne nbd, e5, fitsV, he]
      refine Cal.mk alive26_v ?_
      rintro _ _ ⟨rfl, rfl⟩ -
      simp (config := {maxSteps := 3000000}) only [run_ret, at_code_n, at_fin_r, ops_nil, ops_mv, ops_pick, ev_t, put_get, opv_mk, vpick, obsOk, and_true, true_and, Nat.reduceEqDiff, ↓reduceIte, vret, rvAll, rvVal, resv_1, eq_self]
      exact ⟨_, _, Wk.refl _, weak_put (hw3 _ _ _) hse, rfl, rfl⟩
  · have e5 : errOf true = 0 := rfl
    simp (config := {maxSteps := 3000000}) only [ops_grd, grd_ff, grd_ft, ops_mv, ops_pick, ops_bin, ops_un, ops_binb, ops_eqs, vbinb, veqs, ops_load, ops_call, ev_t, ev_c, put_get, opv_mk, put_box_same, vpick, vbin, vbinI, vun, vload, takeV, List.map_cons, List.map_nil, List.length_cons, List.length_nil, List.take_succ_cons, List.drop_zero, List.take_nil, and_true, true_and, Nat.reduceEqDiff, Nat.reduceAdd, Nat.reduceLeDiff, Nat.zero_add, ↓reduceIte, decide_true, Bool.not_true, eq_self, Bool.false_eq_true, e5, put_box_ne nbc, put_box_ne ncd, put_box_ne nbd, fitsV, he, hbb]
    refine Cal.mk (t1 _) ?_
    rintro _ _ ⟨rfl, rfl⟩ -
    simp (config := {maxSteps := 3000000}) only [ops_grd, grd_ff, ops_call, ev_t, put_get, put_box_same, vload, takeV, obsOk, List.map_cons, List.map_nil, List.length_cons, List.length_nil, List.take_succ_cons, List.drop_zero, List.take_nil, and_true, true_and, Nat.reduceEqDiff, Nat.reduceAdd, Nat.reduceLeDiff, Nat.zero_add, ↓reduceIte, eq_self, put_box_ne nbc, put_box_ne nbd]
    refine Cal.mk (t2 _) ?_
    rintro _ _ ⟨rfl, rfl⟩ -
    simp (config := {maxSteps := 3000000}) only [run_skip, run_reg, run_seq, run_cond, if_false, at_code_n, ops_nil, ops_grd, grd_ff, ops_pick, ops_bin, ops_load, ops_call, ev_t, put_get, opv_mk, put_box_same, vpick, vbin, vbinS, vload, takeV, obsOk, List.map_cons, List.map_nil, List.length_cons, List.length_nil, List.take_succ_cons, List.drop_zero, List.take_nil, true_and, Nat.reduceEqDiff, Nat.reduceAdd, Nat.reduceLeDiff, Nat.zero_add, ↓reduceIte, decide_false, ne_eq, not_true_eq_false, eq_self, Bool.false_eq_true, put_box_ne nbc, put_box_ne nbd]
    refine Cal.mk (t1 _) ?_
    rintro _ _ ⟨rfl, rfl⟩ -
    simp (config := {maxSteps := 3000000}) only [ops_call, ev_t, put_get, obsOk, List.map_cons, List.map_nil, true_and, ↓reduceIte, eq_self]
    refine Cal.mk (r3 _) ?_
    rintro _ _ ⟨rfl, rfl⟩ -
    simp (config := {maxSteps := 3000000}) only [run_reg, run_seq, at_code_n, ops_nil, ops_mv, ops_load, ops_ext, ops_alc, ops_store, ev_t, put_get, put_none, opv_mk, stb_some, sto_ptr, Stp, put_box_same, put_sz, put_put, vext, vload, takeV, splice, V.cells, ptrV, obsOk, List.length_cons, List.length_nil, List.getElem?_cons_zero, List.getElem?_cons_succ, List.take_zero, List.drop_succ_cons, List.drop_zero, List.nil_append, List.append_nil, List.drop_nil, true_and, Nat.reduceEqDiff, Nat.reduceAdd, Nat.reduceLT, Nat.reduceLeDiff, Nat.reduceLT, Nat.zero_add, ↓reduceIte, eq_self]
    intro e he1
    have hbe : b < e := by first | omega | (simp only [put_sz] at he1; omega)
    have hce : c < e := by first | omega | (simp only [put_sz] at he1; omega)
    have hde : d < e := by first | omega | (simp only [put_sz] at he1; omega)
    have hse : st.sz ≤ e := by omega
    have nbe := Nat.ne_of_lt hbe
    have neb := Nat.ne_of_gt hbe
    have nce := Nat.ne_of_lt hce
    have nec := Nat.ne_of_gt hce
    have nde := Nat.ne_of_lt hde
    have ned := Nat.ne_of_gt hde
    simp (config := {maxSteps := 3000000}) only [ops_call, ev_t, put_get, opv_mk, put_box_same, List.map_cons, List.map_nil, List.length_cons, List.length_nil, List.take_succ_cons, List.take_nil, true_and, Nat.reduceAdd, Nat.reduceLeDiff, Nat.zero_add, ↓reduceIte, eq_self, put_box_ne nbe, put_box_ne nbc, put_box_ne nbd]
    refine Cal.mk (rr _) ?_
    rintro _ _ ⟨rfl, rfl⟩ -
    cases right
    · simp (config := {maxSteps := 3000000}) only [ops_grd, grd_und, grd_tt, grd_tf, ops_mv, ops_pick, ops_un, ops_call, ev_t, ev_c, put_get, opv_mk, vpick, vun, obsOk, List.map_nil, true_and, Nat.reduceEqDiff, ↓reduceIte, Bool.not_false, eq_self]
      refine Cal.mk alive26_v ?_
      rintro _ _ ⟨rfl, rfl⟩ -
      simp (config := {maxSteps := 3000000}) only [run_ret, at_code_n, at_fin_r, ops_nil, ops_mv, ops_pick, ev_t, put_get, opv_mk, vpick, obsOk, and_true, true_and, Nat.reduceEqDiff, ↓reduceIte, vret, rvAll, rvVal, resv_1, eq_self]
      exact ⟨_, _, Wk.refl _, weak_put (hw3 _ _ _) hse, rfl, rfl⟩
    · have e5 : errOf true = 0 := rfl
      rw [hback rfl]
      simp (config := {maxSteps := 3000000}) only [ops_grd, grd_tt, grd_ff, ops_mv, ops_pick, ops_bin, ops_un, ops_eqs, veqs, ops_load, ops_call, ev_t, ev_c, put_get, opv_mk, put_box_same, vpick, vbin, vbinI, vun, vload, takeV, obsOk, List.map_nil, List.length_cons, List.length_nil, List.take_succ_cons, List.drop_zero, List.take_nil, and_true, true_and, Nat.reduceEqDiff, Nat.reduceAdd, Nat.reduceLeDiff, Nat.zero_add, ↓reduceIte, decide_true, Bool.not_true, eq_self, Bool.false_eq_true, put_box_ne nbe, put_box_ne nbc, put_box_ne nbd, e5, fitsV, he]
      refine Cal.mk alive26_v ?_
      rintro _ _ ⟨rfl, rfl⟩ -
      simp (config := {maxSteps := 3000000}) only [run_ret, at_code_n, at_fin_r, ops_nil, ops_mv, ops_pick, ev_t, put_get, opv_mk, vpick, obsOk, and_true, true_and, Nat.reduceEqDiff, ↓reduceIte, vret, rvAll, rvVal, resv_1, eq_self]
      exact ⟨_, _, Wk.refl _, weak_put (hw3 _ _ _) hse, rfl, rfl⟩
end
end Go.Proofs.Ytmomebkfaibmgaa
