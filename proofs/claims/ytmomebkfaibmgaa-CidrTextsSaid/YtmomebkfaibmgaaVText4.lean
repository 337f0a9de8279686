/- addr.Read: contract. (The two ends of a part are printed by wip/tools/gen_text4.py.) -/
import Derived.Test.YtmomebkfaibmgaaVText3
namespace Go.Proofs.Ytmomebkfaibmgaa
open Go

def vals (C : List (List Int)) : List Int := C.map fun M => (rdH M).1
theorem vals_len (C : List (List Int)) : (vals C).length = C.length := by simp [vals]
theorem vals_snoc (C : List (List Int)) (M : List Int) : vals (C ++ [M]) = vals C ++ [(rdH M).1] := by simp [vals]
theorem bs_put {V : List Int} {x : Int} (h : V.length < 4) : splice (bs (V ++ List.replicate (4 - V.length) 0)) V.length [.sc (.int .u8 x)] = bs ((V ++ [x]) ++ List.replicate (4 - (V ++ [x]).length) 0) := by
  have h1 := splice_set (L := V ++ List.replicate (4 - V.length) 0) (i := V.length) (z := x) (spare := []) (by simp; omega)
  rw [List.append_nil, List.append_nil] at h1
  rw [h1]
  congr 1
  rw [List.set_append_right _ _ (Nat.le_refl _), Nat.sub_self, show 4 - V.length = (4 - (V ++ [x]).length) + 1 by simp; omega, List.replicate_succ, List.set_cons_zero]
  simp
theorem spl_at {L : List Int} {i : Nat} (h : L[i]? = some 46) : splL 46 L = (splF 46 (L.take i)).1 ++ (splF 46 (L.take i)).2 :: splL 46 (L.drop (i + 1)) := by
  obtain ⟨h1, h2⟩ := List.getElem?_eq_some_iff.1 h
  have hL : L = L.take i ++ 46 :: L.drop (i + 1) := by
    conv => lhs; rw [← List.take_append_drop i L, List.drop_eq_getElem_cons h1, h2]
  conv => lhs; rw [hL]
  unfold splL splF
  rw [List.foldl_append, List.foldl_cons]
  generalize (L.take i).foldl (splS 46) ([], []) = q
  obtain ⟨acc, one⟩ := q
  have e : splS 46 (acc, one) 46 = (acc ++ [one], []) := if_pos rfl
  rw [e, splF_acc 46 _ (acc ++ [one]) []]
  simp
section
variable {st : St} {L : List Int}
set_option maxRecDepth 100000 in
set_option maxHeartbeats 4000000 in
theorem addrRead_v (hB : IsB L) (hl : L.length ≤ 1000000) : VCalls Try.prog 33 [.sc (.string (strOf L))] st fun r st' => r = .tup [.sc (.int .u32 (addrR L).1), .sc (.int .i64 (errOf (addrR L).2))] ∧ st = st' := by
  refine vcalls_enter vc33 (Nat.le_of_ble_eq_true rfl) fun hwf hok => ?_
  show Run _ Vc33.body (.fin (finQ Vc33.res _)) _ _
  unfold Vc33
  simp (config := {maxSteps := 3000000}) only [run_reg, run_seq, run_blk, at_code_n, ops_nil, ops_mv, ops_alc, ev_c, opv_mk, ptrV, obsOk, true_and]
  intro b hb
  refine run_loop [2, 3, 5, 6, 7, 8, 9, 10, 11, 12, 13, 14, 15, 16, 17, 18, 19, 20, 21, 22, 23, 24, 25, 26, 27, 28, 29, 30, 31, 32, 33, 34, 35, 36, 37, 38, 39, 40, 41, 42, 43, 44, 45, 46, 47, 48, 49, 50, 51] (fun B s => ∃ (i : Nat) (C : List (List Int)), i ≤ L.length + 1 ∧ B 7 = .sc (.int .i64 i) ∧ B 5 = .sc (.int .i64 C.length) ∧ s = st.put b (bs (vals C ++ List.replicate (4 - C.length) 0)) ∧ C.length ≤ 4 ∧ C.all chunkOk = true ∧
    ((i ≤ L.length ∧ C = (splF 46 (L.take i)).1 ∧ B 6 = .sc (.int .i64 ((i : Int) - ((splF 46 (L.take i)).2.length : Int))) ∧ (L.take i).drop (i - (splF 46 (L.take i)).2.length) = (splF 46 (L.take i)).2 ∧ (splF 46 (L.take i)).2.length ≤ i) ∨ (i = L.length + 1 ∧ C = splL 46 L))) (fun B _ => L.length + 2 - vnat (B 7)) rfl ?_ ?_
  · simp (config := {maxSteps := 3000000}) only [put_get, Nat.reduceEqDiff, ↓reduceIte, eq_self]
    exact ⟨0, [], by omega, rfl, rfl, rfl, by simp, rfl, .inl ⟨by omega, by simp [splF], by simp [splF], by simp [splF], by simp [splF]⟩⟩
  · rintro B s ⟨i, C, hi, h7, h5, rfl, hC4, hCok, hcase⟩
    rcases hcase with ⟨hi2, hC, h6, hone⟩ | ⟨rfl, hC⟩
    · have hsB := splF_ok 46 (L.take i) ([], []) (hB.take i) (by intro M hM; cases hM) isB_nil
      have hq : splF 46 (L.take i) = (L.take i).foldl (splS 46) ([], []) := rfl
      rw [← hq] at hsB
      have hle' := decide_eq_true (show (i : Int) ≤ (L.length : Int) by omega)
      by_cases hlt : i < L.length
      · obtain ⟨c, hc⟩ := get_ex hlt
        have hlt' := decide_eq_true (show (i : Int) < (L.length : Int) by omega)
        have hsn : splF 46 (L.take (i + 1)) = splS 46 (splF 46 (L.take i)) c := by rw [List.take_add_one, hc]; exact splF_snoc _ _ _
        have htk : L.take (i + 1) = L.take i ++ [c] := by rw [List.take_add_one, hc]; rfl
        have hti : (L.take i).length = i := by simp; omega
        by_cases c46 : c = 46
        case neg =>
          have hst : splS 46 (splF 46 (L.take i)) c = ((splF 46 (L.take i)).1, (splF 46 (L.take i)).2 ++ [c]) := if_neg c46
          rw [hst] at hsn
          generalize splF 46 (L.take i) = q at *
          obtain ⟨acc, one⟩ := q
          simp only at hC h6 hone hsn
          simp (config := {maxSteps := 3000000}) only [run_skip, run_reg, run_seq, run_blk, run_exit, run_cond, if_true, at_code_n, at_code_x, at_blk_x, at_rnd_n, ops_nil, ops_grd, grd_tt, ops_mv, ops_pick, ops_bin, ops_sidx, vsidx, ops_slen, ev_t, ev_c, put_get, opv_mk, over_get, rel_mk, vnat, args0, List.getD_cons_zero, vpick, vbin, vbinI, norm, vslen, true_and, Nat.reduceEqDiff, Int.toNat_natCast, Int.reduceNeg, ↓reduceIte, ne_eq, eq_self, reduceCtorEq, Bool.false_eq_true, List.contains_cons, List.contains_nil, Nat.reduceBEq, Bool.or_false, Bool.or_true, h7, h5, h6, hle', hlt', strOf_size, bytesOf_strOf hB, hc, decide_eq_true c46]
          repeat (apply And.intro; focus (first | omega | (simp; done)))
          have hd1 : (L.take (i + 1)).drop ((i + 1) - (one ++ [c]).length) = one ++ [c] := by
            rw [htk, show (i + 1) - (one ++ [c]).length = i - one.length by simp, List.drop_append_of_le_length (by omega), hone.1]
          exact ⟨⟨i + 1, C, by omega, by simp, by first | exact h5 | simp, rfl, hC4, hCok, .inl ⟨by omega, by rw [hsn]; exact hC, by rw [hsn]; exact congrArg (fun z => V.sc (.int .i64 z)) (by simp; omega), by rw [hsn]; exact hd1, by rw [hsn]; simp; omega⟩⟩, by omega⟩
        subst c46
        have hQ := spl_at hc
        have hst : splS 46 (splF 46 (L.take i)) 46 = ((splF 46 (L.take i)).1 ++ [(splF 46 (L.take i)).2], []) := if_pos rfl
        rw [hst] at hsn
        have hrest := splL_pos 46 (L.drop (i + 1))
        generalize splF 46 (L.take i) = q at *
        obtain ⟨acc, one⟩ := q
        simp only at hC h6 hone hsn hQ hsB
        have hC2 := hC.symm
        subst hC2
        have honeB := hsB.2
        have hfail : chunkOk one = false → addrR L = (0, false) := fun h => by
          unfold addrR
          rw [if_neg]
          rintro ⟨_, hall⟩
          rw [hQ] at hall
          have := List.all_eq_true.1 hall one (by simp)
          rw [h] at this
          cases this
        have hlong : acc.length + 1 + (splL 46 (L.drop (i + 1))).length = (splL 46 L).length := by rw [hQ]; simp; omega
        have hslc : (L.take i).drop (i - one.length) = one := hone.1
        have e1 : ((i : Int) - (one.length : Int)).toNat = i - one.length := by omega
        simp (config := {maxSteps := 3000000}) only [run_skip, run_reg, run_seq, run_blk, run_cond, if_true, if_false, at_code_n, ops_nil, ops_grd, grd_tt, ops_mv, ops_pick, ops_bin, ops_sidx, vsidx, ops_slen, ops_sslc, ops_call, ev_t, ev_c, put_get, opv_mk, over_get, vnat, args0, List.getD_cons_zero, vpick, vbin, vbinI, vslen, vsslc, List.map_cons, List.map_nil, Option.map_some, true_and, Nat.reduceEqDiff, Int.toNat_natCast, ↓reduceIte, decide_false, ne_eq, not_true_eq_false, eq_self, reduceCtorEq, Bool.false_eq_true, List.contains_cons, List.contains_nil, Nat.reduceBEq, Bool.or_false, Bool.or_true, h7, h6, hle', hlt', bytesOf_strOf hB, hc, strOf_size, strOf_ext, hslc, e1]
        repeat (apply And.intro; focus (first | omega | (simp; done)))
        refine Cal.mk (hexRead_v honeB) ?_
        rintro _ _ ⟨rfl, rfl⟩ -
        by_cases d1 : (rdH one).2 = true
        case neg =>
          have hb1 : addrR L = (0, false) := hfail (by unfold chunkOk; simp only [Bool.not_eq_true] at d1; rw [d1]; rfl)
          rw [hb1]
          have e2 : errOf (rdH one).2 = 11 := by simp only [Bool.not_eq_true] at d1; rw [d1]; rfl
          simp (config := {maxSteps := 3000000}) only [run_reg, run_seq, run_ret, run_cond, if_true, at_code_n, at_code_r, at_blk_r, at_rnd_r, at_fin_r, ops_nil, ops_grd, grd_tf, ops_mv, ops_pick, ops_bin, ops_ext, ev_t, ev_c, put_get, opv_mk, over_get, args0, vpick, vbin, vbinI, vext, vload, takeV, V.cells, obsOk, List.map_cons, List.map_nil, List.getElem?_cons_zero, List.getElem?_cons_succ, and_true, true_and, Nat.reduceEqDiff, Int.reduceEq, ↓reduceIte, vret, rvAll, rvVal, resv_2, decide_true, ne_eq, not_false_eq_true, eq_self, List.contains_cons, List.contains_nil, Bool.or_false, e2]
          exact ⟨_, _, Wk.refl _, weak_put hwf.weak hb, rfl, rfl⟩
        have e2 : errOf (rdH one).2 = 0 := by rw [d1]; rfl
        have hnn := rdH_nonneg (L := one)
        by_cases d2 : 255 < (rdH one).1
        · have hb1 : addrR L = (0, false) := hfail (by unfold chunkOk; rw [d1, decide_eq_false (by omega)]; rfl)
          rw [hb1]
          simp (config := {maxSteps := 3000000}) only [run_reg, run_seq, run_ret, run_cond, if_true, at_code_n, at_code_r, at_blk_r, at_rnd_r, at_fin_r, ops_nil, ops_grd, grd_ff, grd_tf, ops_mv, ops_pick, ops_bin, ops_ext, ev_t, ev_c, put_get, opv_mk, over_get, args0, vpick, vbin, vbinI, vext, vload, takeV, V.cells, obsOk, List.map_cons, List.map_nil, List.getElem?_cons_zero, List.getElem?_cons_succ, and_true, true_and, Nat.reduceEqDiff, ↓reduceIte, vret, rvAll, rvVal, resv_2, decide_false, ne_eq, not_true_eq_false, eq_self, Bool.false_eq_true, List.contains_cons, List.contains_nil, Bool.or_false, e2, decide_eq_true d2]
          exact ⟨_, _, Wk.refl _, weak_put hwf.weak hb, rfl, rfl⟩
        by_cases d3 : 3 < acc.length
        · have hb1 : addrR L = (0, false) := by
            unfold addrR
            rw [if_neg (fun h => by have := hlong; omega)]
          rw [hb1]
          simp (config := {maxSteps := 3000000}) only [run_reg, run_seq, run_ret, run_cond, if_true, at_code_n, at_code_r, at_blk_r, at_rnd_r, at_fin_r, ops_nil, ops_grd, grd_ff, ops_mv, ops_pick, ops_bin, ops_ext, ev_t, ev_c, put_get, opv_mk, over_get, args0, vpick, vbin, vbinI, vext, vload, takeV, V.cells, obsOk, List.map_cons, List.map_nil, List.getElem?_cons_zero, List.getElem?_cons_succ, and_true, true_and, Nat.reduceEqDiff, ↓reduceIte, vret, rvAll, rvVal, resv_2, decide_false, ne_eq, not_true_eq_false, eq_self, Bool.false_eq_true, List.contains_cons, List.contains_nil, Nat.reduceBEq, Bool.or_false, Bool.or_true, h5, e2, decide_eq_false d2, decide_eq_true (show (3 : Int) < (acc.length : Int) by omega)]
          exact ⟨_, _, Wk.refl _, weak_put hwf.weak hb, rfl, rfl⟩
        have e3 : (rdH one).1 % 256 = (rdH one).1 := by omega
        have hset := bs_put (V := vals acc) (x := (rdH one).1) (by rw [vals_len]; omega)
        rw [vals_len] at hset
        have hbl : (vals acc ++ List.replicate (4 - acc.length) 0).length = 4 := by simp [vals_len]; omega
        have hck : chunkOk one = true := by unfold chunkOk; rw [d1, decide_eq_true (by omega)]; rfl
        simp (config := {maxSteps := 3000000}) only [run_skip, run_reg, run_seq, run_cond, if_false, at_code_n, at_blk_n, at_rnd_n, ops_nil, ops_grd, grd_ff, ops_mv, ops_pick, ops_bin, ops_conv, ops_ixa, ops_ext, ops_store, ev_t, ev_c, put_get, put_none, opv_mk, stb_some, sto_ptr, over_get, rel_mk, Stp, put_box_same, put_put, vpick, vbin, vbinI, vconv, norm, vext, vixa, splice, V.cells, obsOk, List.length_cons, List.length_nil, List.getElem?_cons_zero, List.getElem?_cons_succ, true_and, Nat.reduceEqDiff, Nat.reduceLT, Nat.reduceLeDiff, Nat.reduceLT, Int.toNat_natCast, Int.reduceNeg, Nat.zero_add, Nat.mul_one, ↓reduceIte, decide_false, ne_eq, not_true_eq_false, eq_self, Bool.false_eq_true, List.contains_cons, List.contains_nil, Nat.reduceBEq, Bool.or_false, Bool.or_true, h5, h7, e2, e3, bs_len, hbl, decide_eq_false d2, decide_eq_false (show ¬ (3 : Int) < (acc.length : Int) by omega)]
        repeat (apply And.intro; focus (first | omega | (simp; done)))
        have hd1 : (L.take (i + 1)).drop (i + 1) = [] := List.drop_of_length_le (by simp; omega)
        exact ⟨⟨i + 1, acc ++ [one], by omega, by simp, by simp, by rw [vals_snoc, List.length_append]; have := hset; rw [List.length_append, vals_len] at this; exact congrArg (st.put b) this, by simp; omega, by rw [List.all_append, hCok]; simp [hck], .inl ⟨by omega, by rw [hsn], by rw [hsn]; simp, by rw [hsn]; exact hd1, by rw [hsn]; simp⟩⟩, by omega⟩
      · obtain rfl : i = L.length := by omega
        have hQ : splL 46 L = (splF 46 L).1 ++ [(splF 46 L).2] := rfl
        rw [List.take_of_length_le (Nat.le_refl _)] at hC h6 hone hsB
        have hlt' := decide_eq_false (show ¬ (L.length : Int) < (L.length : Int) by omega)
        generalize splF 46 L = q at *
        obtain ⟨acc, one⟩ := q
        simp only at hC h6 hone hQ hsB
        have hC2 := hC.symm
        subst hC2
        have honeB := hsB.2
        have hfail : chunkOk one = false → addrR L = (0, false) := fun h => by
          unfold addrR
          rw [if_neg]
          rintro ⟨_, hall⟩
          rw [hQ] at hall
          have := List.all_eq_true.1 hall one (by simp)
          rw [h] at this
          cases this
        have hlong : acc.length + 1 = (splL 46 L).length := by rw [hQ]; simp
        obtain ⟨i, hi0⟩ : ∃ i, i = L.length := ⟨_, rfl⟩
        have hone : (L.take i).drop (i - one.length) = one ∧ one.length ≤ i := by rw [hi0, List.take_of_length_le (Nat.le_refl _)]; exact hone
        rw [← hi0] at h7 h6 hle' hlt'
        have hslc : (L.take i).drop (i - one.length) = one := hone.1
        have e1 : ((i : Int) - (one.length : Int)).toNat = i - one.length := by omega
        simp (config := {maxSteps := 3000000}) only [run_skip, run_reg, run_seq, run_blk, run_cond, if_true, if_false, at_code_n, ops_nil, ops_grd, grd_ft, ops_mv, ops_pick, ops_bin, ops_slen, ops_sslc, ops_call, ev_t, ev_c, put_get, opv_mk, over_get, vnat, args0, List.getD_cons_zero, vpick, vbin, vbinI, vslen, vsslc, List.map_cons, List.map_nil, Option.map_some, true_and, Nat.reduceEqDiff, Int.toNat_natCast, ↓reduceIte, decide_false, Int.lt_irrefl, eq_self, reduceCtorEq, Bool.false_eq_true, List.contains_cons, List.contains_nil, Nat.reduceBEq, Bool.or_false, Bool.or_true, h7, h6, hle', ← hi0, strOf_size, strOf_ext, hslc, e1]
        repeat (apply And.intro; focus (first | omega | (simp; done)))
        refine Cal.mk (hexRead_v honeB) ?_
        rintro _ _ ⟨rfl, rfl⟩ -
        by_cases d1 : (rdH one).2 = true
        case neg =>
          have hb1 : addrR L = (0, false) := hfail (by unfold chunkOk; simp only [Bool.not_eq_true] at d1; rw [d1]; rfl)
          rw [hb1]
          have e2 : errOf (rdH one).2 = 11 := by simp only [Bool.not_eq_true] at d1; rw [d1]; rfl
          simp (config := {maxSteps := 3000000}) only [run_reg, run_seq, run_ret, run_cond, if_true, at_code_n, at_code_r, at_blk_r, at_rnd_r, at_fin_r, ops_nil, ops_grd, grd_tf, ops_mv, ops_pick, ops_bin, ops_ext, ev_t, ev_c, put_get, opv_mk, over_get, args0, vpick, vbin, vbinI, vext, vload, takeV, V.cells, obsOk, List.map_cons, List.map_nil, List.getElem?_cons_zero, List.getElem?_cons_succ, and_true, true_and, Nat.reduceEqDiff, Int.reduceEq, ↓reduceIte, vret, rvAll, rvVal, resv_2, decide_true, ne_eq, not_false_eq_true, eq_self, List.contains_cons, List.contains_nil, Bool.or_false, e2]
          exact ⟨_, _, Wk.refl _, weak_put hwf.weak hb, rfl, rfl⟩
        have e2 : errOf (rdH one).2 = 0 := by rw [d1]; rfl
        have hnn := rdH_nonneg (L := one)
        by_cases d2 : 255 < (rdH one).1
        · have hb1 : addrR L = (0, false) := hfail (by unfold chunkOk; rw [d1, decide_eq_false (by omega)]; rfl)
          rw [hb1]
          simp (config := {maxSteps := 3000000}) only [run_reg, run_seq, run_ret, run_cond, if_true, at_code_n, at_code_r, at_blk_r, at_rnd_r, at_fin_r, ops_nil, ops_grd, grd_ff, grd_tf, ops_mv, ops_pick, ops_bin, ops_ext, ev_t, ev_c, put_get, opv_mk, over_get, args0, vpick, vbin, vbinI, vext, vload, takeV, V.cells, obsOk, List.map_cons, List.map_nil, List.getElem?_cons_zero, List.getElem?_cons_succ, and_true, true_and, Nat.reduceEqDiff, ↓reduceIte, vret, rvAll, rvVal, resv_2, decide_false, ne_eq, not_true_eq_false, eq_self, Bool.false_eq_true, List.contains_cons, List.contains_nil, Bool.or_false, e2, decide_eq_true d2]
          exact ⟨_, _, Wk.refl _, weak_put hwf.weak hb, rfl, rfl⟩
        by_cases d3 : 3 < acc.length
        · have hb1 : addrR L = (0, false) := by
            unfold addrR
            rw [if_neg (fun h => by have := hlong; omega)]
          rw [hb1]
          simp (config := {maxSteps := 3000000}) only [run_reg, run_seq, run_ret, run_cond, if_true, at_code_n, at_code_r, at_blk_r, at_rnd_r, at_fin_r, ops_nil, ops_grd, grd_ff, ops_mv, ops_pick, ops_bin, ops_ext, ev_t, ev_c, put_get, opv_mk, over_get, args0, vpick, vbin, vbinI, vext, vload, takeV, V.cells, obsOk, List.map_cons, List.map_nil, List.getElem?_cons_zero, List.getElem?_cons_succ, and_true, true_and, Nat.reduceEqDiff, ↓reduceIte, vret, rvAll, rvVal, resv_2, decide_false, ne_eq, not_true_eq_false, eq_self, Bool.false_eq_true, List.contains_cons, List.contains_nil, Nat.reduceBEq, Bool.or_false, Bool.or_true, h5, e2, decide_eq_false d2, decide_eq_true (show (3 : Int) < (acc.length : Int) by omega)]
          exact ⟨_, _, Wk.refl _, weak_put hwf.weak hb, rfl, rfl⟩
        have e3 : (rdH one).1 % 256 = (rdH one).1 := by omega
        have hset := bs_put (V := vals acc) (x := (rdH one).1) (by rw [vals_len]; omega)
        rw [vals_len] at hset
        have hbl : (vals acc ++ List.replicate (4 - acc.length) 0).length = 4 := by simp [vals_len]; omega
        have hck : chunkOk one = true := by unfold chunkOk; rw [d1, decide_eq_true (by omega)]; rfl
        simp (config := {maxSteps := 3000000}) only [run_skip, run_reg, run_seq, run_cond, if_false, at_code_n, at_blk_n, at_rnd_n, ops_nil, ops_grd, grd_ff, ops_mv, ops_pick, ops_bin, ops_conv, ops_ixa, ops_ext, ops_store, ev_t, ev_c, put_get, put_none, opv_mk, stb_some, sto_ptr, over_get, rel_mk, Stp, put_box_same, put_put, vpick, vbin, vbinI, vconv, norm, vext, vixa, splice, V.cells, obsOk, List.length_cons, List.length_nil, List.getElem?_cons_zero, List.getElem?_cons_succ, true_and, Nat.reduceEqDiff, Nat.reduceLT, Nat.reduceLeDiff, Nat.reduceLT, Int.toNat_natCast, Int.reduceNeg, Nat.zero_add, Nat.mul_one, ↓reduceIte, decide_false, ne_eq, not_true_eq_false, eq_self, Bool.false_eq_true, List.contains_cons, List.contains_nil, Nat.reduceBEq, Bool.or_false, Bool.or_true, h5, h7, e2, e3, bs_len, hbl, decide_eq_false d2, decide_eq_false (show ¬ (3 : Int) < (acc.length : Int) by omega)]
        repeat (apply And.intro; focus (first | omega | (simp; done)))
        exact ⟨⟨i + 1, acc ++ [one], by omega, by simp, by simp, by rw [vals_snoc, List.length_append]; have := hset; rw [List.length_append, vals_len] at this; exact congrArg (st.put b) this, by simp; omega, by rw [List.all_append, hCok]; simp [hck], .inr ⟨by omega, hQ.symm⟩⟩, by omega⟩
    · subst hC
      have hgt := decide_eq_false (show ¬ ((L.length + 1 : Nat) : Int) ≤ (L.length : Int) by omega)
      by_cases h4 : (splL 46 L).length = 4
      · have hr : addrR L = (numL (vals (splL 46 L)), true) := if_pos ⟨h4, hCok⟩
        rw [hr]
        have hvB : IsB (vals (splL 46 L)) := by
          intro x hx
          obtain ⟨M, hM, rfl⟩ := List.mem_map.1 hx
          have h1 := List.all_eq_true.1 hCok M hM
          have h2 := rdH_nonneg (L := M)
          simp only [chunkOk, Bool.and_eq_true, decide_eq_true_eq] at h1
          omega
        have hvl : (vals (splL 46 L)).length = 4 := by rw [vals_len, h4]
        have hbv : vals (splL 46 L) ++ List.replicate (4 - (splL 46 L).length) 0 = vals (splL 46 L) := by rw [h4]; simp
        rw [hbv]
        have htk : List.take 4 (vals (splL 46 L)) = vals (splL 46 L) := List.take_of_length_le (by omega)
        have h45 : ((4 : Nat) : Int) = 4 := rfl
        rw [h4] at h5
        generalize vals (splL 46 L) = W at *
        simp (config := {maxSteps := 3000000}) only [run_skip, run_reg, run_seq, run_exit, run_cond, if_false, at_code_n, at_code_x, at_blk_x, at_rnd_x, ops_nil, ops_mv, ops_bin, ops_load, ops_slen, ops_call, ev_t, ev_c, put_get, opv_mk, over_get, vnat, put_box_same, args0, List.getD_cons_zero, vbin, vbinI, vslen, vload, takeV, List.map_cons, List.map_nil, List.drop_zero, true_and, Nat.reduceEqDiff, Nat.reduceLeDiff, Int.toNat_natCast, Nat.zero_add, ↓reduceIte, decide_false, ne_eq, not_true_eq_false, eq_self, reduceCtorEq, Bool.false_eq_true, List.contains_cons, List.contains_nil, Nat.reduceBEq, Bool.or_false, Bool.or_true, h7, h5, h45, hgt, strOf_size, bs_len, hvl, bs_take, htk]
        refine Cal.mk (addrOf_v hvB hvl) ?_
        rintro _ _ ⟨rfl, rfl⟩ -
        simp (config := {maxSteps := 3000000}) only [run_ret, at_code_n, at_fin_r, ops_nil, ops_mv, ev_t, ev_c, put_get, opv_mk, over_get, args0, vload, takeV, V.cells, obsOk, List.map_cons, List.map_nil, and_true, true_and, Nat.reduceEqDiff, ↓reduceIte, vret, rvAll, rvVal, resv_2, eq_self, List.contains_cons, List.contains_nil, Bool.or_false]
        exact ⟨_, _, Wk.refl _, weak_put hwf.weak hb, rfl, rfl⟩
      · have hr : addrR L = (0, false) := if_neg (fun h => h4 h.1)
        rw [hr]
        simp (config := {maxSteps := 3000000}) only [run_reg, run_seq, run_exit, run_ret, run_cond, if_true, if_false, at_code_n, at_code_x, at_code_r, at_blk_x, at_rnd_x, at_fin_r, ops_nil, ops_mv, ops_bin, ops_slen, ev_t, ev_c, put_get, opv_mk, over_get, vnat, args0, List.getD_cons_zero, vbin, vbinI, vslen, vload, takeV, V.cells, List.map_cons, List.map_nil, and_true, true_and, Nat.reduceEqDiff, Int.toNat_natCast, ↓reduceIte, vret, rvAll, rvVal, resv_2, ne_eq, eq_self, reduceCtorEq, Bool.false_eq_true, List.contains_cons, List.contains_nil, Nat.reduceBEq, Bool.or_false, Bool.or_true, h7, h5, hgt, strOf_size, decide_eq_true (show ¬ ((splL 46 L).length : Int) = 4 by omega)]
        exact ⟨_, _, Wk.refl _, weak_put hwf.weak hb, rfl, rfl⟩
end
end Go.Proofs.Ytmomebkfaibmgaa
