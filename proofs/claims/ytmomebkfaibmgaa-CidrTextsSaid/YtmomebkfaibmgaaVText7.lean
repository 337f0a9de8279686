/- A text as a prefix: contracts. -/
import Derived.Test.YtmomebkfaibmgaaVText6
namespace Go.Proofs.Ytmomebkfaibmgaa
open Go

def atZ : Option Nat → Int
  | none => -1
  | some k => k
theorem addrR_rng {L : List Int} (hB : IsB L) : 0 ≤ (addrR L).1 ∧ (addrR L).1 < 4294967296 := by
  unfold addrR
  split
  · rename_i h
    have hvB : IsB ((splL 46 L).map fun M => (rdH M).1) := by
      intro x hx
      obtain ⟨M, hM, rfl⟩ := List.mem_map.1 hx
      have h1 := List.all_eq_true.1 h.2 M hM
      have h2 := rdH_nonneg (L := M)
      simp only [chunkOk, Bool.and_eq_true, decide_eq_true_eq] at h1
      omega
    have := numL_range 4 _ (by simp; exact h.1) hvB
    rw [List.length_map, h.1] at this
    exact this
  · simp
theorem pfR_rng {L : List Int} (hB : IsB L) : 0 ≤ (pfR L).1.a ∧ (pfR L).1.a < 4294967296 := by
  unfold pfR
  split
  · rename_i A B h
    have hA : IsB A := splL_isB hB A (by rw [h]; simp)
    unfold pfOf
    split
    · exact addrR_rng hA
    · simp
  · simp
theorem splF_part (c : Int) : ∀ (L : List Int) (s : List (List Int) × List Int) (n : Nat), (∀ M ∈ s.1, M.length ≤ n) → s.2.length ≤ n → (∀ M ∈ (L.foldl (splS c) s).1, M.length ≤ n + L.length) ∧ (L.foldl (splS c) s).2.length ≤ n + L.length
  | [], s, n, h1, h2 => ⟨fun M hM => by have := h1 M hM; simp; omega, by simpa using h2⟩
  | x :: L, s, n, h1, h2 => by
    rw [List.foldl_cons]
    have := splF_part c L (splS c s x) (n + 1) (fun M hM => by
      unfold splS at hM
      split at hM
      · rcases List.mem_append.1 hM with hM | hM
        · have := h1 M hM; omega
        · simp at hM; subst hM; omega
      · have := h1 M hM; omega) (by unfold splS; split <;> first | (simp; done) | (simp; omega))
    refine ⟨fun M hM => by have := this.1 M hM; simp only [List.length_cons]; omega, by have := this.2; simp only [List.length_cons]; omega⟩
theorem splL_part (c : Int) (L : List Int) : ∀ M ∈ splL c L, M.length ≤ L.length := by
  have := splF_part c L ([], []) 0 (by intro M hM; cases hM) (by simp)
  intro M hM
  unfold splL splF at hM
  rcases List.mem_append.1 hM with hM | hM
  · have := this.1 M hM; omega
  · simp at hM; subst hM; have := this.2; omega
def pf2 : List (List Int) → PF × Bool
  | [A, B] => pfOf A B
  | _ => (⟨0, 0⟩, false)
theorem pfR_pf2 (L : List Int) : pfR L = pf2 (splL 47 L) := by
  unfold pfR pf2
  rfl
theorem pf2_no {Q : List (List Int)} (h : Q.length ≠ 2) : pf2 Q = (⟨0, 0⟩, false) := by
  match Q, h with
  | [], _ => rfl
  | [A], _ => rfl
  | A :: B :: C :: Q, _ => rfl
theorem not11 : decide (¬ (11 : Int) = 0) = true := by decide
theorem not00 : decide (¬ (0 : Int) = 0) = false := by decide
section
variable {tk : Tk} {st : St} {L : List Int}
set_option maxRecDepth 100000 in
set_option maxHeartbeats 2000000 in
theorem cRead_v (hB : IsB L) (hl : L.length ≤ 1000000) : VCalls Try.prog 18 [.sc (.string (strOf L))] st fun r st' => r = .tup [(pfR L).1.v, .sc (.int .i64 (errOf (pfR L).2))] ∧ st = st' := by
  refine vcalls_enter vc18 (Nat.le_of_ble_eq_true rfl) fun hwf hok => ?_
  show Run _ Vc18.body (.fin (finQ Vc18.res _)) _ _
  unfold Vc18
  simp (config := {maxSteps := 3000000}) only [run_reg, run_seq, run_blk, at_code_n, ops_nil, ops_mv, ops_slen, ops_alc, ev_t, ev_c, put_get, opv_mk, args0, List.getD_cons_zero, vslen, ptrV, obsOk, true_and, Int.reduceNeg, ↓reduceIte, eq_self, reduceCtorEq, strOf_size]
  intro b hb
  refine run_loop [4, 5, 13, 14, 15, 16, 17, 18, 19, 20, 21] (fun B s => s = st.put b [.sc (.int .u32 0), .sc (.int .i64 0)] ∧ ∃ i : Nat, i ≤ L.length ∧ B 13 = .sc (.int .i64 i) ∧ B 4 = .sc (.int .i64 (atZ (lastAt L i)))) (fun B _ => L.length - vnat (B 13)) rfl ?_ ?_
  · simp (config := {maxSteps := 3000000}) only [put_get, true_and, Nat.reduceEqDiff, Int.reduceNeg, ↓reduceIte, eq_self]
    exact ⟨0, by omega, rfl, rfl⟩
  · rintro B s ⟨rfl, i, hi, h13, h4⟩
    by_cases hlt : i < L.length
    · obtain ⟨c, hc⟩ := get_ex hlt
      have hlt' := decide_eq_true (show (i : Int) < (L.length : Int) by omega)
      by_cases c1 : c = 47
      · have hst : lastAt L (i + 1) = some i := if_pos (by rw [hc, c1])
        simp (config := {maxSteps := 3000000}) only [run_skip, run_reg, run_seq, run_blk, run_cond, if_true, at_code_n, at_blk_n, at_rnd_n, ops_nil, ops_mv, ops_bin, ops_sidx, vsidx, ev_t, ev_c, put_get, opv_mk, over_get, rel_mk, vnat, args0, List.getD_cons_zero, vbin, vbinI, norm, true_and, Nat.reduceEqDiff, Int.toNat_natCast, Int.reduceNeg, ↓reduceIte, eq_self, reduceCtorEq, Bool.false_eq_true, List.contains_cons, List.contains_nil, Nat.reduceBEq, Bool.or_false, Bool.or_true, h13, hlt', bytesOf_strOf hB, hc, decide_eq_true c1]
        repeat (apply And.intro; focus (first | omega | (simp; done)))
        exact ⟨⟨i + 1, by omega, by simp, by rw [hst]; rfl⟩, by omega⟩
      · have hst : lastAt L (i + 1) = lastAt L i := if_neg (by rw [hc]; intro h; cases h; exact c1 rfl)
        simp (config := {maxSteps := 3000000}) only [run_skip, run_reg, run_seq, run_blk, run_cond, if_true, if_false, at_code_n, at_blk_n, at_rnd_n, ops_nil, ops_mv, ops_bin, ops_sidx, vsidx, ev_t, ev_c, put_get, opv_mk, over_get, rel_mk, vnat, args0, List.getD_cons_zero, vbin, vbinI, norm, true_and, Nat.reduceEqDiff, Int.toNat_natCast, Int.reduceNeg, ↓reduceIte, eq_self, reduceCtorEq, Bool.false_eq_true, List.contains_cons, List.contains_nil, Nat.reduceBEq, Bool.or_false, Bool.or_true, h13, h4, hlt', bytesOf_strOf hB, hc, decide_eq_false c1]
        repeat (apply And.intro; focus (first | omega | (simp; done)))
        exact ⟨⟨i + 1, by omega, by simp, by rw [hst]⟩, by omega⟩
    · obtain rfl : i = L.length := by omega
      have hnlt := decide_eq_false (show ¬ (L.length : Int) < (L.length : Int) by omega)
      cases hk : lastAt L L.length with
      | none =>
        rw [hk] at h4
        rw [pfR_none hk]
        have e1 : atZ none = -1 := rfl
        rw [e1] at h4
        simp (config := {maxSteps := 3000000}) only [run_reg, run_seq, run_exit, run_ret, run_cond, if_true, if_false, at_code_n, at_code_x, at_code_r, at_blk_x, at_rnd_x, at_fin_r, ops_nil, ops_mv, ops_bin, ops_bld, ops_store, ev_t, ev_c, put_get, put_none, opv_mk, stb_some, sto_ptr, over_get, vnat, Stp, vbld, put_box_same, put_put, args0, vbin, vbinI, vload, takeV, fillV, splice, V.cells, obsOk, List.map_cons, List.map_nil, List.length_cons, List.length_nil, List.take_succ_cons, List.take_zero, List.drop_succ_cons, List.drop_zero, List.nil_append, List.append_nil, List.take_nil, List.drop_nil, and_true, true_and, Nat.reduceEqDiff, Nat.reduceAdd, Nat.reduceLT, Nat.reduceLeDiff, Nat.reduceLT, Int.toNat_natCast, Int.reduceLT, Int.reduceNeg, Nat.zero_add, ↓reduceIte, vret, rvAll, rvVal, resv_2, decide_true, decide_false, Int.lt_irrefl, eq_self, Bool.false_eq_true, List.contains_cons, List.contains_nil, Nat.reduceBEq, Bool.or_false, Bool.or_true, h13, h4]
        exact ⟨_, _, Wk.refl _, weak_put hwf.weak hb, rfl, rfl⟩
      | some k =>
        rw [hk] at h4
        rw [pfR_some hk]
        have e1 : atZ (some k) = k := rfl
        rw [e1] at h4
        have hkl := (lastAt_lt L L.length k hk).1
        have e2 : ((k : Int) + 1).toNat = k + 1 := by omega
        have e3 : (L.take L.length).drop (k + 1) = L.drop (k + 1) := by rw [List.take_of_length_le (Nat.le_refl _)]
        have hA := fun st : St => addrRead_v (st := st) (hB.take k) (by simp; omega)
        have hN := fun st : St => hexRead_v (st := st) (hB.drop (k + 1))
        have hrg := addrR_rng (hB.take k)
        unfold pfOf
        generalize addrR (L.take k) = qa at *
        generalize rdH (L.drop (k + 1)) = qn at *
        obtain ⟨a, ok⟩ := qa
        obtain ⟨n, is⟩ := qn
        simp only at hA hN hrg ⊢
        simp (config := {maxSteps := 3000000}) only [run_skip, run_reg, run_seq, run_exit, run_cond, if_false, at_code_n, at_code_x, at_blk_x, at_rnd_x, ops_nil, ops_mv, ops_bin, ops_sslc, ops_call, ev_t, ev_c, put_get, opv_mk, over_get, vnat, args0, List.getD_cons_zero, vbin, vbinI, vsslc, List.map_cons, List.map_nil, List.drop_zero, Option.map_some, Option.map_none, true_and, Nat.reduceEqDiff, Int.toNat_natCast, Int.reduceNeg, ↓reduceIte, decide_false, Int.lt_irrefl, eq_self, reduceCtorEq, Bool.false_eq_true, List.contains_cons, List.contains_nil, Nat.reduceBEq, Bool.or_false, Bool.or_true, h13, h4, strOf_size, decide_eq_false (show ¬ (k : Int) < 0 by omega), strOf_ext]
        repeat (apply And.intro; focus (first | omega | (simp; done)))
        refine Cal.mk (hA _) ?_
        rintro _ _ ⟨rfl, rfl⟩ -
        simp (config := {maxSteps := 3000000}) only [run_reg, run_seq, at_code_n, ops_nil, ops_mv, ops_bin, ops_ext, ops_sslc, ops_call, ev_t, ev_c, put_get, opv_mk, over_get, args0, List.getD_cons_zero, vbin, vbinI, norm, vext, vsslc, obsOk, List.map_cons, List.map_nil, List.getElem?_cons_zero, List.getElem?_cons_succ, Option.map_some, Option.map_none, true_and, Nat.reduceEqDiff, Int.reduceNeg, ↓reduceIte, eq_self, reduceCtorEq, Bool.false_eq_true, List.contains_cons, List.contains_nil, Nat.reduceBEq, Bool.or_false, h4, strOf_size, e2, strOf_ext, e3]
        repeat (apply And.intro; focus (first | omega | (simp; done)))
        refine Cal.mk (hN _) ?_
        rintro _ _ ⟨rfl, rfl⟩ -
        simp (config := {maxSteps := 3000000}) only [run_reg, run_seq, at_code_n, ops_nil, ops_grd, ops_mv, ops_bin, ops_ext, ops_bld, ops_alc, ops_store, ev_t, ev_c, put_get, put_none, opv_mk, stb_some, sto_ptr, Stp, vbld, put_box_same, put_sz, put_put, vbin, vbinI, vext, fillV, splice, V.cells, ptrV, obsOk, List.map_cons, List.map_nil, List.length_cons, List.length_nil, List.getElem?_cons_zero, List.getElem?_cons_succ, List.take_succ_cons, List.take_zero, List.drop_succ_cons, List.drop_zero, List.cons_append, List.nil_append, List.append_nil, List.drop_nil, and_true, true_and, Nat.reduceEqDiff, Nat.reduceAdd, Nat.reduceLT, Nat.reduceLeDiff, Nat.reduceLT, Int.reduceNeg, Nat.zero_add, ↓reduceIte, ne_eq, eq_self]
        intro d hd
        obtain ⟨hd1, hbd⟩ : st.sz ≤ d ∧ b < d := by first | omega | (simp only [put_sz] at hd; omega)
        clear hd
        have hw := fun cs ds es : List V => weak_put (cs := es) (weak_put (cs := ds) (weak_put (cs := cs) hwf.weak hb) hd1) hb
        cases ok
        · have e4 : errOf false = 11 := rfl
          simp (config := {maxSteps := 3000000}) only [run_reg, run_seq, run_ret, run_cond, if_true, at_code_n, at_code_r, at_fin_r, ops_nil, ops_grd, grd_tf, ops_mv, ops_pick, ops_bld, ops_store, ev_t, ev_c, put_get, put_none, opv_mk, stb_some, sto_ptr, over_get, Stp, vbld, put_box_same, args0, vpick, vload, takeV, fillV, splice, V.cells, obsOk, List.map_cons, List.map_nil, List.length_cons, List.length_nil, List.take_succ_cons, List.take_zero, List.drop_succ_cons, List.drop_zero, List.nil_append, List.append_nil, List.take_nil, List.drop_nil, and_true, true_and, Nat.reduceEqDiff, Nat.reduceAdd, Nat.reduceLT, Nat.reduceLeDiff, Nat.reduceLT, Int.reduceNeg, Int.reduceEq, Nat.zero_add, ↓reduceIte, vret, rvAll, rvVal, resv_2, decide_true, not_false_eq_true, eq_self, Bool.false_eq_true, List.contains_cons, List.contains_nil, Nat.reduceBEq, Bool.or_false, e4, put_box_ne (Nat.ne_of_lt hbd), Bool.false_eq_true, false_and]
          exact ⟨_, _, Wk.refl _, hw _ _ _, rfl, rfl⟩
        cases is
        · have e4 : errOf false = 11 := rfl
          have e5 : errOf true = 0 := rfl
          simp (config := {maxSteps := 3000000}) only [run_reg, run_seq, run_ret, run_cond, if_true, at_code_n, at_code_r, at_fin_r, ops_nil, ops_grd, grd_ff, grd_tf, ops_mv, ops_pick, ops_bin, ops_bld, ops_store, ev_t, ev_c, put_get, put_none, opv_mk, stb_some, sto_ptr, over_get, Stp, vbld, put_box_same, args0, vpick, vbin, vbinI, vload, takeV, fillV, splice, V.cells, obsOk, List.map_cons, List.map_nil, List.length_cons, List.length_nil, List.take_succ_cons, List.take_zero, List.drop_succ_cons, List.drop_zero, List.nil_append, List.append_nil, List.take_nil, List.drop_nil, and_true, true_and, Nat.reduceEqDiff, Nat.reduceAdd, Nat.reduceLT, Nat.reduceLeDiff, Nat.reduceLT, Int.reduceNeg, Int.reduceEq, Nat.zero_add, ↓reduceIte, vret, rvAll, rvVal, resv_2, decide_true, decide_false, ne_eq, not_true_eq_false, not_false_eq_true, eq_self, Bool.false_eq_true, List.contains_cons, List.contains_nil, Nat.reduceBEq, Bool.or_false, e4, e5, put_box_ne (Nat.ne_of_lt hbd), Bool.false_eq_true, false_and, and_false]
          exact ⟨_, _, Wk.refl _, hw _ _ _, rfl, rfl⟩
        have e5 : errOf true = 0 := rfl
        have hR := fun st : St => cRight_v (p := ⟨a, n⟩) (st := st) hrg.1 hrg.2
        simp only [PF.v] at hR
        simp (config := {maxSteps := 3000000}) only [ops_grd, grd_ff, ops_mv, ops_pick, ops_bin, ops_load, ops_call, ev_t, ev_c, put_get, opv_mk, put_box_same, vpick, vbin, vbinI, vload, takeV, List.map_cons, List.map_nil, List.length_cons, List.length_nil, List.take_succ_cons, List.drop_zero, List.take_nil, true_and, Nat.reduceEqDiff, Nat.reduceAdd, Nat.reduceLeDiff, Int.reduceNeg, Nat.zero_add, ↓reduceIte, decide_false, ne_eq, not_true_eq_false, eq_self, Bool.false_eq_true, e5]
        refine Cal.mk (hR _) ?_
        rintro _ _ ⟨rfl, rfl⟩ -
        cases hr : rightB a n
        · simp (config := {maxSteps := 3000000}) only [run_reg, run_seq, run_ret, run_cond, if_true, at_code_n, at_code_r, at_fin_r, ops_nil, ops_grd, grd_ff, ops_mv, ops_pick, ops_un, ops_bld, ops_store, ev_t, ev_c, put_get, put_none, opv_mk, stb_some, sto_ptr, over_get, Stp, vbld, put_box_same, args0, vpick, vun, vload, takeV, fillV, splice, V.cells, obsOk, List.map_cons, List.map_nil, List.length_cons, List.length_nil, List.take_succ_cons, List.take_zero, List.drop_succ_cons, List.drop_zero, List.nil_append, List.append_nil, List.take_nil, List.drop_nil, and_true, true_and, Nat.reduceEqDiff, Nat.reduceAdd, Nat.reduceLT, Nat.reduceLeDiff, Nat.reduceLT, Int.reduceNeg, Nat.zero_add, ↓reduceIte, vret, rvAll, rvVal, resv_2, Bool.not_false, eq_self, Bool.false_eq_true, List.contains_cons, List.contains_nil, Nat.reduceBEq, Bool.or_false, put_box_ne (Nat.ne_of_lt hbd), Bool.false_eq_true]
          exact ⟨_, _, Wk.refl _, hw _ _ _, rfl, rfl⟩
        · simp (config := {maxSteps := 3000000}) only [run_skip, run_reg, run_seq, run_ret, run_cond, if_false, at_code_n, at_fin_r, ops_nil, ops_grd, grd_ff, ops_mv, ops_pick, ops_un, ops_load, ops_store, ev_t, ev_c, put_get, put_none, opv_mk, stb_some, sto_ptr, over_get, Stp, put_box_same, args0, vpick, vun, vload, takeV, splice, V.cells, obsOk, List.map_cons, List.map_nil, List.length_cons, List.length_nil, List.take_succ_cons, List.take_zero, List.drop_succ_cons, List.drop_zero, List.nil_append, List.append_nil, List.take_nil, List.drop_nil, true_and, Nat.reduceEqDiff, Nat.reduceAdd, Nat.reduceLT, Nat.reduceLeDiff, Nat.reduceLT, Int.reduceNeg, Nat.zero_add, ↓reduceIte, vret, rvAll, rvVal, resv_2, Bool.not_true, eq_self, Bool.false_eq_true, List.contains_cons, List.contains_nil, Nat.reduceBEq, Bool.or_false, put_box_ne (Nat.ne_of_lt hbd), and_self]
          exact ⟨_, _, Wk.refl _, hw _ _ _, rfl, rfl⟩
set_option maxRecDepth 100000 in
set_option maxHeartbeats 2000000 in
theorem rpRead_v (hB : IsB L) (hl : L.length ≤ 1000000) : VCalls Try.prog 19 [.sc (.string (strOf L))] st fun r st' => r = .tup [(pfR L).1.v, .sc (.bool (pfR L).2)] ∧ st = st' := by
  refine vcalls_enter vc19 (Nat.le_of_ble_eq_true rfl) fun hwf hok => ?_
  show Run _ Vc19.body (.fin (finQ Vc19.res _)) _ _
  unfold Vc19
  have hQB : ∀ M ∈ splL 47 L, IsB M := splL_isB hB
  have hsp := fun st : St => split03_v (st := st) (c := 47) hB hl
  have hR := pfR_pf2 L
  have hpart : ∀ M ∈ splL 47 L, M.length ≤ 1000000 := fun M hM => by
    have h1 := splL_part 47 L M hM
    omega
  rw [hR]
  clear hR
  generalize splL 47 L = Q at *
  simp (config := {maxSteps := 3000000}) only [run_reg, run_seq, at_code_n, ops_nil, ops_mv, ops_alc, ops_call, ev_t, ev_c, put_get, opv_mk, args0, List.getD_cons_zero, ptrV, obsOk, List.map_cons, List.map_nil, true_and, ↓reduceIte, eq_self, reduceCtorEq]
  intro b hb
  refine Cal.mk (hsp _) ?_
  rintro r s0 ⟨k1, k2⟩ -
  obtain ⟨tk, rfl⟩ := k1.sl
  have hw0 : st.weak s0 := (weak_put hwf.weak hb).trans k2.weak
  have hbx := (k2.weak.box b _ put_box_same).1
  have hbl : b < s0.sz := k2.lt.box b _ hbx
  by_cases h2 : Q.length = 2
  case neg =>
    rw [pf2_no h2]
    simp (config := {maxSteps := 3000000}) only [run_reg, run_seq, run_ret, run_cond, if_true, at_code_n, at_code_r, at_fin_r, ops_nil, ops_mv, ops_bin, ops_len, ops_bld, ops_store, ev_t, ev_c, put_get, put_none, opv_mk, stb_some, sto_ptr, Stp, vbld, put_box_same, args0, vbin, vbinI, vlen, vload, takeV, fillV, splice, V.cells, obsOk, List.map_cons, List.map_nil, List.length_cons, List.length_nil, List.take_succ_cons, List.take_zero, List.drop_succ_cons, List.drop_zero, List.nil_append, List.append_nil, List.take_nil, List.drop_nil, and_true, true_and, Nat.reduceEqDiff, Nat.reduceAdd, Nat.reduceLT, Nat.reduceLeDiff, Nat.reduceLT, Nat.zero_add, ↓reduceIte, vret, rvAll, rvVal, resv_2, ne_eq, eq_self, ss_len, hbx, decide_eq_true (show ¬ (Q.length : Int) = 2 by omega)]
    exact ⟨_, _, Wk.refl _, weak_put hw0 hb, rfl, rfl⟩
  obtain ⟨A, B, rfl⟩ : ∃ A B, Q = [A, B] := by
    match Q, h2 with
    | [A, B], _ => exact ⟨A, B, rfl⟩
  have hA := fun st : St => rRead_v (st := st) (hQB A (by simp)) (hpart A (by simp))
  have hN := fun st : St => readNum03_v (st := st) (hQB B (by simp))
  have hrg := addrR_rng (hQB A (by simp))
  rw [rdN_eq] at hN
  have hss : ss [A, B] = [.sc (.string (strOf A)), .sc (.string (strOf B))] := rfl
  rw [hss]
  simp only [pf2, pfOf]
  generalize addrR A = qa at *
  generalize rdH B = qn at *
  obtain ⟨a, ok⟩ := qa
  obtain ⟨n, is⟩ := qn
  simp only at hA hN hrg ⊢
  have h22 : ((2 : Nat) : Int) = 2 := rfl
  have hn22 : decide (¬ (2 : Int) = 2) = false := by decide
  simp (config := {maxSteps := 3000000}) only [run_skip, run_reg, run_seq, run_cond, if_false, at_code_n, ops_nil, ops_mv, ops_bin, ops_ix, ops_load, ops_len, ops_call, ev_t, ev_c, put_get, opv_mk, vbin, vbinI, vlen, vix, vload, takeV, V.cells, obsOk, List.map_cons, List.map_nil, List.length_cons, List.length_nil, List.getElem?_cons_zero, and_true, true_and, Nat.reduceEqDiff, Nat.reduceAdd, Int.reduceToNat, Int.reduceLE, Nat.zero_add, ↓reduceIte, decide_false, ne_eq, not_true_eq_false, eq_self, h22]
  refine Cal.mk (hA _) ?_
  rintro _ _ ⟨rfl, rfl⟩ -
  simp (config := {maxSteps := 3000000}) only [run_reg, run_seq, at_code_n, ops_nil, ops_mv, ops_ix, ops_load, ops_ext, ops_call, ev_t, ev_c, put_get, opv_mk, vext, vix, vload, takeV, V.cells, obsOk, List.map_cons, List.map_nil, List.length_cons, List.length_nil, List.getElem?_cons_zero, List.getElem?_cons_succ, and_true, true_and, Nat.reduceEqDiff, Int.reduceToNat, Int.reduceLE, Nat.zero_add, ↓reduceIte, eq_self]
  refine Cal.mk (hN _) ?_
  rintro _ _ ⟨rfl, rfl⟩ -
  simp (config := {maxSteps := 3000000}) only [run_reg, run_seq, at_code_n, ops_nil, ops_grd, ops_mv, ops_un, ops_ext, ops_bld, ops_alc, ops_store, ev_t, put_get, put_none, opv_mk, stb_some, sto_ptr, Stp, vbld, put_box_same, put_put, vun, vext, fillV, splice, V.cells, ptrV, obsOk, List.map_cons, List.map_nil, List.length_cons, List.length_nil, List.getElem?_cons_zero, List.getElem?_cons_succ, List.take_succ_cons, List.take_zero, List.drop_succ_cons, List.drop_zero, List.cons_append, List.nil_append, List.append_nil, List.drop_nil, and_true, true_and, Nat.reduceEqDiff, Nat.reduceAdd, Nat.reduceLT, Nat.reduceLeDiff, Nat.reduceLT, Nat.zero_add, ↓reduceIte, eq_self]
  intro d hd
  have hd1 : st.sz ≤ d := by have := hw0.sz; omega
  have hbd : b < d := by omega
  have hw := fun ds es : List V => weak_put (cs := es) (weak_put (cs := ds) hw0 hd1) hb
  cases ok
  · simp (config := {maxSteps := 3000000}) only [run_reg, run_seq, run_ret, run_cond, if_true, at_code_n, at_code_r, at_fin_r, ops_nil, ops_grd, grd_tf, ops_mv, ops_pick, ops_bld, ops_store, ev_t, ev_c, put_get, put_none, opv_mk, stb_some, sto_ptr, Stp, vbld, put_box_same, args0, vpick, vload, takeV, fillV, splice, V.cells, obsOk, List.map_cons, List.map_nil, List.length_cons, List.length_nil, List.take_succ_cons, List.take_zero, List.drop_succ_cons, List.drop_zero, List.nil_append, List.append_nil, List.take_nil, List.drop_nil, and_true, true_and, Nat.reduceEqDiff, Nat.reduceAdd, Nat.reduceLT, Nat.reduceLeDiff, Nat.reduceLT, Nat.zero_add, ↓reduceIte, vret, rvAll, rvVal, resv_2, Bool.not_false, eq_self, Bool.false_eq_true, hbx, put_box_ne (Nat.ne_of_lt hbd), Bool.false_eq_true, false_and]
    exact ⟨_, _, Wk.refl _, hw _ _, rfl, rfl⟩
  cases is
  · simp (config := {maxSteps := 3000000}) only [run_reg, run_seq, run_ret, run_cond, if_true, at_code_n, at_code_r, at_fin_r, ops_nil, ops_grd, grd_ff, grd_tf, ops_mv, ops_pick, ops_un, ops_bld, ops_store, ev_t, ev_c, put_get, put_none, opv_mk, stb_some, sto_ptr, Stp, vbld, put_box_same, args0, vpick, vun, vload, takeV, fillV, splice, V.cells, obsOk, List.map_cons, List.map_nil, List.length_cons, List.length_nil, List.take_succ_cons, List.take_zero, List.drop_succ_cons, List.drop_zero, List.nil_append, List.append_nil, List.take_nil, List.drop_nil, and_true, true_and, Nat.reduceEqDiff, Nat.reduceAdd, Nat.reduceLT, Nat.reduceLeDiff, Nat.reduceLT, Nat.zero_add, ↓reduceIte, vret, rvAll, rvVal, resv_2, Bool.not_true, Bool.not_false, eq_self, Bool.false_eq_true, hbx, put_box_ne (Nat.ne_of_lt hbd), Bool.false_eq_true, false_and, and_false]
    exact ⟨_, _, Wk.refl _, hw _ _, rfl, rfl⟩
  have hR := fun st : St => rRight_v (p := ⟨a, n⟩) (st := st) hrg.1 hrg.2
  simp only [PF.v] at hR
  simp (config := {maxSteps := 3000000}) only [ops_grd, grd_ff, ops_mv, ops_pick, ops_un, ops_load, ops_call, ev_t, put_get, opv_mk, put_box_same, vpick, vun, vload, takeV, List.map_cons, List.map_nil, List.length_cons, List.length_nil, List.take_succ_cons, List.drop_zero, List.take_nil, true_and, Nat.reduceEqDiff, Nat.reduceAdd, Nat.reduceLeDiff, Nat.zero_add, ↓reduceIte, Bool.not_true, eq_self, Bool.false_eq_true]
  refine Cal.mk (hR _) ?_
  rintro _ _ ⟨rfl, rfl⟩ -
  cases hr : rightB a n
  · simp (config := {maxSteps := 3000000}) only [run_reg, run_seq, run_ret, run_cond, if_true, at_code_n, at_code_r, at_fin_r, ops_nil, ops_grd, grd_ff, ops_mv, ops_pick, ops_un, ops_bld, ops_store, ev_t, ev_c, put_get, put_none, opv_mk, stb_some, sto_ptr, Stp, vbld, put_box_same, args0, vpick, vun, vload, takeV, fillV, splice, V.cells, obsOk, List.map_cons, List.map_nil, List.length_cons, List.length_nil, List.take_succ_cons, List.take_zero, List.drop_succ_cons, List.drop_zero, List.nil_append, List.append_nil, List.take_nil, List.drop_nil, and_true, true_and, Nat.reduceEqDiff, Nat.reduceAdd, Nat.reduceLT, Nat.reduceLeDiff, Nat.reduceLT, Nat.zero_add, ↓reduceIte, vret, rvAll, rvVal, resv_2, Bool.not_false, eq_self, Bool.false_eq_true, hbx, put_box_ne (Nat.ne_of_lt hbd), Bool.false_eq_true]
    exact ⟨_, _, Wk.refl _, hw _ _, rfl, rfl⟩
  · simp (config := {maxSteps := 3000000}) only [run_skip, run_reg, run_seq, run_ret, run_cond, if_false, at_code_n, at_fin_r, ops_nil, ops_grd, grd_ff, ops_mv, ops_pick, ops_un, ops_load, ops_store, ev_t, ev_c, put_get, put_none, opv_mk, stb_some, sto_ptr, Stp, put_box_same, args0, vpick, vun, vload, takeV, splice, V.cells, obsOk, List.map_cons, List.map_nil, List.length_cons, List.length_nil, List.take_succ_cons, List.take_zero, List.drop_succ_cons, List.drop_zero, List.nil_append, List.append_nil, List.take_nil, List.drop_nil, true_and, Nat.reduceEqDiff, Nat.reduceAdd, Nat.reduceLT, Nat.reduceLeDiff, Nat.reduceLT, Nat.zero_add, ↓reduceIte, vret, rvAll, rvVal, resv_2, Bool.not_true, eq_self, Bool.false_eq_true, hbx, put_box_ne (Nat.ne_of_lt hbd), and_self]
    exact ⟨_, _, Wk.refl _, hw _ _, rfl, rfl⟩
end
end Go.Proofs.Ytmomebkfaibmgaa
