/- The document's All, and stream.Feed: contracts. -/
import Derived.Test.YtogkdcbcmhhhcaaVStrm
namespace Go.Proofs.Ytogkdcbcmhhhcaa
open Go

theorem New.put {st s : St} {r : V} {d : Nat} {cs : List V} (h : New st s r) (hd : s.sz ≤ d) : New st (s.put d cs) r :=
  ⟨weak_put h.weak (by have := h.weak.sz; omega), h.lt.put, h.tok⟩
theorem Wk.tup3 {a a' : V} {x y : Value} (h : Wk a a') : Wk (.tup [a, .sc x, .sc y]) (.tup [a', .sc x, .sc y]) := fun G v hv => by
  cases hv with
  | tup _ vs hl hg =>
    refine .tup _ vs hl fun i c u hc hu => ?_
    match i, hc with
    | 0, hc => simp at hc; subst hc; exact h _ _ (hg 0 _ u rfl hu)
    | 1, hc => simp at hc; subst hc; exact hg 1 _ u rfl hu
    | 2, hc => simp at hc; subst hc; exact hg 2 _ u rfl hu
def slen : V → Nat
  | .sl _ l => l.length
  | _ => 0
theorem slen_bs {tk : Tk} (L : List Int) : slen (.sl tk (bs L)) = L.length := bs_len L
section
variable {tk : Tk} {st : St} {P : List Int}
theorem rAll_v (hB : IsB P) (hl : P.length ≤ 1000000) : VCalls Try.prog 46 [.sl tk (bs P)] st fun r st' => r = .tup [.sl .no (mv (scan P).1), .sc (.int .i64 (scan P).2.1.length), .sc (.int .i64 (scan P).2.2)] ∧ st = st' := by
  refine vcalls_enter vc46 (Nat.le_of_ble_eq_true rfl) fun hwf hok => ?_
  show Run _ Vc46.body (.fin (finQ Vc46.res _)) _ _
  unfold Vc46
  obtain ⟨S, hS⟩ : ∃ S, scan P = S := ⟨_, rfl⟩
  rw [hS]
  simp (config := {maxSteps := 3000000}) only [run_reg, run_seq, run_blk, at_code_n, ops_nil, ops_mv, ev_c, opv_mk, true_and]
  refine run_loop [0, 2, 3, 4, 5, 6, 7, 8, 9, 10, 11, 12, 13, 14, 15, 16, 17, 18, 19, 20, 21, 22, 23, 24, 25, 26, 27, 28, 29, 30, 31, 32, 33, 34, 35, 36, 37, 38, 39, 40, 41, 42, 43, 44, 45, 46, 47, 48, 49, 50, 51, 52, 53, 54] (fun B s => ∃ (P' : List Int) (ms : List MB) (tk' : Tk), B 0 = .sl tk' (bs P') ∧ IsB P' ∧ P'.length + 12 * ms.length ≤ P.length ∧ Own 13 s (B 5) (mv ms) ∧ New st s (B 5) ∧ (∀ m ∈ ms, Sz m) ∧ S = (ms ++ (scan P').1, (scan P').2)) (fun B _ => slen (B 0)) rfl ?_ ?_
  · simp (config := {maxSteps := 3000000}) only [put_get, args0, List.getD_cons_zero, ↓reduceIte, eq_self, reduceCtorEq]
    exact ⟨P, [], tk, rfl, hB, by simp, .inl ⟨rfl, rfl⟩, .nil hwf.weak hwf.lt, (by intro m hm; cases hm), by rw [← hS]; rfl⟩
  · rintro B s ⟨P', ms, tk', h0, hB', hlen, ho, hn, hms, hs⟩
    obtain ⟨tk5, h5⟩ := ho.sl
    rw [h5] at ho hn
    have hbs := slen_bs (tk := tk') P'
    simp (config := {maxSteps := 3000000}) only [run_reg, run_seq, run_blk, ops_mv, ops_call, ev_t, put_get, opv_mk, over_get, List.map_cons, List.map_nil, true_and, ↓reduceIte, eq_self, List.contains_cons, List.contains_nil, Nat.reduceBEq, Bool.or_false, h0]
    refine Cal.mk (rEarly_v hB' (by omega)) ?_
    rintro _ _ ⟨rfl, rfl⟩ -
    by_cases c1 : earlyL P' = 0
    case neg =>
      rw [scan_err c1, List.append_nil] at hs
      rw [hs]
      simp (config := {maxSteps := 3000000}) only [run_reg, run_seq, run_ret, run_cond, if_true, at_code_n, at_code_r, at_blk_r, at_rnd_r, at_fin_r, ops_nil, ops_mv, ops_bin, ops_len, ev_t, ev_c, put_get, opv_mk, over_get, args0, vbin, vbinI, vlen, vload, takeV, V.cells, obsOk, List.map_cons, List.map_nil, and_true, true_and, Nat.reduceEqDiff, ↓reduceIte, vret, rvAll, rvVal, resv_2, ne_eq, eq_self, reduceCtorEq, List.contains_cons, List.contains_nil, Nat.reduceBEq, Bool.or_false, Bool.or_true, h0, h5, bs_len, decide_eq_true c1]
      exact ⟨_, _, Wk.tup3 Wk.no, hn.weak, rfl, rfl⟩
    have c1' := decide_eq_false (show ¬ ¬ earlyL P' = 0 from fun h => h c1)
    by_cases c2 : P'.length < 2
    · rw [scan_short c1 (by omega), List.append_nil] at hs
      rw [hs]
      simp (config := {maxSteps := 3000000}) only [run_skip, run_reg, run_seq, run_ret, run_cond, if_true, if_false, at_code_n, at_code_r, at_blk_r, at_rnd_r, at_fin_r, ops_nil, ops_mv, ops_bin, ops_len, ev_t, ev_c, put_get, opv_mk, over_get, args0, vbin, vbinI, vlen, vload, takeV, V.cells, obsOk, List.map_cons, List.map_nil, and_true, true_and, Nat.reduceEqDiff, ↓reduceIte, vret, rvAll, rvVal, resv_2, ne_eq, eq_self, reduceCtorEq, List.contains_cons, List.contains_nil, Nat.reduceBEq, Bool.or_false, Bool.or_true, h0, h5, bs_len, c1', decide_eq_true (show (P'.length : Int) < 2 by omega)]
      exact ⟨_, _, Wk.tup3 Wk.no, hn.weak, rfl, rfl⟩
    have hsz := early_size c1 (by omega)
    have r0 := num2_rng0 hB'
    simp (config := {maxSteps := 3000000}) only [run_skip, run_reg, run_seq, run_cond, if_false, at_code_n, ops_nil, ops_mv, ops_bin, ops_len, ops_slc, ops_call, ev_t, ev_c, put_get, opv_mk, over_get, vbin, vbinI, vlen, vslc, obsOk, List.map_cons, List.map_nil, Option.map_some, Option.map_none, true_and, Int.reduceToNat, Int.reduceLE, ↓reduceIte, ne_eq, eq_self, reduceCtorEq, List.contains_cons, List.contains_nil, Nat.reduceBEq, Bool.or_false, h0, bs_len, c1', decide_eq_false (show ¬ (P'.length : Int) < 2 by omega), bs_take, allSz_bs']
    repeat (apply And.intro; focus (first | omega | (simp; done)))
    refine Cal.mk (rNum_v (hB'.take _) (by simp; omega)) ?_
    rintro _ _ ⟨rfl, rfl⟩ -
    by_cases c3 : (P'.length : Int) < numL (P'.take 2)
    · rw [scan_short c1 (by omega), List.append_nil] at hs
      rw [hs]
      simp (config := {maxSteps := 3000000}) only [run_reg, run_seq, run_ret, run_cond, if_true, at_code_n, at_code_r, at_blk_r, at_rnd_r, at_fin_r, ops_nil, ops_mv, ops_bin, ops_conv, ops_len, ev_t, ev_c, put_get, opv_mk, over_get, args0, vbin, vbinI, vconv, norm, vlen, vload, takeV, V.cells, obsOk, List.map_cons, List.map_nil, and_true, true_and, Nat.reduceEqDiff, Int.reduceNeg, ↓reduceIte, vret, rvAll, rvVal, resv_2, eq_self, reduceCtorEq, List.contains_cons, List.contains_nil, Nat.reduceBEq, Bool.or_false, Bool.or_true, h0, h5, bs_len, decide_eq_true c3]
      repeat (apply And.intro; focus (first | omega | (simp; done)))
      exact ⟨_, _, Wk.tup3 Wk.no, hn.weak, rfl, rfl⟩
    have hnot : ¬ (P'.length < 12 ∨ (P'.length : Int) < numL (P'.take 2)) := by omega
    obtain ⟨b1, b2, b3⟩ := size_bound c1 hnot
    have hnz : numL (P'.take 2) = (sizeP P' : Int) := by unfold sizeP; omega
    have hszm := parseM_sz (hB'.take (sizeP P')) (by simp; omega)
    have hC13 : (parseM (P'.take (sizeP P'))).1.cells.length = 13 := MB.len hszm.1 hszm.2
    have htk : (parseM (P'.take (sizeP P'))).1.cells.take 13 = (parseM (P'.take (sizeP P'))).1.cells := List.take_of_length_le (by omega)
    have hstr := MB.strip (parseM (P'.take (sizeP P'))).1
    have hv : (parseM (P'.take (sizeP P'))).1.v = .agg (parseM (P'.take (sizeP P'))).1.cells := rfl
    have hpp := fun st : St => refParse_v (tk := .no) (st := st) (hB'.take (sizeP P')) (by simp; omega)
    rw [hnz] at c3 ⊢
    generalize hM : (parseM (P'.take (sizeP P'))).1 = M at *
    generalize hE : (parseM (P'.take (sizeP P'))).2 = E at *
    rw [hv] at hpp
    generalize hC : M.cells = C at *
    have hdr : C.drop 13 = [] := List.drop_of_length_le (by omega)
    simp (config := {maxSteps := 3000000}) only [run_skip, run_reg, run_seq, run_cond, if_false, at_code_n, ops_nil, ops_mv, ops_bin, ops_conv, ops_len, ops_slc, ops_call, ev_t, put_get, opv_mk, over_get, vbin, vbinI, vconv, norm, vlen, vslc, obsOk, List.map_cons, List.map_nil, Option.map_some, Option.map_none, true_and, Nat.reduceEqDiff, Int.toNat_natCast, Int.reduceNeg, ↓reduceIte, eq_self, reduceCtorEq, List.contains_cons, List.contains_nil, Nat.reduceBEq, Bool.or_false, h0, bs_len, decide_eq_false c3, bs_take, allSz_bs']
    repeat (apply And.intro; focus (first | omega | (simp; done)))
    refine Cal.mk (hpp _) ?_
    rintro _ _ ⟨rfl, rfl⟩ -
    simp (config := {maxSteps := 3000000}) only [run_reg, run_seq, run_cond, at_code_n, ops_nil, ops_mv, ops_bin, ops_ext, ops_alc, ops_store, ev_t, ev_c, put_get, put_none, opv_mk, stb_some, sto_ptr, Stp, put_box_same, put_put, vbin, vbinI, vext, splice, V.cells, ptrV, obsOk, List.length_cons, List.length_nil, List.getElem?_cons_zero, List.getElem?_cons_succ, List.take_zero, List.nil_append, true_and, Nat.reduceEqDiff, Nat.reduceAdd, Nat.reduceLT, Nat.reduceLeDiff, Nat.reduceLT, Nat.zero_add, ↓reduceIte, ne_eq, eq_self]
    intro d hd
    by_cases c4 : E = 0
    case neg =>
      rw [scan_bad c1 hnot (by rw [hE]; exact c4), List.append_nil, hE] at hs
      rw [hs]
      simp (config := {maxSteps := 3000000}) only [run_reg, run_seq, run_ret, if_true, at_code_n, at_code_r, at_blk_r, at_rnd_r, at_fin_r, ops_nil, ops_mv, ops_len, ev_t, put_get, opv_mk, over_get, args0, vlen, vload, takeV, V.cells, List.map_cons, List.map_nil, List.drop_succ_cons, List.append_nil, List.drop_nil, and_true, true_and, Nat.reduceEqDiff, ↓reduceIte, vret, rvAll, rvVal, resv_2, eq_self, reduceCtorEq, List.contains_cons, List.contains_nil, Nat.reduceBEq, Bool.or_false, Bool.or_true, h0, h5, bs_len, hC13, decide_eq_true c4]
      exact ⟨_, _, Wk.tup3 Wk.no, weak_put hn.weak (by have := hn.weak.sz; omega), rfl, rfl⟩
    have hn2 := hn.put (cs := C) hd
    have ho2 : Own 13 (s.put d C) (.sl tk5 (mv ms)) (mv ms) := ho.put
    simp (config := {maxSteps := 3000000}) only [run_skip, run_reg, run_seq, if_false, at_code_n, ops_mv, ops_load, ops_bsl, ops_app, ev_t, put_get, opv_mk, over_get, vbsl, put_box_same, vload, takeV, V.cells, strip, strip1, allLen, List.map_cons, List.map_nil, List.drop_succ_cons, List.drop_zero, List.append_nil, List.drop_nil, and_true, true_and, Nat.reduceEqDiff, Nat.reduceLeDiff, Nat.zero_add, ↓reduceIte, eq_self, List.contains_cons, List.contains_nil, Nat.reduceBEq, Bool.or_false, Bool.or_true, h5, hC13, htk, hstr, decide_eq_false (show ¬ ¬ E = 0 from fun h => h c4)]
    repeat (apply And.intro; focus (first | omega | (simp; done)))
    refine App.mk (l := mv ms) ho2 (ys := [V.agg C]) (by intro x hx; simp at hx; subst hx; exact hC13) (by rw [mv_len]; simp [maxLen]; omega) (by rw [mv_len]; simp; omega) ?_
    intro r1 s1 k1 k2
    have k1' : Own 13 s1 r1 (mv (ms ++ [M])) := by
      rw [← mv_append]
      have : mv [M] = [V.agg C] := by rw [← hC]; rfl
      rw [this]; exact k1
    rw [scan_cons c1 hnot (by rw [hE]; exact c4), hM] at hs
    simp (config := {maxSteps := 3000000}) only [run_reg, at_code_n, at_blk_n, at_rnd_n, ops_nil, ops_mv, ops_slc, ev_t, put_get, opv_mk, over_get, rel_mk, vslc, obsOk, Option.map_some, Option.map_none, true_and, Nat.reduceEqDiff, Int.toNat_natCast, ↓reduceIte, eq_self, reduceCtorEq, List.contains_cons, List.contains_nil, Nat.reduceBEq, Bool.or_false, h0, bs_len, bs_drop, allSz_bs', slen_bs, hbs]
    repeat (apply And.intro; focus (first | omega | (simp; done)))
    refine ⟨⟨P'.drop (sizeP P'), ms ++ [M], .no, rfl, hB'.drop _, by simp; omega, k1', hn2.app k2, ?_, by rw [hs]; simp⟩, ?_⟩
    · intro m hm
      rcases List.mem_append.1 hm with hm | hm
      · exact hms m hm
      · simp at hm; subst hm; exact hszm
    · simp; omega
end
end Go.Proofs.Ytogkdcbcmhhhcaa
