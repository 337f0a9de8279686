/- The fewest prefixes between two addresses, and the example: contracts. -/
import Derived.Test.YtmomebkfaibmgaaVText7
import Derived.Test.YtmomebkfaibmgaaCoverLaw
namespace Go.Proofs.Ytmomebkfaibmgaa
open Go

/-- Prefixes as a slice's elements. -/
def pws (L : List (Int × Int)) : List V := L.map fun p => V.agg [.sc (.int .u32 p.1), .sc (.int .i64 p.2)]
theorem pws_len (L : List (Int × Int)) : (pws L).length = L.length := by simp [pws]
theorem pws_append (L M : List (Int × Int)) : pws L ++ pws M = pws (L ++ M) := by simp [pws]
theorem allSz_pws : ∀ L : List (Int × Int), allSz 2 (pws L)
  | [] => by simp [pws, allSz]
  | p :: L => by
    have := allSz_pws L
    simp only [pws, List.map_cons, allSz, List.mem_cons, forall_eq_or_imp] at this ⊢
    exact ⟨rfl, this⟩
/-- A row of structs of the call's own, beside the caller's boxes. -/
structure RS (n : Nat) (base s : St) (r : V) (l : List V) : Prop where
  own : Own n s r l
  weak : base.weak s
  lt : s.Lt
  tok : ∀ g k l', r = .sl (.own g k) l' → base.sz ≤ g
theorem RS.put {n : Nat} {base s : St} {r : V} {l : List V} (h : RS n base s r l) {c : Nat} {cs : List V} (hc : s.sz ≤ c) : RS n base (s.put c cs) r l :=
  ⟨h.own.put, weak_put h.weak (by have := h.weak.sz; omega), h.lt.put, h.tok⟩
theorem RS.app {n : Nat} {base s s' : St} {x r : V} {l l' : List V} (h : RS n base s x l) (ho : Own n s' r l') (k : AppSt s x s' r) : RS n base s' r l' :=
  ⟨ho, k.keeps h.weak h.tok, h.lt.app k, k.fresh h.weak.sz h.tok⟩
theorem u32s : (if IntKind.u32.signed = true then (-1 : Int) else IntKind.u32.max) = 4294967295 := rfl
theorem or_lowB {f b : Int} (h0 : 0 ≤ f) (h1 : f < 4294967296) (hb0 : 0 ≤ b) (hb1 : b ≤ 32) (hm : f % sizeN b = 0) : ibit .or .u32 f (ibit .xor .u32 4294967295 (maskN b)) = f + (sizeN b - 1) := last_at f b h0 h1 hb0 hb1 hm
section
variable {tk tk' : Tk} {st : St}
theorem Of_v {a b : Int} (h0 : 0 ≤ a) (h1 : a < 4294967296) (hb0 : 0 ≤ b) (hb1 : b ≤ 32) : VCalls Try.prog 58 [.sc (.int .u32 a), .sc (.int .i64 b)] st fun r st' => r = .agg [.sc (.int .u32 (a - a % sizeN b)), .sc (.int .i64 b)] ∧ st = st' := by
  have hm := and_mask a b h0 h1 hb0 hb1
  refine vcalls_enter vc58 (Nat.le_of_ble_eq_true rfl) fun hwf hok => ?_
  show Run _ Vc58.body (.fin (finQ Vc58.res _)) _ _
  unfold Vc58
  have e1 : min (max b 0) 32 = b := by omega
  simp (config := {maxSteps := 3000000}) only [run_reg, run_seq, at_code_n, ops_nil, ops_mv, ops_alc, ops_call, ev_t, put_get, opv_mk, args0, List.getD_cons_zero, List.getD_cons_succ, ptrV, obsOk, List.map_cons, List.map_nil, true_and, Nat.reduceEqDiff, ↓reduceIte, eq_self, reduceCtorEq]
  intro c hc
  refine Cal.mk (mask_v hb0 hb1) ?_
  rintro _ _ ⟨rfl, rfl⟩ -
  simp (config := {maxSteps := 3000000}) only [run_ret, at_code_n, at_fin_r, ops_nil, ops_mv, ops_bin, ops_mn, ops_mx, ops_bld, ops_store, ev_t, ev_c, put_get, put_none, opv_mk, stb_some, sto_ptr, Stp, vbld, put_box_same, put_put, args0, List.getD_cons_zero, List.getD_cons_succ, vbin, vbinI, vmm, vload, takeV, fillV, splice, V.cells, obsOk, List.map_cons, List.map_nil, List.length_cons, List.length_nil, List.take_succ_cons, List.take_zero, List.drop_succ_cons, List.drop_zero, List.cons_append, List.nil_append, List.append_nil, List.take_nil, List.drop_nil, and_true, true_and, Nat.reduceEqDiff, Nat.reduceAdd, Nat.reduceLT, Nat.reduceLeDiff, Nat.reduceLT, Nat.zero_add, ↓reduceIte, vret, rvAll, rvVal, resv_1, eq_self, Bool.false_eq_true, ibit_and, hm, e1]
  exact ⟨_, _, Wk.refl _, weak_put hwf.weak hc, rfl, rfl⟩
set_option maxRecDepth 100000 in
set_option maxHeartbeats 4000000 in
theorem Cover_v {f0 t : Int} (h0 : 0 ≤ f0) (h1 : f0 < 4294967296) (h2 : 0 ≤ t) (h3 : t < 4294967296) : VCalls Try.prog 44 [.sc (.int .u32 f0), .sc (.int .u32 t)] st fun r st' => r = .sl .no (pws (coverL f0 t)) ∧ st = st' := by
  refine vcalls_enter vc44 (Nat.le_of_ble_eq_true rfl) fun hwf hok => ?_
  show Run _ Vc44.body (.fin (finQ Vc44.res _)) _ _
  unfold Vc44
  simp (config := {maxSteps := 3000000}) only [run_reg, run_seq, run_blk, at_code_n, ops_nil, ops_mv, ev_c, opv_mk, true_and]
  have R0 : RS 2 st st (.sl .nil []) (pws []) := ⟨.inl ⟨rfl, rfl⟩, hwf.weak, hwf.lt, fun g k l e => by cases e⟩
  refine run_loop [0, 5, 6, 7, 8, 9, 10, 11, 12, 13, 14, 15, 16, 17, 18, 19, 20, 21, 22, 23, 24, 25, 26, 27, 28, 29, 30, 31, 32, 33, 34, 35, 36, 37, 38, 39, 40, 41, 42, 43, 44, 45, 46, 47, 48] (fun B s => ∃ (f : Int) (acc : List (Int × Int)) (r : V), B 0 = .sc (.int .u32 f) ∧ f0 ≤ f ∧ f ≤ 4294967295 ∧ B 5 = r ∧ RS 2 st s r (pws acc) ∧ (acc.length : Int) ≤ f - f0 ∧ acc ++ coverL f t = coverL f0 t) (fun B _ => 4294967296 - vnat (B 0)) rfl ?_ ?_
  · simp (config := {maxSteps := 3000000}) only [put_get, args0, List.getD_cons_zero, ↓reduceIte, eq_self, reduceCtorEq]
    exact ⟨f0, [], _, rfl, by omega, by omega, rfl, R0, by simp, by simp⟩
  · rintro B s ⟨f, acc, r, hf, hf0, hf1, h5, hr, hlen, hacc⟩
    by_cases hft : f ≤ t
    case neg =>
      simp (config := {maxSteps := 3000000}) only [run_reg, run_seq, run_exit, run_ret, run_cond, if_false, at_code_n, at_code_x, at_blk_x, at_rnd_x, at_fin_r, ops_nil, ops_mv, ops_bin, ev_t, put_get, opv_mk, over_get, vnat, args0, List.getD_cons_zero, List.getD_cons_succ, vbin, vbinI, and_true, true_and, Nat.reduceEqDiff, ↓reduceIte, vret, rvAll, rvVal, resv_1, eq_self, Bool.false_eq_true, List.contains_cons, List.contains_nil, Nat.reduceBEq, Bool.or_false, Bool.or_true, hf, decide_eq_false hft]
      rw [coverL_end (by omega), List.append_nil] at hacc
      subst hacc
      obtain ⟨tk9, h9⟩ := hr.own.sl
      rw [h5, h9]
      exact ⟨_, _, Wk.no, hr.weak, rfl, rfl⟩
    obtain ⟨b0, b32⟩ := bits_range hft
    simp (config := {maxSteps := 3000000}) only [run_skip, run_reg, run_seq, run_blk, run_cond, if_true, at_code_n, ops_nil, ops_mv, ops_bin, ev_t, ev_c, put_get, opv_mk, over_get, vnat, args0, List.getD_cons_zero, List.getD_cons_succ, vbin, vbinI, true_and, Nat.reduceEqDiff, ↓reduceIte, eq_self, Bool.false_eq_true, List.contains_cons, List.contains_nil, Nat.reduceBEq, Bool.or_false, hf, decide_eq_true hft]
    refine run_loop [6, 7, 12, 13, 14, 15, 16, 17, 18, 19, 20, 21, 22, 23, 24, 25, 26, 27, 28, 29, 30, 31, 32, 33] (fun C s' => ∃ b : Int, C 6 = .sc (.int .i64 b) ∧ bitsOf f t ≤ b ∧ b ≤ 32 ∧ RS 2 st s' r (pws acc)) (fun C _ => vnat (C 6)) rfl ?_ ?_
    · simp (config := {maxSteps := 3000000}) only [put_get, ↓reduceIte, eq_self]
      exact ⟨32, rfl, by omega, by omega, hr⟩
    · rintro C s' ⟨b, hb, hb1, hb2, hr'⟩
      by_cases hgt : bitsOf f t < b
      · have hok := bits_go hgt hb2 hft
        simp only [okB, decide_eq_true_eq] at hok
        obtain ⟨hm, hle⟩ := hok
        have hO := fun st : St => Of_v (st := st) (a := f) (b := b - 1) (by omega) (by omega) (by omega) (by omega)
        have hM := fun st : St => mask_v (st := st) (b := b - 1) (by omega) (by omega)
        have hor := or_lowB (f := f) (b := b - 1) (by omega) (by omega) (by omega) (by omega) hm
        rw [hm, Int.sub_zero] at hO
        have hd : decide (f + (sizeN (b - 1) - 1) > t) = false := by simp; omega
        simp (config := {maxSteps := 3000000}) only [run_skip, run_reg, run_seq, run_blk, run_cond, if_true, at_code_n, ops_nil, ops_mv, ops_bin, ops_call, ev_t, ev_c, put_get, opv_mk, over_get, vnat, vbin, vbinI, norm, List.map_cons, List.map_nil, true_and, Nat.reduceEqDiff, Int.reduceNeg, ↓reduceIte, eq_self, reduceCtorEq, Bool.false_eq_true, List.contains_cons, List.contains_nil, Nat.reduceBEq, Bool.or_false, hf, hb, decide_eq_true (show b > 0 by omega)]
        repeat (apply And.intro; focus (first | omega | (simp; done)))
        refine Cal.mk (hO _) ?_
        rintro _ _ ⟨rfl, rfl⟩ -
        simp (config := {maxSteps := 3000000}) only [run_reg, run_seq, at_code_n, ops_nil, ops_mv, ops_bin, ops_fld, ops_load, ops_alc, ops_store, ev_t, put_get, put_none, opv_mk, stb_some, sto_ptr, over_get, Stp, put_box_same, put_put, vbin, vbinI, vbinS, vfld, vload, takeV, splice, V.cells, ptrV, obsOk, List.length_cons, List.length_nil, List.getElem?_cons_zero, List.take_zero, List.drop_succ_cons, List.nil_append, List.append_nil, List.drop_nil, true_and, Nat.reduceEqDiff, Nat.reduceAdd, Nat.reduceLT, Nat.reduceLeDiff, Nat.reduceLT, Nat.zero_add, Nat.add_zero, ↓reduceIte, ne_eq, eq_self, reduceCtorEq, Bool.false_eq_true, List.contains_cons, List.contains_nil, Nat.reduceBEq, Bool.or_false]
        intro c hc
        simp (config := {maxSteps := 3000000}) only [ops_grd, grd_ff, ops_mv, ops_bin, ops_call, ev_t, ev_c, put_get, opv_mk, over_get, vbin, vbinI, norm, List.map_cons, List.map_nil, true_and, Nat.reduceEqDiff, Int.reduceNeg, ↓reduceIte, decide_false, not_true_eq_false, eq_self, reduceCtorEq, Bool.false_eq_true, List.contains_cons, List.contains_nil, Nat.reduceBEq, Bool.or_false, hf, hb]
        repeat (apply And.intro; focus (first | omega | (simp; done)))
        refine Cal.mk (hM _) ?_
        rintro _ _ ⟨rfl, rfl⟩ -
        simp (config := {maxSteps := 3000000}) only [run_skip, run_reg, run_cond, if_false, at_code_n, at_blk_n, at_rnd_n, ops_nil, ops_grd, grd_ff, ops_mv, ops_pick, ops_bin, ops_un, ev_t, ev_c, put_get, opv_mk, over_get, rel_mk, args0, List.getD_cons_zero, List.getD_cons_succ, vpick, vbin, vbinI, vun, norm, obsOk, true_and, Nat.reduceEqDiff, Int.reduceNeg, ↓reduceIte, eq_self, Bool.false_eq_true, List.contains_cons, List.contains_nil, Nat.reduceBEq, Bool.or_false, hb, u32s, hor, hd]
        repeat (apply And.intro; focus (first | omega | (simp; done)))
        exact ⟨⟨b - 1, by simp, by omega, by omega, hr'.put hc⟩, by omega⟩
      · obtain rfl : b = bitsOf f t := by omega
        obtain ⟨hok, hno⟩ := bits_at (by omega) rfl hft
        simp only [okB, decide_eq_true_eq] at hok
        obtain ⟨hm, hle⟩ := hok
        have hor := or_lowB (f := f) (b := bitsOf f t) (by omega) (by omega) (by omega) (by omega) hm
        have hMb := fun st : St => mask_v (st := st) (b := bitsOf f t) (by omega) (by omega)
        have hsp := sizeN_pos (bitsOf f t)
        have hnext : (acc ++ [(f, bitsOf f t)]) ++ coverL (f + sizeN (bitsOf f t)) t = coverL f0 t := by
          rw [← hacc, coverL_step hft]
          simp
        have hmod : (f + (sizeN (bitsOf f t) - 1) + 1) = f + sizeN (bitsOf f t) := by omega
        by_cases hz : bitsOf f t > 0
        case neg =>
          simp (config := {maxSteps := 3000000}) only [run_reg, run_seq, run_exit, run_cond, if_false, at_code_n, at_code_x, at_blk_x, at_rnd_x, ops_nil, ops_mv, ops_bin, ops_bld, ops_bsl, ops_app, ev_t, ev_c, put_get, opv_mk, over_get, vnat, vbld, vbsl, vbin, vbinI, fillV, splice, V.cells, strip, strip1, allLen, List.map_cons, List.map_nil, List.length_cons, List.length_nil, List.take_succ_cons, List.take_zero, List.drop_succ_cons, List.drop_zero, List.cons_append, List.nil_append, List.append_nil, List.drop_nil, and_true, true_and, Nat.reduceEqDiff, Nat.reduceAdd, Nat.reduceLT, Nat.reduceLeDiff, Nat.reduceLT, Nat.zero_add, ↓reduceIte, eq_self, reduceCtorEq, Bool.false_eq_true, List.contains_cons, List.contains_nil, Nat.reduceBEq, Bool.or_false, Bool.or_true, hf, hb, decide_eq_false hz]
          simp (config := {maxSteps := 3000000}) only [h5]
          refine App.mk (l := pws acc) (ys := pws [(f, bitsOf f t)]) (hr').own (allSz_pws _) (by simp only [pws_len, List.length_cons, List.length_nil, maxLen]; omega) (by simp only [pws_len, List.length_cons, List.length_nil]; omega) ?_
          intro r2 s2 k1 k2
          rw [pws_append] at k1
          have R2 := (hr').app k1 k2
          simp (config := {maxSteps := 3000000}) only [run_reg, run_seq, at_code_n, ops_nil, ops_mv, ops_call, ev_t, put_get, opv_mk, over_get, obsOk, List.map_cons, List.map_nil, true_and, Nat.reduceEqDiff, ↓reduceIte, eq_self, reduceCtorEq, Bool.false_eq_true, List.contains_cons, List.contains_nil, Nat.reduceBEq, Bool.or_false, hf, hb]
          refine Cal.mk (hMb _) ?_
          rintro _ _ ⟨rfl, rfl⟩ -
          by_cases hlast : f + (sizeN (bitsOf f t) - 1) = 4294967295
          · simp (config := {maxSteps := 3000000}) only [run_reg, run_seq, run_exit, run_ret, run_cond, if_true, at_code_n, at_code_x, at_blk_x, at_rnd_x, at_fin_r, ops_nil, ops_mv, ops_bin, ops_un, ev_t, ev_c, put_get, opv_mk, vbin, vbinI, vun, obsOk, and_true, true_and, Nat.reduceEqDiff, Int.reduceNeg, ↓reduceIte, vret, rvAll, rvVal, resv_1, eq_self, reduceCtorEq, u32s, hor, decide_eq_true hlast]
            rw [coverL_end (by omega), List.append_nil] at hnext
            rw [← hnext]
            obtain ⟨tk9, h9⟩ := R2.own.sl
            rw [h9]
            exact ⟨_, _, Wk.no, R2.weak, rfl, rfl⟩
          · simp (config := {maxSteps := 3000000}) only [run_skip, run_reg, run_seq, run_cond, if_false, at_code_n, at_blk_n, at_rnd_n, ops_nil, ops_mv, ops_bin, ops_un, ev_t, ev_c, put_get, opv_mk, rel_mk, vbin, vbinI, vun, norm, obsOk, and_true, true_and, Nat.reduceEqDiff, Int.reduceNeg, ↓reduceIte, eq_self, reduceCtorEq, u32s, hor, decide_eq_false hlast]
            repeat (apply And.intro; focus (first | omega | (simp; done)))
            exact ⟨⟨f + sizeN (bitsOf f t), acc ++ [(f, bitsOf f t)], r2, by congr 2; omega, by omega, by omega, rfl, R2, by simp only [List.length_append, List.length_cons, List.length_nil]; omega, hnext⟩, by omega⟩
        have hno2 := hno (by omega)
        have hO := fun st : St => Of_v (st := st) (a := f) (b := bitsOf f t - 1) (by omega) (by omega) (by omega) (by omega)
        have hM := fun st : St => mask_v (st := st) (b := bitsOf f t - 1) (by omega) (by omega)
        have hsp1 := sizeN_pos (bitsOf f t - 1)
        by_cases hm1 : f % sizeN (bitsOf f t - 1) = 0
        · have hor1 := or_lowB (f := f) (b := bitsOf f t - 1) (by omega) (by omega) (by omega) (by omega) hm1
          rw [hm1, Int.sub_zero] at hO
          have hd : decide (f + (sizeN (bitsOf f t - 1) - 1) > t) = true := by
            simp only [okB, hm1, true_and, decide_eq_false_iff_not] at hno2
            simp
            omega
          simp (config := {maxSteps := 3000000}) only [run_skip, run_reg, run_seq, run_blk, run_cond, if_true, at_code_n, ops_nil, ops_mv, ops_bin, ops_call, ev_t, ev_c, put_get, opv_mk, over_get, vnat, vbin, vbinI, norm, List.map_cons, List.map_nil, true_and, Nat.reduceEqDiff, Int.reduceNeg, ↓reduceIte, eq_self, reduceCtorEq, Bool.false_eq_true, List.contains_cons, List.contains_nil, Nat.reduceBEq, Bool.or_false, hf, hb, decide_eq_true hz]
          repeat (apply And.intro; focus (first | omega | (simp; done)))
          refine Cal.mk (hO _) ?_
          rintro _ _ ⟨rfl, rfl⟩ -
          simp (config := {maxSteps := 3000000}) only [run_reg, run_seq, at_code_n, ops_nil, ops_mv, ops_bin, ops_fld, ops_load, ops_alc, ops_store, ev_t, put_get, put_none, opv_mk, stb_some, sto_ptr, over_get, Stp, put_box_same, put_put, vbin, vbinI, vbinS, vfld, vload, takeV, splice, V.cells, ptrV, obsOk, List.length_cons, List.length_nil, List.getElem?_cons_zero, List.take_zero, List.drop_succ_cons, List.nil_append, List.append_nil, List.drop_nil, true_and, Nat.reduceEqDiff, Nat.reduceAdd, Nat.reduceLT, Nat.reduceLeDiff, Nat.reduceLT, Nat.zero_add, Nat.add_zero, ↓reduceIte, ne_eq, eq_self, reduceCtorEq, Bool.false_eq_true, List.contains_cons, List.contains_nil, Nat.reduceBEq, Bool.or_false]
          intro c hc
          simp (config := {maxSteps := 3000000}) only [ops_grd, grd_ff, ops_mv, ops_bin, ops_call, ev_t, ev_c, put_get, opv_mk, over_get, vbin, vbinI, norm, List.map_cons, List.map_nil, true_and, Nat.reduceEqDiff, Int.reduceNeg, ↓reduceIte, decide_false, not_true_eq_false, eq_self, reduceCtorEq, Bool.false_eq_true, List.contains_cons, List.contains_nil, Nat.reduceBEq, Bool.or_false, hf, hb]
          repeat (apply And.intro; focus (first | omega | (simp; done)))
          refine Cal.mk (hM _) ?_
          rintro _ _ ⟨rfl, rfl⟩ -
          simp (config := {maxSteps := 3000000}) only [run_reg, run_seq, run_exit, run_cond, if_true, at_code_n, at_code_x, at_blk_x, at_rnd_x, ops_nil, ops_grd, grd_ff, ops_mv, ops_pick, ops_bin, ops_un, ops_bld, ops_bsl, ops_app, ev_t, put_get, opv_mk, over_get, vbld, vbsl, args0, List.getD_cons_zero, List.getD_cons_succ, vpick, vbin, vbinI, vun, fillV, splice, V.cells, strip, strip1, allLen, obsOk, List.map_cons, List.map_nil, List.length_cons, List.length_nil, List.take_succ_cons, List.take_zero, List.drop_succ_cons, List.drop_zero, List.cons_append, List.nil_append, List.append_nil, List.drop_nil, and_true, true_and, Nat.reduceEqDiff, Nat.reduceAdd, Nat.reduceLT, Nat.reduceLeDiff, Nat.reduceLT, Int.reduceNeg, Nat.zero_add, ↓reduceIte, eq_self, reduceCtorEq, Bool.false_eq_true, List.contains_cons, List.contains_nil, Nat.reduceBEq, Bool.or_false, Bool.or_true, hf, hb, u32s, hor1, hd]
          simp (config := {maxSteps := 3000000}) only [h5]
          refine App.mk (l := pws acc) (ys := pws [(f, bitsOf f t)]) (hr'.put hc).own (allSz_pws _) (by simp only [pws_len, List.length_cons, List.length_nil, maxLen]; omega) (by simp only [pws_len, List.length_cons, List.length_nil]; omega) ?_
          intro r2 s2 k1 k2
          rw [pws_append] at k1
          have R2 := (hr'.put hc).app k1 k2
          simp (config := {maxSteps := 3000000}) only [run_reg, run_seq, at_code_n, ops_nil, ops_mv, ops_call, ev_t, put_get, opv_mk, over_get, obsOk, List.map_cons, List.map_nil, true_and, Nat.reduceEqDiff, ↓reduceIte, eq_self, reduceCtorEq, Bool.false_eq_true, List.contains_cons, List.contains_nil, Nat.reduceBEq, Bool.or_false, hf, hb]
          refine Cal.mk (hMb _) ?_
          rintro _ _ ⟨rfl, rfl⟩ -
          by_cases hlast : f + (sizeN (bitsOf f t) - 1) = 4294967295
          · simp (config := {maxSteps := 3000000}) only [run_reg, run_seq, run_exit, run_ret, run_cond, if_true, at_code_n, at_code_x, at_blk_x, at_rnd_x, at_fin_r, ops_nil, ops_mv, ops_bin, ops_un, ev_t, ev_c, put_get, opv_mk, vbin, vbinI, vun, obsOk, and_true, true_and, Nat.reduceEqDiff, Int.reduceNeg, ↓reduceIte, vret, rvAll, rvVal, resv_1, eq_self, reduceCtorEq, u32s, hor, decide_eq_true hlast]
            rw [coverL_end (by omega), List.append_nil] at hnext
            rw [← hnext]
            obtain ⟨tk9, h9⟩ := R2.own.sl
            rw [h9]
            exact ⟨_, _, Wk.no, R2.weak, rfl, rfl⟩
          · simp (config := {maxSteps := 3000000}) only [run_skip, run_reg, run_seq, run_cond, if_false, at_code_n, at_blk_n, at_rnd_n, ops_nil, ops_mv, ops_bin, ops_un, ev_t, ev_c, put_get, opv_mk, rel_mk, vbin, vbinI, vun, norm, obsOk, and_true, true_and, Nat.reduceEqDiff, Int.reduceNeg, ↓reduceIte, eq_self, reduceCtorEq, u32s, hor, decide_eq_false hlast]
            repeat (apply And.intro; focus (first | omega | (simp; done)))
            exact ⟨⟨f + sizeN (bitsOf f t), acc ++ [(f, bitsOf f t)], r2, by congr 2; omega, by omega, by omega, rfl, R2, by simp only [List.length_append, List.length_cons, List.length_nil]; omega, hnext⟩, by omega⟩
        · have hne : ¬ f - f % sizeN (bitsOf f t - 1) = f := by omega
          simp (config := {maxSteps := 3000000}) only [run_skip, run_reg, run_seq, run_blk, run_cond, if_true, at_code_n, ops_nil, ops_mv, ops_bin, ops_call, ev_t, ev_c, put_get, opv_mk, over_get, vnat, vbin, vbinI, norm, List.map_cons, List.map_nil, true_and, Nat.reduceEqDiff, Int.reduceNeg, ↓reduceIte, eq_self, reduceCtorEq, Bool.false_eq_true, List.contains_cons, List.contains_nil, Nat.reduceBEq, Bool.or_false, hf, hb, decide_eq_true hz]
          repeat (apply And.intro; focus (first | omega | (simp; done)))
          refine Cal.mk (hO _) ?_
          rintro _ _ ⟨rfl, rfl⟩ -
          simp (config := {maxSteps := 3000000}) only [run_reg, run_seq, at_code_n, ops_nil, ops_mv, ops_bin, ops_fld, ops_load, ops_alc, ops_store, ev_t, put_get, put_none, opv_mk, stb_some, sto_ptr, over_get, Stp, put_box_same, put_put, vbin, vbinI, vbinS, vfld, vload, takeV, splice, V.cells, ptrV, obsOk, List.length_cons, List.length_nil, List.getElem?_cons_zero, List.take_zero, List.drop_succ_cons, List.nil_append, List.append_nil, List.drop_nil, true_and, Nat.reduceEqDiff, Nat.reduceAdd, Nat.reduceLT, Nat.reduceLeDiff, Nat.reduceLT, Nat.zero_add, Nat.add_zero, ↓reduceIte, ne_eq, eq_self, reduceCtorEq, Bool.false_eq_true, List.contains_cons, List.contains_nil, Nat.reduceBEq, Bool.or_false]
          intro c hc
          simp (config := {maxSteps := 3000000}) only [run_reg, run_seq, run_exit, run_cond, if_true, at_code_n, at_code_x, at_blk_x, at_rnd_x, ops_nil, ops_grd, grd_tf, ops_mv, ops_pick, ops_bld, ops_bsl, ops_app, ev_t, ev_c, put_get, opv_mk, over_get, vbld, vbsl, vpick, fillV, splice, V.cells, strip, strip1, allLen, List.map_cons, List.map_nil, List.length_cons, List.length_nil, List.take_succ_cons, List.take_zero, List.drop_succ_cons, List.drop_zero, List.cons_append, List.nil_append, List.append_nil, List.drop_nil, and_true, true_and, Nat.reduceEqDiff, Nat.reduceAdd, Nat.reduceLT, Nat.reduceLeDiff, Nat.reduceLT, Nat.zero_add, ↓reduceIte, eq_self, reduceCtorEq, Bool.false_eq_true, List.contains_cons, List.contains_nil, Nat.reduceBEq, Bool.or_false, Bool.or_true, hf, hb, decide_eq_true hne]
          simp (config := {maxSteps := 3000000}) only [h5]
          refine App.mk (l := pws acc) (ys := pws [(f, bitsOf f t)]) (hr'.put hc).own (allSz_pws _) (by simp only [pws_len, List.length_cons, List.length_nil, maxLen]; omega) (by simp only [pws_len, List.length_cons, List.length_nil]; omega) ?_
          intro r2 s2 k1 k2
          rw [pws_append] at k1
          have R2 := (hr'.put hc).app k1 k2
          simp (config := {maxSteps := 3000000}) only [run_reg, run_seq, at_code_n, ops_nil, ops_mv, ops_call, ev_t, put_get, opv_mk, over_get, obsOk, List.map_cons, List.map_nil, true_and, Nat.reduceEqDiff, ↓reduceIte, eq_self, reduceCtorEq, Bool.false_eq_true, List.contains_cons, List.contains_nil, Nat.reduceBEq, Bool.or_false, hf, hb]
          refine Cal.mk (hMb _) ?_
          rintro _ _ ⟨rfl, rfl⟩ -
          by_cases hlast : f + (sizeN (bitsOf f t) - 1) = 4294967295
          · simp (config := {maxSteps := 3000000}) only [run_reg, run_seq, run_exit, run_ret, run_cond, if_true, at_code_n, at_code_x, at_blk_x, at_rnd_x, at_fin_r, ops_nil, ops_mv, ops_bin, ops_un, ev_t, ev_c, put_get, opv_mk, vbin, vbinI, vun, obsOk, and_true, true_and, Nat.reduceEqDiff, Int.reduceNeg, ↓reduceIte, vret, rvAll, rvVal, resv_1, eq_self, reduceCtorEq, u32s, hor, decide_eq_true hlast]
            rw [coverL_end (by omega), List.append_nil] at hnext
            rw [← hnext]
            obtain ⟨tk9, h9⟩ := R2.own.sl
            rw [h9]
            exact ⟨_, _, Wk.no, R2.weak, rfl, rfl⟩
          · simp (config := {maxSteps := 3000000}) only [run_skip, run_reg, run_seq, run_cond, if_false, at_code_n, at_blk_n, at_rnd_n, ops_nil, ops_mv, ops_bin, ops_un, ev_t, ev_c, put_get, opv_mk, rel_mk, vbin, vbinI, vun, norm, obsOk, and_true, true_and, Nat.reduceEqDiff, Int.reduceNeg, ↓reduceIte, eq_self, reduceCtorEq, u32s, hor, decide_eq_false hlast]
            repeat (apply And.intro; focus (first | omega | (simp; done)))
            exact ⟨⟨f + sizeN (bitsOf f t), acc ++ [(f, bitsOf f t)], r2, by congr 2; omega, by omega, by omega, rfl, R2, by simp only [List.length_append, List.length_cons, List.length_nil]; omega, hnext⟩, by omega⟩
end
end Go.Proofs.Ytmomebkfaibmgaa
