/- msg.Size, msg.text, msg.noughts, msg.Right, and the document's Size: contracts. -/
import Derived.Test.YtogkdcbcmhhhcaaVMsgLaw
import Derived.Test.YtogkdcbcmhhhcaaVRef16
namespace Go.Proofs.Ytogkdcbcmhhhcaa
open Go

/-- A message: its numbers and texts. -/
structure MB where
  ty : Int
  N : List Int
  T : List (List Int)
def MB.cells (m : MB) : List V := .sc (.int .i64 m.ty) :: (us m.N ++ ss m.T)
def MB.v (m : MB) : V := .agg m.cells
structure MB.Ok (m : MB) : Prop where
  ty : -9223372036854775808 ≤ m.ty ∧ m.ty ≤ 9223372036854775807
  n9 : m.N.length = 9
  t3 : m.T.length = 3
  nr : ∀ x ∈ m.N, 0 ≤ x ∧ x < 4294967296
  tb : ∀ t ∈ m.T, IsB t
  tl : ∀ t ∈ m.T, t.length ≤ 1000000
theorem MB.len {m : MB} (h9 : m.N.length = 9) (h3 : m.T.length = 3) : m.cells.length = 13 := by simp [MB.cells, us_len, ss_len, h9, h3]
theorem MB.get0 (m : MB) : m.cells[0]? = some (.sc (.int .i64 m.ty)) := rfl
theorem MB.getN {m : MB} {n : Nat} {x : Int} (h : m.N[n]? = some x) : m.cells[1 + n]? = some (.sc (.int .u32 x)) := by
  have hl := (List.getElem?_eq_some_iff.1 h).1
  rw [show 1 + n = n + 1 by omega]
  simp only [MB.cells, List.getElem?_cons_succ]
  rw [List.getElem?_append_left (by rw [us_len]; exact hl), us_get, h]
  rfl
theorem MB.getT {m : MB} (h9 : m.N.length = 9) {s : Nat} {t : List Int} (h : m.T[s]? = some t) : m.cells[10 + s]? = some (.sc (.string (strOf t))) := by
  rw [show 10 + s = (9 + s) + 1 by omega]
  simp only [MB.cells, List.getElem?_cons_succ]
  rw [List.getElem?_append_right (by rw [us_len]; omega), us_len, h9, show 9 + s - 9 = s by omega, ss_get, h]
  rfl
theorem nc0 : ((0 : Nat) : Int) = 0 := rfl
theorem nc9' : ((9 : Nat) : Int) = 9 := rfl
theorem nc3' : ((3 : Nat) : Int) = 3 := rfl
theorem u8s_bs : ∀ L : List Int, u8sOf (bs L) = some L
  | [] => rfl
  | x :: L => by rw [bs_cons]; simp only [u8sOf, u8s_bs L, Option.map_some]
theorem drop_cons {α : Type} {K : List α} {i : Nat} {k : α} (h : K[i]? = some k) : K.drop i = k :: K.drop (i + 1) := by
  obtain ⟨hl, he⟩ := List.getElem?_eq_some_iff.1 h
  rw [List.drop_eq_getElem_cons hl, he]
section
variable {st : St} {tk : Tk} {L : List Int}
theorem layoutN_v {t : Int} (h : t < 1 ∨ 15 < t) : VCalls Try.prog 77 [.sc (.int .i64 t)] st fun r st' => r = .sl .nil [] ∧ st = st' := by
  refine vcalls_enter vc77 (Nat.le_of_ble_eq_true rfl) fun hwf hok => ?_
  show Run _ Vc77.body (.fin (finQ Vc77.res _)) _ _
  unfold Vc77
  simp (config := {maxSteps := 3000000}) only [run_skip, run_reg, run_seq, run_blk, run_ret, run_cond, if_false, at_code_n, at_blk_n, at_fin_r, ops_nil, ops_mv, ops_bin, ev_t, ev_c, put_get, opv_mk, args0, List.getD_cons_zero, vbin, vbinI, and_true, true_and, Nat.reduceEqDiff, Int.reduceNeg, ↓reduceIte, vret, rvAll, rvVal, resv_1, eq_self, reduceCtorEq, decide_eq_false (show ¬ t = 1 by omega), decide_eq_false (show ¬ t = 2 by omega), decide_eq_false (show ¬ t = 3 by omega), decide_eq_false (show ¬ t = 4 by omega), decide_eq_false (show ¬ t = 5 by omega), decide_eq_false (show ¬ t = 6 by omega), decide_eq_false (show ¬ t = 7 by omega), decide_eq_false (show ¬ t = 8 by omega), decide_eq_false (show ¬ t = 9 by omega), decide_eq_false (show ¬ t = 10 by omega), decide_eq_false (show ¬ t = 11 by omega), decide_eq_false (show ¬ t = 12 by omega), decide_eq_false (show ¬ t = 13 by omega), decide_eq_false (show ¬ t = 14 by omega), decide_eq_false (show ¬ t = 15 by omega)]
  exact ⟨_, _, Wk.refl _, hwf.weak, rfl, rfl⟩
theorem layoutL_some {t : Int} (h : ¬ (t < 1 ∨ 15 < t)) : layoutL t ≠ [] := by
  rcases t_cases (t := t) with h | rfl | rfl | rfl | rfl | rfl | rfl | rfl | rfl | rfl | rfl | rfl | rfl | rfl | rfl | rfl
  · contradiction
  all_goals decide
theorem sumN_snoc : ∀ (K : List Int) (k : Int), sumN (K ++ [k]) = sumN K + k.natAbs
  | [], k => by simp [sumN]
  | x :: K, k => by rw [List.cons_append, sumN, sumN_snoc K k, sumN]; omega
theorem sumN_take (K : List Int) : ∀ i, sumN (K.take i) ≤ sumN K := by
  induction K with
  | nil => intro i; simp
  | cons k K ih =>
    intro i
    cases i with
    | zero => simp [sumN]
    | succ i => simp only [List.take_succ_cons, sumN]; have := ih i; omega
theorem msgSize_v (t : Int) : VCalls Try.prog 53 [.sc (.int .i64 t)] st fun r st' => r = .sc (.int .i64 (sizeT t)) ∧ st = st' := by
  refine vcalls_enter vc53 (Nat.le_of_ble_eq_true rfl) fun hwf hok => ?_
  show Run _ Vc53.body (.fin (finQ Vc53.res _)) _ _
  unfold Vc53
  by_cases h : t < 1 ∨ 15 < t
  · simp (config := {maxSteps := 3000000}) only [run_reg, run_seq, at_code_n, ops_nil, ops_mv, ops_call, ev_t, ev_c, put_get, opv_mk, args0, List.getD_cons_zero, List.map_cons, List.map_nil, true_and, ↓reduceIte, eq_self, reduceCtorEq]
    refine Cal.mk (layoutN_v h) ?_
    rintro _ _ ⟨rfl, rfl⟩ -
    simp (config := {maxSteps := 3000000}) only [run_reg, run_seq, run_ret, run_cond, if_true, at_code_n, at_code_r, at_fin_r, ops_nil, ops_mv, ops_isnil, visnil, ev_t, ev_c, put_get, opv_mk, obsOk, and_true, true_and, ↓reduceIte, vret, rvAll, rvVal, resv_1, Bool.not_false, eq_self]
    refine ⟨_, _, Wk.refl _, hwf.weak, ?_, rfl⟩
    unfold sizeT
    rw [if_pos (layoutL_none h)]
  · have hne := layoutL_some h
    have hs : sizeT t = 12 + (sumN (layoutL t) : Int) := if_neg hne
    have h3 := layout_sum t
    have h4 := layout_kOk t
    have hl := layout_len t
    have hL := layout_v (st := st) t
    rw [hs]
    generalize layoutL t = K at *
    obtain ⟨k0, K0, hK⟩ : ∃ k0 K0, K = k0 :: K0 := by
      cases K with
      | nil => exact absurd rfl hne
      | cons k0 K0 => exact ⟨k0, K0, rfl⟩
    have hIs : is K = .sc (.int .i64 k0) :: is K0 := by rw [hK]; rfl
    simp (config := {maxSteps := 3000000}) only [run_reg, run_seq, at_code_n, ops_nil, ops_mv, ops_call, ev_t, ev_c, put_get, opv_mk, args0, List.getD_cons_zero, List.map_cons, List.map_nil, true_and, ↓reduceIte, eq_self, reduceCtorEq]
    refine Cal.mk hL ?_
    rintro _ _ ⟨rfl, rfl⟩ -
    rw [hIs]
    simp (config := {maxSteps := 3000000}) only [run_skip, run_reg, run_seq, run_blk, run_cond, if_false, at_code_n, ops_nil, ops_mv, ops_isnil, visnil, ops_len, ev_t, ev_c, put_get, opv_mk, vlen, obsOk, List.length_cons, true_and, Nat.reduceEqDiff, ↓reduceIte, eq_self]
    rw [← hIs]
    simp (config := {maxSteps := 3000000}) only [is_len]
    have el : K.length = K0.length + 1 := by rw [hK]; simp
    refine run_loop [4, 6, 13, 14, 15, 16, 17, 18, 19, 20, 21, 22, 23] (fun B s => st = s ∧ ∃ i : Nat, i ≤ K.length ∧ B 13 = .sc (.int .i64 i) ∧ B 4 = .sc (.int .i64 (12 + (sumN (K.take i) : Int)))) (fun B _ => K.length - vnat (B 13)) rfl ?_ ?_
    · simp (config := {maxSteps := 3000000}) only [put_get, true_and, Nat.reduceEqDiff, ↓reduceIte, eq_self]
      exact ⟨0, by omega, by simp, by simp [sumN]⟩
    · rintro B s ⟨rfl, i, hi, h13, hB4⟩
      by_cases hlt : i < K.length
      · obtain ⟨k, hk⟩ := get_ex hlt
        have hkk := h4 k (List.mem_of_getElem? hk)
        unfold kOk at hkk
        have hsn : sumN (K.take (i + 1)) = sumN (K.take i) + k.natAbs := by rw [List.take_add_one, hk]; exact sumN_snoc _ _
        have hst := sumN_take K i
        have hmx : max k (0 - k) = (k.natAbs : Int) := by omega
        have hlt' := decide_eq_true (show (i : Int) < ((K0.length + 1 : Nat) : Int) by omega)
        simp (config := {maxSteps := 3000000}) only [run_skip, run_reg, run_seq, run_blk, run_cond, if_true, at_code_n, at_blk_n, at_rnd_n, ops_nil, ops_mv, ops_bin, ops_un, ops_ix, ops_load, ops_mx, ev_t, ev_c, put_get, opv_mk, over_get, rel_mk, vnat, vbin, vbinI, vun, norm, vmm, vix, vload, takeV, V.cells, List.length_cons, List.length_nil, List.getElem?_cons_zero, Option.map_some, and_true, true_and, Nat.reduceEqDiff, Int.toNat_natCast, Int.reduceNeg, Nat.zero_add, ↓reduceIte, eq_self, Bool.false_eq_true, List.contains_cons, List.contains_nil, Nat.reduceBEq, Bool.or_false, Bool.or_true, h13, hB4, is_get, hk, hlt', hmx]
        repeat (apply And.intro; focus (first | omega | (simp; done)))
        exact ⟨⟨i + 1, by omega, by simp, by rw [hsn]; exact congrArg (fun z => V.sc (.int .i64 z)) (by omega)⟩, by omega⟩
      · obtain rfl : i = K.length := by omega
        rw [List.take_of_length_le (Nat.le_refl _)] at hB4
        simp (config := {maxSteps := 3000000}) only [run_reg, run_seq, run_exit, run_ret, run_cond, if_false, at_code_n, at_code_x, at_blk_x, at_rnd_x, at_fin_r, ops_nil, ops_mv, ops_bin, ev_t, put_get, opv_mk, over_get, vnat, vbin, vbinI, and_true, true_and, Nat.reduceEqDiff, Int.toNat_natCast, ↓reduceIte, vret, rvAll, rvVal, resv_1, eq_self, Bool.false_eq_true, List.contains_cons, List.contains_nil, Nat.reduceBEq, Bool.or_false, Bool.or_true, h13, hB4, decide_eq_false (show ¬ (K.length : Int) < ((K0.length + 1 : Nat) : Int) by omega)]
        exact ⟨_, _, Wk.refl _, hwf.weak, rfl, rfl⟩
theorem toPart_sz (k : Int) (h : kOk k) : (toPart k).2 = (k.natAbs : Int) := by
  unfold kOk at h
  unfold toPart
  split
  · simp only; omega
  · split <;> (simp only; omega)
theorem refSize_v (t : Int) : VCalls Try.prog 54 [.sc (.int .i64 t)] st fun r st' => r = .sc (.int .i64 (sizeT t)) ∧ st = st' := by
  refine vcalls_enter vc54 (Nat.le_of_ble_eq_true rfl) fun hwf hok => ?_
  show Run _ Vc54.body (.fin (finQ Vc54.res _)) _ _
  unfold Vc54
  have h3 := layout_sum t
  have h4 := layout_kOk t
  have hl := layout_len t
  have hL := parts16_v (st := st) t
  have hs : sizeT t = if layoutL t = [] then 0 else 12 + (sumN (layoutL t) : Int) := rfl
  rw [hs]
  generalize layoutL t = K at *
  simp (config := {maxSteps := 3000000}) only [run_reg, run_seq, at_code_n, ops_nil, ops_mv, ops_call, ev_t, ev_c, put_get, opv_mk, args0, List.getD_cons_zero, List.map_cons, List.map_nil, true_and, ↓reduceIte, eq_self, reduceCtorEq]
  refine Cal.mk hL ?_
  rintro _ _ ⟨rfl, rfl⟩ -
  simp (config := {maxSteps := 3000000}) only [run_reg, run_seq, run_blk, at_code_n, ops_nil, ops_mv, ev_t, ev_c, put_get, opv_mk, obsOk, true_and, ↓reduceIte, eq_self]
  refine run_loop [4, 5, 8, 9, 10, 11, 12, 13, 14, 15, 16, 17, 18, 19, 20] (fun B s => st = s ∧ ∃ i : Nat, i ≤ K.length ∧ B 5 = .sc (.int .i64 i) ∧ B 4 = .sc (.int .i64 (sumN (K.take i) : Int))) (fun B _ => K.length - vnat (B 5)) rfl ?_ ?_
  · simp (config := {maxSteps := 3000000}) only [put_get, true_and, Nat.reduceEqDiff, ↓reduceIte, eq_self]
    exact ⟨0, by omega, by simp, by simp [sumN]⟩
  · rintro B s ⟨rfl, i, hi, h13, hB4⟩
    by_cases hlt : i < K.length
    · obtain ⟨k, hk⟩ := get_ex hlt
      have hkk := h4 k (List.mem_of_getElem? hk)
      have hsn : sumN (K.take (i + 1)) = sumN (K.take i) + k.natAbs := by rw [List.take_add_one, hk]; exact sumN_snoc _ _
      have hst := sumN_take K (i + 1)
      have hp := toPart_sz k hkk
      have hlt' := decide_eq_true (show (i : Int) < (K.length : Int) by omega)
      simp (config := {maxSteps := 3000000}) only [run_skip, run_reg, run_seq, run_blk, run_cond, if_true, at_code_n, at_blk_n, at_rnd_n, ops_nil, ops_mv, ops_bin, ops_fld, ops_ix, ops_load, ops_len, ev_t, ev_c, put_get, opv_mk, over_get, rel_mk, vnat, vbin, vbinI, norm, vfld, vlen, vix, vload, takeV, V.cells, List.length_cons, List.length_nil, List.getElem?_cons_zero, List.getElem?_cons_succ, Option.map_some, and_true, true_and, Nat.reduceEqDiff, Nat.reduceAdd, Int.toNat_natCast, Int.reduceNeg, Nat.zero_add, ↓reduceIte, eq_self, Bool.false_eq_true, List.contains_cons, List.contains_nil, Nat.reduceBEq, Bool.or_false, Bool.or_true, h13, hB4, ps_len, List.length_map, ps_get, List.getElem?_map, hk, hlt', hp]
      repeat (apply And.intro; focus (first | omega | (simp; done)))
      exact ⟨⟨i + 1, by omega, by simp, by rw [hsn]; rfl⟩, by omega⟩
    · obtain rfl : i = K.length := by omega
      rw [List.take_of_length_le (Nat.le_refl _)] at hB4
      by_cases hK : K = []
      · subst hK
        simp (config := {maxSteps := 3000000}) only [run_skip, run_reg, run_seq, run_exit, run_ret, run_cond, if_false, at_code_n, at_code_x, at_blk_x, at_rnd_x, at_fin_r, ops_nil, ops_mv, ops_bin, ops_len, ev_t, ev_c, put_get, opv_mk, over_get, vnat, vbin, vbinI, vlen, List.map_nil, List.length_nil, List.take_nil, and_true, true_and, Nat.reduceEqDiff, Nat.reduceSub, Int.reduceToNat, ↓reduceIte, vret, rvAll, rvVal, resv_1, decide_false, Int.lt_irrefl, eq_self, Bool.false_eq_true, List.contains_cons, List.contains_nil, Nat.reduceBEq, Bool.or_false, Bool.or_true, h13, hB4, ps_len, sumN, nc0]
        exact ⟨_, _, Wk.refl _, hwf.weak, rfl, rfl⟩
      · rw [if_neg hK]
        have hpos : 0 < sumN K := by
          cases K with
          | nil => exact absurd rfl hK
          | cons k K =>
            have := h4 k (by simp)
            unfold kOk at this
            simp only [sumN]; omega
        simp (config := {maxSteps := 3000000}) only [run_reg, run_seq, run_exit, run_ret, run_cond, if_true, if_false, at_code_n, at_code_x, at_blk_x, at_rnd_x, at_fin_r, ops_nil, ops_mv, ops_bin, ops_len, ev_t, ev_c, put_get, opv_mk, over_get, vnat, vbin, vbinI, norm, vlen, and_true, true_and, Nat.reduceEqDiff, Int.toNat_natCast, Int.reduceNeg, ↓reduceIte, vret, rvAll, rvVal, resv_1, decide_false, Int.lt_irrefl, eq_self, Bool.false_eq_true, List.contains_cons, List.contains_nil, Nat.reduceBEq, Bool.or_false, Bool.or_true, h13, hB4, ps_len, List.length_map, decide_eq_true (show (0 : Int) < (sumN K : Int) by omega)]
        repeat (apply And.intro; focus (first | omega | (simp; done)))
        exact ⟨_, _, Wk.refl _, hwf.weak, by rw [Int.add_comm], rfl⟩
theorem text_v (hl : L.length ≤ 100000000) : VCalls Try.prog 92 [.sl tk (bs L)] st fun r st' => r = .sc (.string (strOf (stripL L))) ∧ st = st' := by
  refine vcalls_enter vc92 (Nat.le_of_ble_eq_true rfl) fun hwf hok => ?_
  show Run _ Vc92.body (.fin (finQ Vc92.res _)) _ _
  unfold Vc92
  simp (config := {maxSteps := 3000000}) only [run_reg, run_seq, run_blk, at_code_n, ops_nil, ops_mv, ops_len, ev_t, ev_c, put_get, opv_mk, args0, List.getD_cons_zero, vlen, true_and, ↓reduceIte, eq_self, reduceCtorEq, bs_len]
  refine run_loop [3, 6, 7, 8, 9, 10, 11, 12, 13, 14, 15, 16, 17] (fun B s => st = s ∧ ∃ i : Nat, i ≤ L.length ∧ B 3 = .sc (.int .i64 i) ∧ stripN L L.length = stripN L i) (fun B _ => vnat (B 3)) rfl ?_ ?_
  · simp (config := {maxSteps := 3000000}) only [put_get, true_and, ↓reduceIte, eq_self]
    exact ⟨L.length, by omega, by simp, rfl⟩
  · rintro B s ⟨rfl, i, hi, h3, he⟩
    have hfin : stripN L i = i → stripL L = L.take i := fun h => by unfold stripL; rw [he, h]
    cases i with
    | zero =>
      rw [hfin rfl]
      simp (config := {maxSteps := 3000000}) only [run_reg, run_seq, run_exit, run_ret, run_cond, if_false, at_code_n, at_code_x, at_blk_x, at_rnd_x, at_fin_r, ops_nil, ops_grd, grd_ft, ops_mv, ops_pick, ops_bin, ops_b2s, vb2s, ops_slc, ev_t, ev_c, put_get, opv_mk, over_get, vnat, args0, List.getD_cons_zero, vpick, vbin, vbinI, vslc, List.take_zero, Option.map_some, Option.map_none, and_true, true_and, Nat.reduceEqDiff, Int.reduceToNat, Int.reduceLE, ↓reduceIte, vret, rvAll, rvVal, resv_1, decide_false, Int.lt_irrefl, eq_self, reduceCtorEq, Bool.false_eq_true, List.contains_cons, List.contains_nil, Nat.reduceBEq, Bool.or_false, h3, bs_len, allSz_bs', u8sOf, nc0]
      exact ⟨by omega, _, _, Wk.refl _, hwf.weak, rfl, rfl⟩
    | succ i =>
      obtain ⟨c, hc⟩ := get_ex (L := L) (i := i) (by omega)
      have e1 : (((i + 1 : Nat) : Int) - 1).toNat = i := by omega
      have e2 : ((i + 1 : Nat) : Int) - 1 = (i : Int) := by omega
      by_cases c0 : c = 0
      · subst c0
        have hst : stripN L (i + 1) = stripN L i := by rw [stripN, if_pos hc]
        simp (config := {maxSteps := 3000000}) only [run_skip, run_reg, run_seq, run_blk, run_cond, if_true, at_code_n, at_blk_n, at_rnd_n, ops_nil, ops_grd, grd_tt, ops_mv, ops_pick, ops_bin, ops_ix, ops_load, ev_t, ev_c, put_get, opv_mk, over_get, rel_mk, vnat, args0, List.getD_cons_zero, vpick, vbin, vbinI, norm, vix, vload, takeV, V.cells, List.length_cons, List.length_nil, List.getElem?_cons_zero, Option.map_some, and_true, true_and, Nat.reduceEqDiff, Int.toNat_natCast, Int.reduceNeg, Nat.zero_add, ↓reduceIte, decide_true, eq_self, reduceCtorEq, Bool.false_eq_true, List.contains_cons, List.contains_nil, Nat.reduceBEq, Bool.or_false, h3, bs_get, e2, hc, decide_eq_true (show (0 : Int) < ((i + 1 : Nat) : Int) by omega)]
        repeat (apply And.intro; focus (first | omega | (simp; done)))
        exact ⟨⟨i, by omega, by simp, by rw [he, hst]⟩, by omega⟩
      · have hst : stripN L (i + 1) = i + 1 := by rw [stripN, if_neg]; rw [hc]; intro h; cases h; exact c0 rfl
        rw [hfin hst]
        simp (config := {maxSteps := 3000000}) only [run_reg, run_seq, run_exit, run_ret, run_cond, if_false, at_code_n, at_code_x, at_blk_x, at_rnd_x, at_fin_r, ops_nil, ops_grd, grd_tt, ops_mv, ops_pick, ops_bin, ops_b2s, vb2s, ops_ix, ops_load, ops_slc, ev_t, ev_c, put_get, opv_mk, over_get, vnat, args0, List.getD_cons_zero, vpick, vbin, vbinI, norm, vix, vload, takeV, vslc, V.cells, List.length_cons, List.length_nil, List.getElem?_cons_zero, Option.map_some, Option.map_none, and_true, true_and, Nat.reduceEqDiff, Int.toNat_natCast, Int.reduceNeg, Nat.zero_add, ↓reduceIte, vret, rvAll, rvVal, resv_1, eq_self, reduceCtorEq, Bool.false_eq_true, List.contains_cons, List.contains_nil, Nat.reduceBEq, Bool.or_false, h3, bs_len, bs_get, bs_take, allSz_bs', u8s_bs, e2, hc, decide_eq_true (show (0 : Int) < ((i + 1 : Nat) : Int) by omega), decide_eq_false c0]
        repeat (apply And.intro; focus (first | omega | (simp; done)))
        exact ⟨_, _, Wk.refl _, hwf.weak, rfl, rfl⟩
theorem noughts_v (hl : L.length ≤ 100000000) : VCalls Try.prog 96 [.sl tk (bs L)] st fun r st' => r = .sc (.bool (L.all fun x => decide (x = 0))) ∧ st = st' := by
  refine vcalls_enter vc96 (Nat.le_of_ble_eq_true rfl) fun hwf hok => ?_
  show Run _ Vc96.body (.fin (finQ Vc96.res _)) _ _
  unfold Vc96
  simp (config := {maxSteps := 3000000}) only [run_reg, run_seq, run_blk, at_code_n, ops_nil, ops_mv, ops_len, ev_t, ev_c, put_get, opv_mk, args0, List.getD_cons_zero, vlen, true_and, ↓reduceIte, eq_self, reduceCtorEq, bs_len]
  refine run_loop [2, 4, 7, 8, 9, 10, 11, 12, 13] (fun B s => st = s ∧ ∃ i : Nat, i ≤ L.length ∧ B 7 = .sc (.int .i64 i) ∧ L.all (fun x => decide (x = 0)) = (L.drop i).all (fun x => decide (x = 0))) (fun B _ => L.length - vnat (B 7)) rfl ?_ ?_
  · simp (config := {maxSteps := 3000000}) only [put_get, true_and, ↓reduceIte, eq_self]
    exact ⟨0, by omega, by simp, rfl⟩
  · rintro B s ⟨rfl, i, hi, h7, he⟩
    rw [he]
    by_cases hlt : i < L.length
    · obtain ⟨c, hc⟩ := get_ex hlt
      have hlt' := decide_eq_true (show (i : Int) < (L.length : Int) by omega)
      rw [drop_cons hc, List.all_cons] at he ⊢
      by_cases c0 : c = 0
      · simp (config := {maxSteps := 3000000}) only [run_skip, run_reg, run_seq, run_blk, run_cond, if_true, if_false, at_code_n, at_blk_n, at_rnd_n, ops_nil, ops_mv, ops_bin, ops_ix, ops_load, ev_t, ev_c, put_get, opv_mk, over_get, rel_mk, vnat, vbin, vbinI, norm, vix, vload, takeV, V.cells, List.length_cons, List.length_nil, List.getElem?_cons_zero, Option.map_some, and_true, true_and, Nat.reduceEqDiff, Int.toNat_natCast, Int.reduceNeg, Nat.zero_add, ↓reduceIte, ne_eq, eq_self, Bool.false_eq_true, List.contains_cons, List.contains_nil, Nat.reduceBEq, Bool.or_false, Bool.or_true, h7, bs_get, hc, hlt', decide_eq_false (show ¬ ¬ c = 0 from fun h => h c0)]
        repeat (apply And.intro; focus (first | omega | (simp; done)))
        exact ⟨⟨i + 1, by omega, by simp, by simp [c0]⟩, by omega⟩
      · simp (config := {maxSteps := 3000000}) only [run_skip, run_reg, run_seq, run_blk, run_ret, run_cond, if_true, at_code_n, at_code_r, at_blk_r, at_rnd_r, at_fin_r, ops_nil, ops_mv, ops_bin, ops_ix, ops_load, ev_t, ev_c, put_get, opv_mk, over_get, vnat, vbin, vbinI, vix, vload, takeV, V.cells, List.length_cons, List.length_nil, List.getElem?_cons_zero, Option.map_some, and_true, true_and, Nat.reduceEqDiff, Int.toNat_natCast, Nat.zero_add, ↓reduceIte, vret, rvAll, rvVal, resv_1, ne_eq, eq_self, Bool.false_eq_true, List.contains_cons, List.contains_nil, Nat.reduceBEq, Bool.or_false, Bool.or_true, h7, bs_get, hc, hlt', decide_eq_true c0]
        exact ⟨by omega, _, _, Wk.refl _, hwf.weak, by rw [decide_eq_false c0, Bool.false_and], rfl⟩
    · obtain rfl : i = L.length := by omega
      rw [List.drop_of_length_le (Nat.le_refl _)]
      simp (config := {maxSteps := 3000000}) only [run_reg, run_seq, run_exit, run_ret, run_cond, if_false, at_code_n, at_code_x, at_blk_x, at_rnd_x, at_fin_r, ops_nil, ops_mv, ops_bin, ev_t, ev_c, put_get, opv_mk, over_get, vnat, vbin, vbinI, and_true, true_and, Nat.reduceEqDiff, Int.toNat_natCast, ↓reduceIte, vret, rvAll, rvVal, resv_1, decide_false, Int.lt_irrefl, eq_self, Bool.false_eq_true, List.contains_cons, List.contains_nil, Nat.reduceBEq, Bool.or_false, Bool.or_true, h7]
      exact ⟨_, _, Wk.refl _, hwf.weak, rfl, rfl⟩
end
end Go.Proofs.Ytogkdcbcmhhhcaa
