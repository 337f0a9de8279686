/- A stream of bytes as messages: early, the document's All, slices of messages: contracts. -/
import Derived.Test.YtogkdcbcmhhhcaaVStrmLaw
namespace Go.Proofs.Ytogkdcbcmhhhcaa
open Go

theorem num2_rng {L : List Int} (hB : IsB L) (n : Nat) : 0 ≤ numL ((L.drop n).take 2) ∧ numL ((L.drop n).take 2) < 65536 := by
  have h := numL_range _ ((L.drop n).take 2) rfl ((hB.drop _).take _)
  have hl : ((L.drop n).take 2).length ≤ 2 := by simp; omega
  have hp : (256 : Int) ^ ((L.drop n).take 2).length ≤ 256 ^ 2 := by
    have : ∀ k : Nat, k ≤ 2 → (256 : Int) ^ k ≤ 256 ^ 2 := by decide
    exact this _ hl
  rw [show (256 : Int) ^ 2 = 65536 from rfl] at hp
  omega
theorem num2_rng0 {L : List Int} (hB : IsB L) : 0 ≤ numL (L.take 2) ∧ numL (L.take 2) < 65536 := by
  have := num2_rng hB 0
  rwa [List.drop_zero] at this
theorem num4_split {L : List Int} (h : 4 ≤ L.length) : numL (L.take 4) = 65536 * numL (L.take 2) + numL ((L.drop 2).take 2) := by
  match L, h with
  | a :: b :: c :: d :: L, _ => simp [numL]; omega
/-- Rows of messages. -/
def mv (l : List MB) : List V := l.map MB.v
theorem mv_len (l : List MB) : (mv l).length = l.length := by simp [mv]
theorem mv_get (l : List MB) (i : Nat) : (mv l)[i]? = (l[i]?).map MB.v := by simp [mv]
theorem mv_append (a b : List MB) : mv a ++ mv b = mv (a ++ b) := by simp [mv]
def Sz (m : MB) : Prop := m.N.length = 9 ∧ m.T.length = 3
theorem allSz_mv {l : List MB} (h : ∀ m ∈ l, Sz m) : allSz 13 (mv l) := fun d hd => by
  obtain ⟨m, hm, rfl⟩ := List.mem_map.1 hd
  exact MB.len (h m hm).1 (h m hm).2
theorem MB.strip (m : MB) : m.cells.map strip1 = m.cells := by
  have h : ∀ c ∈ m.cells, strip1 c = c := by
    intro c hc
    simp only [MB.cells, List.mem_cons, List.mem_append, us, ss, List.mem_map] at hc
    rcases hc with rfl | ⟨x, _, rfl⟩ | ⟨x, _, rfl⟩ <;> rfl
  exact (List.map_congr_left h).trans (List.map_id _)
theorem parseM_sz {L : List Int} (hB : IsB L) (hl : L.length ≤ 1000000) : Sz (parseM L).1 := by
  rcases parseM_n L with h | h
  · exact h
  · obtain ⟨m, e, hm, _⟩ := bytes_parseM hB hl h
    rw [e]; exact ⟨hm.n9, hm.t3⟩
theorem scan_sz : ∀ (n : Nat) (P : List Int), P.length ≤ n → IsB P → ∀ m ∈ (scan P).1, Sz m
  | n, P, hn, hB => by
    by_cases c1 : earlyL P ≠ 0
    · rw [scan_err c1]; intro m hm; cases hm
    have c1 : earlyL P = 0 := by omega
    by_cases c2 : P.length < 12 ∨ (P.length : Int) < numL (P.take 2)
    · rw [scan_short c1 c2]; intro m hm; cases hm
    by_cases c3 : (parseM (P.take (sizeP P))).2 ≠ 0
    · rw [scan_bad c1 c2 c3]; intro m hm; cases hm
    have c3 : (parseM (P.take (sizeP P))).2 = 0 := by omega
    obtain ⟨b1, b2, b3⟩ := size_bound c1 c2
    rw [scan_cons c1 c2 c3]
    cases n with
    | zero => omega
    | succ n =>
      intro m hm
      rcases List.mem_cons.1 hm with rfl | hm
      · exact parseM_sz (hB.take _) (by simp; omega)
      · exact scan_sz n (P.drop (sizeP P)) (by rw [List.length_drop]; omega) (hB.drop _) m hm
section
variable {tk tk' : Tk} {st : St} {L P : List Int}
theorem get32_v (hB : IsB L) (h : 4 ≤ L.length) : VCalls Try.prog 107 [.sl tk (bs L)] st fun r st' => r = .sc (.int .u32 (numL (L.take 4))) ∧ st = st' := by
  refine vcalls_enter vc107 (Nat.le_of_ble_eq_true rfl) fun hwf hok => ?_
  show Run _ Vc107.body (.fin (finQ Vc107.res _)) _ _
  unfold Vc107
  have r0 := num2_rng0 hB
  have r2 := num2_rng hB 2
  have hj := u32_join (numL (L.take 2)) (numL ((L.drop 2).take 2)) r0.1 r0.2 r2.1 r2.2
  have g0 := fun st : St => Get16_v (tk := tk) (st := st) hB
  have g2 := fun st : St => Get16_v (tk := .no) (st := st) (hB.drop 2)
  rw [if_neg (show ¬ L.length < 2 by omega)] at g0
  rw [if_neg (show ¬ (L.drop 2).length < 2 by simp; omega)] at g2
  rw [num4_split h]
  generalize numL (L.take 2) = a at *
  generalize numL ((L.drop 2).take 2) = c at *
  have e1 : a * 65536 % 4294967296 = a * 65536 := by omega
  have e2 : a % 4294967296 = a := by omega
  have e3 : c % 4294967296 = c := by omega
  simp (config := {maxSteps := 3000000}) only [run_skip, run_reg, run_seq, run_cond, if_false, at_code_n, ops_nil, ops_mv, ops_bin, ops_len, ops_slc, ops_call, ev_t, ev_c, put_get, opv_mk, args0, List.getD_cons_zero, vbin, vbinI, vlen, vslc, List.map_cons, List.map_nil, Option.map_some, Option.map_none, true_and, Nat.reduceEqDiff, Int.reduceToNat, Int.reduceLE, ↓reduceIte, eq_self, reduceCtorEq, bs_len, decide_eq_false (show ¬ (L.length : Int) < 4 by omega), bs_drop, allSz_bs']
  repeat (apply And.intro; focus (first | omega | (simp; done)))
  refine Cal.mk (g0 _) ?_
  rintro _ _ ⟨rfl, rfl⟩ -
  simp (config := {maxSteps := 3000000}) only [ops_bin, ops_conv, ops_call, ev_t, ev_c, put_get, opv_mk, vbin, vbinI, vconv, norm, obsOk, shAmt, IntKind.bits, List.map_cons, List.map_nil, and_true, true_and, Nat.reduceEqDiff, Nat.reduceLeDiff, Int.reduceToNat, Int.reduceLE, Int.reducePow, Nat.min_def, ↓reduceIte, eq_self, e1, e2]
  repeat (apply And.intro; focus (first | omega | (simp; done)))
  refine Cal.mk (g2 _) ?_
  rintro _ _ ⟨rfl, rfl⟩ -
  simp (config := {maxSteps := 3000000}) only [run_ret, at_code_n, at_fin_r, ops_nil, ops_mv, ops_bin, ops_conv, ev_t, put_get, opv_mk, vbin, vbinI, vconv, norm, obsOk, and_true, true_and, Nat.reduceEqDiff, ↓reduceIte, vret, rvAll, rvVal, resv_1, eq_self, e3, ibit_or, hj]
  exact ⟨_, _, Wk.refl _, hwf.weak, rfl, rfl⟩
theorem sEarly_v (hB : IsB P) (hl : P.length ≤ 1000000000) : VCalls Try.prog 86 [.sl tk (bs P)] st fun r st' => r = .sc (.int .i64 (earlyL P)) ∧ st = st' := by
  refine vcalls_enter vc86 (Nat.le_of_ble_eq_true rfl) fun hwf hok => ?_
  show Run _ Vc86.body (.fin (finQ Vc86.res _)) _ _
  unfold Vc86
  have r0 := num2_rng0 hB
  have g0 := fun st : St => Get16_v (tk := tk) (st := st) hB
  have g2 := fun st : St => Get16_v (tk := .no) (st := st) (hB.drop 2)
  have g4 := fun (h : 8 ≤ P.length) (st : St) => get32_v (tk := .no) (st := st) (hB.drop 4) (by simp; omega)
  by_cases h2 : 2 ≤ P.length
  case neg =>
    have e : earlyL P = 0 := by unfold earlyL; rw [if_neg (by omega), if_neg (by omega), if_neg (by omega)]
    rw [e]
    simp (config := {maxSteps := 3000000}) only [run_skip, run_reg, run_seq, run_blk, run_ret, run_cond, if_false, at_code_n, at_blk_n, at_fin_r, ops_nil, ops_grd, grd_und, grd_ft, ops_mv, ops_pick, ops_bin, ops_len, ev_t, ev_c, put_get, opv_mk, args0, List.getD_cons_zero, vpick, vbin, vbinI, vlen, and_true, true_and, Nat.reduceEqDiff, ↓reduceIte, vret, rvAll, rvVal, resv_1, eq_self, reduceCtorEq, Bool.false_eq_true, bs_len, decide_eq_false (show ¬ (2 : Int) ≤ (P.length : Int) by omega), decide_eq_false (show ¬ (4 : Int) ≤ (P.length : Int) by omega), decide_eq_false (show ¬ (8 : Int) ≤ (P.length : Int) by omega)]
    exact ⟨_, _, Wk.refl _, hwf.weak, rfl, rfl⟩
  rw [if_neg (show ¬ P.length < 2 by omega)] at g0
  have h2' := decide_eq_true (show (2 : Int) ≤ (P.length : Int) by omega)
  simp (config := {maxSteps := 3000000}) only [run_reg, run_seq, run_blk, at_code_n, ops_nil, ops_grd, grd_tt, ops_mv, ops_bin, ops_len, ops_call, ev_t, ev_c, put_get, opv_mk, args0, List.getD_cons_zero, vbin, vbinI, vlen, List.map_cons, List.map_nil, true_and, Nat.reduceEqDiff, ↓reduceIte, eq_self, reduceCtorEq, bs_len, h2']
  refine Cal.mk (g0 _) ?_
  rintro _ _ ⟨rfl, rfl⟩ -
  by_cases c1 : numL (P.take 2) < 12
  · have e : earlyL P = 12 := by unfold earlyL; rw [if_pos ⟨h2, .inl c1⟩]
    rw [e]
    simp (config := {maxSteps := 3000000}) only [run_reg, run_seq, run_ret, run_cond, if_true, at_code_n, at_code_r, at_blk_r, at_fin_r, ops_nil, ops_grd, grd_tt, grd_tf, ops_mv, ops_pick, ops_bin, ev_t, ev_c, put_get, opv_mk, vpick, vbin, vbinI, obsOk, and_true, true_and, Nat.reduceEqDiff, ↓reduceIte, vret, rvAll, rvVal, resv_1, eq_self, decide_eq_true c1]
    exact ⟨_, _, Wk.refl _, hwf.weak, rfl, rfl⟩
  simp (config := {maxSteps := 3000000}) only [ops_grd, grd_tt, grd_ff, ops_mv, ops_bin, ops_call, ev_t, ev_c, put_get, opv_mk, args0, List.getD_cons_zero, vbin, vbinI, obsOk, List.map_cons, List.map_nil, true_and, Nat.reduceEqDiff, ↓reduceIte, eq_self, reduceCtorEq, decide_eq_false c1]
  refine Cal.mk (g0 _) ?_
  rintro _ _ ⟨rfl, rfl⟩ -
  by_cases c2 : 220 < numL (P.take 2)
  · have e : earlyL P = 12 := by unfold earlyL; rw [if_pos ⟨h2, .inr c2⟩]
    rw [e]
    simp (config := {maxSteps := 3000000}) only [run_reg, run_seq, run_ret, run_cond, if_true, at_code_n, at_code_r, at_blk_r, at_fin_r, ops_nil, ops_grd, grd_tt, grd_ff, ops_mv, ops_pick, ops_bin, ops_conv, ev_t, ev_c, put_get, opv_mk, vpick, vbin, vbinI, vconv, norm, obsOk, and_true, true_and, Nat.reduceEqDiff, Int.reduceNeg, ↓reduceIte, vret, rvAll, rvVal, resv_1, eq_self, Bool.false_eq_true, decide_eq_true c2]
    repeat (apply And.intro; focus (first | omega | (simp; done)))
    exact ⟨_, _, Wk.refl _, hwf.weak, rfl, rfl⟩
  by_cases h4 : 4 ≤ P.length
  case neg =>
    have e : earlyL P = 0 := by unfold earlyL; rw [if_neg (by omega), if_neg (by omega), if_neg (by omega)]
    rw [e]
    simp (config := {maxSteps := 3000000}) only [run_skip, run_reg, run_seq, run_ret, run_cond, if_false, at_code_n, at_blk_n, at_fin_r, ops_nil, ops_grd, grd_tt, grd_ff, grd_ft, ops_mv, ops_pick, ops_bin, ops_conv, ops_len, ev_t, ev_c, put_get, opv_mk, args0, List.getD_cons_zero, vpick, vbin, vbinI, vconv, norm, vlen, obsOk, and_true, true_and, Nat.reduceEqDiff, Int.reduceNeg, ↓reduceIte, vret, rvAll, rvVal, resv_1, eq_self, reduceCtorEq, Bool.false_eq_true, bs_len, decide_eq_false c2, decide_eq_false (show ¬ (4 : Int) ≤ (P.length : Int) by omega), decide_eq_false (show ¬ (8 : Int) ≤ (P.length : Int) by omega)]
    repeat (apply And.intro; focus (first | omega | (simp; done)))
    exact ⟨_, _, Wk.refl _, hwf.weak, rfl, rfl⟩
  rw [if_neg (show ¬ (P.drop 2).length < 2 by simp; omega)] at g2
  simp (config := {maxSteps := 3000000}) only [run_reg, run_seq, run_cond, if_false, at_code_n, ops_nil, ops_grd, grd_tt, grd_ff, ops_mv, ops_pick, ops_bin, ops_conv, ops_len, ops_slc, ops_call, ev_t, ev_c, put_get, opv_mk, args0, List.getD_cons_zero, vpick, vbin, vbinI, vconv, norm, vlen, vslc, obsOk, List.map_cons, List.map_nil, Option.map_some, Option.map_none, true_and, Nat.reduceEqDiff, Int.reduceToNat, Int.reduceLE, Int.reduceNeg, ↓reduceIte, eq_self, reduceCtorEq, Bool.false_eq_true, bs_len, decide_eq_false c2, decide_eq_true (show (4 : Int) ≤ (P.length : Int) by omega), bs_drop, allSz_bs']
  repeat (apply And.intro; focus (first | omega | (simp; done)))
  refine Cal.mk (g2 _) ?_
  rintro _ _ ⟨rfl, rfl⟩ -
  by_cases c3 : numL ((P.drop 2).take 2) = 1
  case neg =>
    have e : earlyL P = 141 := by unfold earlyL; rw [if_neg (by omega), if_pos ⟨h4, c3⟩]
    rw [e]
    simp (config := {maxSteps := 3000000}) only [run_reg, run_seq, run_ret, run_cond, if_true, at_code_n, at_code_r, at_blk_r, at_fin_r, ops_nil, ops_grd, grd_tt, ops_mv, ops_pick, ops_bin, ev_t, ev_c, put_get, opv_mk, vpick, vbin, vbinI, obsOk, and_true, true_and, Nat.reduceEqDiff, ↓reduceIte, vret, rvAll, rvVal, resv_1, ne_eq, eq_self, decide_eq_true c3]
    exact ⟨_, _, Wk.refl _, hwf.weak, rfl, rfl⟩
  have c3' := decide_eq_false (show ¬ ¬ numL ((P.drop 2).take 2) = 1 from fun h => h c3)
  by_cases h8 : 8 ≤ P.length
  case neg =>
    have e : earlyL P = 0 := by unfold earlyL; rw [if_neg (by omega), if_neg (by omega), if_neg (by omega)]
    rw [e]
    simp (config := {maxSteps := 3000000}) only [run_skip, run_reg, run_seq, run_ret, run_cond, if_false, at_code_n, at_blk_n, at_fin_r, ops_nil, ops_grd, grd_tt, grd_ft, ops_mv, ops_pick, ops_bin, ops_len, ev_t, ev_c, put_get, opv_mk, args0, List.getD_cons_zero, vpick, vbin, vbinI, vlen, obsOk, and_true, true_and, Nat.reduceEqDiff, ↓reduceIte, vret, rvAll, rvVal, resv_1, ne_eq, eq_self, reduceCtorEq, Bool.false_eq_true, bs_len, c3', decide_eq_false (show ¬ (8 : Int) ≤ (P.length : Int) by omega)]
    exact ⟨_, _, Wk.refl _, hwf.weak, rfl, rfl⟩
  simp (config := {maxSteps := 3000000}) only [run_reg, run_seq, run_cond, if_false, at_code_n, ops_nil, ops_grd, grd_tt, ops_mv, ops_pick, ops_bin, ops_len, ops_slc, ops_call, ev_t, ev_c, put_get, opv_mk, args0, List.getD_cons_zero, vpick, vbin, vbinI, vlen, vslc, obsOk, List.map_cons, List.map_nil, Option.map_some, Option.map_none, true_and, Nat.reduceEqDiff, Int.reduceToNat, Int.reduceLE, ↓reduceIte, ne_eq, eq_self, reduceCtorEq, bs_len, c3', decide_eq_true (show (8 : Int) ≤ (P.length : Int) by omega), bs_drop, allSz_bs']
  repeat (apply And.intro; focus (first | omega | (simp; done)))
  refine Cal.mk (g4 h8 _) ?_
  rintro _ _ ⟨rfl, rfl⟩ -
  by_cases c4 : numL ((P.drop 4).take 4) = 439041101
  case neg =>
    have e : earlyL P = 140 := by unfold earlyL; rw [if_neg (by omega), if_neg (by omega), if_pos ⟨h8, c4⟩]
    rw [e]
    simp (config := {maxSteps := 3000000}) only [run_reg, run_seq, run_ret, run_cond, if_true, at_code_n, at_code_r, at_blk_r, at_fin_r, ops_nil, ops_grd, grd_tt, ops_mv, ops_pick, ops_bin, ev_t, ev_c, put_get, opv_mk, vpick, vbin, vbinI, obsOk, and_true, true_and, Nat.reduceEqDiff, ↓reduceIte, vret, rvAll, rvVal, resv_1, ne_eq, eq_self, decide_eq_true c4]
    exact ⟨_, _, Wk.refl _, hwf.weak, rfl, rfl⟩
  have e : earlyL P = 0 := by unfold earlyL; rw [if_neg (by omega), if_neg (by omega), if_neg (by omega)]
  rw [e]
  simp (config := {maxSteps := 3000000}) only [run_skip, run_reg, run_seq, run_ret, run_cond, if_false, at_code_n, at_blk_n, at_fin_r, ops_nil, ops_grd, grd_tt, ops_mv, ops_pick, ops_bin, ev_t, ev_c, put_get, opv_mk, vpick, vbin, vbinI, obsOk, and_true, true_and, Nat.reduceEqDiff, ↓reduceIte, vret, rvAll, rvVal, resv_1, ne_eq, eq_self, decide_eq_false (show ¬ ¬ numL ((P.drop 4).take 4) = 439041101 from fun h => h c4)]
  exact ⟨_, _, Wk.refl _, hwf.weak, rfl, rfl⟩
theorem rEarly_v (hB : IsB P) (hl : P.length ≤ 1000000000) : VCalls Try.prog 88 [.sl tk (bs P)] st fun r st' => r = .sc (.int .i64 (earlyL P)) ∧ st = st' := by
  refine vcalls_enter vc88 (Nat.le_of_ble_eq_true rfl) fun hwf hok => ?_
  show Run _ Vc88.body (.fin (finQ Vc88.res _)) _ _
  unfold Vc88
  have n4 := fun st : St => rNum_v (tk := .no) (st := st) (L := (P.drop 4).take 4) ((hB.drop _).take _) (by simp; omega)
  have n2 := fun st : St => rNum_v (tk := .no) (st := st) (L := (P.drop 2).take 2) ((hB.drop _).take _) (by simp; omega)
  have n0 := fun st : St => rNum_v (tk := .no) (st := st) (L := P.take 2) (hB.take _) (by simp; omega)
  have e48 : (P.take 8).drop 4 = (P.drop 4).take 4 := by rw [List.drop_take]
  have e24 : (P.take 4).drop 2 = (P.drop 2).take 2 := by rw [List.drop_take]
  by_cases h2 : 2 ≤ P.length
  case neg =>
    have e : earlyL P = 0 := by unfold earlyL; rw [if_neg (by omega), if_neg (by omega), if_neg (by omega)]
    rw [e]
    simp (config := {maxSteps := 3000000}) only [run_skip, run_reg, run_seq, run_ret, run_cond, if_false, at_code_n, at_fin_r, ops_nil, ops_grd, grd_ft, ops_mv, ops_pick, ops_bin, ops_len, ev_t, ev_c, put_get, opv_mk, args0, List.getD_cons_zero, vpick, vbin, vbinI, vlen, and_true, true_and, Nat.reduceEqDiff, ↓reduceIte, vret, rvAll, rvVal, resv_1, eq_self, reduceCtorEq, Bool.false_eq_true, bs_len, decide_eq_false (show ¬ (2 : Int) ≤ (P.length : Int) by omega), decide_eq_false (show ¬ (4 : Int) ≤ (P.length : Int) by omega), decide_eq_false (show ¬ (8 : Int) ≤ (P.length : Int) by omega)]
    exact ⟨_, _, Wk.refl _, hwf.weak, rfl, rfl⟩
  simp (config := {maxSteps := 3000000}) only [run_reg, run_seq, run_cond, if_true, at_code_n, ops_nil, ops_mv, ops_bin, ops_len, ops_slc, ops_call, ev_t, ev_c, put_get, opv_mk, args0, List.getD_cons_zero, vbin, vbinI, vlen, vslc, List.map_cons, List.map_nil, Option.map_some, Option.map_none, true_and, Int.reduceToNat, Int.reduceLE, ↓reduceIte, eq_self, reduceCtorEq, bs_len, decide_eq_true (show (2 : Int) ≤ (P.length : Int) by omega), bs_take, allSz_bs']
  repeat (apply And.intro; focus (first | omega | (simp; done)))
  refine Cal.mk (n0 _) ?_
  rintro _ _ ⟨rfl, rfl⟩ -
  by_cases c1 : numL (P.take 2) < 12
  · have e : earlyL P = 12 := by unfold earlyL; rw [if_pos ⟨h2, .inl c1⟩]
    rw [e]
    simp (config := {maxSteps := 3000000}) only [run_reg, run_seq, run_ret, run_cond, if_true, at_code_n, at_code_r, at_fin_r, ops_nil, ops_grd, grd_tf, ops_mv, ops_pick, ops_bin, ev_t, ev_c, put_get, opv_mk, vpick, vbin, vbinI, obsOk, and_true, true_and, Nat.reduceEqDiff, ↓reduceIte, vret, rvAll, rvVal, resv_1, eq_self, decide_eq_true c1]
    exact ⟨_, _, Wk.refl _, hwf.weak, rfl, rfl⟩
  by_cases c2 : 220 < numL (P.take 2)
  · have e : earlyL P = 12 := by unfold earlyL; rw [if_pos ⟨h2, .inr c2⟩]
    rw [e]
    simp (config := {maxSteps := 3000000}) only [run_reg, run_seq, run_ret, run_cond, if_true, at_code_n, at_code_r, at_fin_r, ops_nil, ops_grd, grd_ff, ops_mv, ops_pick, ops_bin, ev_t, ev_c, put_get, opv_mk, vpick, vbin, vbinI, obsOk, and_true, true_and, Nat.reduceEqDiff, ↓reduceIte, vret, rvAll, rvVal, resv_1, eq_self, Bool.false_eq_true, decide_eq_false c1, decide_eq_true c2]
    exact ⟨_, _, Wk.refl _, hwf.weak, rfl, rfl⟩
  by_cases h4 : 4 ≤ P.length
  case neg =>
    have e : earlyL P = 0 := by unfold earlyL; rw [if_neg (by omega), if_neg (by omega), if_neg (by omega)]
    rw [e]
    simp (config := {maxSteps := 3000000}) only [run_skip, run_reg, run_seq, run_ret, run_cond, if_false, at_code_n, at_fin_r, ops_nil, ops_grd, grd_ff, grd_ft, ops_mv, ops_pick, ops_bin, ops_len, ev_t, ev_c, put_get, opv_mk, args0, List.getD_cons_zero, vpick, vbin, vbinI, vlen, obsOk, and_true, true_and, Nat.reduceEqDiff, ↓reduceIte, vret, rvAll, rvVal, resv_1, eq_self, reduceCtorEq, Bool.false_eq_true, bs_len, decide_eq_false c1, decide_eq_false c2, decide_eq_false (show ¬ (4 : Int) ≤ (P.length : Int) by omega), decide_eq_false (show ¬ (8 : Int) ≤ (P.length : Int) by omega)]
    exact ⟨_, _, Wk.refl _, hwf.weak, rfl, rfl⟩
  simp (config := {maxSteps := 3000000}) only [run_skip, run_reg, run_seq, run_cond, if_false, at_code_n, ops_nil, ops_grd, grd_tt, grd_ff, ops_mv, ops_pick, ops_bin, ops_len, ops_slc, ops_call, ev_t, ev_c, put_get, opv_mk, args0, List.getD_cons_zero, vpick, vbin, vbinI, vlen, vslc, obsOk, List.map_cons, List.map_nil, Option.map_some, true_and, Nat.reduceEqDiff, Int.reduceToNat, Int.reduceLE, ↓reduceIte, eq_self, reduceCtorEq, Bool.false_eq_true, bs_len, decide_eq_false c1, decide_eq_false c2, decide_eq_true (show (4 : Int) ≤ (P.length : Int) by omega), bs_take, bs_drop, allSz_bs', e24]
  repeat (apply And.intro; focus (first | omega | (simp; done)))
  refine Cal.mk (n2 _) ?_
  rintro _ _ ⟨rfl, rfl⟩ -
  by_cases c3 : numL ((P.drop 2).take 2) = 1
  case neg =>
    have e : earlyL P = 141 := by unfold earlyL; rw [if_neg (by omega), if_pos ⟨h4, c3⟩]
    rw [e]
    simp (config := {maxSteps := 3000000}) only [run_reg, run_seq, run_ret, run_cond, if_true, at_code_n, at_code_r, at_fin_r, ops_nil, ops_grd, grd_tt, ops_mv, ops_pick, ops_bin, ev_t, ev_c, put_get, opv_mk, vpick, vbin, vbinI, obsOk, and_true, true_and, Nat.reduceEqDiff, ↓reduceIte, vret, rvAll, rvVal, resv_1, ne_eq, eq_self, decide_eq_true c3]
    exact ⟨_, _, Wk.refl _, hwf.weak, rfl, rfl⟩
  have c3' := decide_eq_false (show ¬ ¬ numL ((P.drop 2).take 2) = 1 from fun h => h c3)
  by_cases h8 : 8 ≤ P.length
  case neg =>
    have e : earlyL P = 0 := by unfold earlyL; rw [if_neg (by omega), if_neg (by omega), if_neg (by omega)]
    rw [e]
    simp (config := {maxSteps := 3000000}) only [run_skip, run_reg, run_seq, run_ret, run_cond, if_false, at_code_n, at_fin_r, ops_nil, ops_grd, grd_tt, grd_ft, ops_mv, ops_pick, ops_bin, ops_len, ev_t, ev_c, put_get, opv_mk, args0, List.getD_cons_zero, vpick, vbin, vbinI, vlen, obsOk, and_true, true_and, Nat.reduceEqDiff, ↓reduceIte, vret, rvAll, rvVal, resv_1, ne_eq, eq_self, reduceCtorEq, Bool.false_eq_true, bs_len, c3', decide_eq_false (show ¬ (8 : Int) ≤ (P.length : Int) by omega)]
    exact ⟨_, _, Wk.refl _, hwf.weak, rfl, rfl⟩
  simp (config := {maxSteps := 3000000}) only [run_skip, run_reg, run_seq, run_cond, if_false, at_code_n, ops_nil, ops_grd, grd_tt, ops_mv, ops_pick, ops_bin, ops_len, ops_slc, ops_call, ev_t, ev_c, put_get, opv_mk, args0, List.getD_cons_zero, vpick, vbin, vbinI, vlen, vslc, obsOk, List.map_cons, List.map_nil, Option.map_some, true_and, Nat.reduceEqDiff, Int.reduceToNat, Int.reduceLE, ↓reduceIte, ne_eq, eq_self, reduceCtorEq, bs_len, c3', decide_eq_true (show (8 : Int) ≤ (P.length : Int) by omega), bs_take, bs_drop, allSz_bs', e48]
  repeat (apply And.intro; focus (first | omega | (simp; done)))
  refine Cal.mk (n4 _) ?_
  rintro _ _ ⟨rfl, rfl⟩ -
  by_cases c4 : numL ((P.drop 4).take 4) = 439041101
  case neg =>
    have e : earlyL P = 140 := by unfold earlyL; rw [if_neg (by omega), if_neg (by omega), if_pos ⟨h8, c4⟩]
    rw [e]
    simp (config := {maxSteps := 3000000}) only [run_reg, run_seq, run_ret, run_cond, if_true, at_code_n, at_code_r, at_fin_r, ops_nil, ops_grd, grd_tt, ops_mv, ops_pick, ops_bin, ev_t, ev_c, put_get, opv_mk, vpick, vbin, vbinI, obsOk, and_true, true_and, Nat.reduceEqDiff, ↓reduceIte, vret, rvAll, rvVal, resv_1, ne_eq, eq_self, decide_eq_true c4]
    exact ⟨_, _, Wk.refl _, hwf.weak, rfl, rfl⟩
  have e : earlyL P = 0 := by unfold earlyL; rw [if_neg (by omega), if_neg (by omega), if_neg (by omega)]
  rw [e]
  simp (config := {maxSteps := 3000000}) only [run_skip, run_reg, run_seq, run_ret, run_cond, if_false, at_code_n, at_fin_r, ops_nil, ops_grd, grd_tt, ops_mv, ops_pick, ops_bin, ev_t, ev_c, put_get, opv_mk, vpick, vbin, vbinI, obsOk, and_true, true_and, Nat.reduceEqDiff, ↓reduceIte, vret, rvAll, rvVal, resv_1, ne_eq, eq_self, decide_eq_false (show ¬ ¬ numL ((P.drop 4).take 4) = 439041101 from fun h => h c4)]
  exact ⟨_, _, Wk.refl _, hwf.weak, rfl, rfl⟩
theorem eqMs_v {l : List MB} (h : ∀ m ∈ l, Sz m) : VCalls Try.prog 43 [.sl tk (mv l), .sl tk' (mv l)] st fun r st' => r = .sc (.bool true) ∧ st = st' := by
  refine vcalls_enter vc43 (Nat.le_of_ble_eq_true rfl) fun hwf hok => ?_
  show Run _ Vc43.body (.fin (finQ Vc43.res _)) _ _
  unfold Vc43
  have hL := vlen_max (hok _ (List.mem_cons_self ..))
  rw [mv_len] at hL
  simp (config := {maxSteps := 3000000}) only [run_skip, run_reg, run_seq, run_blk, run_cond, if_false, at_code_n, ops_nil, ops_mv, ops_bin, ops_len, ev_t, ev_c, put_get, opv_mk, args0, List.getD_cons_zero, List.getD_cons_succ, vbin, vbinI, vlen, true_and, Nat.reduceEqDiff, ↓reduceIte, decide_false, ne_eq, not_true_eq_false, eq_self, reduceCtorEq, mv_len]
  refine run_loop [4, 5, 13, 14, 15, 16, 17, 18, 19, 20, 21, 22, 23, 24, 25] (fun B s => st = s ∧ ∃ i : Nat, i ≤ l.length ∧ B 13 = .sc (.int .i64 i)) (fun B _ => l.length - vnat (B 13)) rfl ?_ ?_
  · simp (config := {maxSteps := 3000000}) only [put_get, true_and, ↓reduceIte, eq_self]
    exact ⟨0, by omega, by simp⟩
  · rintro B s ⟨rfl, i, hi, h13⟩
    by_cases hlt : i < l.length
    · obtain ⟨m, hm⟩ := get_ex hlt
      have hs := h m (List.mem_of_getElem? hm)
      have hC13 : m.cells.length = 13 := MB.len hs.1 hs.2
      have htk : m.cells.take 13 = m.cells := List.take_of_length_le (by omega)
      have hf := MB.fits hs.1 hs.2
      have he := MB.eqv hs.1 hs.2
      have hv : m.v = .agg m.cells := rfl
      generalize m.cells = C at *
      simp (config := {maxSteps := 3000000}) only [run_skip, run_reg, run_seq, run_blk, run_cond, if_true, if_false, at_code_n, at_blk_n, at_rnd_n, ops_nil, ops_mv, ops_bin, ops_eqs, veqs, ops_ix, ops_load, ev_t, ev_c, put_get, opv_mk, over_get, rel_mk, vnat, args0, List.getD_cons_zero, List.getD_cons_succ, vbin, vbinI, norm, vix, vload, takeV, V.cells, List.drop_zero, Option.map_some, and_true, true_and, Nat.reduceEqDiff, Nat.reduceLeDiff, Int.toNat_natCast, Int.reduceNeg, Nat.zero_add, ↓reduceIte, Bool.not_true, eq_self, reduceCtorEq, Bool.false_eq_true, List.contains_cons, List.contains_nil, Nat.reduceBEq, Bool.or_false, Bool.or_true, h13, mv_get, hm, hv, hC13, htk, hf, he, decide_eq_true (show (i : Int) < (l.length : Int) by omega)]
      repeat (apply And.intro; focus (first | omega | (simp; done)))
      exact ⟨⟨i + 1, by omega, by simp⟩, by omega⟩
    · obtain rfl : i = l.length := by omega
      simp (config := {maxSteps := 3000000}) only [run_reg, run_seq, run_exit, run_ret, run_cond, if_false, at_code_n, at_code_x, at_blk_x, at_rnd_x, at_fin_r, ops_nil, ops_mv, ops_bin, ev_t, ev_c, put_get, opv_mk, over_get, vnat, vbin, vbinI, and_true, true_and, Nat.reduceEqDiff, Int.toNat_natCast, ↓reduceIte, vret, rvAll, rvVal, resv_1, decide_false, Int.lt_irrefl, eq_self, Bool.false_eq_true, List.contains_cons, List.contains_nil, Nat.reduceBEq, Bool.or_false, Bool.or_true, h13]
      exact ⟨_, _, Wk.refl _, hwf.weak, rfl, rfl⟩
end
end Go.Proofs.Ytogkdcbcmhhhcaa
