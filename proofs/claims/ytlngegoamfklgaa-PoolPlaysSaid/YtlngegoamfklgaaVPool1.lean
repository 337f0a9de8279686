/- Addresses: hosts, the next one, rows of addresses: contracts. -/
import Derived.Test.YtlngegoamfklgaaVMp
import Derived.Test.YtlngegoamfklgaaVc
namespace Go.Proofs.Ytlngegoamfklgaa
open Go

/-- May a host have it? -/
def hostB (a : Int) : Bool := decide (a / 16777216 ≠ 0) && (decide (a / 16777216 ≠ 127) && decide (a / 16777216 < 224))
def ku (a : Int) : V := .sc (.int .u32 a)
def vstr (s : ByteArray) : V := .sc (.string s)
theorem ku_eq (a b : Int) : eqV (ku a).cells (ku b).cells = decide (a = b) := by simp [ku, V.cells, eqV]
theorem vstr_eq (a b : ByteArray) : eqV (vstr a).cells (vstr b).cells = decide (a = b) := by simp [vstr, V.cells, eqV]
/-- A row of addresses. -/
def us (L : List Int) : List V := L.map ku
theorem us_len (L : List Int) : (us L).length = L.length := by simp [us]
theorem us_get {L : List Int} {i : Nat} {a : Int} (h : L[i]? = some a) : (us L)[i]? = some (.sc (.int .u32 a)) := by simp [us, h, ku]
theorem us_take (L : List Int) (k : Nat) : (us L).take k = us (L.take k) := by simp [us, List.map_take]
theorem us_drop (L : List Int) (k : Nat) : (us L).drop k = us (L.drop k) := by simp [us, List.map_drop]
theorem us_append (L M : List Int) : us L ++ us M = us (L ++ M) := by simp [us]
theorem allSz_us (L : List Int) : allSz 1 (us L) := fun d hd => by
  obtain ⟨x, _, rfl⟩ := List.mem_map.1 hd; rfl
theorem allSz_us' (L : List Int) : allSz 1 (us L) = True := by simp [allSz_us]
/-- The first place of an address, or -1. -/
def idxU (L : List Int) (a : Int) : Int := match L.findIdx? (· = a) with | some i => i | none => -1
theorem idxU_none {L : List Int} {a : Int} (h : a ∉ L) : idxU L a = -1 := by
  unfold idxU
  rw [List.findIdx?_eq_none_iff.2 (fun x hx => by simp; exact fun e => h (e ▸ hx))]
theorem idxU_some {L : List Int} {a : Int} (h : a ∈ L) : ∃ i : Nat, idxU L a = i ∧ L[i]? = some a ∧ ∀ j < i, L[j]? ≠ some a := by
  unfold idxU
  cases hf : L.findIdx? (· = a) with
  | none => 
    rw [List.findIdx?_eq_none_iff] at hf
    have := hf a h
    simp at this
  | some i =>
    obtain ⟨h1, h2, h3⟩ := List.findIdx?_eq_some_iff_getElem.1 hf
    refine ⟨i, rfl, ?_, fun j hj e => ?_⟩
    · rw [List.getElem?_eq_getElem h1]
      simpa using h2
    · have := h3 j hj
      rw [List.getElem?_eq_getElem (by omega)] at e
      simp only [Option.some.injEq] at e
      simp [e] at this
theorem idxU_at {L : List Int} {a : Int} {i : Nat} (h : L[i]? = some a) (hn : ∀ j < i, L[j]? ≠ some a) : idxU L a = i := by
  obtain ⟨k, h1, h2, h3⟩ := idxU_some (List.mem_of_getElem? h)
  rw [h1]
  rcases Nat.lt_trichotomy k i with hlt | rfl | hlt
  · exact absurd h2 (hn k hlt)
  · rfl
  · exact absurd h (h3 i hlt)
section
variable {st : St}
theorem host_v {a : Int} (h0 : 0 ≤ a) : VCalls Try.prog 69 [.sc (.int .u32 a)] st fun r st' => r = .sc (.bool (hostB a)) ∧ st = st' := by
  refine vcalls_enter vc69 (Nat.le_of_ble_eq_true rfl) fun hwf hok => ?_
  show Run _ Vc69.body (.fin (finQ Vc69.res _)) _ _
  unfold Vc69
  have nc24 : ((24 : Nat) : Int) = 24 := rfl
  unfold hostB
  have hq : a / 2 ^ 24 = a / 16777216 := by rfl
  by_cases c1 : a / 16777216 = 0
  · simp (config := {maxSteps := 3000000}) only [run_reg, run_seq, run_ret, at_code_n, at_fin_r, ops_nil, ops_grd, grd_ft, ops_mv, ops_pick, ops_bin, ev_t, ev_c, put_get, opv_mk, args0, List.getD_cons_zero, vpick, vbin, vbinI, shAmt, IntKind.bits, and_true, true_and, Nat.reduceEqDiff, Nat.reduceLeDiff, Int.reduceToNat, Int.reduceLE, Int.reduceLT, Int.reducePow, Int.reduceEq, Nat.min_def, ↓reduceIte, vret, rvAll, rvVal, resv_1, decide_true, decide_false, ne_eq, not_true_eq_false, not_false_eq_true, eq_self, reduceCtorEq, Bool.false_eq_true, c1, decide_false, decide_true]
    exact ⟨_, _, Wk.refl _, hwf.weak, by simp, rfl⟩
  by_cases c2 : a / 16777216 = 127
  · simp (config := {maxSteps := 3000000}) only [run_reg, run_seq, run_ret, at_code_n, at_fin_r, ops_nil, ops_grd, grd_tt, grd_ft, ops_mv, ops_pick, ops_bin, ev_t, ev_c, put_get, opv_mk, args0, List.getD_cons_zero, vpick, vbin, vbinI, shAmt, IntKind.bits, and_true, true_and, Nat.reduceEqDiff, Nat.reduceLeDiff, Int.reduceToNat, Int.reduceLE, Int.reduceLT, Int.reducePow, Int.reduceEq, Nat.min_def, ↓reduceIte, vret, rvAll, rvVal, resv_1, decide_true, decide_false, ne_eq, not_true_eq_false, not_false_eq_true, eq_self, reduceCtorEq, Bool.false_eq_true, c2]
    exact ⟨_, _, Wk.refl _, hwf.weak, by simp, rfl⟩
  simp (config := {maxSteps := 3000000}) only [run_reg, run_seq, run_ret, at_code_n, at_fin_r, ops_nil, ops_grd, grd_tt, ops_mv, ops_pick, ops_bin, ev_t, ev_c, put_get, opv_mk, args0, List.getD_cons_zero, vpick, vbin, vbinI, shAmt, IntKind.bits, and_true, true_and, Nat.reduceEqDiff, Nat.reduceLeDiff, Int.reduceToNat, Int.reduceLE, Int.reducePow, Nat.min_def, ↓reduceIte, vret, rvAll, rvVal, resv_1, decide_true, ne_eq, not_false_eq_true, eq_self, reduceCtorEq, c1, c2]
  exact ⟨_, _, Wk.refl _, hwf.weak, by simp, rfl⟩
theorem next_v {a n : Int} (h0 : 0 ≤ a) (h1 : a ≤ 4294967295) (hn : 0 ≤ n) (hn2 : n ≤ 100) : VCalls Try.prog 68 [.sc (.int .u32 a), .sc (.int .i64 n)] st fun r st' => r = .tup (if a + n ≤ 4294967295 then [.sc (.int .u32 (a + n)), .sc (.bool true)] else [.sc (.int .u32 0), .sc (.bool false)]) ∧ st = st' := by
  refine vcalls_enter vc68 (Nat.le_of_ble_eq_true rfl) fun hwf hok => ?_
  show Run _ Vc68.body (.fin (finQ Vc68.res _)) _ _
  unfold Vc68
  have e1 : n % 18446744073709551616 = n := by omega
  have e2 : (4294967295 - a) % 4294967296 = 4294967295 - a := by omega
  have e3 : (4294967295 - a) % 18446744073709551616 = 4294967295 - a := by omega
  have e4 : n % 4294967296 = n := by omega
  by_cases c : a + n ≤ 4294967295
  · have e5 : (a + n) % 4294967296 = a + n := by omega
    simp (config := {maxSteps := 3000000}) only [run_skip, run_reg, run_seq, run_ret, run_cond, if_false, at_code_n, at_fin_r, ops_nil, ops_grd, grd_ff, ops_mv, ops_pick, ops_bin, ops_conv, ev_t, ev_c, put_get, opv_mk, args0, List.getD_cons_zero, List.getD_cons_succ, vpick, vbin, vbinI, vconv, norm, vload, takeV, takeB, V.cells, List.map_cons, List.map_nil, and_true, true_and, Nat.reduceEqDiff, ↓reduceIte, vret, rvAll, rvVal, resv_2, eq_self, reduceCtorEq, Bool.false_eq_true, decide_eq_false (show ¬ n < 0 by omega), e1, e2, e3, e4, e5, decide_eq_false (show ¬ (4294967295 - a < n) by omega)]
    exact ⟨_, _, Wk.refl _, hwf.weak, by rw [if_pos c], rfl⟩
  · simp (config := {maxSteps := 3000000}) only [run_reg, run_seq, run_ret, run_cond, if_true, at_code_n, at_code_r, at_fin_r, ops_nil, ops_grd, grd_ff, ops_mv, ops_pick, ops_bin, ops_conv, ev_t, ev_c, put_get, opv_mk, args0, List.getD_cons_zero, List.getD_cons_succ, vpick, vbin, vbinI, vconv, norm, vload, takeV, takeB, V.cells, List.map_cons, List.map_nil, and_true, true_and, Nat.reduceEqDiff, ↓reduceIte, vret, rvAll, rvVal, resv_2, eq_self, reduceCtorEq, Bool.false_eq_true, decide_eq_false (show ¬ n < 0 by omega), e1, e2, e3, decide_eq_true (show 4294967295 - a < n by omega)]
    exact ⟨_, _, Wk.refl _, hwf.weak, by rw [if_neg c], rfl⟩
theorem index_v {L : List Int} {a : Int} {tk : Tk} : VCalls Try.prog 13 [.sl tk (us L), .sc (.int .u32 a)] st fun r st' => r = .sc (.int .i64 (idxU L a)) ∧ st = st' := by
  refine vcalls_enter vc13 (Nat.le_of_ble_eq_true rfl) fun hwf hok => ?_
  show Run _ Vc13.body (.fin (finQ Vc13.res _)) _ _
  unfold Vc13
  have hm := vlen_max (hok (.sl tk (us L)) (by simp))
  rw [us_len] at hm
  simp (config := {maxSteps := 3000000}) only [run_reg, run_seq, run_blk, at_code_n, ops_nil, ops_mv, ops_len, ev_t, ev_c, put_get, opv_mk, args0, List.getD_cons_zero, vlen, true_and, Int.reduceNeg, ↓reduceIte, eq_self, reduceCtorEq, us_len]
  refine run_loop [4, 5, 8, 9, 10, 11, 12, 13, 14, 15, 16, 17, 18] (fun B s => ∃ i : Nat, i ≤ L.length ∧ B 8 = .sc (.int .i64 i) ∧ (∀ j < i, L[j]? ≠ some a) ∧ s = st) (fun B _ => L.length - vnat (B 8)) rfl ?_ ?_
  · simp (config := {maxSteps := 3000000}) only [put_get, and_true, ↓reduceIte, ne_eq, eq_self]
    exact ⟨0, by omega, rfl, fun j hj => by omega⟩
  · rintro B s ⟨i, hi, h8, hne, rfl⟩
    by_cases hlt : i < L.length
    · obtain ⟨x, hx⟩ := get_ex hlt
      by_cases c : a = x
      · subst c
        simp (config := {maxSteps := 3000000}) only [run_skip, run_reg, run_seq, run_blk, run_ret, run_cond, if_true, at_code_n, at_code_r, at_blk_r, at_rnd_r, at_fin_r, ops_nil, ops_mv, ops_bin, ops_ix, ops_load, ev_t, put_get, opv_mk, over_get, vnat, args0, List.getD_cons_zero, List.getD_cons_succ, vbin, vbinI, vix, vload, takeV, V.cells, List.length_cons, List.length_nil, List.getElem?_cons_zero, and_true, true_and, Nat.reduceEqDiff, Int.toNat_natCast, Int.reduceNeg, Nat.zero_add, ↓reduceIte, vret, rvAll, rvVal, resv_1, decide_true, ne_eq, eq_self, reduceCtorEq, Bool.false_eq_true, List.contains_cons, List.contains_nil, Nat.reduceBEq, Bool.or_false, Bool.or_true, h8, decide_eq_true (show (i : Int) < (L.length : Int) by omega), us_get hx]
        repeat (apply And.intro; focus (first | omega | (simp; done)))
        exact ⟨_, _, Wk.refl _, hwf.weak, by rw [idxU_at hx hne], rfl⟩
      · simp (config := {maxSteps := 3000000}) only [run_skip, run_reg, run_seq, run_blk, run_cond, if_true, if_false, at_code_n, at_blk_n, at_rnd_n, ops_nil, ops_mv, ops_bin, ops_ix, ops_load, ev_t, ev_c, put_get, opv_mk, over_get, rel_mk, vnat, args0, List.getD_cons_zero, List.getD_cons_succ, vbin, vbinI, norm, vix, vload, takeV, V.cells, List.length_cons, List.length_nil, List.getElem?_cons_zero, and_true, true_and, Nat.reduceEqDiff, Int.toNat_natCast, Int.reduceNeg, Nat.zero_add, ↓reduceIte, ne_eq, eq_self, reduceCtorEq, Bool.false_eq_true, List.contains_cons, List.contains_nil, Nat.reduceBEq, Bool.or_false, Bool.or_true, h8, decide_eq_true (show (i : Int) < (L.length : Int) by omega), us_get hx, decide_eq_false c]
        repeat (apply And.intro; focus (first | omega | (simp; done)))
        refine ⟨⟨i + 1, by omega, by simp, ?_⟩, by omega⟩
        intro j hj
        by_cases e : j = i
        · subst e; rw [hx]; simp; exact fun h => c h.symm
        · exact hne j (by omega)
    · obtain rfl : i = L.length := by omega
      simp (config := {maxSteps := 3000000}) only [run_reg, run_seq, run_exit, run_ret, run_cond, if_false, at_code_n, at_code_x, at_blk_x, at_rnd_x, at_fin_r, ops_nil, ops_mv, ops_bin, ev_t, ev_c, put_get, opv_mk, over_get, vnat, vbin, vbinI, and_true, true_and, Nat.reduceEqDiff, Int.toNat_natCast, Int.reduceNeg, ↓reduceIte, vret, rvAll, rvVal, resv_1, decide_false, Int.lt_irrefl, ne_eq, eq_self, Bool.false_eq_true, List.contains_cons, List.contains_nil, Nat.reduceBEq, Bool.or_false, Bool.or_true, h8]
      exact ⟨_, _, Wk.refl _, hwf.weak, by
        rw [idxU_none]
        intro hm
        obtain ⟨j, hj⟩ := List.mem_iff_getElem?.1 hm
        exact hne j (List.getElem?_eq_some_iff.1 hj).1 hj, rfl⟩
theorem contains_v {L : List Int} {a : Int} {tk : Tk} : VCalls Try.prog 16 [.sl tk (us L), .sc (.int .u32 a)] st fun r st' => r = .sc (.bool (decide (a ∈ L))) ∧ st = st' := by
  refine vcalls_enter vc16 (Nat.le_of_ble_eq_true rfl) fun hwf hok => ?_
  show Run _ Vc16.body (.fin (finQ Vc16.res _)) _ _
  unfold Vc16
  simp (config := {maxSteps := 3000000}) only [run_reg, run_seq, at_code_n, ops_nil, ops_mv, ops_call, ev_t, ev_c, put_get, opv_mk, args0, List.getD_cons_zero, List.getD_cons_succ, List.map_cons, List.map_nil, true_and, Nat.reduceEqDiff, ↓reduceIte, eq_self, reduceCtorEq]
  refine Cal.mk index_v ?_
  rintro _ _ ⟨rfl, rfl⟩ -
  by_cases c : a ∈ L
  · obtain ⟨i, hi, _⟩ := idxU_some c
    simp (config := {maxSteps := 3000000}) only [run_ret, at_code_n, at_fin_r, ops_nil, ops_mv, ops_bin, ev_t, ev_c, put_get, opv_mk, vbin, vbinI, obsOk, and_true, true_and, ↓reduceIte, vret, rvAll, rvVal, resv_1, eq_self, hi, decide_eq_true (show (0 : Int) ≤ (i : Int) by omega)]
    exact ⟨_, _, Wk.refl _, hwf.weak, by simp [c], rfl⟩
  · simp (config := {maxSteps := 3000000}) only [run_ret, at_code_n, at_fin_r, ops_nil, ops_mv, ops_bin, ev_t, ev_c, put_get, opv_mk, vbin, vbinI, obsOk, and_true, true_and, Int.reduceLE, Int.reduceNeg, ↓reduceIte, vret, rvAll, rvVal, resv_1, decide_false, eq_self, idxU_none c]
    exact ⟨_, _, Wk.refl _, hwf.weak, by simp [c], rfl⟩
end
end Go.Proofs.Ytlngegoamfklgaa
