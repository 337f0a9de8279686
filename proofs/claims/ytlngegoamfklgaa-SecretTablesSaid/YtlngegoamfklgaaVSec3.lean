/- Secrets: the statement. -/
import Derived.Test.YtlngegoamfklgaaVSec2
import Derived.Test.YtlngegoamfklgaaVSortN
namespace Go.Proofs.Ytlngegoamfklgaa
open Go

/-! ### Places -/
def whereS (n : ByteArray) (S : List Sec) : Int := match S.findIdx? (fun s => s.1 = n) with | some i => i | none => -1
theorem aget_at {n : ByteArray} : ∀ {S : List Sec} {i : Nat} {s : Sec}, S[i]? = some s → s.1 = n → (∀ j < i, ∀ t, S[j]? = some t → t.1 ≠ n) → aget n S = some s.2
  | [], i, s, h, _, _ => by simp at h
  | t :: S, 0, s, h, hn, _ => by
    simp at h
    subst h
    simp [aget, hn]
  | t :: S, i + 1, s, h, hn, hb => by
    have h0 := hb 0 (by omega) t rfl
    simp only [aget]
    rw [if_neg (fun e => h0 e.symm)]
    exact aget_at (i := i) (by simpa using h) hn fun j hj u hu => hb (j + 1) (by omega) u (by simpa using hu)
theorem where_at {n : ByteArray} {S : List Sec} {i : Nat} {s : Sec} (h : S[i]? = some s) (hn : s.1 = n) (hb : ∀ j < i, ∀ t, S[j]? = some t → t.1 ≠ n) : whereS n S = i := by
  have hl := (List.getElem?_eq_some_iff.1 h).1
  have : S.findIdx? (fun s => s.1 = n) = some i := by
    rw [List.findIdx?_eq_some_iff_getElem]
    refine ⟨hl, ?_, fun j hj => ?_⟩
    · have := (List.getElem?_eq_some_iff.1 h).2
      rw [this]; simpa using hn
    · have := hb j hj S[j] (List.getElem?_eq_getElem (by omega))
      simpa using this
  unfold whereS
  rw [this]
theorem where_none {n : ByteArray} {S : List Sec} (h : ∀ (j : Nat) (t : Sec), S[j]? = some t → t.1 ≠ n) : whereS n S = -1 ∧ aget n S = none := by
  constructor
  · have : S.findIdx? (fun s => s.1 = n) = none := by
      rw [List.findIdx?_eq_none_iff]
      intro x hx
      obtain ⟨j, hj⟩ := List.mem_iff_getElem?.1 hx
      simpa using h j x hj
    unfold whereS
    rw [this]
  · rw [aget_none]
    intro p hp
    obtain ⟨j, hj⟩ := List.mem_iff_getElem?.1 hp
    exact h j p hj
theorem where_cases (n : ByteArray) (S : List Sec) : (whereS n S = -1 ∧ aget n S = none) ∨ ∃ (i : Nat) (s : Sec), whereS n S = i ∧ S[i]? = some s ∧ s.1 = n ∧ aget n S = some s.2 ∧ ∀ j < i, ∀ t, S[j]? = some t → t.1 ≠ n := by
  cases hf : S.findIdx? (fun s => s.1 = n) with
  | none =>
    rw [List.findIdx?_eq_none_iff] at hf
    exact .inl (where_none fun j t ht => by simpa using hf t (List.mem_of_getElem? ht))
  | some i =>
    obtain ⟨h1, h2, h3⟩ := List.findIdx?_eq_some_iff_getElem.1 hf
    have hg := List.getElem?_eq_getElem h1
    have hb : ∀ j < i, ∀ t, S[j]? = some t → t.1 ≠ n := fun j hj t ht => by
      have := h3 j hj
      rw [List.getElem?_eq_getElem (by omega)] at ht
      simp only [Option.some.injEq] at ht
      rw [← ht]; simpa using this
    have hn : S[i].1 = n := by simpa using h2
    exact .inr ⟨i, S[i], where_at hg hn hb, hg, hn, aget_at hg hn hb, hb⟩
theorem where_lt {S : List Sec} {i : Nat} {x : Sec} (hx : S[i]? = some x) : (whereS x.1 S < (i : Int) ↔ (aget x.1 (S.take i)).isSome = true) ∧ whereS x.1 S ≤ i ∧ 0 ≤ whereS x.1 S := by
  have hl := (List.getElem?_eq_some_iff.1 hx).1
  rcases where_cases x.1 S with ⟨_, h⟩ | ⟨k, s, h1, h2, h3, h4, h5⟩
  · rw [aget_none] at h
    exact absurd rfl (h x (List.mem_of_getElem? hx))
  · have hk : k ≤ i := by
      rcases Nat.lt_or_ge i k with h | h
      · exact absurd rfl (h5 i h x hx)
      · exact h
    rw [h1]
    refine ⟨?_, by omega, by omega⟩
    constructor
    · intro hlt
      have hk2 : k < i := by omega
      have : (S.take i)[k]? = some s := by rw [List.getElem?_take, if_pos hk2]; exact h2
      obtain ⟨v, hv⟩ := aget_some (a := x.1) (l := S.take i) ⟨s, List.mem_of_getElem? this, h3⟩
      rw [hv]; rfl
    · intro hs
      obtain ⟨v, hv⟩ := Option.isSome_iff_exists.1 hs
      obtain ⟨j, hj⟩ := List.mem_iff_getElem?.1 (aget_mem hv)
      rw [List.getElem?_take] at hj
      split at hj
      · rename_i hji
        have : ¬ j < k := fun h => h5 j h _ hj rfl
        omega
      · cases hj
section
variable {st : St} {S : List Sec} {tk : Tk}
set_option maxRecDepth 100000 in
theorem lFind14_v {n : ByteArray} : VCalls Try.prog 24 [.sl tk (secs S), .sc (.string n)] st fun r s => r = .sc (.int .i64 (whereS n S)) ∧ st = s := by
  refine vcalls_enter vc24 (Nat.le_of_ble_eq_true rfl) fun hwf hok => ?_
  show Run _ Vc24.body (.fin (finQ Vc24.res _)) _ _
  unfold Vc24
  have hsm := vlen_max (hok (.sl tk (secs S)) (by simp))
  rw [secs_len] at hsm
  simp (config := {maxSteps := 3000000}) only [run_reg, run_seq, run_blk, at_code_n, ops_nil, ops_mv, ev_c, opv_mk, true_and, Int.reduceNeg]
  refine run_loop [4, 5, 6, 7, 8, 9, 10, 11, 12, 13, 14, 15, 16, 17, 18, 19] (fun B s => ∃ i : Nat, i ≤ S.length ∧ B 5 = .sc (.int .i64 i) ∧ (∀ j < i, ∀ t, S[j]? = some t → t.1 ≠ n) ∧ s = st) (fun B _ => S.length - vnat (B 5)) rfl ?_ ?_
  · simp (config := {maxSteps := 3000000}) only [put_get, and_true, ↓reduceIte, ne_eq, eq_self]
    exact ⟨0, by omega, rfl, fun j hj => by omega⟩
  · rintro B s ⟨i, hi, h5, hb, rfl⟩
    by_cases c1 : i < S.length
    · obtain ⟨x, hx⟩ := get_ex c1
      by_cases c2 : x.1 = n
      · simp (config := {maxSteps := 3000000}) only [run_skip, run_reg, run_seq, run_blk, run_ret, run_cond, if_true, at_code_n, at_code_r, at_blk_r, at_rnd_r, at_fin_r, ops_nil, ops_mv, ops_bin, ops_fld, ops_ix, ops_load, ops_len, ev_t, put_get, opv_mk, over_get, vnat, args0, List.getD_cons_zero, List.getD_cons_succ, vbin, vbinI, vbinS, vfld, vlen, vix, vload, takeV, V.cells, List.length_cons, List.length_nil, List.getElem?_cons_zero, and_true, true_and, Nat.reduceEqDiff, Nat.reduceAdd, Int.toNat_natCast, Int.reduceNeg, Nat.zero_add, Nat.add_zero, ↓reduceIte, vret, rvAll, rvVal, resv_1, ne_eq, eq_self, reduceCtorEq, Bool.false_eq_true, List.contains_cons, List.contains_nil, Nat.reduceBEq, Bool.or_false, Bool.or_true, h5, secs_get hx, secs_len, decide_eq_true (show (i : Int) < (S.length : Int) by omega), decide_eq_true c2]
        repeat (apply And.intro; focus (first | omega | (simp; done)))
        exact ⟨_, _, Wk.refl _, hwf.weak, by rw [where_at hx c2 hb], rfl⟩
      · simp (config := {maxSteps := 3000000}) only [run_skip, run_reg, run_seq, run_blk, run_cond, if_true, if_false, at_code_n, at_blk_n, at_rnd_n, ops_nil, ops_mv, ops_bin, ops_fld, ops_ix, ops_load, ops_len, ev_t, ev_c, put_get, opv_mk, over_get, rel_mk, vnat, args0, List.getD_cons_zero, List.getD_cons_succ, vbin, vbinI, vbinS, norm, vfld, vlen, vix, vload, takeV, V.cells, List.length_cons, List.length_nil, List.getElem?_cons_zero, and_true, true_and, Nat.reduceEqDiff, Nat.reduceAdd, Int.toNat_natCast, Int.reduceNeg, Nat.zero_add, Nat.add_zero, ↓reduceIte, ne_eq, eq_self, reduceCtorEq, Bool.false_eq_true, List.contains_cons, List.contains_nil, Nat.reduceBEq, Bool.or_false, Bool.or_true, h5, secs_get hx, secs_len, decide_eq_true (show (i : Int) < (S.length : Int) by omega), decide_eq_false c2]
        repeat (apply And.intro; focus (first | omega | (simp; done)))
        refine ⟨⟨i + 1, by omega, by simp, fun j hj t ht => ?_⟩, by omega⟩
        by_cases e : j = i
        · subst e
          rw [hx] at ht
          cases ht
          exact c2
        · exact hb j (by omega) t ht
    · have : ∀ (j : Nat) (t : Sec), S[j]? = some t → t.1 ≠ n := fun j t ht => hb j (by have := (List.getElem?_eq_some_iff.1 ht).1; omega) t ht
      simp (config := {maxSteps := 3000000}) only [run_reg, run_seq, run_exit, run_ret, run_cond, if_false, at_code_n, at_code_x, at_blk_x, at_rnd_x, at_fin_r, ops_nil, ops_mv, ops_bin, ops_len, ev_t, ev_c, put_get, opv_mk, over_get, vnat, args0, List.getD_cons_zero, vbin, vbinI, vlen, and_true, true_and, Nat.reduceEqDiff, Int.toNat_natCast, Int.reduceNeg, ↓reduceIte, vret, rvAll, rvVal, resv_1, ne_eq, eq_self, reduceCtorEq, Bool.false_eq_true, List.contains_cons, List.contains_nil, Nat.reduceBEq, Bool.or_false, Bool.or_true, h5, secs_len, decide_eq_false (show ¬ (i : Int) < (S.length : Int) by omega)]
      exact ⟨_, _, Wk.refl _, hwf.weak, by rw [(where_none this).1], rfl⟩
set_option maxRecDepth 100000 in
theorem lWhy14_v : VCalls Try.prog 21 [.sl tk (secs S)] st fun r s => r = .sc (.int .i64 (newS S)) ∧ st = s := by
  refine vcalls_enter vc21 (Nat.le_of_ble_eq_true rfl) fun hwf hok => ?_
  show Run _ Vc21.body (.fin (finQ Vc21.res _)) _ _
  unfold Vc21
  have hsm := vlen_max (hok (.sl tk (secs S)) (by simp))
  rw [secs_len] at hsm
  by_cases c0 : 8 < S.length
  · simp (config := {maxSteps := 3000000}) only [run_reg, run_seq, run_ret, run_cond, if_true, at_code_n, at_code_r, at_fin_r, ops_nil, ops_mv, ops_bin, ops_len, ev_t, ev_c, put_get, opv_mk, args0, List.getD_cons_zero, vbin, vbinI, vlen, and_true, true_and, ↓reduceIte, vret, rvAll, rvVal, resv_1, eq_self, reduceCtorEq, secs_len, decide_eq_true (show (8 : Int) < (S.length : Int) by omega)]
    exact ⟨_, _, Wk.refl _, hwf.weak, by simp [newS, c0], rfl⟩
  have e0 : newS S = whyS [] S := by simp [newS, c0]
  rw [e0]
  simp (config := {maxSteps := 3000000}) only [run_skip, run_reg, run_seq, run_blk, run_cond, if_false, at_code_n, ops_nil, ops_mv, ops_bin, ops_len, ev_t, ev_c, put_get, opv_mk, args0, List.getD_cons_zero, vbin, vbinI, vlen, true_and, ↓reduceIte, eq_self, reduceCtorEq, secs_len, decide_eq_false (show ¬ (8 : Int) < (S.length : Int) by omega)]
  refine run_loop [2, 3, 7, 8, 9, 10, 11, 12, 13, 14, 15, 16, 17, 18, 19, 20, 21, 22, 23, 24, 25, 26, 27] (fun B s => ∃ i : Nat, i ≤ S.length ∧ B 3 = .sc (.int .i64 i) ∧ whyS [] S = whyS (S.take i) (S.drop i) ∧ s = st) (fun B _ => S.length - vnat (B 3)) rfl ?_ ?_
  · simp (config := {maxSteps := 3000000}) only [put_get, and_true, ↓reduceIte, eq_self]
    exact ⟨0, by omega, rfl, rfl⟩
  · rintro B s ⟨i, hi, h3, hE, rfl⟩
    by_cases c1 : i < S.length
    · obtain ⟨x, hx⟩ := get_ex c1
      have hdr : S.drop i = x :: S.drop (i + 1) := by
        rw [List.drop_eq_getElem_cons c1]
        have := (List.getElem?_eq_some_iff.1 hx).2
        rw [this]
      have htk : S.take (i + 1) = S.take i ++ [x] := by rw [List.take_add_one, hx]; rfl
      have hE0 := hE
      rw [hdr] at hE
      simp only [whyS] at hE
      simp (config := {maxSteps := 3000000}) only [run_skip, run_reg, run_seq, run_blk, run_cond, if_true, at_code_n, ops_nil, ops_mv, ops_bin, ops_ix, ops_load, ops_len, ops_call, ev_t, put_get, opv_mk, over_get, vnat, args0, List.getD_cons_zero, vbin, vbinI, vlen, vix, vload, takeV, V.cells, List.map_cons, List.map_nil, List.length_cons, List.length_nil, List.take_succ_cons, List.drop_zero, List.take_nil, and_true, true_and, Nat.reduceEqDiff, Nat.reduceAdd, Nat.reduceLeDiff, Int.toNat_natCast, Nat.zero_add, ↓reduceIte, eq_self, reduceCtorEq, Bool.false_eq_true, List.contains_cons, List.contains_nil, Nat.reduceBEq, Bool.or_false, Bool.or_true, h3, secs_get hx, secs_len, decide_eq_true (show (i : Int) < (S.length : Int) by omega)]
      repeat (apply And.intro; focus (first | omega | (simp; done)))
      refine Cal.mk lRight14_v ?_
      rintro _ _ ⟨rfl, rfl⟩ -
      cases c7 : rightS (x.1, x.2)
      · rw [if_pos c7] at hE
        simp (config := {maxSteps := 3000000}) only [run_reg, run_seq, run_ret, run_cond, if_true, at_code_n, at_code_r, at_blk_r, at_rnd_r, at_fin_r, ops_nil, ops_mv, ops_un, ev_t, ev_c, put_get, opv_mk, vun, obsOk, and_true, true_and, ↓reduceIte, vret, rvAll, rvVal, resv_1, Bool.not_false, eq_self]
        exact ⟨_, _, Wk.refl _, hwf.weak, by rw [hE], rfl⟩
      rw [if_neg (by rw [c7]; simp)] at hE
      simp (config := {maxSteps := 3000000}) only [run_skip, run_reg, run_seq, run_cond, if_false, at_code_n, ops_nil, ops_mv, ops_un, ops_fld, ops_ix, ops_load, ops_call, ev_t, put_get, opv_mk, over_get, args0, List.getD_cons_zero, vun, vfld, vix, vload, takeV, V.cells, obsOk, List.map_cons, List.map_nil, List.length_cons, List.length_nil, List.getElem?_cons_zero, and_true, true_and, Nat.reduceEqDiff, Nat.reduceAdd, Int.toNat_natCast, Nat.zero_add, Nat.add_zero, ↓reduceIte, Bool.not_true, eq_self, reduceCtorEq, Bool.false_eq_true, List.contains_cons, List.contains_nil, Nat.reduceBEq, Bool.or_false, Bool.or_true, h3, secs_get hx]
      repeat (apply And.intro; focus (first | omega | (simp; done)))
      refine Cal.mk lFind14_v ?_
      rintro _ _ ⟨rfl, rfl⟩ -
      obtain ⟨w1, w2, w3⟩ := where_lt hx
      by_cases c8 : whereS x.1 S < (i : Int)
      · rw [if_pos (w1.1 c8)] at hE
        simp (config := {maxSteps := 3000000}) only [run_reg, run_seq, run_ret, run_cond, if_true, at_code_n, at_code_r, at_blk_r, at_rnd_r, at_fin_r, ops_nil, ops_mv, ops_bin, ev_t, ev_c, put_get, opv_mk, over_get, vbin, vbinI, obsOk, and_true, true_and, Nat.reduceEqDiff, ↓reduceIte, vret, rvAll, rvVal, resv_1, eq_self, List.contains_cons, List.contains_nil, Nat.reduceBEq, Bool.or_false, Bool.or_true, h3, decide_eq_true c8]
        exact ⟨_, _, Wk.refl _, hwf.weak, by rw [hE], rfl⟩
      · rw [if_neg (fun h => c8 (w1.2 h))] at hE
        simp (config := {maxSteps := 3000000}) only [run_skip, run_reg, run_cond, if_false, at_code_n, at_blk_n, at_rnd_n, ops_nil, ops_mv, ops_bin, ev_t, ev_c, put_get, opv_mk, over_get, rel_mk, vbin, vbinI, norm, obsOk, and_true, true_and, Nat.reduceEqDiff, Int.reduceNeg, ↓reduceIte, eq_self, List.contains_cons, List.contains_nil, Nat.reduceBEq, Bool.or_false, Bool.or_true, h3, decide_eq_false c8]
        repeat (apply And.intro; focus (first | omega | (simp; done)))
        exact ⟨⟨i + 1, by omega, by simp, by rw [htk]; exact hE⟩, by omega⟩
    · obtain rfl : i = S.length := by omega
      rw [List.drop_length, List.take_length] at hE
      simp (config := {maxSteps := 3000000}) only [run_reg, run_seq, run_exit, run_ret, run_cond, if_false, at_code_n, at_code_x, at_blk_x, at_rnd_x, at_fin_r, ops_nil, ops_mv, ops_bin, ops_len, ev_t, ev_c, put_get, opv_mk, over_get, vnat, args0, List.getD_cons_zero, vbin, vbinI, vlen, and_true, true_and, Nat.reduceEqDiff, Int.toNat_natCast, ↓reduceIte, vret, rvAll, rvVal, resv_1, decide_false, Int.lt_irrefl, eq_self, reduceCtorEq, Bool.false_eq_true, List.contains_cons, List.contains_nil, Nat.reduceBEq, Bool.or_false, Bool.or_true, h3, secs_len]
      exact ⟨_, _, Wk.refl _, hwf.weak, by rw [hE]; rfl, rfl⟩
set_option maxRecDepth 100000 in
theorem lAlive14_v : VCalls Try.prog 23 [] st fun r s => r = .sc (.bool true) ∧ st = s := by
  refine vcalls_enter vc23 (Nat.le_of_ble_eq_true rfl) fun hwf hok => ?_
  show Run _ Vc23.body (.fin (finQ Vc23.res _)) _ _
  unfold Vc23
  simp (config := {maxSteps := 3000000}) only [run_reg, run_seq, at_code_n, ops_nil, ops_mv, ops_bld, ops_bslo, ev_t, ev_c, put_get, opv_mk, vbld, fillV, splice, V.cells, strip, strip1, List.map_cons, List.map_nil, List.length_cons, List.length_nil, List.take_succ_cons, List.take_zero, List.drop_succ_cons, List.drop_zero, List.cons_append, List.nil_append, List.append_nil, List.drop_nil, and_true, true_and, Nat.reduceAdd, Nat.reduceLT, Nat.reduceLeDiff, Nat.reduceLT, Nat.zero_add, ↓reduceIte, eq_self]
  refine Bo.own (by simp [allLen, V.cells]) ?_
  intro g hg
  simp (config := {maxSteps := 3000000}) only [ops_call, ev_t, put_get, obsOk, List.map_cons, List.map_nil, List.length_cons, List.length_nil, true_and, Nat.zero_add, ↓reduceIte, eq_self]
  refine Cal.mk (secNew_v (S := [(⟨#[97]⟩, ⟨#[120]⟩)])) ?_
  rintro _ s1 (⟨h, _⟩ | ⟨_, mb, es, c, rfl, T, hw, hl, hm⟩) -
  · exact absurd (by decide) h
  simp (config := {maxSteps := 3000000}) only [run_reg, run_seq, at_code_n, ops_nil, ops_mv, ops_load, ops_ext, ops_alc, ops_store, ops_call, ev_t, ev_c, put_get, put_none, opv_mk, stb_some, sto_ptr, Stp, put_box_same, put_put, vext, vload, takeV, takeB, mono_sc, splice, V.cells, ptrV, obsOk, List.map_cons, List.map_nil, List.length_cons, List.length_nil, List.getElem?_cons_zero, List.getElem?_cons_succ, List.take_succ_cons, List.take_zero, List.drop_succ_cons, List.drop_zero, List.nil_append, List.append_nil, List.take_nil, List.drop_nil, and_true, true_and, Nat.reduceEqDiff, Nat.reduceLT, Nat.reduceLeDiff, Nat.reduceLT, Nat.zero_add, ↓reduceIte, eq_self]
  intro b hb
  have nb : mb ≠ b := by have := hl.box mb _ T.box; omega
  have T2 := T.put (cs := [.sc (.map (some mb))]) nb
  refine Cal.mk (secFind_v T2) ?_
  rintro _ _ ⟨rfl, rfl⟩ -
  have e1 : (aget ⟨#[97]⟩ [((⟨#[97]⟩ : ByteArray), (⟨#[120]⟩ : ByteArray))]).isSome = true := by decide
  have e2 : getS ⟨#[97]⟩ [((⟨#[97]⟩ : ByteArray), (⟨#[120]⟩ : ByteArray))] = ⟨#[120]⟩ := by decide
  simp (config := {maxSteps := 3000000}) only [run_reg, run_seq, at_code_n, ops_nil, ops_grd, grd_tt, ops_mv, ops_pick, ops_bin, ops_load, ops_ext, ops_call, ev_t, ev_c, put_get, opv_mk, put_box_same, vpick, vbin, vbinI, vbinS, vext, vload, takeV, takeB, mono_sc, obsOk, List.map_cons, List.map_nil, List.length_cons, List.length_nil, List.getElem?_cons_zero, List.getElem?_cons_succ, List.take_succ_cons, List.drop_zero, List.take_nil, and_true, true_and, Nat.reduceEqDiff, Nat.reduceLeDiff, Nat.zero_add, ↓reduceIte, decide_true, eq_self, e1, e2]
  refine Cal.mk (secLen_v T2) ?_
  rintro _ _ ⟨rfl, rfl⟩ -
  simp (config := {maxSteps := 3000000}) only [run_ret, at_code_n, at_fin_r, ops_nil, ops_grd, grd_tt, ops_mv, ops_pick, ops_bin, ev_t, ev_c, put_get, opv_mk, vpick, vbin, vbinI, obsOk, List.length_cons, List.length_nil, and_true, true_and, Nat.reduceEqDiff, Nat.zero_add, ↓reduceIte, vret, rvAll, rvVal, resv_1, eq_self]
  exact ⟨_, _, Wk.refl _, weak_put (weak_tr (weak_use hwf.weak hg) hw) (by have := hw.sz; simp only [use_sz] at this; omega), rfl, rfl⟩
set_option maxRecDepth 100000 in
theorem eqStr_v {b1 n1 b2 n2 : Nat} {L : List ByteArray} {s1 s2 : List V} (h1 : st.box b1 = some (row sval L s1)) (h2 : st.box b2 = some (row sval L s2)) (hl : L.length < 4611686018427387904) :
    VCalls Try.prog 26 [dataV b1 L.length n1, dataV b2 L.length n2] st fun r s => r = .sc (.bool true) ∧ st = s := by
  refine vcalls_enter vc26 (Nat.le_of_ble_eq_true rfl) fun hwf hok => ?_
  show Run _ Vc26.body (.fin (finQ Vc26.res _)) _ _
  unfold Vc26
  simp (config := {maxSteps := 3000000}) only [run_skip, run_reg, run_seq, run_blk, run_cond, if_false, at_code_n, ops_nil, ops_mv, ops_bin, ops_len, ev_t, ev_c, put_get, opv_mk, args0, List.getD_cons_zero, List.getD_cons_succ, vbin, vbinI, vlen, true_and, Nat.reduceEqDiff, ↓reduceIte, decide_false, ne_eq, not_true_eq_false, eq_self, reduceCtorEq, dataV]
  refine run_loop [4, 5, 13, 14, 15, 16, 17, 18, 19, 20, 21, 22, 23, 24, 25] (fun B s => ∃ i : Nat, i ≤ L.length ∧ B 13 = .sc (.int .i64 i) ∧ s = st) (fun B _ => L.length - vnat (B 13)) rfl ?_ ?_
  · simp (config := {maxSteps := 3000000}) only [put_get, and_true, ↓reduceIte, eq_self]
    exact ⟨0, by omega, rfl⟩
  · rintro B s ⟨i, hi, h13, rfl⟩
    by_cases c1 : i < L.length
    · simp (config := {maxSteps := 3000000}) only [run_skip, run_reg, run_seq, run_blk, run_cond, if_true, if_false, at_code_n, at_blk_n, at_rnd_n, ops_nil, ops_mv, ops_bin, ops_ix, ops_load, ev_t, ev_c, put_get, opv_mk, over_get, rel_mk, vnat, args0, List.getD_cons_zero, List.getD_cons_succ, vbin, vbinI, vbinS, norm, vix, vload, takeV, takeB, V.cells, List.length_cons, List.length_nil, and_true, true_and, Nat.reduceEqDiff, Int.toNat_natCast, Int.reduceNeg, Nat.zero_add, Nat.mul_one, ↓reduceIte, decide_false, ne_eq, not_true_eq_false, eq_self, reduceCtorEq, Bool.false_eq_true, List.contains_cons, List.contains_nil, Nat.reduceBEq, Bool.or_false, Bool.or_true, h13, h1, h2, row_get c1, decide_eq_true (show (i : Int) < (L.length : Int) by omega)]
      repeat (apply And.intro; focus (first | omega | (simp; done)))
      exact ⟨⟨i + 1, by omega, by simp⟩, by omega⟩
    · simp (config := {maxSteps := 3000000}) only [run_reg, run_seq, run_exit, run_ret, run_cond, if_false, at_code_n, at_code_x, at_blk_x, at_rnd_x, at_fin_r, ops_nil, ops_mv, ops_bin, ev_t, ev_c, put_get, opv_mk, over_get, vnat, vbin, vbinI, and_true, true_and, Nat.reduceEqDiff, Int.toNat_natCast, ↓reduceIte, vret, rvAll, rvVal, resv_1, eq_self, Bool.false_eq_true, List.contains_cons, List.contains_nil, Nat.reduceBEq, Bool.or_false, Bool.or_true, h13, decide_eq_false (show ¬ (i : Int) < (L.length : Int) by omega)]
      exact ⟨_, _, Wk.refl _, hwf.weak, rfl, rfl⟩
set_option maxRecDepth 100000 in
theorem eqStr0_v {b1 n1 : Nat} : VCalls Try.prog 26 [dataV b1 0 n1, .sl .nil []] st fun r s => r = .sc (.bool true) ∧ st = s := by
  have nc0 : ((0 : Nat) : Int) = 0 := rfl
  refine vcalls_enter vc26 (Nat.le_of_ble_eq_true rfl) fun hwf hok => ?_
  show Run _ Vc26.body (.fin (finQ Vc26.res _)) _ _
  unfold Vc26
  simp (config := {maxSteps := 3000000}) only [run_skip, run_reg, run_seq, run_blk, run_cond, if_false, at_code_n, ops_nil, ops_mv, ops_bin, ops_len, ev_t, ev_c, put_get, opv_mk, args0, List.getD_cons_zero, List.getD_cons_succ, vbin, vbinI, vlen, List.length_nil, true_and, Nat.reduceEqDiff, ↓reduceIte, decide_false, ne_eq, not_true_eq_false, eq_self, reduceCtorEq, dataV, nc0]
  refine run_loop [4, 5, 13, 14, 15, 16, 17, 18, 19, 20, 21, 22, 23, 24, 25] (fun B s => B 13 = .sc (.int .i64 0) ∧ s = st) (fun B _ => 0) rfl ?_ ?_
  · simp (config := {maxSteps := 3000000}) only [put_get, and_true, ↓reduceIte, eq_self]
  · rintro B s ⟨h13, rfl⟩
    simp (config := {maxSteps := 3000000}) only [run_reg, run_seq, run_exit, run_ret, run_cond, if_false, at_code_n, at_code_x, at_blk_x, at_rnd_x, at_fin_r, ops_nil, ops_mv, ops_bin, ev_t, ev_c, put_get, opv_mk, over_get, vbin, vbinI, and_true, true_and, Nat.reduceEqDiff, ↓reduceIte, vret, rvAll, rvVal, resv_1, decide_false, Int.lt_irrefl, eq_self, Bool.false_eq_true, List.contains_cons, List.contains_nil, Nat.reduceBEq, Bool.or_false, Bool.or_true, h13]
    exact ⟨_, _, Wk.refl _, hwf.weak, rfl, rfl⟩
theorem sortS0_v : VCalls Try.prog 25 [.sl .nil []] st fun _ s => st = s := osort0_v vc25 vc71 vc120 tab_ok sortsS
end
end Go.Proofs.Ytlngegoamfklgaa
