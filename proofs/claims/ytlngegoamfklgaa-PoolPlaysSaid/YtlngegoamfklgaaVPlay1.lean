/- The pool's law, call by call: what the law's own functions answer. -/
import Derived.Test.YtlngegoamfklgaaVPool4
import Derived.Test.YtlngegoamfklgaaVCut
namespace Go.Proofs.Ytlngegoamfklgaa
open Go

/-! ### Plain -/
section
variable {κ ν : Type} [DecidableEq κ] {a : κ}
theorem at_first : ∀ {l : List (κ × ν)} {i : Nat} {p : κ × ν}, l[i]? = some p → p.1 = a → (∀ (j : Nat) (q : κ × ν), j < i → l[j]? = some q → q.1 ≠ a) → aget a l = some p.2 ∧ adel a l = l.take i ++ l.drop (i + 1)
  | [], i, p, h, _, _ => by simp at h
  | t :: l, 0, p, h, hn, _ => by
    simp at h
    subst h
    simp [aget, adel, hn]
  | t :: l, i + 1, p, h, hn, hb => by
    have h0 := hb 0 t (by omega) rfl
    have ih := at_first (l := l) (i := i) (by simpa using h) hn fun j q hj hq => hb (j + 1) q (by omega) (by simpa using hq)
    simp only [aget, adel]
    rw [if_neg (fun e => h0 e.symm), if_neg (fun e => h0 e.symm)]
    exact ⟨ih.1, by rw [ih.2]; rfl⟩
theorem at_none {l : List (κ × ν)} (h : ∀ (j : Nat) (q : κ × ν), l[j]? = some q → q.1 ≠ a) : aget a l = none := by
  rw [aget_none]
  intro p hp
  obtain ⟨j, hj⟩ := List.mem_iff_getElem?.1 hp
  exact h j p hj
end
/-- What 'has' answers. -/
def Hs (a : Int) (l : List (Int × ByteArray)) (r : Int) : Prop := (r = -1 ∧ aget a l = none) ∨ ∃ (i : Nat) (p : Int × ByteArray), r = i ∧ l[i]? = some p ∧ p.1 = a ∧ aget a l = some p.2 ∧ adel a l = l.take i ++ l.drop (i + 1)
theorem Hs.neg {a r : Int} {l : List (Int × ByteArray)} (h : Hs a l r) : (r < 0) ↔ aget a l = none := by
  rcases h with ⟨rfl, h⟩ | ⟨i, p, rfl, _, _, h, _⟩
  · simp [h]
  · rw [h]; constructor
    · intro; omega
    · intro e; cases e
/-- The i-th address of a pool; is it free? -/
def nthA (first : Int) (i : Nat) : Int := (first + i) % 4294967296
def freeB (first : Int) (kept l : List (Int × ByteArray)) (i : Nat) : Bool := (aget (nthA first i) l).isNone && (aget (nthA first i) kept).isNone
def freeN (first : Int) (kept l : List (Int × ByteArray)) (n : Nat) : List Int := (List.range n).filterMap fun i => if freeB first kept l i = true then some (nthA first i) else none
section
variable {first : Int} {kept l : List (Int × ByteArray)}
theorem freeN_succ (n : Nat) : freeN first kept l (n + 1) = freeN first kept l n ++ (if freeB first kept l n = true then [nthA first n] else []) := by
  unfold freeN
  rw [List.range_succ, List.filterMap_append]
  congr 1
  by_cases h : freeB first kept l n = true
  · simp [h]
  · simp [h]
theorem freeN_len (n : Nat) : (freeN first kept l n).length ≤ n := by
  induction n with
  | zero => simp [freeN]
  | succ n ih =>
    rw [freeN_succ, List.length_append]
    split <;> simp <;> omega
theorem freeN_nil {n : Nat} (h : ∀ j < n, freeB first kept l j = false) : freeN first kept l n = [] := by
  induction n with
  | zero => rfl
  | succ n ih => rw [freeN_succ, ih (fun j hj => h j (by omega)), h n (by omega)]; rfl
theorem freeN_head {n i : Nat} (hi : i < n) (hf : freeB first kept l i = true) (h : ∀ j < i, freeB first kept l j = false) : ∃ fs, freeN first kept l n = nthA first i :: fs := by
  induction n with
  | zero => omega
  | succ n ih =>
    rw [freeN_succ]
    by_cases e : i = n
    · subst e
      rw [freeN_nil h, if_pos hf]
      exact ⟨[], rfl⟩
    · obtain ⟨fs, hfs⟩ := ih (by omega)
      rw [hfs]
      exact ⟨_, rfl⟩
theorem free_iff {i : Nat} : freeB first kept l i = false ↔ aget (nthA first i) kept ≠ none ∨ aget (nthA first i) l ≠ none := by
  unfold freeB
  cases h1 : aget (nthA first i) kept <;> cases h2 : aget (nthA first i) l <;> simp
end
def oneV (p : Int × ByteArray) : V := .agg [.sc (.int .u32 p.1), .sc (.string p.2)]
def ones (l : List (Int × ByteArray)) : List V := l.map oneV
theorem ones_len (l : List (Int × ByteArray)) : (ones l).length = l.length := by simp [ones]
theorem ones_get {l : List (Int × ByteArray)} {i : Nat} {p : Int × ByteArray} (h : l[i]? = some p) : (ones l)[i]? = some (.agg [.sc (.int .u32 p.1), .sc (.string p.2)]) := by simp [ones, h, oneV]
theorem ones_take (l : List (Int × ByteArray)) (k : Nat) : (ones l).take k = ones (l.take k) := by simp [ones, List.map_take]
theorem ones_drop (l : List (Int × ByteArray)) (k : Nat) : (ones l).drop k = ones (l.drop k) := by simp [ones, List.map_drop]
theorem ones_append (l m : List (Int × ByteArray)) : ones l ++ ones m = ones (l ++ m) := by simp [ones]
theorem allSz_ones (l : List (Int × ByteArray)) : allSz 2 (ones l) := fun d hd => by
  obtain ⟨x, _, rfl⟩ := List.mem_map.1 hd; rfl
theorem allSz_ones' (l : List (Int × ByteArray)) : allSz 2 (ones l) = True := by simp [allSz_ones]
section
variable {st : St} {first many : Int} {S : List (ByteArray × Int)} {l : List (Int × ByteArray)} {tk t2 : Tk}
set_option maxRecDepth 100000 in
theorem has29_v {a : Int} : VCalls Try.prog 39 [.sl tk (ones l), .sc (.int .u32 a)] st fun v s => ∃ r, Hs a l r ∧ v = .sc (.int .i64 r) ∧ st = s := by
  refine vcalls_enter vc39 (Nat.le_of_ble_eq_true rfl) fun hwf hok => ?_
  show Run _ Vc39.body (.fin (finQ Vc39.res _)) _ _
  unfold Vc39
  have hsm := vlen_max (hok (.sl tk (ones l)) (by simp))
  rw [ones_len] at hsm
  simp (config := {maxSteps := 3000000}) only [run_reg, run_seq, run_blk, at_code_n, ops_nil, ops_mv, ev_c, opv_mk, true_and, Int.reduceNeg]
  refine run_loop [4, 5, 6, 7, 8, 9, 10, 11, 12, 13, 14, 15, 16, 17, 18, 19] (fun B s => ∃ i : Nat, i ≤ l.length ∧ B 5 = .sc (.int .i64 i) ∧ (∀ (j : Nat) (q : Int × ByteArray), j < i → l[j]? = some q → q.1 ≠ a) ∧ s = st) (fun B _ => l.length - vnat (B 5)) rfl ?_ ?_
  · simp (config := {maxSteps := 3000000}) only [put_get, and_true, ↓reduceIte, ne_eq, eq_self]
    exact ⟨0, by omega, rfl, fun j q hj => by omega⟩
  · rintro B s ⟨i, hi, h5, hb, rfl⟩
    by_cases c1 : i < l.length
    · obtain ⟨x, hx⟩ := get_ex c1
      by_cases c2 : x.1 = a
      · simp (config := {maxSteps := 3000000}) only [run_skip, run_reg, run_seq, run_blk, run_ret, run_cond, if_true, at_code_n, at_code_r, at_blk_r, at_rnd_r, at_fin_r, ops_nil, ops_mv, ops_bin, ops_fld, ops_ix, ops_load, ops_len, ev_t, put_get, opv_mk, over_get, vnat, args0, List.getD_cons_zero, List.getD_cons_succ, vbin, vbinI, vfld, vlen, vix, vload, takeV, V.cells, List.length_cons, List.length_nil, List.getElem?_cons_zero, and_true, true_and, Nat.reduceEqDiff, Nat.reduceAdd, Int.toNat_natCast, Int.reduceNeg, Nat.zero_add, Nat.add_zero, ↓reduceIte, vret, rvAll, rvVal, resv_1, ne_eq, eq_self, reduceCtorEq, Bool.false_eq_true, List.contains_cons, List.contains_nil, Nat.reduceBEq, Bool.or_false, Bool.or_true, h5, ones_get hx, ones_len, decide_eq_true (show (i : Int) < (l.length : Int) by omega), decide_eq_true c2]
        repeat (apply And.intro; focus (first | omega | (simp; done)))
        exact ⟨_, _, Wk.refl _, hwf.weak, i, .inr ⟨i, x, rfl, hx, c2, (at_first hx c2 hb).1, (at_first hx c2 hb).2⟩, rfl, rfl⟩
      · simp (config := {maxSteps := 3000000}) only [run_skip, run_reg, run_seq, run_blk, run_cond, if_true, if_false, at_code_n, at_blk_n, at_rnd_n, ops_nil, ops_mv, ops_bin, ops_fld, ops_ix, ops_load, ops_len, ev_t, ev_c, put_get, opv_mk, over_get, rel_mk, vnat, args0, List.getD_cons_zero, List.getD_cons_succ, vbin, vbinI, norm, vfld, vlen, vix, vload, takeV, V.cells, List.length_cons, List.length_nil, List.getElem?_cons_zero, and_true, true_and, Nat.reduceEqDiff, Nat.reduceAdd, Int.toNat_natCast, Int.reduceNeg, Nat.zero_add, Nat.add_zero, ↓reduceIte, ne_eq, eq_self, reduceCtorEq, Bool.false_eq_true, List.contains_cons, List.contains_nil, Nat.reduceBEq, Bool.or_false, Bool.or_true, h5, ones_get hx, ones_len, decide_eq_true (show (i : Int) < (l.length : Int) by omega), decide_eq_false c2]
        repeat (apply And.intro; focus (first | omega | (simp; done)))
        refine ⟨⟨i + 1, by omega, by simp, fun j t hj ht => ?_⟩, by omega⟩
        by_cases e : j = i
        · subst e
          rw [hx] at ht
          cases ht
          exact c2
        · exact hb j t (by omega) ht
    · have : ∀ (j : Nat) (q : Int × ByteArray), l[j]? = some q → q.1 ≠ a := fun j t ht => hb j t (by have := (List.getElem?_eq_some_iff.1 ht).1; omega) ht
      simp (config := {maxSteps := 3000000}) only [run_reg, run_seq, run_exit, run_ret, run_cond, if_false, at_code_n, at_code_x, at_blk_x, at_rnd_x, at_fin_r, ops_nil, ops_mv, ops_bin, ops_len, ev_t, ev_c, put_get, opv_mk, over_get, vnat, args0, List.getD_cons_zero, vbin, vbinI, vlen, and_true, true_and, Nat.reduceEqDiff, Int.toNat_natCast, Int.reduceNeg, ↓reduceIte, vret, rvAll, rvVal, resv_1, ne_eq, eq_self, reduceCtorEq, Bool.false_eq_true, List.contains_cons, List.contains_nil, Nat.reduceBEq, Bool.or_false, Bool.or_true, h5, ones_len, decide_eq_false (show ¬ (i : Int) < (l.length : Int) by omega)]
      exact ⟨_, _, Wk.refl _, hwf.weak, -1, .inl ⟨rfl, at_none this⟩, rfl, rfl⟩
def shapeV (first many : Int) (tk : Tk) (S : List (ByteArray × Int)) : V := .agg [.sc (.int .u32 first), .sc (.int .i64 many), .sl tk (sts S)]
theorem swp_get {i : Nat} {x : ByteArray × Int} (h : S[i]? = some x) : (swp S)[i]? = some (x.2, x.1) := by simp [swp, h]
set_option maxRecDepth 100000 in
theorem kept29_v {a : Int} : VCalls Try.prog 76 [shapeV first many tk S, .sc (.int .u32 a)] st fun v s => v = .sc (.bool (aget a (swp S)).isSome) ∧ st = s := by
  refine vcalls_enter vc76 (Nat.le_of_ble_eq_true rfl) fun hwf hok => ?_
  show Run _ Vc76.body (.fin (finQ Vc76.res _)) _ _
  unfold Vc76
  have hsm : (S.length : Int) ≤ 9223372036854775807 := by
    have := hok (shapeV first many tk S) (by simp)
    have := vlen_max (this.part (i := 2) rfl)
    rwa [sts_len] at this
  simp (config := {maxSteps := 3000000}) only [run_reg, run_seq, run_blk, at_code_n, ops_nil, ops_mv, ops_box, ev_t, ev_c, opv_mk, Bx, args0, List.getD_cons_zero, V.cells, ptrV, obsOk, List.length_cons, List.length_nil, true_and, Nat.reduceAdd, Nat.zero_add, ne_eq, not_false_eq_true, reduceCtorEq, shapeV]
  intro b hb
  refine run_loop [4, 5, 6, 7, 8, 9, 10, 11, 12, 13, 14, 15, 16, 17, 18, 19, 20] (fun B s => ∃ i : Nat, i ≤ S.length ∧ B 5 = .sc (.int .i64 i) ∧ (∀ (j : Nat) (q : Int × ByteArray), j < i → (swp S)[j]? = some q → q.1 ≠ a) ∧ s = st.put b [.sc (.int .u32 first), .sc (.int .i64 many), .sl tk (sts S)]) (fun B _ => S.length - vnat (B 5)) rfl ?_ ?_
  · simp (config := {maxSteps := 3000000}) only [put_get, and_true, ↓reduceIte, ne_eq, eq_self]
    exact ⟨0, by omega, rfl, fun j q hj => by omega⟩
  · rintro B s ⟨i, hi, h5, hbf, rfl⟩
    by_cases c1 : i < S.length
    · obtain ⟨x, hx⟩ := get_ex c1
      by_cases c2 : x.2 = a
      · simp (config := {maxSteps := 3000000}) only [run_skip, run_reg, run_seq, run_blk, run_ret, run_cond, if_true, at_code_n, at_code_r, at_blk_r, at_rnd_r, at_fin_r, ops_nil, ops_mv, ops_bin, ops_fld, ops_ix, ops_load, ops_len, ev_t, ev_c, put_get, opv_mk, over_get, vnat, put_box_same, args0, List.getD_cons_zero, List.getD_cons_succ, vbin, vbinI, vfld, vlen, vix, vload, takeV, takeB, V.cells, List.length_cons, List.length_nil, List.getElem?_cons_zero, List.getElem?_cons_succ, and_true, true_and, Nat.reduceEqDiff, Nat.reduceAdd, Int.toNat_natCast, Nat.zero_add, ↓reduceIte, vret, rvAll, rvVal, resv_1, ne_eq, eq_self, Bool.false_eq_true, List.contains_cons, List.contains_nil, Nat.reduceBEq, Bool.or_false, Bool.or_true, h5, sts_get hx, sts_len, decide_eq_true (show (i : Int) < (S.length : Int) by omega), decide_eq_true c2]
        repeat (apply And.intro; focus (first | omega | (simp; done)))
        exact ⟨_, _, Wk.refl _, weak_put hwf.weak hb, by rw [(at_first (swp_get hx) c2 hbf).1]; rfl, rfl⟩
      · simp (config := {maxSteps := 3000000}) only [run_skip, run_reg, run_seq, run_blk, run_cond, if_true, if_false, at_code_n, at_blk_n, at_rnd_n, ops_nil, ops_mv, ops_bin, ops_fld, ops_ix, ops_load, ops_len, ev_t, ev_c, put_get, opv_mk, over_get, rel_mk, vnat, put_box_same, args0, List.getD_cons_zero, List.getD_cons_succ, vbin, vbinI, norm, vfld, vlen, vix, vload, takeV, takeB, V.cells, List.length_cons, List.length_nil, List.getElem?_cons_zero, List.getElem?_cons_succ, and_true, true_and, Nat.reduceEqDiff, Nat.reduceAdd, Int.toNat_natCast, Int.reduceNeg, Nat.zero_add, ↓reduceIte, ne_eq, eq_self, Bool.false_eq_true, List.contains_cons, List.contains_nil, Nat.reduceBEq, Bool.or_false, Bool.or_true, h5, sts_get hx, sts_len, decide_eq_true (show (i : Int) < (S.length : Int) by omega), decide_eq_false c2]
        repeat (apply And.intro; focus (first | omega | (simp; done)))
        refine ⟨⟨i + 1, by omega, by simp, fun j t hj ht => ?_⟩, by omega⟩
        by_cases e : j = i
        · subst e
          rw [swp_get hx] at ht
          cases ht
          exact c2
        · exact hbf j t (by omega) ht
    · have hl : (swp S).length = S.length := by simp [swp]
      have : ∀ (j : Nat) (q : Int × ByteArray), (swp S)[j]? = some q → q.1 ≠ a := fun j t ht => hbf j t (by have := (List.getElem?_eq_some_iff.1 ht).1; omega) ht
      simp (config := {maxSteps := 3000000}) only [run_reg, run_seq, run_exit, run_ret, run_cond, if_false, at_code_n, at_code_x, at_blk_x, at_rnd_x, at_fin_r, ops_nil, ops_mv, ops_bin, ops_fld, ops_load, ops_len, ev_t, ev_c, put_get, opv_mk, over_get, vnat, put_box_same, vbin, vbinI, vfld, vlen, vload, takeV, takeB, V.cells, List.length_cons, List.length_nil, List.getElem?_cons_zero, List.getElem?_cons_succ, and_true, true_and, Nat.reduceEqDiff, Int.toNat_natCast, Nat.zero_add, ↓reduceIte, vret, rvAll, rvVal, resv_1, ne_eq, eq_self, Bool.false_eq_true, List.contains_cons, List.contains_nil, Nat.reduceBEq, Bool.or_false, Bool.or_true, h5, sts_len, decide_eq_false (show ¬ (i : Int) < (S.length : Int) by omega)]
      exact ⟨_, _, Wk.refl _, weak_put hwf.weak hb, by rw [at_none this]; rfl, rfl⟩
end
end Go.Proofs.Ytlngegoamfklgaa
