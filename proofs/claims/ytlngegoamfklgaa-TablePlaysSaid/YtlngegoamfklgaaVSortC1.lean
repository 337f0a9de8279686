/- Go's own sort by a function: insertion: contract. Printed by a program (gen_sort1.py). No program here. -/
import Derived.Test.YtlngegoamfklgaaVSortC0
import Derived.Test.YtlngegoamfklgaaVSortW
namespace Go.Proofs.Ytlngegoamfklgaa
open Go

section
variable {α : Type}
def two (p : V × V) : List V := [p.1, p.2]
/-- A row of elements of two cells each, and what lies behind it. -/
def rowc (val : α → V × V) (L : List α) (sp : List V) : List V := L.flatMap (fun x => two (val x)) ++ sp
variable {val : α → V × V} {L M : List α} {sp : List V}
theorem rowc_len : (rowc val L sp).length = L.length * 2 + sp.length := by
  induction L with
  | nil => simp [rowc]
  | cons x L ih =>
    simp only [rowc, List.flatMap_cons, List.append_assoc, List.length_append, List.length_cons] at ih ⊢
    rw [ih]; simp only [two, List.length_cons, List.length_nil]; omega
theorem rowc_cons {x : α} : rowc val (x :: L) sp = (val x).1 :: (val x).2 :: rowc val L sp := by simp [rowc, two]
theorem rowc_set : ∀ {L : List α} {i : Nat} {y : α}, i < L.length → List.take (i * 2) (rowc val L sp) ++ [(val y).1, (val y).2] ++ List.drop (i * 2 + 2) (rowc val L sp) = rowc val (L.set i y) sp
  | [], i, y, h => by simp at h
  | x :: L, 0, y, h => by simp [rowc_cons]
  | x :: L, i + 1, y, h => by
    have ih := rowc_set (L := L) (i := i) (y := y) (by simpa using h)
    rw [rowc_cons, List.set_cons_succ, rowc_cons, ← ih, show (i + 1) * 2 = i * 2 + 1 + 1 by omega, show i * 2 + 1 + 1 + 2 = i * 2 + 2 + 1 + 1 by omega]
    simp only [List.take_succ_cons, List.drop_succ_cons, List.cons_append]
theorem rowc_mono (h : mono (rowc val L sp)) (hl : M.length = L.length) : mono (rowc val M sp) := by
  cases M with
  | nil =>
    have : L = [] := List.eq_nil_of_length_eq_zero (by simpa using hl.symm)
    subst this
    exact h
  | cons x M => rw [rowc_cons]; exact mono_two ▸ trivial
theorem rowc_get [Inhabited α] : ∀ {L : List α} {i : Nat}, i < L.length → List.take 2 (List.drop (i * 2) (rowc val L sp)) = [(val L[i]!).1, (val L[i]!).2]
  | [], i, h => by simp at h
  | x :: L, 0, h => by simp [rowc_cons]
  | x :: L, i + 1, h => by
    have ih := rowc_get (L := L) (i := i) (by simpa using h)
    rw [rowc_cons, show (i + 1) * 2 = i * 2 + 1 + 1 by omega]
    simp only [List.drop_succ_cons]
    rw [ih]
    simp
def cmpV (g : FuncId) : V := .sc (.func (.func g) #[] #[])
/-- Elements, and what compares them. -/
structure EltC (P : Program) (g : FuncId) (val : α → V × V) (lt : α → α → Bool) : Prop where
  less : ∀ (st : St) (x y : α), VCalls P g [.agg [(val x).1, (val x).2], .agg [(val y).1, (val y).2]] st fun r st' => ∃ n : Int, decide (n < 0) = lt x y ∧ r = .sc (.int .i64 n) ∧ st = st'
  call : callable P g = true
  ord : Ord' lt
theorem arr0 : (#[] : Array Value).toList = [] := rfl
theorem all0 : (∀ v ∈ ([] : List Value), v.oneCell' = true) = True := by simp
end
section
variable {P : Program} {α : Type} [Inhabited α] {val : α → V × V} {lt : α → α → Bool} {g f fsift : FuncId} {st : St} {b cap a c : Nat} {L : List α} {sp : List V}
set_option maxRecDepth 100000 in
set_option maxHeartbeats 2000000 in
theorem cins_v (hf : cFun P f = some (CIns)) (E : EltC P g val lt) (hmo : mono (rowc val L sp)) (h1 : a ≤ c) (h2 : c ≤ L.length) (hl : L.length < 4611686018427387904) :
    VCalls P f [dataV b L.length cap, .sc (.int .i64 a), .sc (.int .i64 c), cmpV g] (st.put b (rowc val L sp)) fun _ s => ∃ M, Mix a c L M ∧ Srt lt a c M ∧ s = st.put b (rowc val M sp) := by
  refine vcalls_enter hf (Nat.le_of_ble_eq_true rfl) fun hwf hok => ?_
  show Run _ (CIns).body (.fin (finQ (CIns).res _)) _ _
  unfold CIns
  simp (config := {maxSteps := 3000000}) only [run_reg, run_seq, run_blk, at_code_n, ops_nil, ops_mv, ops_bin, ev_t, ev_c, put_get, opv_mk, args0, List.getD_cons_zero, List.getD_cons_succ, vbin, vbinI, norm, true_and, Int.reduceNeg, ↓reduceIte, eq_self, dataV, cmpV]
  repeat (apply And.intro; focus (first | omega | (simp; done)))
  refine run_loop [8, 9, 12, 13, 14, 15, 16, 17, 18, 19, 20, 21, 22, 23, 24, 25, 26, 27, 28, 29, 30, 31, 32, 33, 34, 35, 36, 37, 38, 39, 40, 41, 42, 43, 44, 45, 46, 47, 48, 49, 50, 51, 52] (fun B s => ∃ (i : Nat) (M : List α), (a + 1 ≤ i ∧ (i ≤ c ∨ i = a + 1)) ∧ B 8 = .sc (.int .i64 i) ∧ Mix a c L M ∧ Srt lt a i M ∧ s = st.put b (rowc val M sp)) (fun B _ => c - vnat (B 8)) rfl ?_ ?_
  · simp (config := {maxSteps := 3000000}) only [put_get, ↓reduceIte, eq_self]
    exact ⟨a + 1, L, by omega, by simp, .refl, Srt.one (by omega), rfl⟩
  · rintro B s ⟨i, M, hi, h6, hM, hS, rfl⟩
    by_cases c1 : i < c
    · have hlen := hM.len
      simp (config := {maxSteps := 3000000}) only [run_skip, run_reg, run_seq, run_blk, run_cond, if_true, at_code_n, ops_nil, ops_mv, ops_bin, ev_t, put_get, opv_mk, over_get, vnat, args0, List.getD_cons_zero, List.getD_cons_succ, vbin, vbinI, true_and, Nat.reduceEqDiff, Int.toNat_natCast, ↓reduceIte, eq_self, Bool.false_eq_true, List.contains_cons, List.contains_nil, Nat.reduceBEq, Bool.or_false, h6, decide_eq_true (show (i : Int) < (c : Int) by omega)]
      refine run_loop [9, 18, 19, 20, 21, 22, 23, 24, 25, 26, 27, 28, 29, 30, 31, 32, 33, 34, 35, 36, 37, 38, 39, 40, 41, 42, 43, 44, 45, 46, 47, 48, 49, 50, 51, 52] (fun C s' => ∃ (j : Nat) (M' : List α), (a ≤ j ∧ j ≤ i) ∧ C 9 = .sc (.int .i64 j) ∧ Mix a c L M' ∧ Ins lt a i j M' ∧ s' = st.put b (rowc val M' sp)) (fun C _ => vnat (C 9)) rfl ?_ ?_
      · simp (config := {maxSteps := 3000000}) only [put_get, ↓reduceIte, eq_self]
        exact ⟨i, M, by omega, rfl, hM, Ins.start hS, rfl⟩
      · rintro C s' ⟨j, M', hj, h7, hM', hI, rfl⟩
        have hlen' := hM'.len
        have hmo' := rowc_mono hmo hlen'
        by_cases c2 : a < j
        · have e1 : ((j : Int) - 1).toNat = j - 1 := by omega
          simp (config := {maxSteps := 3000000}) only [run_reg, run_seq, ops_grd, grd_tt, ops_mv, ops_bin, ops_ix, ops_load, ev_t, ev_c, put_get, opv_mk, over_get, vnat, put_box_same, args0, List.getD_cons_zero, List.getD_cons_succ, vbin, vbinI, norm, vix, vload, takeV, takeB, ops_calv, clv_func, List.map_cons, List.map_nil, List.nil_append, List.append_nil, and_true, true_and, Nat.reduceEqDiff, Int.toNat_natCast, Int.reduceNeg, Nat.zero_add, ↓reduceIte, eq_self, reduceCtorEq, Bool.false_eq_true, List.contains_cons, List.contains_nil, Nat.reduceBEq, Bool.or_false, List.not_mem_nil, h7, decide_eq_true (show (a : Int) < (j : Int) by omega), e1, rowc_get (show j < M'.length by omega), rowc_get (show j - 1 < M'.length by omega), rowc_len, rowc_mono hmo hlen', E.call, List.map_nil]
          repeat (apply And.intro; focus (first | omega | (simp; done)))
          refine Cal.mk (E.less _ _ _) ?_
          rintro _ _ ⟨z1, hz1, rfl, rfl⟩ -
          simp (config := {maxSteps := 3000000}) only [run_cond, at_code_n, ops_nil, ops_grd, grd_tt, ops_pick, ops_bin, ev_t, ev_c, put_get, opv_mk, vpick, vbin, vbinI, obsOk, true_and, Nat.reduceEqDiff, ↓reduceIte, eq_self, hz1]
          cases c3 : lt M'[j]! M'[j - 1]!
          · simp (config := {maxSteps := 3000000}) only [run_reg, run_exit, if_false, at_code_n, at_code_x, at_blk_n, at_blk_x, at_rnd_n, at_rnd_x, ops_nil, ops_mv, ops_bin, ev_t, ev_c, put_get, opv_mk, over_get, rel_mk, vbin, vbinI, norm, true_and, Nat.reduceEqDiff, Int.reduceNeg, ↓reduceIte, eq_self, Bool.false_eq_true, List.contains_cons, List.contains_nil, Nat.reduceBEq, Bool.or_false, h6]
            repeat (apply And.intro; focus (first | omega | (simp; done)))
            exact ⟨⟨i + 1, M', by omega, by simp, hM', hI.done E.ord (by omega) (.inr ⟨c2, c3⟩), rfl⟩, by omega⟩
          · have hs1 := rowc_set (val := val) (L := M') (sp := sp) (i := j) (y := M'[j - 1]!) (by omega)
            have hs2 := rowc_set (val := val) (L := M'.set j M'[j - 1]!) (sp := sp) (i := j - 1) (y := M'[j]!) (by simp; omega)
            have hmo2 : mono (rowc val (M'.set j M'[j - 1]!) sp) := rowc_mono hmo (by simp [hlen'])
            have hex := hM'.exch (i := j) (j := j - 1) (by omega) (by omega) (by omega) (by omega) h2
            have hst := hI.step E.ord c2 (by omega) (by omega) c3
            simp (config := {maxSteps := 3000000}) only [run_skip, run_reg, run_seq, run_blk, if_true, at_code_n, at_blk_n, at_rnd_n, ops_nil, ops_mv, ops_bin, ops_ix, ops_load, ops_store, ev_t, ev_c, put_get, put_none, opv_mk, stb_some, sto_ptr, over_get, rel_mk, Stp, put_box_same, put_put, args0, List.getD_cons_zero, vbin, vbinI, norm, vix, vload, takeV, takeB, splice, V.cells, obsOk, List.length_cons, List.length_nil, and_true, true_and, Nat.reduceEqDiff, Nat.reduceAdd, Nat.reduceLT, Nat.reduceLT, Int.toNat_natCast, Int.reduceNeg, Nat.zero_add, ↓reduceIte, eq_self, reduceCtorEq, Bool.false_eq_true, List.contains_cons, List.contains_nil, Nat.reduceBEq, Bool.or_false, h7, e1, rowc_get (show j < M'.length by omega), rowc_get (show j - 1 < M'.length by omega), rowc_len, hmo', hmo2, hs1, hs2, List.length_set, rowc_len]
            repeat (apply And.intro; focus (first | omega | (simp; done)))
            exact ⟨⟨j - 1, exch M' j (j - 1), by omega, by rw [show ((j : Int) - 1) = ((j - 1 : Nat) : Int) by omega], hex, hst, rfl⟩, by omega⟩
        · have ej : j = a := by omega
          subst ej
          simp (config := {maxSteps := 3000000}) only [run_reg, run_seq, run_exit, run_cond, if_false, at_code_n, at_code_x, at_blk_n, at_blk_x, at_rnd_n, at_rnd_x, ops_nil, ops_grd, grd_ft, ops_mv, ops_pick, ops_bin, ev_t, ev_c, put_get, opv_mk, over_get, rel_mk, vnat, args0, List.getD_cons_zero, List.getD_cons_succ, vpick, vbin, vbinI, norm, true_and, Nat.reduceEqDiff, Int.toNat_natCast, Int.reduceNeg, ↓reduceIte, decide_false, Int.lt_irrefl, eq_self, Bool.false_eq_true, List.contains_cons, List.contains_nil, Nat.reduceBEq, Bool.or_false, h7, h6]
          repeat (apply And.intro; focus (first | omega | (simp; done)))
          exact ⟨⟨i + 1, M', by omega, by simp, hM', hI.done E.ord (by omega) (.inl rfl), rfl⟩, by omega⟩
    · simp (config := {maxSteps := 3000000}) only [run_reg, run_seq, run_exit, run_cond, if_false, at_code_n, at_code_x, at_blk_x, at_rnd_x, at_fin_n, ops_nil, ops_mv, ops_bin, ev_t, put_get, opv_mk, over_get, vnat, args0, List.getD_cons_zero, List.getD_cons_succ, vbin, vbinI, true_and, Nat.reduceEqDiff, Int.toNat_natCast, ↓reduceIte, vret, rvAll, eq_self, Bool.false_eq_true, List.contains_cons, List.contains_nil, Nat.reduceBEq, Bool.or_false, h6, decide_eq_false (show ¬ (i : Int) < (c : Int) by omega)]
      exact ⟨_, _, Wk.refl _, weak_re hwf, M, hM, by
        by_cases e : i = c
        · subst e; exact hS
        · exact Srt.one (by omega), rfl⟩
end
end Go.Proofs.Ytlngegoamfklgaa

