/- Go's own sort over '<': insertion: contract. No program here. -/
import Derived.Test.YtlngegoamfklgaaVSortO0
import Derived.Test.YtlngegoamfklgaaV13
namespace Go.Proofs.Ytlngegoamfklgaa
open Go

section
variable {α : Type}
/-- A row of elements of one cell each, and what lies behind it. -/
def row (val : α → Value) (L : List α) (sp : List V) : List V := (L.map fun x => V.sc (val x)) ++ sp
variable {val : α → Value} {L M : List α} {sp : List V}
theorem row_len : (row val L sp).length = L.length + sp.length := by simp [row]
theorem row_set {i : Nat} {y : α} (h : i < L.length) : List.take i (row val L sp) ++ [.sc (val y)] ++ List.drop (i + 1) (row val L sp) = row val (L.set i y) sp := by
  unfold row
  rw [List.take_append_of_le_length (by simp; omega), List.drop_append_of_le_length (by simp; omega), ← List.append_assoc, ← List.map_take, ← List.map_drop]
  congr 1
  rw [List.set_eq_take_append_cons_drop, if_pos h]
  simp
theorem row_mono (h : mono (row val L sp)) (hl : M.length = L.length) : mono (row val M sp) := by
  cases M with
  | nil =>
    have : L = [] := List.eq_nil_of_length_eq_zero (by simpa using hl.symm)
    subst this
    exact h
  | cons x M =>
    have : row val (x :: M) sp = .sc (val x) :: ((M.map fun x => V.sc (val x)) ++ sp) := by simp [row]
    rw [this, mono_sc]
    trivial
theorem row_get [Inhabited α] {i : Nat} (h : i < L.length) : (row val L sp)[i]? = some (.sc (val L[i]!)) := by
  unfold row
  rw [List.getElem?_append_left (by simpa using h), List.getElem?_map, bang_get h]
  rfl
def dataV (b n cap : Nat) : V := .sc (.slice (some ⟨b, 0, none⟩) n cap)
/-- Elements, and what compares them. -/
structure Elt (P : Program) (less : FuncId) (val : α → Value) (lt : α → α → Bool) : Prop where
  less : ∀ (st : St) (x y : α), VCalls P less [.sc (val x), .sc (val y)] st fun r st' => r = .sc (.bool (lt x y)) ∧ st = st'
  ord : Ord' lt
theorem weak_re {st : St} {b : Nat} {X Y : List V} (h : (st.put b X).Wf) : (st.put b Y).weak (st.put b Y) := by
  have := (h.lt.put (b := b) (cs := Y)).weak
  rwa [put_put] at this
end
section
variable {P : Program} {α : Type} [Inhabited α] {val : α → Value} {lt : α → α → Bool} {less f : FuncId} {st : St} {b cap a c : Nat} {L : List α} {sp : List V}
set_option maxRecDepth 100000 in
set_option maxHeartbeats 2000000 in
theorem oins_v (hf : cFun P f = some (OIns less)) (E : Elt P less val lt) (hmo : mono (row val L sp)) (h1 : a ≤ c) (h2 : c ≤ L.length) (hl : L.length < 4611686018427387904) :
    VCalls P f [dataV b L.length cap, .sc (.int .i64 a), .sc (.int .i64 c)] (st.put b (row val L sp)) fun _ s => ∃ M, Mix a c L M ∧ Srt lt a c M ∧ s = st.put b (row val M sp) := by
  refine vcalls_enter hf (Nat.le_of_ble_eq_true rfl) fun hwf hok => ?_
  show Run _ (OIns less).body (.fin (finQ (OIns less).res _)) _ _
  unfold OIns
  simp (config := {maxSteps := 3000000}) only [run_reg, run_seq, run_blk, at_code_n, ops_nil, ops_mv, ops_bin, ev_t, ev_c, put_get, opv_mk, args0, List.getD_cons_zero, List.getD_cons_succ, vbin, vbinI, norm, true_and, Int.reduceNeg, ↓reduceIte, eq_self, dataV]
  repeat (apply And.intro; focus (first | omega | (simp; done)))
  refine run_loop [6, 7, 10, 11, 12, 13, 14, 15, 16, 17, 18, 19, 20, 21, 22, 23, 24, 25, 26, 27, 28, 29, 30, 31, 32, 33, 34, 35, 36, 37, 38, 39, 40, 41, 42, 43, 44, 45, 46, 47, 48] (fun B s => ∃ (i : Nat) (M : List α), (a + 1 ≤ i ∧ (i ≤ c ∨ i = a + 1)) ∧ B 6 = .sc (.int .i64 i) ∧ Mix a c L M ∧ Srt lt a i M ∧ s = st.put b (row val M sp)) (fun B _ => c - vnat (B 6)) rfl ?_ ?_
  · simp (config := {maxSteps := 3000000}) only [put_get, ↓reduceIte, eq_self]
    exact ⟨a + 1, L, by omega, by simp, .refl, Srt.one (by omega), rfl⟩
  · rintro B s ⟨i, M, hi, h6, hM, hS, rfl⟩
    by_cases c1 : i < c
    · have hlen := hM.len
      simp (config := {maxSteps := 3000000}) only [run_skip, run_reg, run_seq, run_blk, run_cond, if_true, at_code_n, ops_nil, ops_mv, ops_bin, ev_t, put_get, opv_mk, over_get, vnat, args0, List.getD_cons_zero, List.getD_cons_succ, vbin, vbinI, true_and, Nat.reduceEqDiff, Int.toNat_natCast, ↓reduceIte, eq_self, Bool.false_eq_true, List.contains_cons, List.contains_nil, Nat.reduceBEq, Bool.or_false, h6, decide_eq_true (show (i : Int) < (c : Int) by omega)]
      refine run_loop [7, 16, 17, 18, 19, 20, 21, 22, 23, 24, 25, 26, 27, 28, 29, 30, 31, 32, 33, 34, 35, 36, 37, 38, 39, 40, 41, 42, 43, 44, 45, 46, 47, 48] (fun C s' => ∃ (j : Nat) (M' : List α), (a ≤ j ∧ j ≤ i) ∧ C 7 = .sc (.int .i64 j) ∧ Mix a c L M' ∧ Ins lt a i j M' ∧ s' = st.put b (row val M' sp)) (fun C _ => vnat (C 7)) rfl ?_ ?_
      · simp (config := {maxSteps := 3000000}) only [put_get, ↓reduceIte, eq_self]
        exact ⟨i, M, by omega, rfl, hM, Ins.start hS, rfl⟩
      · rintro C s' ⟨j, M', hj, h7, hM', hI, rfl⟩
        have hlen' := hM'.len
        have hmo' := row_mono hmo hlen'
        by_cases c2 : a < j
        · have e1 : ((j : Int) - 1).toNat = j - 1 := by omega
          simp (config := {maxSteps := 3000000}) only [run_reg, run_seq, ops_grd, grd_tt, ops_mv, ops_bin, ops_ix, ops_load, ops_call, ev_t, ev_c, put_get, opv_mk, over_get, vnat, put_box_same, args0, List.getD_cons_zero, List.getD_cons_succ, vbin, vbinI, norm, vix, vload, takeV, takeB, V.cells, List.map_cons, List.map_nil, List.length_cons, List.length_nil, true_and, Nat.reduceEqDiff, Int.toNat_natCast, Int.reduceNeg, Nat.zero_add, Nat.mul_one, ↓reduceIte, eq_self, reduceCtorEq, Bool.false_eq_true, List.contains_cons, List.contains_nil, Nat.reduceBEq, Bool.or_false, h7, decide_eq_true (show (a : Int) < (j : Int) by omega), e1, row_get (show j < M'.length by omega), row_get (show j - 1 < M'.length by omega)]
          repeat (apply And.intro; focus (first | omega | (simp; done)))
          refine Cal.mk (E.less _ _ _) ?_
          rintro _ _ ⟨rfl, rfl⟩ -
          cases c3 : lt M'[j]! M'[j - 1]!
          · simp (config := {maxSteps := 3000000}) only [run_reg, run_exit, run_cond, if_false, at_code_n, at_code_x, at_blk_n, at_blk_x, at_rnd_n, at_rnd_x, ops_nil, ops_mv, ops_pick, ops_bin, ev_t, ev_c, put_get, opv_mk, over_get, rel_mk, vpick, vbin, vbinI, norm, obsOk, true_and, Nat.reduceEqDiff, Int.reduceNeg, ↓reduceIte, eq_self, Bool.false_eq_true, List.contains_cons, List.contains_nil, Nat.reduceBEq, Bool.or_false, h6]
            repeat (apply And.intro; focus (first | omega | (simp; done)))
            exact ⟨⟨i + 1, M', by omega, by simp, hM', hI.done E.ord (by omega) (.inr ⟨c2, c3⟩), rfl⟩, by omega⟩
          · have hs1 := row_set (val := val) (L := M') (sp := sp) (i := j) (y := M'[j - 1]!) (by omega)
            have hs2 := row_set (val := val) (L := M'.set j M'[j - 1]!) (sp := sp) (i := j - 1) (y := M'[j]!) (by simp; omega)
            have hmo2 : mono (row val (M'.set j M'[j - 1]!) sp) := row_mono hmo (by simp [hlen'])
            have hex := hM'.exch (i := j) (j := j - 1) (by omega) (by omega) (by omega) (by omega) h2
            have hst := hI.step E.ord c2 (by omega) (by omega) c3
            simp (config := {maxSteps := 3000000}) only [run_skip, run_reg, run_seq, run_blk, run_cond, if_true, at_code_n, at_blk_n, at_rnd_n, ops_nil, ops_mv, ops_pick, ops_bin, ops_ix, ops_load, ops_store, ev_t, ev_c, put_get, put_none, opv_mk, stb_some, sto_ptr, over_get, rel_mk, Stp, put_box_same, put_put, args0, List.getD_cons_zero, vpick, vbin, vbinI, norm, vix, vload, takeV, takeB, splice, V.cells, obsOk, List.length_cons, List.length_nil, true_and, Nat.reduceEqDiff, Nat.reduceLT, Nat.reduceLT, Int.toNat_natCast, Int.reduceNeg, Nat.zero_add, Nat.mul_one, ↓reduceIte, eq_self, reduceCtorEq, Bool.false_eq_true, List.contains_cons, List.contains_nil, Nat.reduceBEq, Bool.or_false, h7, e1, row_get (show j < M'.length by omega), row_get (show j - 1 < M'.length by omega), row_len, hmo', hmo2, hs1, hs2, List.length_set]
            repeat (apply And.intro; focus (first | omega | (simp; done)))
            exact ⟨⟨j - 1, exch M' j (j - 1), by omega, by rw [show ((j : Int) - 1) = ((j - 1 : Nat) : Int) by omega], hex, hst, rfl⟩, by omega⟩
        · have ej : j = a := by omega
          subst ej
          simp (config := {maxSteps := 3000000}) only [run_reg, run_seq, run_exit, run_cond, if_false, at_code_n, at_code_x, at_blk_n, at_blk_x, at_rnd_n, at_rnd_x, ops_nil, ops_grd, grd_ft, ops_mv, ops_pick, ops_bin, ev_t, ev_c, put_get, opv_mk, over_get, rel_mk, vnat, args0, List.getD_cons_zero, List.getD_cons_succ, vpick, vbin, vbinI, norm, true_and, Nat.reduceEqDiff, Int.toNat_natCast, Int.reduceNeg, ↓reduceIte, decide_false, Int.lt_irrefl, eq_self, Bool.false_eq_true, List.contains_cons, List.contains_nil, Nat.reduceBEq, Bool.or_false, h7, h6]
          repeat (apply And.intro; focus (first | omega | (simp; done)))
          exact ⟨⟨i + 1, M', by omega, by simp, hM', hI.done E.ord (by omega) (.inl rfl), rfl⟩, by omega⟩
    · simp (config := {maxSteps := 3000000}) only [run_reg, run_seq, run_exit, run_cond, if_false, at_code_n, at_code_x, at_blk_x, at_rnd_x, at_fin_n, ops_nil, ops_mv, ops_bin, ev_t, put_get, opv_mk, over_get, vnat, args0, List.getD_cons_zero, List.getD_cons_succ, vbin, vbinI, true_and, Nat.reduceEqDiff, Int.toNat_natCast, ↓reduceIte, vret, rvAll, eq_self, Bool.false_eq_true, List.contains_cons, List.contains_nil, Nat.reduceBEq, Bool.or_false, h6, decide_eq_false (show ¬ (i : Int) < (c : Int) by omega)]
      exact ⟨_, _, Wk.refl _, weak_re hwf, M, hM, by
        by_cases e : i = c
        · subst e; exact hS
        · exact Srt.one (by omega), rfl⟩
end
end Go.Proofs.Ytlngegoamfklgaa
