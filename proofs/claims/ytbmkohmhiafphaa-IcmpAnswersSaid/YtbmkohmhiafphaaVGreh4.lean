/- Layer 11 (greh): the two laws as contracts. -/
import Derived.Test.YtbmkohmhiafphaaVGreh3
namespace Go.Proofs.Ytbmkohmhiafphaa
open Go

/-! ### Plain -/
theorem take_step (L : List Int) (a k : Nat) : (L.drop a).take k ++ L.drop (a + k) = L.drop a := by
  rw [← List.drop_drop, List.take_append_drop]
theorem beL_at {L : List Int} (hB : IsB L) {a k : Nat} (h : a + k ≤ L.length) : beL (numL ((L.drop a).take k)) k = (L.drop a).take k :=
  numL_eq_beL k _ (by simp; omega) ((hB.drop _).take _)
structure GrehOk (L : List Int) : Prop where
  len : 8 ≤ L.length
  n : gN L = 8193 ∨ gN L = 8321 ∨ gN L = 12289 ∨ gN L = 12417
  p : gP L = 34827
  z : (L.length : Int) = gAt2 L + gZ L
  s : gS L = decide (0 < gZ L)
theorem grehE_zero {L : List Int} (h : grehE L = 0) : GrehOk L := by
  unfold grehE at h
  split at h
  · cases h
  split at h
  · cases h
  split at h
  · cases h
  split at h
  · cases h
  rename_i h1 h2 h3 h4
  simp only [Bool.not_eq_false] at h2
  simp only [gHead, decide_eq_true_eq] at h2
  simp only [not_or, Decidable.not_not] at h4
  exact ⟨by omega, h2.1, h2.2, by omega, h4.2⟩
theorem greh_back {L : List Int} (hB : IsB L) (h : grehE L = 0) (hs : (L.drop (gAt2 L)).length ≤ 1600) : (grehT L).right = true ∧ (grehT L).bytes = L := by
  obtain ⟨h8, hn, hp, hz, hS⟩ := grehE_zero h
  have hzz : 0 ≤ gZ L := (num2 hB 4).1
  have hl : ((L.drop (gAt2 L)).length : Int) = gZ L := by simp; omega
  have hS2 : gS L = decide (0 < (L.drop (gAt2 L)).length) := by rw [hS, decide_eq_decide]; omega
  constructor
  · show ((gS L == decide (0 < (L.drop (gAt2 L)).length)) && decide ((L.drop (gAt2 L)).length ≤ 1600) && (gS L || decide ((if gS L = true then numL ((L.drop 8).take 4) else 0) = 0)) && (gA L || decide ((if gA L = true then numL ((L.drop (gAt1 L)).take 4) else 0) = 0))) = true
    rw [← hS2]
    simp only [beq_self_eq_true, Bool.true_and, Bool.and_eq_true, Bool.or_eq_true, decide_eq_true_eq]
    refine ⟨⟨hs, ?_⟩, ?_⟩
    · cases gS L <;> simp
    · cases gA L <;> simp
  · have e0 : beL (gN L) 2 = (L.drop 0).take 2 := beL_at hB (a := 0) (by omega)
    have e2 : beL 34827 2 = (L.drop 2).take 2 := by rw [← hp]; exact beL_at hB (by omega)
    have e4 : beL (L.drop (gAt2 L)).length 2 = (L.drop 4).take 2 := by rw [hl]; exact beL_at hB (by omega)
    have e6 : beL (gC L) 2 = (L.drop 6).take 2 := beL_at hB (by omega)
    have f : ∀ R, R = L.drop 8 → (L.drop 0).take 2 ++ ((L.drop 2).take 2 ++ ((L.drop 4).take 2 ++ ((L.drop 6).take 2 ++ R))) = L := by
      rintro _ rfl
      rw [take_step L 6 2, take_step L 4 2, take_step L 2 2, take_step L 0 2, List.drop_zero]
    have t8 := take_step L 8 4
    have t12 := take_step L 12 4
    rcases hn with hn | hn | hn | hn
    · have hs : gS L = false := by simp [gS, hn]
      have ha : gA L = false := by simp [gA, hn]
      have hb : (grehT L).bits = gN L := by simp [TD.bits, grehT, hs, ha, hn]
      simp only [TD.bytes, hb]
      simp only [grehT, gAt2, gAt1, hs, ha, Bool.false_eq_true, ↓reduceIte, List.append_assoc] at e4 ⊢
      rw [e0, e2, e4, e6]
      exact f _ rfl
    · have hs : gS L = false := by simp [gS, hn]
      have ha : gA L = true := by simp [gA, hn]
      have hb : (grehT L).bits = gN L := by simp [TD.bits, grehT, hs, ha, hn]
      have e8 : beL (numL ((L.drop 8).take 4)) 4 = (L.drop 8).take 4 := beL_at hB (by simp [gAt2, gAt1, hs, ha] at hz; omega)
      simp only [TD.bytes, hb]
      simp only [grehT, gAt2, gAt1, hs, ha, Bool.false_eq_true, ↓reduceIte, List.append_assoc] at e4 ⊢
      rw [e0, e2, e4, e6, e8]
      exact f _ t8
    · have hs : gS L = true := by simp [gS, hn]
      have ha : gA L = false := by simp [gA, hn]
      have hb : (grehT L).bits = gN L := by simp [TD.bits, grehT, hs, ha, hn]
      have e8 : beL (numL ((L.drop 8).take 4)) 4 = (L.drop 8).take 4 := beL_at hB (by simp [gAt2, gAt1, hs, ha] at hz; omega)
      simp only [TD.bytes, hb]
      simp only [grehT, gAt2, gAt1, hs, ha, Bool.false_eq_true, ↓reduceIte, List.append_assoc] at e4 ⊢
      rw [e0, e2, e4, e6, e8]
      exact f _ t8
    · have hs : gS L = true := by simp [gS, hn]
      have ha : gA L = true := by simp [gA, hn]
      have hb : (grehT L).bits = gN L := by simp [TD.bits, grehT, hs, ha, hn]
      have e8 : beL (numL ((L.drop 8).take 4)) 4 = (L.drop 8).take 4 := beL_at hB (by simp [gAt2, gAt1, hs, ha] at hz; omega)
      have e12 : beL (numL ((L.drop 12).take 4)) 4 = (L.drop 12).take 4 := beL_at hB (by simp [gAt2, gAt1, hs, ha] at hz; omega)
      simp only [TD.bytes, hb]
      simp only [grehT, gAt2, gAt1, hs, ha, ↓reduceIte, List.append_assoc] at e4 ⊢
      rw [e0, e2, e4, e6, e8, e12]
      exact f _ ((congrArg (_ ++ ·) t12).trans t8)

theorem u8sOf_bs : ∀ L : List Int, u8sOf (bs L) = some L
  | [] => rfl
  | x :: L => by rw [bs_cons]; simp only [u8sOf, u8sOf_bs L, Option.map_some]
theorem vb2s_bs {tk : Tk} {L : List Int} : vb2s (.sl tk (bs L)) = (True, .sc (.string (strOf L))) := by simp only [vb2s, u8sOf_bs]

section
variable {tk tk' : Tk} {st : St} {L : List Int}
theorem refSame_v (t : TD) : VCalls Try.prog 26 [t.v tk, t.v tk'] st fun r st' => r = .sc (.bool true) ∧ st = st' := by
  obtain ⟨c, s, q, a, k, L⟩ := t
  refine vcalls_enter vc26 (Nat.le_of_ble_eq_true rfl) fun hwf hok => ?_
  show Run _ Vc26.body (.fin (finQ Vc26.res _)) _ _
  unfold Vc26
  have hs : (s == s) = true := by simp
  have ha : (a == a) = true := by simp
  simp (config := {maxSteps := 3000000}) only [run_reg, run_seq, at_code_n, ops_nil, ops_mv, ops_fld, ops_load, ops_box, ev_t, ev_c, put_get, opv_mk, Bx, put_sz, args0, List.getD_cons_zero, List.getD_cons_succ, vfld, vload, takeV, V.cells, ptrV, obsOk, List.length_cons, List.length_nil, true_and, Nat.reduceEqDiff, Nat.reduceAdd, Nat.zero_add, Nat.add_zero, ↓reduceIte, ne_eq, not_false_eq_true, eq_self, reduceCtorEq, TD.v]
  intro b hb d hd
  obtain ⟨hd1, hbd⟩ : st.sz ≤ d ∧ b < d := by omega
  clear hd
  simp (config := {maxSteps := 3000000}) only [run_skip, run_reg, run_seq, run_ret, run_cond, if_false, at_code_n, at_fin_r, ops_nil, ops_grd, grd_ff, ops_mv, ops_pick, ops_bin, ops_binb, ops_b2s, vbinb, vb2s, ops_fld, ops_load, ev_t, put_get, opv_mk, put_box_same, vpick, vbin, vbinI, vbinS, vfld, vload, takeV, V.cells, List.length_cons, List.length_nil, List.getElem?_cons_zero, List.getElem?_cons_succ, and_true, true_and, Nat.reduceEqDiff, Nat.zero_add, Nat.add_zero, ↓reduceIte, vret, rvAll, rvVal, resv_1, decide_true, decide_false, Bool.not_true, ne_eq, not_true_eq_false, eq_self, Bool.false_eq_true, put_box_ne (Nat.ne_of_lt hbd), hs, ha, u8sOf_bs]
  exact ⟨_, _, Wk.refl _, weak_put (weak_put hwf.weak hb) hd1, rfl, rfl⟩
def alT : TD := ⟨7, false, 0, true, 5, []⟩
theorem alT_ok : alT.Ok := ⟨by decide, by decide, by decide, by decide, by decide, by decide, by intro x hx; cases hx⟩
theorem alT_bytes : (if alT.right then alT.bytes else []) = [32, 129, 136, 11, 0, 0, 0, 7, 0, 0, 0, 5] := by decide
theorem alive11_v : VCalls Try.prog 24 [] st fun r st' => r = .sc (.bool true) ∧ st = st' := by
  refine vcalls_enter vc24 (Nat.le_of_ble_eq_true rfl) fun hwf hok => ?_
  show Run _ Vc24.body (.fin (finQ Vc24.res _)) _ _
  unfold Vc24
  simp (config := {maxSteps := 3000000}) only [run_reg, run_seq, at_code_n, ops_nil, ops_mv, ops_bld, ops_call, ev_t, ev_c, put_get, opv_mk, vbld, fillV, splice, V.cells, List.map_cons, List.map_nil, List.length_cons, List.length_nil, List.take_succ_cons, List.take_zero, List.drop_succ_cons, List.drop_zero, List.cons_append, List.nil_append, and_true, true_and, Nat.reduceAdd, Nat.reduceLT, Nat.reduceLeDiff, Nat.reduceLT, Nat.zero_add, ↓reduceIte, eq_self]
  repeat (apply And.intro; focus (first | omega | (simp; done)))
  have h := gBuild_v (tk := .nil) (st := st) alT alT_ok
  rw [alT_bytes] at h
  refine Cal.mk h ?_
  rintro _ _ ⟨rfl, rfl⟩ -
  simp (config := {maxSteps := 3000000}) only [ops_bslo, ev_c, strip, strip1, obsOk, List.map_cons, List.map_nil, true_and]
  refine Bo.own (by simp [allLen, V.cells]) ?_
  intro g hg
  simp (config := {maxSteps := 3000000}) only [ops_call, ev_t, put_get, obsOk, List.map_cons, List.map_nil, List.length_cons, List.length_nil, true_and, Nat.reduceEqDiff, Nat.reduceAdd, Nat.zero_add, ↓reduceIte, eq_self]
  refine Cal.mk (eqB_v (M := [32, 129, 136, 11, 0, 0, 0, 7, 0, 0, 0, 5])) ?_
  rintro _ _ ⟨rfl, rfl⟩ -
  simp (config := {maxSteps := 3000000}) only [run_ret, at_code_n, at_fin_r, ops_nil, ops_mv, ops_pick, ev_t, ev_c, put_get, opv_mk, vpick, obsOk, and_true, true_and, ↓reduceIte, vret, rvAll, rvVal, resv_1, decide_true, eq_self]
  exact ⟨_, _, Wk.refl _, weak_use hwf.weak hg, by simp, rfl⟩
theorem grehE_bad {L : List Int} (h : ¬ grehE L = 0) : grehD L = ⟨0, false, 0, false, 0, []⟩ := if_neg h
theorem GrehParses_v (hB : IsB L) : VCalls Try.prog 5 [.sl tk (bs L)] st fun r _ => r = .sc (.bool true) := by
  refine vcalls_enter vc5 (Nat.le_of_ble_eq_true rfl) fun hwf hok => ?_
  show Run _ Vc5.body (.fin (finQ Vc5.res _)) _ _
  unfold Vc5
  by_cases hl : 2000 < (L.length : Int)
  · simp (config := {maxSteps := 3000000}) only [run_reg, run_seq, run_ret, run_cond, if_true, at_code_n, at_code_r, at_fin_r, ops_nil, ops_mv, ops_bin, ops_len, ev_t, ev_c, put_get, opv_mk, args0, List.getD_cons_zero, vbin, vbinI, vlen, and_true, true_and, ↓reduceIte, vret, rvAll, rvVal, resv_1, eq_self, reduceCtorEq, bs_len, decide_eq_true hl]
    exact ⟨_, _, Wk.refl _, hwf.weak, rfl⟩
  have hL : L.length ≤ 1000000000000 := by omega
  simp (config := {maxSteps := 3000000}) only [run_skip, run_reg, run_seq, run_cond, if_false, at_code_n, ops_nil, ops_mv, ops_bin, ops_len, ops_call, ev_t, ev_c, put_get, opv_mk, args0, List.getD_cons_zero, vbin, vbinI, vlen, List.map_cons, List.map_nil, true_and, ↓reduceIte, eq_self, reduceCtorEq, bs_len, decide_eq_false hl]
  refine Cal.mk (gParse_v hB hL) ?_
  rintro _ _ ⟨⟨tk1, rfl⟩, rfl⟩ -
  have g0 := fun st : St => refParse_v (tk := tk) (st := st) hB hL
  have g1 := fun st : St => gBuild_v (tk := tk1) (st := st) (grehD L)
  have g2 := fun (tk' : Tk) (st : St) => refSame_v (tk := tk1) (tk' := tk') (st := st) (grehD L)
  have g3 : (grehD L).Ok := by
    unfold grehD
    split
    · exact grehT_ok hB
    · exact ⟨by decide, by decide, by decide, by decide, by decide, by decide, by intro x hx; cases hx⟩
  have g4 : grehE L = 0 → (grehD L).L.length ≤ 1600 → (if (grehD L).right then (grehD L).bytes else []) = L := fun h h2 => by
    rw [show grehD L = grehT L from if_pos h] at h2 ⊢
    obtain ⟨k1, k2⟩ := greh_back hB h h2
    rw [if_pos k1, k2]
  generalize grehD L = T at *
  generalize grehE L = e at *
  obtain ⟨c, s, q, a, k, M⟩ := T
  simp only [TD.v] at g0 g1 g2
  simp (config := {maxSteps := 3000000}) only [run_reg, run_seq, at_code_n, ops_nil, ops_mv, ops_ext, ops_alc, ops_store, ops_call, ev_t, put_get, put_none, opv_mk, stb_some, sto_ptr, Stp, put_box_same, put_put, args0, List.getD_cons_zero, vext, splice, V.cells, ptrV, obsOk, List.map_cons, List.map_nil, List.length_cons, List.length_nil, List.getElem?_cons_zero, List.getElem?_cons_succ, List.take_zero, List.drop_succ_cons, List.nil_append, List.append_nil, List.drop_nil, true_and, Nat.reduceEqDiff, Nat.reduceAdd, Nat.reduceLT, Nat.reduceLeDiff, Nat.reduceLT, Nat.zero_add, ↓reduceIte, eq_self, reduceCtorEq, TD.v]
  intro b hb
  refine Cal.mk (g0 _) ?_
  rintro _ _ ⟨⟨tk2, rfl⟩, rfl⟩ -
  simp (config := {maxSteps := 3000000}) only [run_reg, run_seq, at_code_n, ops_nil, ops_mv, ops_load, ops_ext, ops_alc, ops_store, ev_t, put_get, put_none, opv_mk, stb_some, sto_ptr, Stp, put_box_same, put_sz, put_put, vext, vload, takeV, splice, V.cells, ptrV, obsOk, List.length_cons, List.length_nil, List.getElem?_cons_zero, List.getElem?_cons_succ, List.take_zero, List.drop_succ_cons, List.drop_zero, List.nil_append, List.append_nil, List.drop_nil, true_and, Nat.reduceEqDiff, Nat.reduceAdd, Nat.reduceLT, Nat.reduceLeDiff, Nat.reduceLT, Nat.zero_add, ↓reduceIte, eq_self]
  intro d hd
  obtain ⟨hd1, hbd⟩ : st.sz ≤ d ∧ b < d := by omega
  clear hd
  simp (config := {maxSteps := 3000000}) only [ops_load, ops_call, ev_t, put_get, opv_mk, put_box_same, vload, takeV, List.map_cons, List.map_nil, List.length_cons, List.length_nil, List.take_succ_cons, List.drop_zero, List.take_nil, true_and, Nat.reduceEqDiff, Nat.reduceAdd, Nat.reduceLeDiff, Nat.zero_add, ↓reduceIte, eq_self, put_box_ne (Nat.ne_of_lt hbd)]
  refine Cal.mk (g2 _ _) ?_
  rintro _ _ ⟨rfl, rfl⟩ -
  by_cases he : e = 0
  · subst he
    by_cases hM : 1600 < (M.length : Int)
    · simp (config := {maxSteps := 3000000}) only [run_skip, run_reg, run_seq, run_cond, if_false, at_code_n, ops_nil, ops_grd, grd_tt, grd_ff, grd_tf, ops_mv, ops_pick, ops_bin, ops_un, ops_fld, ops_load, ops_len, ops_call, ev_t, ev_c, put_get, opv_mk, put_box_same, vpick, vbin, vbinI, vun, vfld, vlen, vload, takeV, V.cells, obsOk, List.map_nil, List.length_cons, List.length_nil, List.getElem?_cons_zero, List.getElem?_cons_succ, true_and, Nat.reduceEqDiff, Nat.zero_add, ↓reduceIte, decide_false, Bool.not_true, ne_eq, not_true_eq_false, eq_self, Bool.false_eq_true, put_box_ne (Nat.ne_of_lt hbd), bs_len, decide_eq_true hM]
      refine Cal.mk alive11_v ?_
      rintro _ _ ⟨rfl, rfl⟩ -
      simp (config := {maxSteps := 3000000}) only [run_ret, at_code_n, at_fin_r, ops_nil, ops_mv, ops_pick, ev_t, put_get, opv_mk, vpick, obsOk, and_true, true_and, Nat.reduceEqDiff, ↓reduceIte, vret, rvAll, rvVal, resv_1, eq_self]
      exact ⟨_, _, Wk.refl _, weak_put (weak_put hwf.weak hb) hd1, rfl⟩
    · simp (config := {maxSteps := 3000000}) only [run_skip, run_reg, run_seq, run_cond, if_false, at_code_n, ops_nil, ops_grd, grd_ff, ops_mv, ops_pick, ops_bin, ops_un, ops_fld, ops_load, ops_len, ops_call, ev_t, ev_c, put_get, opv_mk, put_box_same, vpick, vbin, vbinI, vun, vfld, vlen, vload, takeV, V.cells, obsOk, List.map_cons, List.map_nil, List.length_cons, List.length_nil, List.getElem?_cons_zero, List.getElem?_cons_succ, List.take_succ_cons, List.drop_zero, List.take_nil, true_and, Nat.reduceEqDiff, Nat.reduceAdd, Nat.reduceLeDiff, Nat.zero_add, ↓reduceIte, decide_false, Bool.not_true, ne_eq, not_true_eq_false, eq_self, Bool.false_eq_true, put_box_ne (Nat.ne_of_lt hbd), bs_len, decide_eq_false hM]
      refine Cal.mk (g1 _ g3) ?_
      rintro _ _ ⟨rfl, rfl⟩ -
      rw [g4 rfl (by simp only; omega)]
      simp (config := {maxSteps := 3000000}) only [ops_grd, grd_ff, ops_mv, ops_call, ev_t, put_get, opv_mk, args0, List.getD_cons_zero, obsOk, List.map_cons, List.map_nil, true_and, Nat.reduceEqDiff, ↓reduceIte, eq_self, reduceCtorEq]
      refine Cal.mk eqB_v ?_
      rintro _ _ ⟨rfl, rfl⟩ -
      simp (config := {maxSteps := 3000000}) only [ops_grd, grd_tt, ops_mv, ops_pick, ops_call, ev_t, put_get, opv_mk, vpick, obsOk, List.map_nil, true_and, Nat.reduceEqDiff, ↓reduceIte, decide_true, eq_self, Bool.false_eq_true]
      refine Cal.mk alive11_v ?_
      rintro _ _ ⟨rfl, rfl⟩ -
      simp (config := {maxSteps := 3000000}) only [run_ret, at_code_n, at_fin_r, ops_nil, ops_mv, ops_pick, ev_t, put_get, opv_mk, vpick, obsOk, and_true, true_and, Nat.reduceEqDiff, ↓reduceIte, vret, rvAll, rvVal, resv_1, eq_self]
      exact ⟨_, _, Wk.refl _, weak_put (weak_put hwf.weak hb) hd1, rfl⟩
  · simp (config := {maxSteps := 3000000}) only [run_skip, run_reg, run_seq, run_cond, if_false, at_code_n, ops_nil, ops_grd, grd_tt, grd_ff, grd_tf, ops_mv, ops_pick, ops_bin, ops_un, ops_call, ev_t, ev_c, put_get, opv_mk, vpick, vbin, vbinI, vun, obsOk, List.map_nil, true_and, Nat.reduceEqDiff, ↓reduceIte, decide_false, Bool.not_true, ne_eq, not_true_eq_false, eq_self, Bool.false_eq_true, decide_eq_true he]
    refine Cal.mk alive11_v ?_
    rintro _ _ ⟨rfl, rfl⟩ -
    simp (config := {maxSteps := 3000000}) only [run_ret, at_code_n, at_fin_r, ops_nil, ops_mv, ops_pick, ev_t, put_get, opv_mk, vpick, obsOk, and_true, true_and, Nat.reduceEqDiff, ↓reduceIte, vret, rvAll, rvVal, resv_1, eq_self]
    exact ⟨_, _, Wk.refl _, weak_put (weak_put hwf.weak hb) hd1, rfl⟩
end
end Go.Proofs.Ytbmkohmhiafphaa
