/- MsgBuilds and MsgParses: the plain laws, and the laws' walks. -/
import Derived.Test.YtogkdcbcmhhhcaaVMsg8
namespace Go.Proofs.Ytogkdcbcmhhhcaa
open Go

theorem hdr_list {Z t : Int} (ht : 1 ≤ t ∧ t ≤ 15) : hdrL Z t = [Z / 256 % 256, Z % 256, 0, 1, 26, 43, 60, 77, 0, t, 0, 0] := by
  have q1 : t / 256 % 256 = 0 := by omega
  have q2 : t % 256 = t := by omega
  simp [hdrL, beL2, beL4, q1, q2]
theorem bytesM_len {m : MB} (h : okM m = true) : ((bytesM m).length : Int) = sizeT m.ty := by
  have ht := okM_ty h
  unfold okM at h
  rw [Bool.and_eq_true, decide_eq_true_eq] at h
  have hZ : sizeT m.ty = 12 + (sumN (layoutL m.ty) : Int) := if_neg (sizeT_pos.1 h.2)
  unfold bytesM
  rw [List.length_append, hdrL_len, bK_len _ _ _ (layout_kOk m.ty) h.1, hZ]
  omega
theorem bytesM_isB {m : MB} (hm : ∀ t ∈ m.T, IsB t) : IsB (bytesM m) := by
  unfold bytesM hdrL
  exact ((((beL_isB _ _).append (beL_isB _ _)).append (beL_isB _ _)).append (beL_isB _ _)).append (beL_isB _ _) |>.append (bK_isB _ _ _ hm)
/-- What is built is parsed as it was. -/
theorem parseM_bytes {m : MB} (h9 : m.N.length = 9) (h3 : m.T.length = 3) (h0 : ∀ x ∈ m.N, 0 ≤ x) (h : okM m = true) : parseM (bytesM m) = (m, 0) := by
  have ht := okM_ty h
  have hlen := bytesM_len h
  unfold okM at h
  rw [Bool.and_eq_true, decide_eq_true_eq] at h
  have hle := sizeT_le m.ty
  have hcn := layout_cnt m.ty
  have hct := layout_txt m.ty
  have hZ : sizeT m.ty = 12 + (sumN (layoutL m.ty) : Int) := if_neg (sizeT_pos.1 h.2)
  obtain ⟨a, b, h1, h2, h4⟩ := pK_bK (layoutL m.ty) m.N m.T (layout_kOk m.ty) (by omega) (by omega) h0 h.1
  unfold bytesM at hlen ⊢
  rw [hdr_list ht] at hlen ⊢
  generalize hR : bK (layoutL m.ty) m.N m.T = R at *
  have e4 : numL ((([sizeT m.ty / 256 % 256, sizeT m.ty % 256, 0, 1, 26, 43, 60, 77, 0, m.ty, 0, 0] ++ R).drop 4).take 4) = 439041101 := by simp [numL]
  have e2 : numL ((([sizeT m.ty / 256 % 256, sizeT m.ty % 256, 0, 1, 26, 43, 60, 77, 0, m.ty, 0, 0] ++ R).drop 2).take 2) = 1 := by simp [numL]
  have e8 : numL ((([sizeT m.ty / 256 % 256, sizeT m.ty % 256, 0, 1, 26, 43, 60, 77, 0, m.ty, 0, 0] ++ R).drop 8).take 2) = m.ty := by simp [numL]
  have e10 : numL ((([sizeT m.ty / 256 % 256, sizeT m.ty % 256, 0, 1, 26, 43, 60, 77, 0, m.ty, 0, 0] ++ R).drop 10).take 2) = 0 := by simp [numL]
  have e0 : numL (([sizeT m.ty / 256 % 256, sizeT m.ty % 256, 0, 1, 26, 43, 60, 77, 0, m.ty, 0, 0] ++ R).take 2) = sizeT m.ty := by simp [numL]; omega
  have e12 : ([sizeT m.ty / 256 % 256, sizeT m.ty % 256, 0, 1, 26, 43, 60, 77, 0, m.ty, 0, 0] ++ R).drop 12 = R := by simp
  generalize ([sizeT m.ty / 256 % 256, sizeT m.ty % 256, 0, 1, 26, 43, 60, 77, 0, m.ty, 0, 0] ++ R : List Int) = W at *
  unfold parseM
  rw [if_neg (show ¬ W.length < 12 by omega), e4, if_neg (fun h => h rfl), e2, e8, if_neg (show ¬ ((1 : Int) ≠ 1 ∨ sizeT m.ty = 0) by omega), e0, if_neg (show ¬ (sizeT m.ty ≠ sizeT m.ty ∨ (W.length : Int) ≠ sizeT m.ty) by omega), e10, if_neg (fun h => h rfl), e12, h1]
  simp only [Prod.mk.injEq, and_true]
  rw [h9] at h2
  rw [h3] at h4
  cases m
  simp only at h2 h4
  unfold mkM
  rw [← h2, ← h4]
theorem parseM_len (L : List Int) : (parseM L).1.N.length = 9 ∨ (parseM L).2 = 0 := by
  unfold parseM
  repeat' split
  all_goals first | exact .inr rfl | exact .inl rfl
theorem pK_len : ∀ (K L a : List Int) (b : List (List Int)), pK K L = some (a, b) → ∀ t ∈ b, t.length ≤ L.length
  | [], L, a, b, h, t, ht => by
    simp only [pK, Option.some.injEq, Prod.mk.injEq] at h
    obtain ⟨_, rfl⟩ := h
    cases ht
  | k :: K, L, a, b, h, t, ht => by
    by_cases c1 : k < 0
    · rw [pK_neg c1] at h
      split at h
      · have := pK_len K _ a b h t ht
        rw [List.length_drop] at this; omega
      · cases h
    by_cases c2 : 4 < k
    · rw [pK_txt c2, Option.map_eq_some_iff] at h
      obtain ⟨⟨a', b'⟩, h, he⟩ := h
      simp only [Prod.mk.injEq] at he
      obtain ⟨rfl, rfl⟩ := he
      rcases List.mem_cons.1 ht with rfl | ht
      · have h1 := stripL_len (L.take k.toNat)
        have h2 := stripN_le (L.take k.toNat) (L.take k.toNat).length
        have h3 : (L.take k.toNat).length ≤ L.length := by simp; omega
        omega
      · have := pK_len K _ a' b' h t ht
        rw [List.length_drop] at this; omega
    · rw [pK_num (by omega) (by omega), Option.map_eq_some_iff] at h
      obtain ⟨⟨a', b'⟩, h, he⟩ := h
      simp only [Prod.mk.injEq] at he
      obtain ⟨rfl, rfl⟩ := he
      have := pK_len K _ a' b' h t ht
      rw [List.length_drop] at this; omega
/-- What is parsed is built as it was. -/
theorem bytes_parseM {L : List Int} (hB : IsB L) (hl : L.length ≤ 1000000) (h : (parseM L).2 = 0) : ∃ m, parseM L = (m, 0) ∧ m.Ok ∧ okM m = true ∧ bytesM m = L := by
  unfold parseM at h ⊢
  split at h
  · cases h
  rename_i h12
  rw [if_neg h12]
  split at h
  · cases h
  rename_i h4
  rw [if_neg h4]
  split at h
  · cases h
  rename_i h2
  rw [if_neg h2]
  split at h
  · cases h
  rename_i h0
  rw [if_neg h0]
  split at h
  · cases h
  rename_i h10
  rw [if_neg h10]
  split at h
  · cases h
  rename_i a b hp
  have h4 : numL ((L.drop 4).take 4) = 439041101 := by omega
  have h2a : numL ((L.drop 2).take 2) = 1 := by omega
  have h2b : sizeT (numL ((L.drop 8).take 2)) ≠ 0 := by omega
  have h0a : numL (L.take 2) = sizeT (numL ((L.drop 8).take 2)) := by omega
  have h0b : (L.length : Int) = sizeT (numL ((L.drop 8).take 2)) := by omega
  have h10 : numL ((L.drop 10).take 2) = 0 := by omega
  have b0 := numL_eq_beL 2 (L.take 2) (by simp; omega) (hB.take _)
  have b2 := numL_eq_beL 2 ((L.drop 2).take 2) (by simp; omega) ((hB.drop _).take _)
  have b4 := numL_eq_beL 4 ((L.drop 4).take 4) (by simp; omega) ((hB.drop _).take _)
  have b8 := numL_eq_beL 2 ((L.drop 8).take 2) (by simp; omega) ((hB.drop _).take _)
  have b10 := numL_eq_beL 2 ((L.drop 10).take 2) (by simp; omega) ((hB.drop _).take _)
  have hn8 := numL_range 2 ((L.drop 8).take 2) (by simp; omega) ((hB.drop _).take _)
  rw [h0a] at b0
  rw [h2a] at b2
  rw [h4] at b4
  rw [h10] at b10
  generalize ht : numL ((L.drop 8).take 2) = t at *
  have hle := sizeT_le t
  have hZ : sizeT t = 12 + (sumN (layoutL t) : Int) := if_neg (sizeT_pos.1 (by omega))
  obtain ⟨h1, h3, h5, h6, h7, h8⟩ := bK_pK (layoutL t) (L.drop 12) a b (9 - a.length) (3 - b.length) (layout_kOk t) (hB.drop _) (by rw [List.length_drop]; omega) hp
  have hcn := layout_cnt t
  have hct := layout_txt t
  have hok : okM (mkM t a b) = true := by
    unfold okM mkM
    simp only [Bool.and_eq_true, decide_eq_true_eq]
    exact ⟨h1, by omega⟩
  have hbytes : bytesM (mkM t a b) = L := by
    unfold bytesM mkM hdrL
    simp only
    rw [h3, b0, b2, b4, b8, b10]
    have s1 : L.take 2 ++ (L.drop 2).take 2 = L.take 4 := by rw [← List.take_append_drop 2 (L.take 4), List.take_take, List.drop_take]; rfl
    have s2 : L.take 4 ++ (L.drop 4).take 4 = L.take 8 := by rw [← List.take_append_drop 4 (L.take 8), List.take_take, List.drop_take]; rfl
    have s3 : L.take 8 ++ (L.drop 8).take 2 = L.take 10 := by rw [← List.take_append_drop 8 (L.take 10), List.take_take, List.drop_take]; rfl
    have s4 : L.take 10 ++ (L.drop 10).take 2 = L.take 12 := by rw [← List.take_append_drop 10 (L.take 12), List.take_take, List.drop_take]; rfl
    rw [s1, s2, s3, s4, List.take_append_drop]
  refine ⟨mkM t a b, rfl, ⟨?_, mkM_n (by omega), mkM_t (by omega), ?_, ?_, ?_⟩, hok, hbytes⟩
  · have := okM_ty hok
    unfold mkM at this ⊢
    simp only at this ⊢
    omega
  · intro x hx
    rcases List.mem_append.1 hx with hx | hx
    · exact h7 x hx
    · rw [List.eq_of_mem_replicate hx]; omega
  · intro x hx
    rcases List.mem_append.1 hx with hx | hx
    · exact h8 x hx
    · rw [List.eq_of_mem_replicate hx]; exact isB_nil
  · intro x hx
    have hrk := hok
    unfold okM at hrk
    rw [Bool.and_eq_true] at hrk
    rcases List.mem_append.1 hx with hx | hx
    · have := pK_len _ _ _ _ hp x hx
      rw [List.length_drop] at this; omega
    · rw [List.eq_of_mem_replicate hx]; simp
theorem parseM_n (L : List Int) : (parseM L).1.N.length = 9 ∧ (parseM L).1.T.length = 3 ∨ (parseM L).2 = 0 := by
  unfold parseM
  repeat' split
  all_goals first | exact .inr rfl | exact .inl ⟨rfl, rfl⟩
section
variable {tk : Tk} {st : St}
theorem great_v {m : MB} (h9 : m.N.length = 9) {t0 t1 t2 : List Int} (hT : m.T = [t0, t1, t2]) : VCalls Try.prog 49 [m.v] st fun r st' => r = .sc (.bool (decide (300 < t0.length ∨ 300 < t1.length ∨ 300 < t2.length))) ∧ st = st' := by
  refine vcalls_enter vc49 (Nat.le_of_ble_eq_true rfl) fun hwf hok => ?_
  show Run _ Vc49.body (.fin (finQ Vc49.res _)) _ _
  unfold Vc49
  obtain ⟨C, hC⟩ : ∃ C, C = m.cells := ⟨_, rfl⟩
  have hC13 : C.length = 13 := by rw [hC]; exact MB.len h9 (by rw [hT]; rfl)
  have g0 : C[10]? = some (.sc (.string (strOf t0))) := by rw [hC]; exact MB.getT (s := 0) h9 (by rw [hT]; rfl)
  have g1 : C[11]? = some (.sc (.string (strOf t1))) := by rw [hC]; exact MB.getT (s := 1) h9 (by rw [hT]; rfl)
  have g2 : C[12]? = some (.sc (.string (strOf t2))) := by rw [hC]; exact MB.getT (s := 2) h9 (by rw [hT]; rfl)
  have hv : m.v = .agg C := by rw [hC]; rfl
  rw [hv]
  clear hok
  by_cases c0 : 300 < t0.length
  · simp (config := {maxSteps := 3000000}) only [run_reg, run_seq, run_ret, at_code_n, at_fin_r, ops_nil, ops_grd, grd_tf, ops_mv, ops_pick, ops_bin, ops_fld, ops_ixa, ops_load, ops_slen, ops_box, ev_t, ev_c, put_get, opv_mk, Bx, put_box_same, args0, List.getD_cons_zero, vpick, vbin, vbinI, vfld, vslen, vixa, vload, takeV, V.cells, ptrV, obsOk, List.length_cons, List.length_nil, and_true, true_and, Nat.reduceEqDiff, Int.reduceToNat, Int.reduceLE, Nat.zero_add, Nat.add_zero, Nat.mul_one, ↓reduceIte, vret, rvAll, rvVal, resv_1, ne_eq, not_false_eq_true, eq_self, reduceCtorEq, hC13, g0, strOf_size, decide_eq_true (show (300 : Int) < (t0.length : Int) by omega)]
    intro b hb
    repeat (apply And.intro; focus (first | omega | (simp; done)))
    exact ⟨_, _, Wk.refl _, weak_put hwf.weak hb, by rw [decide_eq_true (Or.inl c0)], rfl⟩
  have c0' := decide_eq_false (show ¬ (300 : Int) < (t0.length : Int) by omega)
  by_cases c1 : 300 < t1.length
  · simp (config := {maxSteps := 3000000}) only [run_reg, run_seq, run_ret, at_code_n, at_fin_r, ops_nil, ops_grd, grd_ff, grd_tf, ops_mv, ops_pick, ops_bin, ops_fld, ops_ixa, ops_load, ops_slen, ops_box, ev_t, ev_c, put_get, opv_mk, Bx, put_box_same, args0, List.getD_cons_zero, vpick, vbin, vbinI, vfld, vslen, vixa, vload, takeV, V.cells, ptrV, obsOk, List.length_cons, List.length_nil, and_true, true_and, Nat.reduceEqDiff, Nat.reduceAdd, Int.reduceToNat, Int.reduceLE, Nat.zero_add, Nat.add_zero, Nat.mul_one, ↓reduceIte, vret, rvAll, rvVal, resv_1, ne_eq, not_false_eq_true, eq_self, reduceCtorEq, Bool.false_eq_true, hC13, g0, g1, strOf_size, c0', decide_eq_true (show (300 : Int) < (t1.length : Int) by omega)]
    intro b hb
    repeat (apply And.intro; focus (first | omega | (simp; done)))
    exact ⟨_, _, Wk.refl _, weak_put hwf.weak hb, by rw [decide_eq_true (Or.inr (Or.inl c1))], rfl⟩
  have c1' := decide_eq_false (show ¬ (300 : Int) < (t1.length : Int) by omega)
  by_cases c2 : 300 < t2.length
  · simp (config := {maxSteps := 3000000}) only [run_reg, run_seq, run_ret, at_code_n, at_fin_r, ops_nil, ops_grd, grd_ff, ops_mv, ops_pick, ops_bin, ops_fld, ops_ixa, ops_load, ops_slen, ops_box, ev_t, ev_c, put_get, opv_mk, Bx, put_box_same, args0, List.getD_cons_zero, vpick, vbin, vbinI, vfld, vslen, vixa, vload, takeV, V.cells, ptrV, obsOk, List.length_cons, List.length_nil, and_true, true_and, Nat.reduceEqDiff, Nat.reduceAdd, Int.reduceToNat, Int.reduceLE, Nat.zero_add, Nat.add_zero, Nat.mul_one, ↓reduceIte, vret, rvAll, rvVal, resv_1, ne_eq, not_false_eq_true, eq_self, reduceCtorEq, Bool.false_eq_true, hC13, g0, g1, g2, strOf_size, c0', c1', decide_eq_true (show (300 : Int) < (t2.length : Int) by omega)]
    intro b hb
    repeat (apply And.intro; focus (first | omega | (simp; done)))
    exact ⟨_, _, Wk.refl _, weak_put hwf.weak hb, by rw [decide_eq_true (Or.inr (Or.inr c2))], rfl⟩
  simp (config := {maxSteps := 3000000}) only [run_reg, run_seq, run_ret, at_code_n, at_fin_r, ops_nil, ops_grd, grd_ff, ops_mv, ops_pick, ops_bin, ops_fld, ops_ixa, ops_load, ops_slen, ops_box, ev_t, ev_c, put_get, opv_mk, Bx, put_box_same, args0, List.getD_cons_zero, vpick, vbin, vbinI, vfld, vslen, vixa, vload, takeV, V.cells, ptrV, obsOk, List.length_cons, List.length_nil, and_true, true_and, Nat.reduceEqDiff, Nat.reduceAdd, Int.reduceToNat, Int.reduceLE, Nat.zero_add, Nat.add_zero, Nat.mul_one, ↓reduceIte, vret, rvAll, rvVal, resv_1, ne_eq, not_false_eq_true, eq_self, reduceCtorEq, Bool.false_eq_true, hC13, g0, g1, g2, strOf_size, c0', c1', decide_eq_false (show ¬ (300 : Int) < (t2.length : Int) by omega)]
  intro b hb
  repeat (apply And.intro; focus (first | omega | (simp; done)))
  exact ⟨_, _, Wk.refl _, weak_put hwf.weak hb, by rw [decide_eq_false (by omega)], rfl⟩
theorem eqB_self (L : List Int) : decide (L = L) = true := decide_eq_true rfl
theorem bool_eq (b : Bool) : (b == b) = true := by cases b <;> rfl
theorem msgBuildsLaw_v {m : MB} (hty : -9223372036854775808 ≤ m.ty ∧ m.ty ≤ 9223372036854775807) (h9 : m.N.length = 9) (hN : ∀ x ∈ m.N, 0 ≤ x ∧ x < 4294967296) {t0 t1 t2 : List Int} (hT : m.T = [t0, t1, t2]) (hB : ∀ t ∈ m.T, IsB t) :
    VCalls Try.prog 11 [m.v] st fun r st' => r = .sc (.bool true) ∧ st = st' := by
  refine vcalls_enter vc11 (Nat.le_of_ble_eq_true rfl) fun hwf hok => ?_
  show Run _ Vc11.body (.fin (finQ Vc11.res _)) _ _
  unfold Vc11
  have h3 : m.T.length = 3 := by rw [hT]; rfl
  have hG := fun st : St => great_v (st := st) h9 hT
  have hS := fun st : St => msgSize_v (st := st) m.ty
  have hRS := fun st : St => refSize_v (st := st) m.ty
  have hPar : okM m = true → parseM (bytesM m) = (m, 0) := fun h => parseM_bytes h9 h3 (fun x hx => (hN x hx).1) h
  have hWB := bytesM_isB hB
  have hWl : okM m = true → (bytesM m).length ≤ 1000 := fun h => by have := bytesM_len h; have := sizeT_le m.ty; omega
  have hok9 : ¬ (300 < t0.length ∨ 300 < t1.length ∨ 300 < t2.length) → m.Ok := fun h => ⟨hty, h9, h3, hN, hB, by
    rw [hT]; intro t ht
    simp only [List.mem_cons, List.not_mem_nil, or_false] at ht
    rcases ht with rfl | rfl | rfl <;> omega⟩
  obtain ⟨C, hC⟩ : ∃ C, C = m.cells := ⟨_, rfl⟩
  have hC13 : C.length = 13 := by rw [hC]; exact MB.len h9 h3
  have g0 : C[0]? = some (.sc (.int .i64 m.ty)) := by rw [hC]; rfl
  have hv : m.v = .agg C := by rw [hC]; rfl
  have htk : C.take 13 = C := List.take_of_length_le (by omega)
  have hf := hC ▸ MB.fits (m := m) h9 h3
  have he := hC ▸ MB.eqv (m := m) h9 h3
  have hdr : ∀ l : List V, l.length = 13 → l.drop 13 = [] := fun l h => List.drop_of_length_le (by omega)
  rw [hv] at hG
  rw [hv]
  clear hok
  simp (config := {maxSteps := 3000000}) only [run_reg, run_seq, at_code_n, ops_nil, ops_mv, ops_load, ops_box, ops_call, ev_t, ev_c, put_get, opv_mk, Bx, put_box_same, args0, List.getD_cons_zero, vload, takeV, V.cells, ptrV, obsOk, List.map_cons, List.map_nil, List.drop_zero, true_and, Nat.reduceEqDiff, Nat.reduceLeDiff, Nat.zero_add, ↓reduceIte, ne_eq, not_false_eq_true, eq_self, reduceCtorEq, hC13, htk]
  intro b hb
  refine Cal.mk (hG _) ?_
  rintro _ _ ⟨rfl, rfl⟩ -
  by_cases hg : 300 < t0.length ∨ 300 < t1.length ∨ 300 < t2.length
  · simp (config := {maxSteps := 3000000}) only [run_reg, run_seq, run_ret, run_cond, if_true, at_code_n, at_code_r, at_fin_r, ops_nil, ops_mv, ev_t, ev_c, put_get, opv_mk, obsOk, and_true, true_and, ↓reduceIte, vret, rvAll, rvVal, resv_1, eq_self, decide_eq_true hg]
    exact ⟨_, _, Wk.refl _, weak_put hwf.weak hb, rfl, rfl⟩
  have hmok := hok9 hg
  have hRB := fun st : St => refBuild_v (st := st) hmok.ok0
  have hBu := fun st : St => build_v (st := st) hmok
  have hRi := fun st : St => right_v (st := st) hmok
  rw [hv] at hRB hBu hRi
  change ∀ st : St, VCalls Try.prog _ [V.agg C] st fun r st' => r = .sc (.bool (okM m)) ∧ st = st' at hRi
  generalize hW : bytesM m = W at *
  simp (config := {maxSteps := 3000000}) only [run_skip, run_reg, run_seq, run_cond, if_false, at_code_n, ops_nil, ops_load, ops_call, ev_t, put_get, opv_mk, put_box_same, vload, takeV, obsOk, List.map_cons, List.map_nil, List.drop_zero, true_and, Nat.reduceEqDiff, Nat.reduceLeDiff, Nat.zero_add, ↓reduceIte, eq_self, decide_eq_false hg, hC13, htk]
  refine Cal.mk (hRB _) ?_
  rintro _ _ ⟨rfl, rfl⟩ -
  simp (config := {maxSteps := 3000000}) only [run_reg, run_seq, at_code_n, ops_nil, ops_mv, ops_load, ops_ext, ops_call, ev_t, put_get, opv_mk, put_box_same, vext, vload, takeV, obsOk, List.map_cons, List.map_nil, List.getElem?_cons_zero, List.getElem?_cons_succ, List.drop_zero, true_and, Nat.reduceEqDiff, Nat.reduceLeDiff, Nat.zero_add, ↓reduceIte, eq_self, hC13, htk]
  refine Cal.mk (hBu _) ?_
  rintro _ _ ⟨rfl, rfl⟩ -
  simp (config := {maxSteps := 3000000}) only [ops_call, ev_t, put_get, obsOk, List.map_cons, List.map_nil, true_and, Nat.reduceEqDiff, ↓reduceIte, eq_self]
  refine Cal.mk eqB_v ?_
  rintro _ _ ⟨rfl, rfl⟩ -
  rw [eqB_self]
  simp (config := {maxSteps := 3000000}) only [ops_grd, grd_ff, ops_mv, ops_un, ops_load, ops_call, ev_t, put_get, opv_mk, put_box_same, vun, vload, takeV, obsOk, List.map_cons, List.map_nil, List.drop_zero, true_and, Nat.reduceEqDiff, Nat.reduceLeDiff, Nat.zero_add, ↓reduceIte, Bool.not_true, eq_self, hC13, htk]
  refine Cal.mk (hRi _) ?_
  rintro _ _ ⟨rfl, rfl⟩ -
  simp (config := {maxSteps := 3000000}) only [ops_grd, grd_ff, ops_mv, ops_pick, ops_binb, vbinb, ops_fld, ops_load, ops_call, ev_t, put_get, opv_mk, put_box_same, vpick, vfld, vload, takeV, V.cells, obsOk, List.map_cons, List.map_nil, List.length_cons, List.length_nil, true_and, Nat.reduceEqDiff, Nat.zero_add, Nat.add_zero, ↓reduceIte, Bool.not_true, eq_self, Bool.false_eq_true, bool_eq, g0]
  refine Cal.mk (hS _) ?_
  rintro _ _ ⟨rfl, rfl⟩ -
  simp (config := {maxSteps := 3000000}) only [ops_grd, grd_ff, ops_call, ev_t, put_get, put_box_same, vload, takeV, V.cells, obsOk, List.map_cons, List.map_nil, List.length_cons, List.length_nil, and_true, true_and, Nat.reduceEqDiff, Nat.zero_add, ↓reduceIte, eq_self, g0]
  refine Cal.mk (hRS _) ?_
  rintro _ _ ⟨rfl, rfl⟩ -
  cases hok : okM m
  · simp (config := {maxSteps := 3000000}) only [run_skip, run_reg, run_seq, run_cond, if_true, if_false, at_code_n, ops_nil, ops_grd, grd_ff, ops_mv, ops_pick, ops_bin, ops_un, ops_call, ev_t, put_get, opv_mk, vpick, vbin, vbinI, vun, obsOk, List.map_nil, true_and, Nat.reduceEqDiff, ↓reduceIte, decide_false, Bool.not_false, ne_eq, not_true_eq_false, eq_self, Bool.false_eq_true]
    refine Cal.mk alive16_v ?_
    rintro _ _ ⟨rfl, rfl⟩ -
    simp (config := {maxSteps := 3000000}) only [run_ret, at_code_n, at_code_r, at_fin_r, ops_nil, ops_mv, ev_t, put_get, opv_mk, obsOk, and_true, true_and, ↓reduceIte, vret, rvAll, rvVal, resv_1, eq_self]
    exact ⟨_, _, Wk.refl _, weak_put hwf.weak hb, rfl, rfl⟩
  · have hpr := fun st : St => parse_v (tk := .no) (st := st) hWB (by have := hWl hok; omega)
    rw [hPar hok] at hpr
    rw [hv] at hpr
    simp (config := {maxSteps := 3000000}) only [run_skip, run_reg, run_seq, run_cond, if_false, at_code_n, ops_nil, ops_grd, grd_ff, ops_mv, ops_pick, ops_bin, ops_un, ops_call, ev_t, put_get, opv_mk, vpick, vbin, vbinI, vun, obsOk, List.map_cons, List.map_nil, true_and, Nat.reduceEqDiff, ↓reduceIte, decide_false, Bool.not_true, ne_eq, not_true_eq_false, eq_self, Bool.false_eq_true]
    refine Cal.mk (hpr _) ?_
    rintro _ _ ⟨rfl, rfl⟩ -
    simp (config := {maxSteps := 3000000}) only [run_reg, run_seq, at_code_n, ops_nil, ops_grd, grd_tt, ops_mv, ops_bin, ops_load, ops_ext, ops_alc, ops_store, ev_t, ev_c, put_get, put_none, opv_mk, stb_some, sto_ptr, Stp, put_box_same, put_sz, put_put, vbin, vbinI, vext, vload, takeV, splice, V.cells, ptrV, obsOk, List.length_cons, List.length_nil, List.getElem?_cons_zero, List.getElem?_cons_succ, List.take_zero, List.drop_succ_cons, List.drop_zero, List.nil_append, List.append_nil, List.drop_nil, true_and, Nat.reduceEqDiff, Nat.reduceAdd, Nat.reduceLT, Nat.reduceLeDiff, Nat.reduceLT, Nat.zero_add, ↓reduceIte, decide_true, eq_self, hC13, htk]
    intro d hd
    obtain ⟨hd1, hbd⟩ : st.sz ≤ d ∧ b < d := by first | omega | (simp only [put_sz] at hd; omega)
    clear hd
    simp (config := {maxSteps := 3000000}) only [ops_grd, grd_tt, ops_mv, ops_pick, ops_eqs, veqs, ops_call, ev_t, put_get, opv_mk, put_box_same, vpick, List.map_nil, and_true, true_and, Nat.reduceEqDiff, Nat.reduceLeDiff, ↓reduceIte, eq_self, Bool.false_eq_true, hC13, htk, put_box_ne (Nat.ne_of_lt hbd), hf, he]
    refine Cal.mk alive16_v ?_
    rintro _ _ ⟨rfl, rfl⟩ -
    simp (config := {maxSteps := 3000000}) only [run_ret, at_code_n, at_fin_r, ops_nil, ops_mv, ops_pick, ev_t, put_get, opv_mk, vpick, obsOk, and_true, true_and, Nat.reduceEqDiff, ↓reduceIte, vret, rvAll, rvVal, resv_1, eq_self]
    exact ⟨_, _, Wk.refl _, weak_put (weak_put hwf.weak hb) hd1, rfl, rfl⟩
theorem msgParsesLaw_v {L : List Int} (hB : IsB L) : VCalls Try.prog 12 [.sl tk (bs L)] st fun r st' => r = .sc (.bool true) ∧ st = st' := by
  refine vcalls_enter vc12 (Nat.le_of_ble_eq_true rfl) fun hwf hok => ?_
  show Run _ Vc12.body (.fin (finQ Vc12.res _)) _ _
  unfold Vc12
  by_cases h4 : 400 < L.length
  · simp (config := {maxSteps := 3000000}) only [run_reg, run_seq, run_ret, run_cond, if_true, at_code_n, at_code_r, at_fin_r, ops_nil, ops_mv, ops_bin, ops_len, ev_t, ev_c, put_get, opv_mk, args0, List.getD_cons_zero, vbin, vbinI, vlen, and_true, true_and, ↓reduceIte, vret, rvAll, rvVal, resv_1, eq_self, reduceCtorEq, bs_len, decide_eq_true (show (400 : Int) < (L.length : Int) by omega)]
    exact ⟨_, _, Wk.refl _, hwf.weak, rfl, rfl⟩
  have hp1 := fun st : St => parse_v (tk := tk) (st := st) hB (by omega)
  have hp2 := fun st : St => refParse_v (tk := tk) (st := st) hB (by omega)
  have hback := bytes_parseM hB (by omega)
  have hn := parseM_n L
  have hfe : ∃ C, (parseM L).1.v = .agg C ∧ C.length = 13 ∧ C.take 13 = C ∧ fitsV [.int .i64, .int .u32, .int .u32, .int .u32, .int .u32, .int .u32, .int .u32, .int .u32, .int .u32, .int .u32, .str, .str, .str] C ∧ eqV C C = true := by
    have h93 : (parseM L).1.N.length = 9 ∧ (parseM L).1.T.length = 3 := by
      rcases hn with h | h
      · exact h
      · obtain ⟨m, e, hm, _⟩ := hback h
        rw [e]; exact ⟨hm.n9, hm.t3⟩
    have hl := MB.len h93.1 h93.2
    exact ⟨_, rfl, hl, List.take_of_length_le (by omega), MB.fits h93.1 h93.2, MB.eqv h93.1 h93.2⟩
  obtain ⟨C, hv, hC13, htk, hf, he⟩ := hfe
  have hdr : C.drop 13 = [] := List.drop_of_length_le (by omega)
  rw [hv] at hp1 hp2
  have hbk2 : (parseM L).2 = 0 → (∀ st : St, VCalls Try.prog 52 [.agg C] st fun r st' => r = .sc (.bool true) ∧ st = st') ∧ (∀ st : St, VCalls Try.prog 51 [.agg C] st fun r st' => r = .sl .no (bs L) ∧ st = st') := fun h => by
    obtain ⟨m, e, hm, hok, hW⟩ := hback h
    rw [e] at hv
    have r1 := fun st : St => right_v (st := st) hm
    have r2 := fun st : St => build_v (st := st) hm
    rw [hv] at r1 r2
    change ∀ st : St, VCalls Try.prog _ [V.agg C] st fun r st' => r = .sc (.bool (okM m)) ∧ st = st' at r1
    rw [hok] at r1
    rw [hok, hW] at r2
    exact ⟨r1, r2⟩
  generalize (parseM L).2 = E at *
  clear hback hn hv
  simp (config := {maxSteps := 3000000}) only [run_skip, run_reg, run_seq, run_cond, if_false, at_code_n, ops_nil, ops_mv, ops_bin, ops_len, ops_call, ev_t, ev_c, put_get, opv_mk, args0, List.getD_cons_zero, vbin, vbinI, vlen, List.map_cons, List.map_nil, true_and, ↓reduceIte, eq_self, reduceCtorEq, bs_len, decide_eq_false (show ¬ (400 : Int) < (L.length : Int) by omega)]
  refine Cal.mk (hp1 _) ?_
  rintro _ _ ⟨rfl, rfl⟩ -
  simp (config := {maxSteps := 3000000}) only [run_reg, run_seq, at_code_n, ops_nil, ops_mv, ops_ext, ops_alc, ops_store, ops_call, ev_t, put_get, put_none, opv_mk, stb_some, sto_ptr, Stp, put_box_same, put_put, args0, List.getD_cons_zero, vext, splice, V.cells, ptrV, obsOk, List.map_cons, List.map_nil, List.length_cons, List.length_nil, List.getElem?_cons_zero, List.getElem?_cons_succ, List.take_zero, List.nil_append, true_and, Nat.reduceEqDiff, Nat.reduceAdd, Nat.reduceLT, Nat.reduceLeDiff, Nat.reduceLT, Nat.zero_add, ↓reduceIte, eq_self, reduceCtorEq]
  intro c hc
  simp (config := {maxSteps := 3000000}) only [List.drop_succ_cons, List.append_nil, List.drop_nil, true_and, eq_self, hC13]
  refine Cal.mk (hp2 _) ?_
  rintro _ _ ⟨rfl, rfl⟩ -
  simp (config := {maxSteps := 3000000}) only [run_reg, run_seq, at_code_n, ops_nil, ops_mv, ops_load, ops_ext, ops_alc, ops_store, ev_t, put_get, put_none, opv_mk, stb_some, sto_ptr, Stp, put_box_same, put_sz, put_put, vext, vload, takeV, splice, V.cells, ptrV, obsOk, List.length_cons, List.length_nil, List.getElem?_cons_zero, List.getElem?_cons_succ, List.take_zero, List.drop_zero, List.nil_append, true_and, Nat.reduceEqDiff, Nat.reduceAdd, Nat.reduceLT, Nat.reduceLeDiff, Nat.reduceLT, Nat.zero_add, ↓reduceIte, eq_self]
  intro d hd
  obtain ⟨hd1, hcd⟩ : st.sz ≤ d ∧ c < d := by first | omega | (simp only [put_sz] at hd; omega)
  clear hd
  have hw : ∀ cs ds : List V, st.weak ((st.put c cs).put d ds) := fun cs ds => weak_put (weak_put hwf.weak hc) hd1
  by_cases hE : E = 0
  · obtain ⟨r1, r2⟩ := hbk2 hE
    subst hE
    simp (config := {maxSteps := 3000000}) only [run_skip, run_reg, run_seq, run_cond, if_false, at_code_n, ops_nil, ops_grd, grd_ff, ops_mv, ops_pick, ops_bin, ops_eqs, veqs, ops_load, ops_call, ev_t, ev_c, put_get, opv_mk, put_box_same, vpick, vbin, vbinI, vload, takeV, List.map_cons, List.map_nil, List.drop_succ_cons, List.drop_zero, List.append_nil, List.drop_nil, and_true, true_and, Nat.reduceEqDiff, Nat.reduceLeDiff, Nat.zero_add, ↓reduceIte, decide_false, Bool.not_true, ne_eq, not_true_eq_false, eq_self, Bool.false_eq_true, hC13, htk, put_box_ne (Nat.ne_of_lt hcd), hf, he]
    refine Cal.mk (r1 _) ?_
    rintro _ _ ⟨rfl, rfl⟩ -
    simp (config := {maxSteps := 3000000}) only [ops_grd, grd_tt, grd_ff, ops_mv, ops_load, ops_call, ev_t, put_get, opv_mk, put_box_same, vload, takeV, obsOk, List.map_cons, List.map_nil, List.drop_zero, true_and, Nat.reduceEqDiff, Nat.reduceLeDiff, Nat.zero_add, ↓reduceIte, eq_self, hC13, htk, put_box_ne (Nat.ne_of_lt hcd)]
    refine Cal.mk (r2 _) ?_
    rintro _ _ ⟨rfl, rfl⟩ -
    simp (config := {maxSteps := 3000000}) only [ops_grd, grd_tt, ops_mv, ops_call, ev_t, put_get, opv_mk, args0, List.getD_cons_zero, obsOk, List.map_cons, List.map_nil, true_and, Nat.reduceEqDiff, ↓reduceIte, eq_self, reduceCtorEq]
    refine Cal.mk eqB_v ?_
    rintro _ _ ⟨rfl, rfl⟩ -
    rw [eqB_self]
    simp (config := {maxSteps := 3000000}) only [ops_grd, grd_tt, grd_ff, ops_mv, ops_pick, ops_call, ev_t, put_get, opv_mk, vpick, obsOk, List.map_nil, true_and, Nat.reduceEqDiff, ↓reduceIte, eq_self, Bool.false_eq_true]
    refine Cal.mk alive16_v ?_
    rintro _ _ ⟨rfl, rfl⟩ -
    simp (config := {maxSteps := 3000000}) only [run_ret, at_code_n, at_fin_r, ops_nil, ops_mv, ops_pick, ev_t, put_get, opv_mk, vpick, obsOk, and_true, true_and, Nat.reduceEqDiff, ↓reduceIte, vret, rvAll, rvVal, resv_1, eq_self]
    exact ⟨_, _, Wk.refl _, hw _ _, rfl, rfl⟩
  · simp (config := {maxSteps := 3000000}) only [run_skip, run_reg, run_seq, run_cond, if_false, at_code_n, ops_nil, ops_grd, grd_und, grd_tt, grd_ff, grd_tf, ops_mv, ops_pick, ops_bin, ops_eqs, veqs, ops_load, ops_call, ev_t, ev_c, put_get, opv_mk, put_box_same, vpick, vbin, vbinI, vload, takeV, List.map_nil, List.drop_succ_cons, List.drop_zero, List.append_nil, List.drop_nil, and_true, true_and, Nat.reduceEqDiff, Nat.reduceLeDiff, Nat.zero_add, ↓reduceIte, decide_false, Bool.not_true, ne_eq, not_true_eq_false, eq_self, Bool.false_eq_true, hC13, htk, put_box_ne (Nat.ne_of_lt hcd), hf, he, decide_eq_true hE]
    refine Cal.mk alive16_v ?_
    rintro _ _ ⟨rfl, rfl⟩ -
    simp (config := {maxSteps := 3000000}) only [run_ret, at_code_n, at_fin_r, ops_nil, ops_mv, ops_pick, ev_t, put_get, opv_mk, vpick, obsOk, and_true, true_and, Nat.reduceEqDiff, ↓reduceIte, vret, rvAll, rvVal, resv_1, eq_self]
    exact ⟨_, _, Wk.refl _, hw _ _, rfl, rfl⟩
end
end Go.Proofs.Ytogkdcbcmhhhcaa
