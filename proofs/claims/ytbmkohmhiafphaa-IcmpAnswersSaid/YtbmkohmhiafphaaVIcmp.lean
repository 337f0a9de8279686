/- Package icmp: messages as bytes: contracts. -/
import Derived.Test.YtbmkohmhiafphaaVIp4HP
namespace Go.Proofs.Ytbmkohmhiafphaa
open Go Go.RowKit

/-- A message. -/
structure MS where
  t : Int
  c : Int
  w : Int
  D : List Int
def MS.v (m : MS) (tk : Tk) : V := .agg [.sc (.int .u8 m.t), .sc (.int .u8 m.c), .sc (.int .u32 m.w), .sl tk (bs m.D)]
structure MS.Ok (m : MS) : Prop where
  t : 0 ≤ m.t ∧ m.t < 256
  c : 0 ≤ m.c ∧ m.c < 256
  w : 0 ≤ m.w ∧ m.w < 4294967296
  D : IsB m.D
def ms0 : MS := ⟨0, 0, 0, []⟩
def msPre (m : MS) (k : Int) : List Int := [m.t, m.c, k / 256, k % 256] ++ beL m.w 4 ++ m.D
def msB (m : MS) : List Int := msPre m (ckS (msPre m 0))
theorem msPre_set (m : MS) (k : Int) : ((msPre m 0).set 2 (k / 256)).set 3 (k % 256) = msPre m k := by simp [msPre, beL4]
theorem msPre_len (m : MS) (k : Int) : (msPre m k).length = 8 + m.D.length := by simp [msPre, beL_len]; omega
theorem msPre_isB {m : MS} (hm : m.Ok) {k : Int} (h0 : 0 ≤ k) (h1 : k < 65536) : IsB (msPre m k) := by
  have a2 : ∀ {x y : Int}, 0 ≤ x ∧ x < 256 → 0 ≤ y ∧ y < 256 → IsB [x, y] := fun hx hy z hz => by
    simp only [List.mem_cons, List.not_mem_nil, or_false] at hz
    rcases hz with rfl | rfl
    · exact hx
    · exact hy
  have e4 : [m.t, m.c, k / 256, k % 256] = [m.t, m.c] ++ [k / 256, k % 256] := rfl
  unfold msPre
  rw [e4]
  exact (((a2 hm.t hm.c).append (a2 (by omega) (by omega))).append (beL_isB _ _)).append hm.D
theorem msB_isB {m : MS} (hm : m.Ok) : IsB (msB m) := by
  have := ckS_range (msPre_isB hm (k := 0) (by omega) (by omega))
  exact msPre_isB hm this.1 (by omega)
theorem msB_len (m : MS) : (msB m).length = 8 + m.D.length := msPre_len m _
def msE (L : List Int) : Int := if L.length < 8 then 10 else if ckS L ≠ 0 then 50 else 0
def msX (L : List Int) : MS := ⟨L.getD 0 0, L.getD 1 0, numL ((L.drop 4).take 4), L.drop 8⟩
def msD (L : List Int) : MS := if msE L = 0 then msX L else ms0
theorem ckS_msB {m : MS} (hm : m.Ok) : ckS (msB m) = 0 := by
  have hB := msPre_isB hm (k := 0) (by omega) (by omega)
  have h0 := (sumP_range hB (msPre m 0).length).1
  have hc : ckS (msPre m 0) = 65535 - nrm (sumP (msPre m 0) (msPre m 0).length) := rfl
  have hl := msPre_len m 0
  have hs := sumP_set2 (L := msPre m 0) (i := 2) (c := ckS (msPre m 0)) (by omega) (by omega)
  have g2 : (msPre m 0).getD 2 0 = 0 := by simp [msPre]
  have g3 : (msPre m 0).getD (2 + 1) 0 = 0 := by simp [msPre]
  rw [g2, g3, msPre_set] at hs
  unfold msB
  generalize ckS (msPre m 0) = c at *
  unfold ckS
  rw [msPre_len, ← hl, hs, hc, show sumP (msPre m 0) (msPre m 0).length + (65535 - nrm (sumP (msPre m 0) (msPre m 0).length)) - (256 * 0 + 0) = sumP (msPre m 0) (msPre m 0).length + (65535 - nrm (sumP (msPre m 0) (msPre m 0).length)) by omega, nrm_back h0]
  rfl
theorem ms_back {m : MS} (hm : m.Ok) : msE (msB m) = 0 ∧ msD (msB m) = m := by
  have hE : msE (msB m) = 0 := by
    unfold msE
    rw [if_neg (by rw [msB_len]; omega), if_neg (by rw [ckS_msB hm]; simp)]
  refine ⟨hE, ?_⟩
  unfold msD
  rw [if_pos hE]
  have hw := hm.w
  unfold msX msB
  generalize ckS (msPre m 0) = k
  obtain ⟨t, c, w, D⟩ := m
  simp only [MS.mk.injEq]
  simp only at hw
  refine ⟨by simp [msPre], by simp [msPre], ?_, by simp [msPre, beL4]⟩
  simp [msPre, beL4, numL]; omega

section
variable {tk tk' : Tk} {st : St} {L : List Int}
theorem Get32_v (hB : IsB L) (h : 4 ≤ L.length) : VCalls Try.prog 45 [.sl tk (bs L)] st fun r st' => r = .sc (.int .u32 (numL (L.take 4))) ∧ st = st' := by
  refine vcalls_enter vc45 (Nat.le_of_ble_eq_true rfl) fun hwf hok => ?_
  show Run _ Vc45.body (.fin (finQ Vc45.res _)) _ _
  unfold Vc45
  obtain ⟨a0, a1⟩ := num2 hB 0
  obtain ⟨b0, b1⟩ := num2 hB 2
  have hn : numL (L.take 4) = 65536 * numL (L.take 2) + numL ((L.drop 2).take 2) := by
    match L, h with
    | w :: x :: y :: z :: L, _ => simp [numL]; omega
  rw [List.drop_zero] at a0 a1
  simp (config := {maxSteps := 3000000}) only [run_skip, run_reg, run_seq, run_cond, if_false, at_code_n, ops_nil, ops_mv, ops_bin, ops_len, ops_slc, ops_call, ev_t, ev_c, put_get, opv_mk, args0, List.getD_cons_zero, vbin, vbinI, vlen, vslc, List.map_cons, List.map_nil, Option.map_some, Option.map_none, true_and, Nat.reduceEqDiff, Int.reduceToNat, Int.reduceLE, ↓reduceIte, eq_self, reduceCtorEq, bs_len, decide_eq_false (show ¬ (L.length : Int) < 4 by omega), bs_drop, allSz_bs']
  refine ⟨by omega, ?_⟩
  refine Cal.mk (Get16_ok hB (by omega)) ?_
  rintro _ _ ⟨rfl, rfl⟩ -
  simp (config := {maxSteps := 3000000}) only [ops_bin, ops_conv, ops_call, ev_t, ev_c, put_get, opv_mk, vbin, vbinI, vconv, norm, obsOk, shAmt, IntKind.bits, List.map_cons, List.map_nil, and_true, true_and, Nat.reduceEqDiff, Nat.reduceLeDiff, Int.reduceToNat, Int.reduceLE, Int.reducePow, Nat.min_def, ↓reduceIte, eq_self]
  refine Cal.mk (Get16_ok (hB.drop 2) (by simp; omega)) ?_
  rintro _ _ ⟨rfl, rfl⟩ -
  generalize numL (L.take 2) = a at *
  generalize numL ((L.drop 2).take 2) = b at *
  have f1 : a % 4294967296 = a := by omega
  have f2 : b % 4294967296 = b := by omega
  have f3 : a * 65536 % 4294967296 = a * 65536 := by omega
  have f4 := u32_join a b a0 (by omega) b0 (by omega)
  simp (config := {maxSteps := 3000000}) only [run_ret, at_code_n, at_fin_r, ops_nil, ops_mv, ops_bin, ops_conv, ev_t, put_get, opv_mk, vbin, vbinI, vconv, norm, obsOk, and_true, true_and, Nat.reduceEqDiff, ↓reduceIte, vret, rvAll, rvVal, resv_1, eq_self, f1, f2, f3, ibit_or, f4]
  exact ⟨_, _, Wk.refl _, hwf.weak, by rw [hn], rfl⟩
theorem icmpBuild_v (m : MS) (hm : m.Ok) (hD : m.D.length ≤ 1000000) : VCalls Try.prog 15 [m.v tk] st fun r st' => r = .sl .no (bs (msB m)) ∧ st = st' := by
  refine VCalls.tell (Q := fun r s => MRow st s r (msB m)) ?_ (fun r s h => ⟨_, _, h.tell, rfl, rfl⟩)
  have hB := msPre_isB hm (k := 0) (by omega) (by omega)
  have hck := ckS_range hB
  have hlen := msPre_len m 0
  have hset := msPre_set m (ckS (msPre m 0))
  have hIs : msB m = msPre m (ckS (msPre m 0)) := rfl
  have hw := hm.w
  have eL : [m.t, m.c, 0, 0] ++ beL m.w 4 ++ m.D = msPre m 0 := by simp [msPre]
  obtain ⟨t, c, w, D⟩ := m
  simp only at hw eL hD hlen
  refine vcalls_enter vc15 (Nat.le_of_ble_eq_true rfl) fun hwf hok => ?_
  show Run _ Vc15.body (.fin (finQ Vc15.res _)) _ _
  unfold Vc15
  simp (config := {maxSteps := 3000000}) only [run_reg, run_seq, at_code_n, ops_nil, ops_mv, ops_fld, ops_load, ops_box, ops_bslo, ev_t, ev_c, put_get, opv_mk, Bx, put_box_same, args0, List.getD_cons_zero, vfld, vload, takeV, V.cells, strip, strip1, ptrV, obsOk, List.map_cons, List.map_nil, List.length_cons, List.length_nil, List.getElem?_cons_zero, List.getElem?_cons_succ, true_and, Nat.reduceEqDiff, Nat.reduceAdd, Nat.zero_add, Nat.add_zero, ↓reduceIte, ne_eq, not_false_eq_true, eq_self, reduceCtorEq, MS.v]
  intro b hb
  refine Bo.row (M := [t, c, 0, 0]) (base := st.put b _) hwf.lt.put.weak hwf.lt.put (by simp) ?_
  intro r s k f
  have hb1 := f b _ put_box_same
  clear f
  simp (config := {maxSteps := 3000000}) only [ops_fld, ops_load, ops_call, ev_t, put_get, opv_mk, vfld, vload, takeV, V.cells, obsOk, List.map_cons, List.map_nil, List.length_cons, List.length_nil, List.getElem?_cons_zero, List.getElem?_cons_succ, true_and, Nat.reduceEqDiff, Nat.zero_add, ↓reduceIte, eq_self, hb1]
  refine Cal.mk (Put32_b k (by simp) (by omega) (by omega)) ?_
  clear hb1
  rintro r s k -
  have hb1 := (k.weak.box b _ put_box_same).1
  simp (config := {maxSteps := 3000000}) only [run_reg, run_seq, at_code_n, ops_nil, ops_mv, ops_fld, ops_load, ops_app, ev_t, put_get, opv_mk, vfld, vload, takeV, V.cells, obsOk, List.length_cons, List.length_nil, List.getElem?_cons_zero, List.getElem?_cons_succ, true_and, Nat.reduceEqDiff, Nat.zero_add, ↓reduceIte, eq_self, hb1]
  refine App.row (M := D) k (by simp [beL4]; omega) ?_
  clear hb1
  intro r s k _
  rw [eL] at k
  generalize msPre ⟨t, c, w, D⟩ 0 = L at *
  simp (config := {maxSteps := 3000000}) only [run_reg, run_seq, at_code_n, ops_nil, ops_mv, ops_call, ev_t, put_get, opv_mk, obsOk, List.map_cons, List.map_nil, true_and, ↓reduceIte, eq_self]
  refine Cal.mk (k.reads fun n => (sumOf_v hB).mono fun _ _ h => h.1) ?_
  rintro _ _ ⟨rfl, rfl⟩ -
  obtain ⟨bb, cap, rfl, hc1, hc2⟩ := k.is
  have c256 : ckS L / 256 % 256 = ckS L / 256 := by omega
  simp (config := {maxSteps := 3000000}) only [run_reg, run_seq, at_code_n, ops_nil, ops_mv, ops_bin, ops_conv, ops_ix, ops_store, ev_t, ev_c, put_get, opv_mk, sto_ptr, vbin, vbinI, vconv, norm, vix, V.cells, obsOk, shAmt, IntKind.bits, true_and, Nat.reduceEqDiff, Nat.reduceLeDiff, Int.reduceToNat, Int.reduceLE, Int.reducePow, Nat.min_def, Nat.zero_add, Nat.mul_one, ↓reduceIte, eq_self, c256]
  refine ⟨by omega, Stb.row k (by omega) ?_⟩
  intro s k _
  simp (config := {maxSteps := 3000000}) only [ops_ix, ops_store, ev_t, ev_c, put_get, put_none, opv_mk, sto_ptr, vix, V.cells, obsOk, true_and, Nat.reduceEqDiff, Int.reduceToNat, Int.reduceLE, Nat.zero_add, Nat.mul_one, ↓reduceIte, eq_self]
  refine ⟨by omega, Stb.row k (by rw [List.length_set]; omega) ?_⟩
  intro s k _
  rw [hset, ← hIs] at k
  simp (config := {maxSteps := 3000000}) only [run_reg, run_seq, run_ret, at_code_n, at_fin_r, ops_nil, ops_mv, ev_t, put_get, put_none, opv_mk, obsOk, and_true, true_and, Nat.reduceEqDiff, ↓reduceIte, vret, rvAll, rvVal, resv_1, eq_self]
  exact ⟨_, _, Wk.refl _, k.lt.weak, k.rebase (weak_put hwf.weak hb)⟩
theorem refBuild55_v (m : MS) (hm : m.Ok) (hD : m.D.length ≤ 1000000) : VCalls Try.prog 12 [m.v tk] st fun r st' => r = .sl .no (bs (msB m)) ∧ st = st' := by
  refine VCalls.tell (Q := fun r s => MRow st s r (msB m)) ?_ (fun r s h => ⟨_, _, h.tell, rfl, rfl⟩)
  have hB := msPre_isB hm (k := 0) (by omega) (by omega)
  have hck := ckS_range hB
  have hlen := msPre_len m 0
  have hset := msPre_set m (ckS (msPre m 0))
  have hIs : msB m = msPre m (ckS (msPre m 0)) := rfl
  have hw := hm.w
  have eL : [m.t, m.c, 0, 0] ++ beL m.w 4 ++ m.D = msPre m 0 := by simp [msPre]
  obtain ⟨t, c, w, D⟩ := m
  simp only at hw eL hD hlen
  have ew : w % 18446744073709551616 = w := by omega
  refine vcalls_enter vc12 (Nat.le_of_ble_eq_true rfl) fun hwf hok => ?_
  show Run _ Vc12.body (.fin (finQ Vc12.res _)) _ _
  unfold Vc12
  simp (config := {maxSteps := 3000000}) only [run_reg, run_seq, at_code_n, ops_nil, ops_mv, ops_conv, ops_fld, ops_load, ops_box, ops_bslo, ev_t, ev_c, put_get, opv_mk, Bx, put_box_same, args0, List.getD_cons_zero, vconv, norm, vfld, vload, takeV, V.cells, strip, strip1, ptrV, obsOk, List.map_cons, List.map_nil, List.length_cons, List.length_nil, List.getElem?_cons_zero, List.getElem?_cons_succ, true_and, Nat.reduceEqDiff, Nat.reduceAdd, Nat.zero_add, Nat.add_zero, ↓reduceIte, ne_eq, not_false_eq_true, eq_self, reduceCtorEq, MS.v]
  intro b hb
  refine Bo.row (M := [t, c, 0, 0]) (base := st.put b _) hwf.lt.put.weak hwf.lt.put (by simp) ?_
  intro r s k f
  have hb1 := f b _ put_box_same
  clear f
  simp (config := {maxSteps := 3000000}) only [ops_call, ev_t, ev_c, put_get, vload, takeV, V.cells, obsOk, List.map_cons, List.map_nil, List.length_cons, List.length_nil, List.getElem?_cons_zero, List.getElem?_cons_succ, and_true, true_and, Nat.reduceEqDiff, Nat.zero_add, ↓reduceIte, eq_self, hb1, ew]
  refine Cal.mk (rPut4_b k (by simp) (by omega) (by omega)) ?_
  clear hb1
  rintro r s k -
  have hb1 := (k.weak.box b _ put_box_same).1
  simp (config := {maxSteps := 3000000}) only [ops_app, ev_t, put_get, vload, takeV, V.cells, obsOk, List.length_cons, List.length_nil, List.getElem?_cons_zero, List.getElem?_cons_succ, and_true, true_and, Nat.reduceEqDiff, Nat.zero_add, ↓reduceIte, eq_self, hb1]
  refine App.row (M := D) k (by simp [beL4]; omega) ?_
  clear hb1
  intro r s k _
  rw [eL] at k
  generalize msPre ⟨t, c, w, D⟩ 0 = L at *
  simp (config := {maxSteps := 3000000}) only [run_reg, run_seq, at_code_n, ops_nil, ops_mv, ops_call, ev_t, put_get, opv_mk, obsOk, List.map_cons, List.map_nil, true_and, ↓reduceIte, eq_self]
  refine Cal.mk (k.reads fun n => (ref05Of_v hB (by omega)).mono fun _ _ h => h.1) ?_
  rintro _ _ ⟨rfl, rfl⟩ -
  obtain ⟨bb, cap, rfl, hc1, hc2⟩ := k.is
  have c256 : ckS L / 256 % 256 = ckS L / 256 := by omega
  have c257 : ckS L % 256 % 256 = ckS L % 256 := by omega
  simp (config := {maxSteps := 3000000}) only [run_reg, run_seq, at_code_n, ops_nil, ops_mv, ops_bin, ops_conv, ops_ix, ops_store, ev_t, ev_c, put_get, opv_mk, sto_ptr, vbin, vbinI, vconv, norm, vix, V.cells, obsOk, and_true, true_and, Nat.reduceEqDiff, Int.reduceToNat, Int.reduceLE, Int.reduceLT, Int.reduceNeg, Nat.zero_add, Nat.mul_one, ↓reduceIte, eq_self, c256, c257]
  repeat (refine ⟨by omega, ?_⟩)
  refine Stb.row k (by omega) ?_
  intro s k _
  simp (config := {maxSteps := 3000000}) only [ops_ix, ops_store, ev_t, ev_c, put_get, put_none, opv_mk, sto_ptr, vix, V.cells, obsOk, true_and, Nat.reduceEqDiff, Int.reduceToNat, Int.reduceLE, Nat.zero_add, Nat.mul_one, ↓reduceIte, eq_self]
  repeat (refine ⟨by omega, ?_⟩)
  refine Stb.row k (by rw [List.length_set]; omega) ?_
  intro s k _
  rw [hset, ← hIs] at k
  simp (config := {maxSteps := 3000000}) only [run_reg, run_seq, run_ret, at_code_n, at_fin_r, ops_nil, ops_mv, ev_t, put_get, put_none, opv_mk, obsOk, and_true, true_and, Nat.reduceEqDiff, ↓reduceIte, vret, rvAll, rvVal, resv_1, eq_self]
  exact ⟨_, _, Wk.refl _, k.lt.weak, k.rebase (weak_put hwf.weak hb)⟩
end
end Go.Proofs.Ytbmkohmhiafphaa
