/- Package icmp: Parse, quiet, About, and the document's: contracts. -/
import Derived.Test.YtbmkohmhiafphaaVIcmp
import Derived.Laws.BitsAllLaws
namespace Go.Proofs.Ytbmkohmhiafphaa
open Go Go.RowKit

def quietB (d : DG) : Prop := d.frag % 8192 ≠ 0 ∨ d.src < 16777216 ∨ 3758096384 ≤ d.src ∨ (d.proto = 1 ∧ (d.D = [] ∨ (d.D.getD 0 0 ≠ 8 ∧ d.D.getD 0 0 ≠ 0)))
instance (d : DG) : Decidable (quietB d) := by unfold quietB; infer_instance
theorem u16_mask13 {x : Int} (h0 : 0 ≤ x) (h1 : x < 65536) : ibit .and .u16 x 8191 = x % 8192 := by
  have := u16_and x 8191 h0 h1 (by omega) (by omega)
  rw [ibit_and, this, show (8191 : Int).toNat = 2 ^ 13 - 1 from rfl, Nat.and_two_pow_sub_one_eq_mod]
  omega
section
variable {tk tk' tk1 tk2 : Tk} {st : St} {L : List Int}
theorem icmpParse_v (hB : IsB L) (hL : L.length ≤ 1000000) : VCalls Try.prog 13 [.sl tk (bs L)] st fun r st' => (∃ tk', r = .tup [(msD L).v tk', .sc (.int .i64 (msE L))]) ∧ st = st' := by
  refine vcalls_enter vc13 (Nat.le_of_ble_eq_true rfl) fun hwf hok => ?_
  show Run _ Vc13.body (.fin (finQ Vc13.res _)) _ _
  unfold Vc13
  by_cases h8 : L.length < 8
  · have hE : msE L = 10 := if_pos h8
    have hD : msD L = ms0 := if_neg (by rw [hE]; decide)
    rw [hE, hD]
    simp (config := {maxSteps := 3000000}) only [run_reg, run_seq, run_blk, run_ret, run_cond, if_true, at_code_n, at_code_r, at_blk_r, at_fin_r, ops_nil, ops_mv, ops_bin, ops_len, ops_bld, ops_alc, ops_store, ev_t, ev_c, put_get, put_none, opv_mk, stb_some, sto_ptr, Stp, vbld, put_box_same, put_put, args0, List.getD_cons_zero, vbin, vbinI, vlen, vload, takeV, fillV, splice, V.cells, ptrV, obsOk, List.map_cons, List.map_nil, List.length_cons, List.length_nil, List.take_succ_cons, List.take_zero, List.drop_succ_cons, List.drop_zero, List.nil_append, List.append_nil, List.take_nil, List.drop_nil, and_true, true_and, Nat.reduceEqDiff, Nat.reduceAdd, Nat.reduceLT, Nat.reduceLeDiff, Nat.reduceLT, Nat.zero_add, ↓reduceIte, vret, rvAll, rvVal, resv_2, eq_self, reduceCtorEq, bs_len, decide_eq_true (show (L.length : Int) < 8 by omega)]
    intro b hb
    exact ⟨_, _, Wk.refl _, weak_put hwf.weak hb, ⟨.nil, rfl⟩, rfl⟩
  simp (config := {maxSteps := 3000000}) only [run_reg, run_seq, run_blk, run_cond, if_false, at_code_n, ops_nil, ops_mv, ops_bin, ops_len, ops_alc, ops_call, ev_t, ev_c, put_get, opv_mk, args0, List.getD_cons_zero, vbin, vbinI, vlen, ptrV, obsOk, List.map_cons, List.map_nil, true_and, ↓reduceIte, eq_self, reduceCtorEq, bs_len, decide_eq_false (show ¬ (L.length : Int) < 8 by omega)]
  intro b hb
  refine Cal.mk (sumRight_v hB) ?_
  rintro _ _ ⟨rfl, rfl⟩ -
  by_cases hc : ckS L = 0
  rotate_left
  · have hE : msE L = 50 := by unfold msE; rw [if_neg h8, if_pos hc]
    have hD : msD L = ms0 := if_neg (by rw [hE]; decide)
    rw [hE, hD]
    simp (config := {maxSteps := 3000000}) only [run_reg, run_seq, run_ret, run_cond, if_true, at_code_n, at_code_r, at_blk_r, at_fin_r, ops_nil, ops_mv, ops_un, ops_bld, ops_store, ev_t, ev_c, put_get, put_none, opv_mk, stb_some, sto_ptr, Stp, vbld, put_box_same, put_put, args0, vun, vload, takeV, fillV, splice, V.cells, obsOk, List.map_cons, List.map_nil, List.length_cons, List.length_nil, List.take_succ_cons, List.take_zero, List.drop_succ_cons, List.drop_zero, List.nil_append, List.append_nil, List.take_nil, List.drop_nil, and_true, true_and, Nat.reduceEqDiff, Nat.reduceAdd, Nat.reduceLT, Nat.reduceLeDiff, Nat.reduceLT, Nat.zero_add, ↓reduceIte, vret, rvAll, rvVal, resv_2, Bool.not_false, eq_self, decide_eq_false hc]
    exact ⟨_, _, Wk.refl _, weak_put hwf.weak hb, ⟨.nil, rfl⟩, rfl⟩
  have hE : msE L = 0 := by unfold msE; rw [if_neg h8, if_neg (by simp [hc])]
  have hD : msD L = msX L := if_pos hE
  rw [hE, hD]
  obtain ⟨x0, h0⟩ := get_ex (L := L) (i := 0) (by omega)
  obtain ⟨x1, h1⟩ := get_ex (L := L) (i := 1) (by omega)
  simp (config := {maxSteps := 3000000}) only [run_skip, run_reg, run_seq, run_cond, if_false, at_code_n, at_blk_n, ops_nil, ops_mv, ops_un, ops_ix, ops_load, ops_slc, ops_call, ev_t, ev_c, put_get, opv_mk, args0, List.getD_cons_zero, vun, vix, vload, takeV, vslc, V.cells, obsOk, List.map_cons, List.map_nil, List.length_cons, List.length_nil, List.getElem?_cons_zero, Option.map_some, Option.map_none, and_true, true_and, Nat.reduceEqDiff, Int.reduceToNat, Int.reduceLE, Nat.zero_add, ↓reduceIte, Bool.not_true, eq_self, reduceCtorEq, decide_eq_true hc, bs_get, h0, h1, bs_len, bs_drop, allSz_bs']
  repeat (apply And.intro; focus (first | omega | (simp; done)))
  refine Cal.mk (Get32_v (hB.drop 4) (by simp; omega)) ?_
  rintro _ _ ⟨rfl, rfl⟩ -
  simp (config := {maxSteps := 3000000}) only [ops_app, ev_t, ev_c, put_get, vload, takeV, V.cells, obsOk, List.length_cons, List.length_nil, List.getElem?_cons_zero, and_true, true_and, Nat.reduceEqDiff, Nat.zero_add, ↓reduceIte, eq_self]
  refine App.mk Own.nil (allSz_bs _) (by simp [bs_len, maxLen]; omega) (by simp [bs_len]; omega) ?_
  intro r1 s1 k1 k2
  rw [List.nil_append] at k1
  obtain ⟨tk1, rfl⟩ := k1.sl
  simp (config := {maxSteps := 3000000}) only [run_ret, at_code_n, at_fin_r, ops_nil, ops_mv, ops_bld, ops_store, ev_t, ev_c, put_get, put_none, opv_mk, stb_some, sto_ptr, Stp, vbld, put_box_same, args0, vload, takeV, fillV, splice, V.cells, obsOk, List.map_cons, List.map_nil, List.length_cons, List.length_nil, List.getElem?_cons_zero, List.take_succ_cons, List.take_zero, List.drop_succ_cons, List.drop_zero, List.cons_append, List.nil_append, List.append_nil, List.take_nil, List.drop_nil, and_true, true_and, Nat.reduceEqDiff, Nat.reduceAdd, Nat.reduceLT, Nat.reduceLeDiff, Nat.reduceLT, Nat.zero_add, ↓reduceIte, vret, rvAll, rvVal, resv_2, eq_self, k2.box]
  refine ⟨_, _, Wk.refl _, weak_put (k2.keeps (weak_put hwf.weak hb) (fun g k l e => by cases e)) hb, ⟨tk1, ?_⟩, rfl⟩
  simp [msX, MS.v, List.getD, h0, h1]
theorem same55_v {m : MS} : VCalls Try.prog 16 [m.v tk, m.v tk'] st fun r st' => r = .sc (.bool true) ∧ st = st' := by
  obtain ⟨t, c, w, D⟩ := m
  refine vcalls_enter vc16 (Nat.le_of_ble_eq_true rfl) fun hwf hok => ?_
  show Run _ Vc16.body (.fin (finQ Vc16.res _)) _ _
  unfold Vc16
  simp (config := {maxSteps := 3000000}) only [run_reg, run_seq, at_code_n, ops_nil, ops_mv, ops_fld, ops_load, ops_box, ev_t, ev_c, put_get, opv_mk, Bx, put_sz, args0, List.getD_cons_zero, List.getD_cons_succ, vfld, vload, takeV, V.cells, ptrV, obsOk, List.length_cons, List.length_nil, true_and, Nat.reduceEqDiff, Nat.reduceAdd, Nat.zero_add, Nat.add_zero, ↓reduceIte, ne_eq, not_false_eq_true, eq_self, reduceCtorEq, MS.v]
  intro b hb d hd
  obtain ⟨hd1, hbd⟩ : st.sz ≤ d ∧ b < d := by omega
  clear hd
  simp (config := {maxSteps := 3000000}) only [ops_grd, grd_tt, ops_mv, ops_pick, ops_bin, ops_fld, ops_load, ops_call, ev_t, put_get, opv_mk, put_box_same, vpick, vbin, vbinI, vfld, vload, takeV, V.cells, List.map_cons, List.map_nil, List.length_cons, List.length_nil, List.getElem?_cons_zero, List.getElem?_cons_succ, true_and, Nat.reduceEqDiff, Nat.zero_add, Nat.add_zero, ↓reduceIte, decide_true, eq_self, put_box_ne (Nat.ne_of_lt hbd)]
  refine Cal.mk (eqB_v (L := D) (M := D)) ?_
  rintro _ _ ⟨rfl, rfl⟩ -
  simp (config := {maxSteps := 3000000}) only [run_ret, at_code_n, at_fin_r, ops_nil, ops_mv, ops_pick, ev_t, put_get, opv_mk, vpick, obsOk, and_true, true_and, Nat.reduceEqDiff, ↓reduceIte, vret, rvAll, rvVal, resv_1, decide_true, eq_self]
  exact ⟨_, _, Wk.refl _, weak_put (weak_put hwf.weak hb) hd1, rfl, rfl⟩
theorem msB_ms0 : msB ms0 = [0, 0, 255, 255, 0, 0, 0, 0] := by decide
theorem ms0_ok : ms0.Ok := ⟨by decide, by decide, by decide, (fun _ hx => nomatch hx)⟩
theorem alive55_v : VCalls Try.prog 17 [] st fun r st' => r = .sc (.bool true) ∧ st = st' := by
  refine vcalls_enter vc17 (Nat.le_of_ble_eq_true rfl) fun hwf hok => ?_
  show Run _ Vc17.body (.fin (finQ Vc17.res _)) _ _
  unfold Vc17
  simp (config := {maxSteps := 3000000}) only [run_reg, run_seq, at_code_n, ops_nil, ops_mv, ops_bld, ops_call, ev_t, ev_c, put_get, opv_mk, vbld, fillV, List.map_cons, List.map_nil, true_and, ↓reduceIte, eq_self]
  have h := icmpBuild_v (tk := .nil) (st := st) ms0 ms0_ok (by decide)
  rw [msB_ms0] at h
  refine Cal.mk h ?_
  rintro _ _ ⟨rfl, rfl⟩ -
  simp (config := {maxSteps := 3000000}) only [ops_bslo, ev_c, strip, strip1, obsOk, List.map_cons, List.map_nil, true_and]
  refine Bo.own (by simp [allLen, V.cells]) ?_
  intro g hg
  simp (config := {maxSteps := 3000000}) only [ops_call, ev_t, put_get, obsOk, List.map_cons, List.map_nil, List.length_cons, List.length_nil, true_and, Nat.reduceEqDiff, Nat.reduceAdd, Nat.zero_add, ↓reduceIte, eq_self]
  refine Cal.mk (eqB_v (M := [0, 0, 255, 255, 0, 0, 0, 0])) ?_
  rintro _ _ ⟨rfl, rfl⟩ -
  simp (config := {maxSteps := 3000000}) only [run_ret, at_code_n, at_fin_r, ops_nil, ops_mv, ops_pick, ev_t, ev_c, put_get, opv_mk, vpick, obsOk, and_true, true_and, ↓reduceIte, vret, rvAll, rvVal, resv_1, decide_true, eq_self]
  exact ⟨_, _, Wk.refl _, weak_use hwf.weak hg, by simp, rfl⟩
theorem quiet_v (d : DG) (hd : d.Ok) : VCalls Try.prog 60 [d.v tk tk'] st fun r st' => (∃ q : Bool, r = .sc (.bool q) ∧ (q = true ↔ quietB d)) ∧ st = st' := by
  have hf := hd.frag
  have hs := hd.src
  have hm := u16_mask13 hf.1 hf.2
  have hq : quietB d ↔ d.frag % 8192 ≠ 0 ∨ d.src < 16777216 ∨ 3758096384 ≤ d.src ∨ (d.proto = 1 ∧ (d.D = [] ∨ (d.D.getD 0 0 ≠ 8 ∧ d.D.getD 0 0 ≠ 0))) := Iff.rfl
  generalize quietB d = Q at *
  obtain ⟨tos, ttl, proto, id, frag, src, dst, O, D⟩ := d
  simp only at hf hs hm hq
  refine vcalls_enter vc60 (Nat.le_of_ble_eq_true rfl) fun hwf hok => ?_
  show Run _ Vc60.body (.fin (finQ Vc60.res _)) _ _
  unfold Vc60
  simp (config := {maxSteps := 3000000}) only [run_reg, run_seq, at_code_n, ops_nil, ops_grd, ops_mv, ops_bin, ops_fld, ops_load, ops_box, ev_t, ev_c, put_get, opv_mk, Bx, put_box_same, args0, List.getD_cons_zero, vbin, vbinI, vfld, vload, takeV, V.cells, ptrV, obsOk, List.length_cons, List.length_nil, List.getElem?_cons_zero, List.getElem?_cons_succ, true_and, Nat.reduceEqDiff, Nat.reduceAdd, Nat.zero_add, ↓reduceIte, ne_eq, not_false_eq_true, eq_self, reduceCtorEq, DG.v]
  intro b hb
  have fin : ∀ q : Bool, (q = true ↔ Q) → ∃ (r' : V) (st'' : St), Wk (V.sc (.bool q)) r' ∧ st''.weak (st.put b [.sc (.int .u8 tos), .sc (.int .u8 ttl), .sc (.int .u8 proto), .sc (.int .u16 id), .sc (.int .u16 frag), .sc (.int .u32 src), .sc (.int .u32 dst), .sl tk (bs O), .sl tk' (bs D)]) ∧ (∃ q : Bool, r' = .sc (.bool q) ∧ (q = true ↔ Q)) ∧ st = st'' :=
    fun q h => ⟨_, st, Wk.refl _, weak_put hwf.weak hb, ⟨q, rfl, h⟩, rfl⟩
  by_cases c1 : frag % 8192 = 0
  rotate_left
  · have d1 := decide_eq_true (p := ¬ frag % 8192 = 0) c1
    simp (config := {maxSteps := 3000000}) only [run_reg, run_seq, run_ret, run_cond, if_true, at_code_n, at_code_r, at_fin_r, ops_nil, ops_grd, grd_tf, ops_mv, ops_pick, ev_t, ev_c, put_get, opv_mk, vpick, and_true, true_and, Nat.reduceEqDiff, ↓reduceIte, vret, rvAll, rvVal, resv_1, eq_self, hm, d1]
    exact fin true (by simp [hq, c1])
  have d1 := decide_eq_false (p := ¬ frag % 8192 = 0) (by omega)
  by_cases c2 : src < 16777216
  · simp (config := {maxSteps := 3000000}) only [run_reg, run_seq, run_ret, run_cond, if_true, at_code_n, at_code_r, at_fin_r, ops_nil, ops_grd, grd_ff, grd_tf, ops_mv, ops_pick, ops_bin, ops_fld, ops_load, ev_t, ev_c, put_get, opv_mk, put_box_same, vpick, vbin, vbinI, vfld, vload, takeV, V.cells, shAmt, IntKind.bits, List.length_cons, List.length_nil, List.getElem?_cons_zero, List.getElem?_cons_succ, and_true, true_and, Nat.reduceEqDiff, Nat.reduceLeDiff, Int.reduceToNat, Int.reduceLE, Int.reducePow, Nat.min_def, Nat.zero_add, ↓reduceIte, vret, rvAll, rvVal, resv_1, eq_self, Bool.false_eq_true, hm, d1, decide_eq_true (show src / 16777216 = 0 by omega)]
    exact fin true (by simp [hq, c2])
  have d2 := decide_eq_false (show ¬ src / 16777216 = 0 by omega)
  by_cases c3 : 3758096384 ≤ src
  · simp (config := {maxSteps := 3000000}) only [run_reg, run_seq, run_ret, run_cond, if_true, at_code_n, at_code_r, at_fin_r, ops_nil, ops_grd, grd_ff, ops_mv, ops_pick, ops_bin, ops_fld, ops_load, ev_t, ev_c, put_get, opv_mk, put_box_same, vpick, vbin, vbinI, vfld, vload, takeV, V.cells, shAmt, IntKind.bits, List.length_cons, List.length_nil, List.getElem?_cons_zero, List.getElem?_cons_succ, and_true, true_and, Nat.reduceEqDiff, Nat.reduceLeDiff, Int.reduceToNat, Int.reduceLE, Int.reducePow, Nat.min_def, Nat.zero_add, ↓reduceIte, vret, rvAll, rvVal, resv_1, eq_self, Bool.false_eq_true, hm, d1, d2, decide_eq_true (show 14 ≤ src / 268435456 by omega)]
    exact fin true (by simp [hq, c3])
  have d3 := decide_eq_false (show ¬ 14 ≤ src / 268435456 by omega)
  by_cases c4 : proto = 1
  rotate_left
  · simp (config := {maxSteps := 3000000}) only [run_skip, run_reg, run_seq, run_ret, run_cond, if_false, at_code_n, at_fin_r, ops_nil, ops_grd, grd_und, grd_ff, grd_ft, ops_mv, ops_pick, ops_bin, ops_fld, ops_load, ev_t, ev_c, put_get, opv_mk, put_box_same, vpick, vbin, vbinI, vfld, vload, takeV, V.cells, shAmt, IntKind.bits, List.length_cons, List.length_nil, List.getElem?_cons_zero, List.getElem?_cons_succ, and_true, true_and, Nat.reduceEqDiff, Nat.reduceLeDiff, Int.reduceToNat, Int.reduceLE, Int.reducePow, Nat.min_def, Nat.zero_add, ↓reduceIte, vret, rvAll, rvVal, resv_1, eq_self, Bool.false_eq_true, hm, d1, d2, d3, decide_eq_false c4]
    exact fin false (by simp [hq, c1, c4]; omega)
  subst c4
  by_cases c0 : D.length = 0
  · have hn : D = [] := List.eq_nil_of_length_eq_zero c0
    simp (config := {maxSteps := 3000000}) only [run_skip, run_reg, run_seq, run_ret, run_cond, if_false, at_code_n, at_fin_r, ops_nil, ops_grd, grd_und, grd_tt, grd_ff, grd_tf, ops_mv, ops_pick, ops_bin, ops_fld, ops_load, ops_len, ev_t, ev_c, put_get, opv_mk, put_box_same, vpick, vbin, vbinI, vfld, vlen, vload, takeV, V.cells, shAmt, IntKind.bits, List.length_cons, List.length_nil, List.getElem?_cons_zero, List.getElem?_cons_succ, and_true, true_and, Nat.reduceEqDiff, Nat.reduceLeDiff, Int.reduceToNat, Int.reduceLE, Int.reducePow, Nat.min_def, Nat.zero_add, ↓reduceIte, vret, rvAll, rvVal, resv_1, decide_true, eq_self, Bool.false_eq_true, hm, d1, d2, d3, bs_len, decide_eq_true (show (D.length : Int) = 0 by omega)]
    exact fin true (by simp [hq, hn])
  have hne : D ≠ [] := fun h => c0 (by rw [h]; rfl)
  obtain ⟨x, hx⟩ := get_ex (L := D) (i := 0) (by omega)
  have hg : D.getD 0 0 = x := by simp [List.getD, hx]
  rw [hg] at hq
  have e1 := decide_eq_false (show ¬ (D.length : Int) = 0 by omega)
  by_cases c5 : x = 8
  · subst c5
    simp (config := {maxSteps := 3000000}) only [run_skip, run_reg, run_seq, run_ret, run_cond, if_false, at_code_n, at_fin_r, ops_nil, ops_grd, grd_tt, grd_ff, grd_ft, ops_mv, ops_pick, ops_bin, ops_fld, ops_ix, ops_load, ops_len, ev_t, ev_c, put_get, opv_mk, put_box_same, vpick, vbin, vbinI, vfld, vlen, vix, vload, takeV, V.cells, shAmt, IntKind.bits, List.length_cons, List.length_nil, List.getElem?_cons_zero, List.getElem?_cons_succ, Option.map_some, and_true, true_and, Nat.reduceEqDiff, Nat.reduceLeDiff, Int.reduceToNat, Int.reduceLE, Int.reducePow, Nat.min_def, Nat.zero_add, ↓reduceIte, vret, rvAll, rvVal, resv_1, decide_true, decide_false, ne_eq, not_true_eq_false, eq_self, Bool.false_eq_true, hm, d1, d2, d3, bs_len, e1, bs_get, hx]
    exact fin false (by simp [hq, c1, hne]; omega)
  · by_cases c6 : x = 0
    · subst c6
      simp (config := {maxSteps := 3000000}) only [run_skip, run_reg, run_seq, run_ret, run_cond, if_false, at_code_n, at_fin_r, ops_nil, ops_grd, grd_tt, grd_ff, ops_mv, ops_pick, ops_bin, ops_fld, ops_ix, ops_load, ops_len, ev_t, ev_c, put_get, opv_mk, put_box_same, vpick, vbin, vbinI, vfld, vlen, vix, vload, takeV, V.cells, shAmt, IntKind.bits, List.length_cons, List.length_nil, List.getElem?_cons_zero, List.getElem?_cons_succ, Option.map_some, and_true, true_and, Nat.reduceEqDiff, Nat.reduceLeDiff, Int.reduceToNat, Int.reduceLE, Int.reducePow, Int.reduceEq, Nat.min_def, Nat.zero_add, ↓reduceIte, vret, rvAll, rvVal, resv_1, decide_true, decide_false, ne_eq, not_true_eq_false, not_false_eq_true, eq_self, Bool.false_eq_true, hm, d1, d2, d3, bs_len, e1, bs_get, hx]
      exact fin false (by simp [hq, c1, hne]; omega)
    · simp (config := {maxSteps := 3000000}) only [run_skip, run_reg, run_seq, run_ret, run_cond, if_false, at_code_n, at_fin_r, ops_nil, ops_grd, grd_tt, grd_ff, ops_mv, ops_pick, ops_bin, ops_fld, ops_ix, ops_load, ops_len, ev_t, ev_c, put_get, opv_mk, put_box_same, vpick, vbin, vbinI, vfld, vlen, vix, vload, takeV, V.cells, shAmt, IntKind.bits, List.length_cons, List.length_nil, List.getElem?_cons_zero, List.getElem?_cons_succ, Option.map_some, and_true, true_and, Nat.reduceEqDiff, Nat.reduceLeDiff, Int.reduceToNat, Int.reduceLE, Int.reducePow, Nat.min_def, Nat.zero_add, ↓reduceIte, vret, rvAll, rvVal, resv_1, decide_true, ne_eq, eq_self, Bool.false_eq_true, hm, d1, d2, d3, bs_len, e1, bs_get, hx, decide_eq_true c5, decide_eq_true c6]
      exact fin true (by simp [hq, c5, c6])
end
end Go.Proofs.Ytbmkohmhiafphaa
