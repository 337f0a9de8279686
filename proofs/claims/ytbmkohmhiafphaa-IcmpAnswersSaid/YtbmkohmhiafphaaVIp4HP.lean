/- Ip4Hops: what any bytes are one hop on, walked. -/
import Derived.Test.YtbmkohmhiafphaaVIp4HL
namespace Go.Proofs.Ytbmkohmhiafphaa
open Go

section
variable {tk tk' tk2 : Tk} {st : St} {L E : List Int}
theorem Ip4Hops_v (hB : IsB L) : VCalls Try.prog 8 [.sl tk (bs L)] st fun r _ => r = .sc (.bool true) := by
  refine vcalls_enter vc8 (Nat.le_of_ble_eq_true rfl) fun hwf hok => ?_
  show Run _ Vc8.body (.fin (finQ Vc8.res _)) _ _
  unfold Vc8
  have g0 : ∀ s : St, st.weak s → ∃ (r' : V) (st'' : St), Wk (V.sc (.bool true)) r' ∧ st''.weak s ∧ r' = V.sc (.bool true) := fun s hw => ⟨_, st, Wk.refl _, hw, rfl⟩
  by_cases hl : 2000 < (L.length : Int)
  · simp (config := {maxSteps := 3000000}) only [run_reg, run_seq, run_ret, run_cond, if_true, at_code_n, at_code_r, at_fin_r, ops_nil, ops_mv, ops_bin, ops_len, ev_t, ev_c, put_get, opv_mk, args0, List.getD_cons_zero, vbin, vbinI, vlen, and_true, true_and, ↓reduceIte, vret, rvAll, rvVal, resv_1, eq_self, reduceCtorEq, bs_len, decide_eq_true hl]
    exact g0 _ hwf.weak
  have hL : L.length ≤ 1000000000 := by omega
  simp (config := {maxSteps := 3000000}) only [run_skip, run_reg, run_seq, run_cond, if_false, at_code_n, ops_nil, ops_mv, ops_bin, ops_len, ops_call, ev_t, ev_c, put_get, opv_mk, args0, List.getD_cons_zero, vbin, vbinI, vlen, List.map_cons, List.map_nil, true_and, ↓reduceIte, eq_self, reduceCtorEq, bs_len, decide_eq_false hl]
  refine Cal.mk (Hop_v hB (by omega)) ?_
  have g1 := fun st : St => ref13Parse_v (tk := tk) (st := st) hB (by omega)
  have g2 := fun (h : hops L) (st : St) => ref13Parse_v (tk := .no) (st := st) (hop_back hB h).1 (by rw [hopB_len]; omega)
  have hb2 := fun h : hops L => (hop_back hB h).2
  have hlen := hopB_len L
  by_cases hh : hops L
  · have hb2 := hb2 hh
    have g2 := g2 hh
    rw [hb2.1, hb2.2] at g2
    have hh2 := hh
    obtain ⟨he, h2⟩ := hh2
    have hr8 : (ipD L).ttl < 256 := by
      rw [ipD_ttl he]
      exact (isB_at hB 8).2
    rw [he] at g1
    rw [if_pos hh]
    have g3 := fun (tk1 tk2 tk3 tk4 : Tk) (st : St) => ref13Same_v (tk1 := tk1) (tk2 := tk2) (tk3 := tk3) (tk4 := tk4) (st := st) { ipD L with ttl := (ipD L).ttl - 1 }
    clear hb2
    generalize hopB L = B at *
    generalize ipD L = T at *
    obtain ⟨tos, ttl, proto, id, frag, src, dst, O, D⟩ := T
    simp only [DG.v] at g1 g2 g3
    simp only at h2 hr8
    rintro _ _ ⟨rfl, rfl⟩ -
    simp (config := {maxSteps := 3000000}) only [run_reg, run_seq, at_code_n, ops_nil, ops_mv, ops_ext, ops_call, ev_t, put_get, opv_mk, args0, List.getD_cons_zero, vext, obsOk, List.map_cons, List.map_nil, List.getElem?_cons_zero, List.getElem?_cons_succ, true_and, Nat.reduceEqDiff, ↓reduceIte, eq_self, reduceCtorEq]
    refine Cal.mk (g1 _) ?_
    rintro _ _ ⟨⟨tk3, tk4, rfl⟩, rfl⟩ -
    simp (config := {maxSteps := 3000000}) only [run_reg, run_seq, run_cond, at_code_n, ops_nil, ops_grd, grd_ff, ops_mv, ops_pick, ops_bin, ops_fld, ops_load, ops_ext, ops_alc, ops_store, ev_t, ev_c, put_get, put_none, opv_mk, stb_some, sto_ptr, Stp, put_box_same, put_put, vpick, vbin, vbinI, vfld, vext, vload, takeV, splice, V.cells, ptrV, obsOk, List.length_cons, List.length_nil, List.getElem?_cons_zero, List.getElem?_cons_succ, List.take_zero, List.drop_succ_cons, List.nil_append, List.append_nil, List.drop_nil, true_and, Nat.reduceEqDiff, Nat.reduceAdd, Nat.reduceLT, Nat.reduceLeDiff, Nat.reduceLT, Nat.zero_add, ↓reduceIte, decide_false, ne_eq, not_true_eq_false, eq_self, Bool.false_eq_true]
    intro b hb
    have e1 : (ttl - 1) % 256 = ttl - 1 := by omega
    simp (config := {maxSteps := 3000000}) only [run_skip, run_reg, run_seq, if_false, at_code_n, ops_mv, ops_call, ev_t, put_get, opv_mk, List.map_cons, List.map_nil, true_and, Nat.reduceEqDiff, ↓reduceIte, eq_self, decide_eq_false (show ¬ ttl < 2 by omega)]
    refine Cal.mk (g2 _) ?_
    rintro _ _ ⟨⟨tk5, tk6, rfl⟩, rfl⟩ -
    simp (config := {maxSteps := 3000000}) only [run_reg, run_seq, at_code_n, ops_nil, ops_mv, ops_fld, ops_load, ops_ext, ops_alc, ops_store, ev_t, put_get, put_none, opv_mk, stb_some, sto_ptr, Stp, put_box_same, put_sz, put_put, vfld, vext, vload, takeV, splice, V.cells, ptrV, obsOk, List.length_cons, List.length_nil, List.getElem?_cons_zero, List.getElem?_cons_succ, List.take_zero, List.drop_succ_cons, List.nil_append, List.append_nil, List.drop_nil, true_and, Nat.reduceEqDiff, Nat.reduceAdd, Nat.reduceLT, Nat.reduceLeDiff, Nat.reduceLT, Nat.zero_add, ↓reduceIte, eq_self]
    intro d hd
    obtain ⟨hd1, hbd⟩ : st.sz ≤ d ∧ b < d := by omega
    clear hd
    simp (config := {maxSteps := 3000000}) only [run_reg, run_seq, at_code_n, ops_nil, ops_grd, grd_tt, ops_mv, ops_pick, ops_bin, ops_fld, ops_load, ops_store, ops_call, ev_t, ev_c, put_get, put_none, opv_mk, stb_some, sto_ptr, Stp, put_box_same, vpick, vbin, vbinI, norm, vfld, vload, takeV, splice, V.cells, obsOk, List.map_cons, List.map_nil, List.length_cons, List.length_nil, List.getElem?_cons_zero, List.getElem?_cons_succ, List.take_succ_cons, List.take_zero, List.drop_succ_cons, List.drop_zero, List.cons_append, List.nil_append, List.take_nil, and_true, true_and, Nat.reduceEqDiff, Nat.reduceAdd, Nat.reduceLT, Nat.reduceLeDiff, Nat.reduceLT, Nat.zero_add, ↓reduceIte, decide_true, eq_self, put_box_ne (Nat.ne_of_lt hbd), put_box_ne (Nat.ne_of_gt hbd), e1]
    refine Cal.mk (g3 _ _ _ _ _) ?_
    rintro _ _ ⟨rfl, rfl⟩ -
    simp (config := {maxSteps := 3000000}) only [ops_grd, grd_tt, ops_mv, ops_pick, ops_bin, ops_len, ops_call, ev_t, put_get, opv_mk, args0, List.getD_cons_zero, vpick, vbin, vbinI, vlen, obsOk, List.map_nil, true_and, Nat.reduceEqDiff, ↓reduceIte, decide_true, eq_self, reduceCtorEq, bs_len, hlen]
    refine Cal.mk alive13_v ?_
    rintro _ _ ⟨rfl, rfl⟩ -
    simp (config := {maxSteps := 3000000}) only [run_ret, at_code_n, at_fin_r, ops_nil, ops_mv, ops_pick, ev_t, put_get, opv_mk, vpick, obsOk, and_true, true_and, Nat.reduceEqDiff, ↓reduceIte, vret, rvAll, rvVal, resv_1, eq_self]
    exact g0 _ (by repeat (first | exact hwf.weak | refine weak_put ?_ (by assumption)))
  · rw [if_neg hh]
    have hh2 : ¬ (ipE L = 0 ∧ 2 ≤ (ipD L).ttl) := hh
    clear g2 hb2 hh hlen
    generalize ipE L = e at *
    generalize ipD L = T at *
    obtain ⟨tos, ttl, proto, id, frag, src, dst, O, D⟩ := T
    simp only [DG.v] at g1
    simp only at hh2
    rintro _ _ ⟨rfl, rfl⟩ -
    simp (config := {maxSteps := 3000000}) only [run_reg, run_seq, at_code_n, ops_nil, ops_mv, ops_ext, ops_call, ev_t, put_get, opv_mk, args0, List.getD_cons_zero, vext, obsOk, List.map_cons, List.map_nil, List.getElem?_cons_zero, List.getElem?_cons_succ, true_and, Nat.reduceEqDiff, ↓reduceIte, eq_self, reduceCtorEq]
    refine Cal.mk (g1 _) ?_
    rintro _ _ ⟨⟨tk3, tk4, rfl⟩, rfl⟩ -
    simp (config := {maxSteps := 3000000}) only [run_reg, run_seq, at_code_n, ops_nil, ops_grd, ops_mv, ops_bin, ops_ext, ops_alc, ops_store, ev_t, ev_c, put_get, put_none, opv_mk, stb_some, sto_ptr, Stp, put_box_same, put_put, vbin, vbinI, vext, splice, V.cells, ptrV, obsOk, List.length_cons, List.length_nil, List.getElem?_cons_zero, List.getElem?_cons_succ, List.take_zero, List.drop_succ_cons, List.nil_append, List.append_nil, List.drop_nil, true_and, Nat.reduceEqDiff, Nat.reduceAdd, Nat.reduceLT, Nat.reduceLeDiff, Nat.reduceLT, Nat.zero_add, ↓reduceIte, ne_eq, eq_self]
    intro b hb
    by_cases he : e = 0
    · simp (config := {maxSteps := 3000000}) only [run_reg, run_seq, run_cond, if_true, at_code_n, ops_nil, ops_grd, grd_tt, grd_ff, ops_mv, ops_pick, ops_bin, ops_un, ops_fld, ops_load, ops_len, ops_call, ev_t, ev_c, put_get, opv_mk, put_box_same, vpick, vbin, vbinI, vun, vfld, vlen, vload, takeV, V.cells, List.map_nil, List.length_cons, List.length_nil, List.getElem?_cons_zero, List.getElem?_cons_succ, true_and, Nat.reduceEqDiff, Nat.zero_add, ↓reduceIte, Bool.not_false, eq_self, Bool.false_eq_true, decide_eq_false (show ¬ ¬ e = 0 by omega), decide_eq_true (show ttl < 2 by omega), show decide (((0 : Nat) : Int) = 0) = true from rfl]
      refine Cal.mk alive13_v ?_
      rintro _ _ ⟨rfl, rfl⟩ -
      simp (config := {maxSteps := 3000000}) only [run_ret, at_code_n, at_code_r, at_fin_r, ops_nil, ops_mv, ops_pick, ev_t, put_get, opv_mk, vpick, obsOk, and_true, true_and, Nat.reduceEqDiff, ↓reduceIte, vret, rvAll, rvVal, resv_1, eq_self]
      exact g0 _ (weak_put hwf.weak hb)
    · simp (config := {maxSteps := 3000000}) only [run_reg, run_seq, run_cond, if_true, at_code_n, ops_nil, ops_grd, grd_tt, grd_tf, ops_mv, ops_pick, ops_bin, ops_un, ops_len, ops_call, ev_t, ev_c, put_get, opv_mk, vpick, vbin, vbinI, vun, vlen, List.map_nil, List.length_nil, true_and, Nat.reduceEqDiff, ↓reduceIte, Bool.not_false, eq_self, decide_eq_true he, show decide (((0 : Nat) : Int) = 0) = true from rfl]
      refine Cal.mk alive13_v ?_
      rintro _ _ ⟨rfl, rfl⟩ -
      simp (config := {maxSteps := 3000000}) only [run_ret, at_code_n, at_code_r, at_fin_r, ops_nil, ops_mv, ops_pick, ev_t, put_get, opv_mk, vpick, obsOk, and_true, true_and, Nat.reduceEqDiff, ↓reduceIte, vret, rvAll, rvVal, resv_1, eq_self]
      exact g0 _ (weak_put hwf.weak hb)
end
end Go.Proofs.Ytbmkohmhiafphaa
