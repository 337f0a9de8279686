/- Ip4Parses: any bytes as a datagram, or why they are none. -/
import Derived.Test.YtbmkohmhiafphaaVIp4B
import Derived.Test.YtbmkohmhiafphaaVIp4
namespace Go.Proofs.Ytbmkohmhiafphaa
open Go

section
variable {tk tk' : Tk} {st : St} {L : List Int}
theorem dg0_ok : dg0.Ok := ⟨by decide, by decide, by decide, by decide, by decide, by decide, by decide, (fun _ hx => nomatch hx), (fun _ hx => nomatch hx)⟩
theorem ipB_dg0 : ipB dg0 = [69, 0, 0, 20, 0, 0, 0, 0, 0, 0, 186, 235, 0, 0, 0, 0, 0, 0, 0, 0] := by decide
theorem alive13_v : VCalls Try.prog 31 [] st fun r st' => r = .sc (.bool true) ∧ st = st' := by
  refine vcalls_enter vc31 (Nat.le_of_ble_eq_true rfl) fun hwf hok => ?_
  show Run _ Vc31.body (.fin (finQ Vc31.res _)) _ _
  unfold Vc31
  simp (config := {maxSteps := 3000000}) only [run_reg, run_seq, at_code_n, ops_nil, ops_mv, ops_bld, ops_call, ev_t, ev_c, put_get, opv_mk, vbld, fillV, List.map_cons, List.map_nil, true_and, ↓reduceIte, eq_self]
  repeat (apply And.intro; focus (first | omega | (simp; done)))
  have h := ipBuild_v (tk := .nil) (tk' := .nil) (st := st) dg0 dg0_ok (by decide) (by decide)
  rw [if_pos (by decide), ipB_dg0] at h
  refine Cal.mk h ?_
  rintro _ _ ⟨rfl, rfl⟩ -
  simp (config := {maxSteps := 3000000}) only [run_reg, run_seq, at_code_n, ops_nil, ops_grd, grd_tt, ops_mv, ops_bin, ops_ext, ops_bslo, ev_t, ev_c, put_get, opv_mk, vbin, vbinI, vext, strip, strip1, obsOk, List.map_cons, List.map_nil, List.getElem?_cons_zero, List.getElem?_cons_succ, true_and, Nat.reduceEqDiff, ↓reduceIte, decide_true, eq_self]
  refine Bo.own (by simp [allLen, V.cells]) ?_
  intro g hg
  simp (config := {maxSteps := 3000000}) only [ops_grd, grd_tt, ops_call, ev_t, put_get, obsOk, List.map_cons, List.map_nil, List.length_cons, List.length_nil, true_and, Nat.reduceEqDiff, Nat.reduceAdd, Nat.zero_add, ↓reduceIte, eq_self]
  refine Cal.mk (eqB_v (M := [69, 0, 0, 20, 0, 0, 0, 0, 0, 0, 186, 235, 0, 0, 0, 0, 0, 0, 0, 0])) ?_
  rintro _ _ ⟨rfl, rfl⟩ -
  simp (config := {maxSteps := 3000000}) only [run_ret, at_code_n, at_fin_r, ops_nil, ops_mv, ops_pick, ev_t, put_get, opv_mk, vpick, obsOk, and_true, true_and, Nat.reduceEqDiff, ↓reduceIte, vret, rvAll, rvVal, resv_1, decide_true, eq_self]
  exact ⟨_, _, Wk.refl _, weak_use hwf.weak hg, by simp, rfl⟩
theorem Ip4Parses_v (hB : IsB L) : VCalls Try.prog 6 [.sl tk (bs L)] st fun r _ => r = .sc (.bool true) := by
  refine vcalls_enter vc6 (Nat.le_of_ble_eq_true rfl) fun hwf hok => ?_
  show Run _ Vc6.body (.fin (finQ Vc6.res _)) _ _
  unfold Vc6
  by_cases hl : 2000 < (L.length : Int)
  · simp (config := {maxSteps := 3000000}) only [run_reg, run_seq, run_ret, run_cond, if_true, at_code_n, at_code_r, at_fin_r, ops_nil, ops_mv, ops_bin, ops_len, ev_t, ev_c, put_get, opv_mk, args0, List.getD_cons_zero, vbin, vbinI, vlen, and_true, true_and, ↓reduceIte, vret, rvAll, rvVal, resv_1, eq_self, reduceCtorEq, bs_len, decide_eq_true hl]
    exact ⟨_, _, Wk.refl _, hwf.weak, rfl⟩
  have hL : L.length ≤ 1000000000 := by omega
  simp (config := {maxSteps := 3000000}) only [run_skip, run_reg, run_seq, run_cond, if_false, at_code_n, ops_nil, ops_mv, ops_bin, ops_len, ops_call, ev_t, ev_c, put_get, opv_mk, args0, List.getD_cons_zero, vbin, vbinI, vlen, List.map_cons, List.map_nil, true_and, ↓reduceIte, eq_self, reduceCtorEq, bs_len, decide_eq_false hl]
  refine Cal.mk (ip4Parse_v hB (by omega)) ?_
  rintro _ _ ⟨⟨tk1, tk2, rfl⟩, rfl⟩ -
  have g0 := fun st : St => ref13Parse_v (tk := tk) (st := st) hB (by omega)
  have g2 := fun (tk3 tk4 : Tk) (st : St) => ref13Same_v (tk1 := tk1) (tk2 := tk2) (tk3 := tk3) (tk4 := tk4) (st := st) (ipD L)
  generalize ipD L = T at *
  generalize ipE L = e at *
  obtain ⟨tos, ttl, proto, id, frag, src, dst, O, D⟩ := T
  simp only [DG.v] at g0 g2
  simp (config := {maxSteps := 3000000}) only [run_reg, run_seq, at_code_n, ops_nil, ops_mv, ops_ext, ops_alc, ops_store, ops_call, ev_t, put_get, put_none, opv_mk, stb_some, sto_ptr, Stp, put_box_same, put_put, args0, List.getD_cons_zero, vext, splice, V.cells, ptrV, obsOk, List.map_cons, List.map_nil, List.length_cons, List.length_nil, List.getElem?_cons_zero, List.getElem?_cons_succ, List.take_zero, List.drop_succ_cons, List.nil_append, List.append_nil, List.drop_nil, true_and, Nat.reduceEqDiff, Nat.reduceAdd, Nat.reduceLT, Nat.reduceLeDiff, Nat.reduceLT, Nat.zero_add, ↓reduceIte, eq_self, reduceCtorEq, DG.v]
  intro b hb
  refine Cal.mk (g0 _) ?_
  rintro _ _ ⟨⟨tk3, tk4, rfl⟩, rfl⟩ -
  simp (config := {maxSteps := 3000000}) only [run_reg, run_seq, at_code_n, ops_nil, ops_mv, ops_load, ops_ext, ops_alc, ops_store, ev_t, put_get, put_none, opv_mk, stb_some, sto_ptr, Stp, put_box_same, put_sz, put_put, vext, vload, takeV, splice, V.cells, ptrV, obsOk, List.length_cons, List.length_nil, List.getElem?_cons_zero, List.getElem?_cons_succ, List.take_zero, List.drop_succ_cons, List.drop_zero, List.nil_append, List.append_nil, List.drop_nil, true_and, Nat.reduceEqDiff, Nat.reduceAdd, Nat.reduceLT, Nat.reduceLeDiff, Nat.reduceLT, Nat.zero_add, ↓reduceIte, eq_self]
  intro d hd
  obtain ⟨hd1, hbd⟩ : st.sz ≤ d ∧ b < d := by omega
  clear hd
  simp (config := {maxSteps := 3000000}) only [ops_load, ops_call, ev_t, put_get, opv_mk, put_box_same, vload, takeV, List.map_cons, List.map_nil, List.length_cons, List.length_nil, List.take_succ_cons, List.drop_zero, List.take_nil, true_and, Nat.reduceEqDiff, Nat.reduceAdd, Nat.reduceLeDiff, Nat.zero_add, ↓reduceIte, eq_self, put_box_ne (Nat.ne_of_lt hbd)]
  refine Cal.mk (g2 _ _ _) ?_
  rintro _ _ ⟨rfl, rfl⟩ -
  simp (config := {maxSteps := 3000000}) only [ops_grd, grd_tt, ops_mv, ops_pick, ops_bin, ops_call, ev_t, put_get, opv_mk, vpick, vbin, vbinI, obsOk, List.map_nil, true_and, Nat.reduceEqDiff, ↓reduceIte, decide_true, eq_self]
  refine Cal.mk alive13_v ?_
  rintro _ _ ⟨rfl, rfl⟩ -
  simp (config := {maxSteps := 3000000}) only [run_ret, at_code_n, at_fin_r, ops_nil, ops_mv, ops_pick, ev_t, put_get, opv_mk, vpick, obsOk, and_true, true_and, Nat.reduceEqDiff, ↓reduceIte, vret, rvAll, rvVal, resv_1, eq_self]
  exact ⟨_, _, Wk.refl _, weak_put (weak_put hwf.weak hb) hd1, rfl⟩
end
end Go.Proofs.Ytbmkohmhiafphaa
