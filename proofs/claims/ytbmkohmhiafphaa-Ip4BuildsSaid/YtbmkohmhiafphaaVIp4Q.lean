/- Ip4Builds: the bytes of any datagram, or that it is too great; it is parsed as it was. -/
import Derived.Test.YtbmkohmhiafphaaVIp4P
import Derived.Test.YtbmkohmhiafphaaVIp4L
namespace Go.Proofs.Ytbmkohmhiafphaa
open Go

section
variable {tk tk' tk2 : Tk} {st : St} {L E : List Int}
theorem cloneB_v {x : Int} (hL : (x :: L).length ≤ 1000000000000) : VCalls Try.prog 34 [.sl .no (bs (x :: L))] st fun r st' => Own 1 st' r (bs (x :: L)) ∧ New st st' r := by
  refine vcalls_enter vc34 (Nat.le_of_ble_eq_true rfl) fun hwf hok => ?_
  show Run _ Vc34.body (.fin (finQ Vc34.res _)) _ _
  unfold Vc34
  simp (config := {maxSteps := 3000000}) only [run_skip, run_reg, run_seq, run_cond, if_false, at_code_n, ops_nil, ops_mv, ops_isnil, visnil, ops_bslo, ev_t, ev_c, put_get, opv_mk, args0, List.getD_cons_zero, strip, strip1, List.map_nil, true_and, ↓reduceIte, eq_self, reduceCtorEq, visnil, bs_cons]
  refine Bo.own (by simp [allLen]) ?_
  intro g hg
  simp (config := {maxSteps := 3000000}) only [ops_mv, ops_app, ev_t, put_get, opv_mk, args0, List.getD_cons_zero, obsOk, List.length_nil, true_and, Nat.reduceEqDiff, ↓reduceIte, eq_self, reduceCtorEq]
  refine App.mk (l := []) (ys := bs (x :: L)) (.inr ⟨g, rfl, by simp [St.use], by simp only [St.use]; omega⟩) (allSz_bs _) (by simp only [bs_len, maxLen, List.length_nil]; omega) (by simp only [bs_len, List.length_nil]; omega) ?_
  intro r1 s1 k1 k2
  rw [List.nil_append] at k1
  have hx0 : ∀ g' k l, V.sl (.own g 1) [] = .sl (.own g' k) l → st.sz ≤ g' := fun g' k l e => by cases e; exact hg
  have l1 : s1.Lt := hwf.lt.use.app k2
  simp (config := {maxSteps := 3000000}) only [run_ret, at_code_n, at_fin_r, ops_nil, ops_mv, ev_t, put_get, opv_mk, obsOk, and_true, true_and, ↓reduceIte, vret, rvAll, rvVal, resv_1, eq_self]
  exact ⟨_, _, Wk.refl _, l1.weak, k1, k2.keeps (weak_use hwf.weak hg) hx0, l1, k2.fresh (t := st) (by simp only [use_sz]; omega) hx0⟩
theorem Ip4Builds_v (d : DG) (hd : d.Ok) (hE : IsB E) : VCalls Try.prog 7 [d.v tk tk', .sl tk2 (bs E)] st fun r _ => r = .sc (.bool true) := by
  have hback := fun hf => ip_back hd hf E
  have hpB : ipFits d → IsB (ipB d ++ E) := fun hf => ((ipPre_isB hd (ckS_range (ipPre_isB hd (c := 0) (by omega) (by omega) hf)).1 (by have := (ckS_range (ipPre_isB hd (c := 0) (by omega) (by omega) hf)).2; omega) hf).append hd.D).append hE
  have hlen : ipFits d → (ipB d).length ≤ 100000 := fun hf => by
    have := hf.2.2
    have h2 := ipPre_len d (ckS (ipPre d 0))
    simp only [ipB, List.length_append, h2]; omega
  have hcons : ∃ M, ipB d = (64 + (5 + (d.O.length : Int) / 4)) :: M := ⟨_, rfl⟩
  have g1 := fun (h1 : d.O.length ≤ 1000000000000) (h2 : d.D.length ≤ 1000000000000) (st : St) => ipBuild_v (tk := tk) (tk' := tk') (st := st) d hd h1 h2
  have g2 := fun (h1 : d.O.length ≤ 1000000000000) (h2 : d.D.length ≤ 1000000000000) (st : St) => refBuild13_v (tk := tk) (tk' := tk') (st := st) d hd h1 h2
  have g3 := fun (tk1 tk3 : Tk) (st : St) => ref13Same_v (tk1 := tk1) (tk2 := tk3) (tk3 := tk) (tk4 := tk') (st := st) d
  clear hd
  obtain ⟨tos, ttl, proto, id, frag, src, dst, O, D⟩ := d
  simp only [DG.v] at g1 g2 g3
  refine vcalls_enter vc7 (Nat.le_of_ble_eq_true rfl) fun hwf hok => ?_
  show Run _ Vc7.body (.fin (finQ Vc7.res _)) _ _
  unfold Vc7
  simp (config := {maxSteps := 3000000}) only [run_reg, run_seq, at_code_n, ops_nil, ops_grd, ops_mv, ops_bin, ops_fld, ops_load, ops_len, ops_box, ev_t, ev_c, put_get, opv_mk, Bx, put_box_same, args0, List.getD_cons_zero, vbin, vbinI, vfld, vlen, vload, takeV, V.cells, ptrV, obsOk, List.length_cons, List.length_nil, List.getElem?_cons_zero, List.getElem?_cons_succ, true_and, Nat.reduceEqDiff, Nat.reduceAdd, Nat.zero_add, ↓reduceIte, ne_eq, not_false_eq_true, eq_self, reduceCtorEq, DG.v]
  repeat (apply And.intro; focus (first | omega | (simp; done)))
  intro b hb
  have g0 : ∀ s : St, st.weak s → ∃ (r' : V) (st'' : St), Wk (V.sc (.bool true)) r' ∧ st''.weak s ∧ r' = V.sc (.bool true) := fun s hw => ⟨_, st, Wk.refl _, hw, rfl⟩
  by_cases c1 : (200 : Int) < O.length
  · simp (config := {maxSteps := 3000000}) only [run_reg, run_seq, run_ret, run_cond, if_true, at_code_n, at_code_r, at_fin_r, ops_nil, ops_grd, grd_tf, ops_mv, ops_pick, ev_t, ev_c, put_get, opv_mk, vpick, and_true, true_and, Nat.reduceEqDiff, ↓reduceIte, vret, rvAll, rvVal, resv_1, eq_self, bs_len, decide_eq_true c1]
    exact g0 _ (weak_put hwf.weak hb)
  by_cases c2 : (2000 : Int) < D.length
  · simp (config := {maxSteps := 3000000}) only [run_reg, run_seq, run_ret, run_cond, if_true, at_code_n, at_code_r, at_fin_r, ops_nil, ops_grd, grd_ff, grd_tf, ops_mv, ops_pick, ops_bin, ops_fld, ops_load, ops_len, ev_t, ev_c, put_get, opv_mk, put_box_same, vpick, vbin, vbinI, vfld, vlen, vload, takeV, V.cells, List.length_cons, List.length_nil, List.getElem?_cons_zero, List.getElem?_cons_succ, and_true, true_and, Nat.reduceEqDiff, Nat.zero_add, ↓reduceIte, vret, rvAll, rvVal, resv_1, eq_self, Bool.false_eq_true, bs_len, decide_eq_false c1, decide_eq_true c2]
    exact g0 _ (weak_put hwf.weak hb)
  by_cases c3 : (100 : Int) < E.length
  · simp (config := {maxSteps := 3000000}) only [run_reg, run_seq, run_ret, run_cond, if_true, at_code_n, at_code_r, at_fin_r, ops_nil, ops_grd, grd_ff, ops_mv, ops_pick, ops_bin, ops_fld, ops_load, ops_len, ev_t, ev_c, put_get, opv_mk, put_box_same, args0, List.getD_cons_zero, List.getD_cons_succ, vpick, vbin, vbinI, vfld, vlen, vload, takeV, V.cells, List.length_cons, List.length_nil, List.getElem?_cons_zero, List.getElem?_cons_succ, and_true, true_and, Nat.reduceEqDiff, Nat.zero_add, ↓reduceIte, vret, rvAll, rvVal, resv_1, eq_self, Bool.false_eq_true, bs_len, decide_eq_false c1, decide_eq_false c2, decide_eq_true c3]
    exact g0 _ (weak_put hwf.weak hb)
  simp (config := {maxSteps := 3000000}) only [run_skip, run_reg, run_seq, run_cond, if_false, at_code_n, ops_nil, ops_grd, grd_ff, ops_mv, ops_pick, ops_bin, ops_fld, ops_load, ops_len, ops_call, ev_t, ev_c, put_get, opv_mk, put_box_same, args0, List.getD_cons_zero, List.getD_cons_succ, vpick, vbin, vbinI, vfld, vlen, vload, takeV, V.cells, List.map_cons, List.map_nil, List.length_cons, List.length_nil, List.getElem?_cons_zero, List.getElem?_cons_succ, List.take_succ_cons, List.drop_zero, List.take_nil, true_and, Nat.reduceEqDiff, Nat.reduceAdd, Nat.reduceLeDiff, Nat.zero_add, ↓reduceIte, eq_self, Bool.false_eq_true, bs_len, decide_eq_false c1, decide_eq_false c2, decide_eq_false c3]
  have g1 := g1 (by omega) (by omega)
  have g2 := g2 (by omega) (by omega)
  refine Cal.mk (g1 _) ?_
  clear g1
  by_cases hf : ipFits ⟨tos, ttl, proto, id, frag, src, dst, O, D⟩
  · rw [if_pos hf]
    rintro _ _ ⟨rfl, rfl⟩ -
    simp (config := {maxSteps := 3000000}) only [run_reg, run_seq, at_code_n, ops_nil, ops_mv, ops_load, ops_ext, ops_call, ev_t, put_get, opv_mk, put_box_same, vext, vload, takeV, obsOk, List.map_cons, List.map_nil, List.length_cons, List.length_nil, List.getElem?_cons_zero, List.getElem?_cons_succ, List.take_succ_cons, List.drop_zero, List.take_nil, true_and, Nat.reduceEqDiff, Nat.reduceAdd, Nat.reduceLeDiff, Nat.zero_add, ↓reduceIte, eq_self]
    refine Cal.mk (g2 _) ?_
    rw [if_pos hf]
    rintro _ _ ⟨rfl, rfl⟩ -
    obtain ⟨hb1, hb2⟩ := hback hf
    have hpB := hpB hf
    have hlen := hlen hf
    clear hback
    obtain ⟨M, hM⟩ := hcons
    generalize ipB ⟨tos, ttl, proto, id, frag, src, dst, O, D⟩ = B at *
    generalize (64 + (5 + ((DG.mk tos ttl proto id frag src dst O D).O.length : Int) / 4)) = q at hM
    subst hM
    simp (config := {maxSteps := 3000000}) only [run_skip, run_reg, run_seq, run_cond, if_false, at_code_n, ops_nil, ops_mv, ops_isnil, visnil, ops_call, ev_t, put_get, opv_mk, obsOk, List.map_cons, List.map_nil, true_and, Nat.reduceEqDiff, ↓reduceIte, eq_self, bs_cons, visnil]
    refine Cal.mk (cloneB_v (L := M) (by omega)) ?_
    rintro r1 s1 ⟨k1, k2⟩ -
    simp (config := {maxSteps := 3000000}) only [ops_mv, ops_app, ev_t, put_get, opv_mk, args0, List.getD_cons_zero, List.getD_cons_succ, obsOk, true_and, Nat.reduceEqDiff, ↓reduceIte, eq_self]
    refine App.mk k1 (allSz_bs _) (by simp only [bs_len, maxLen]; omega) (by simp only [bs_len]; omega) ?_
    intro r2 s2 k3 k4
    rw [bs_append] at k3
    obtain ⟨tk5, rfl⟩ := k3.sl
    simp (config := {maxSteps := 3000000}) only [ops_call, ev_t, put_get, obsOk, List.map_cons, List.map_nil, List.cons_append, true_and, ↓reduceIte, eq_self]
    have g5 := ip4Parse_v (tk := tk5) (st := s2) hpB (by simp only [List.length_append]; omega)
    rw [hb1, hb2] at g5
    refine Cal.mk g5 ?_
    rintro _ _ ⟨⟨tk6, tk7, rfl⟩, rfl⟩ -
    have hw2 := k4.keeps k2.weak k2.tok
    have hsz := hw2.sz
    simp only [put_sz] at hsz
    have hbx := (hw2.box b _ put_box_same).1
    simp (config := {maxSteps := 3000000}) only [run_reg, run_seq, at_code_n, ops_nil, ops_grd, grd_tt, ops_mv, ops_bin, ops_ext, ops_alc, ops_store, ops_call, ev_t, ev_c, put_get, put_none, opv_mk, stb_some, sto_ptr, Stp, put_box_same, put_put, vbin, vbinI, vext, splice, V.cells, ptrV, obsOk, List.map_cons, List.map_nil, List.length_cons, List.length_nil, List.getElem?_cons_zero, List.getElem?_cons_succ, List.take_zero, List.drop_succ_cons, List.nil_append, List.append_nil, List.drop_nil, true_and, Nat.reduceEqDiff, Nat.reduceAdd, Nat.reduceLT, Nat.reduceLeDiff, Nat.reduceLT, Nat.zero_add, ↓reduceIte, decide_true, eq_self, DG.v]
    intro c hc
    have hbc : b < c := by omega
    refine Cal.mk (eqB_v (L := q :: M) (M := q :: M)) ?_
    rintro _ _ ⟨rfl, rfl⟩ -
    simp (config := {maxSteps := 3000000}) only [ops_grd, grd_tt, ops_mv, ops_pick, ops_bin, ops_load, ops_call, ev_t, ev_c, put_get, opv_mk, put_box_same, vpick, vbin, vbinI, vload, takeV, obsOk, List.map_cons, List.map_nil, List.length_cons, List.length_nil, List.take_succ_cons, List.drop_zero, List.take_nil, true_and, Nat.reduceEqDiff, Nat.reduceAdd, Nat.reduceLeDiff, Nat.zero_add, ↓reduceIte, decide_true, eq_self, put_box_ne (Nat.ne_of_lt hbc), hbx]
    refine Cal.mk (g3 _ _ _) ?_
    rintro _ _ ⟨rfl, rfl⟩ -
    simp (config := {maxSteps := 3000000}) only [ops_grd, grd_tt, ops_mv, ops_pick, ops_call, ev_t, put_get, opv_mk, vpick, obsOk, List.map_nil, true_and, Nat.reduceEqDiff, ↓reduceIte, eq_self]
    refine Cal.mk alive13_v ?_
    rintro _ _ ⟨rfl, rfl⟩ -
    simp (config := {maxSteps := 3000000}) only [run_ret, at_code_n, at_fin_r, ops_nil, ops_mv, ops_pick, ev_t, put_get, opv_mk, vpick, obsOk, and_true, true_and, Nat.reduceEqDiff, ↓reduceIte, vret, rvAll, rvVal, resv_1, eq_self]
    exact g0 _ (weak_put (St.weak.trans (weak_put hwf.weak hb) hw2) (by omega))
  · rw [if_neg hf]
    rintro _ _ ⟨rfl, rfl⟩ -
    simp (config := {maxSteps := 3000000}) only [run_reg, run_seq, at_code_n, ops_nil, ops_mv, ops_load, ops_ext, ops_call, ev_t, put_get, opv_mk, put_box_same, vext, vload, takeV, obsOk, List.map_cons, List.map_nil, List.length_cons, List.length_nil, List.getElem?_cons_zero, List.getElem?_cons_succ, List.take_succ_cons, List.drop_zero, List.take_nil, true_and, Nat.reduceEqDiff, Nat.reduceAdd, Nat.reduceLeDiff, Nat.zero_add, ↓reduceIte, eq_self]
    refine Cal.mk (g2 _) ?_
    rw [if_neg hf]
    rintro _ _ ⟨rfl, rfl⟩ -
    simp (config := {maxSteps := 3000000}) only [run_reg, run_seq, run_cond, if_true, at_code_n, ops_nil, ops_grd, grd_tt, ops_mv, ops_pick, ops_bin, ops_isnil, visnil, ops_len, ops_call, ev_t, ev_c, put_get, opv_mk, vpick, vbin, vbinI, vlen, obsOk, List.map_nil, List.length_nil, true_and, Nat.reduceEqDiff, ↓reduceIte, decide_true, Bool.not_false, eq_self, visnil, List.length_nil, show decide (((0 : Nat) : Int) = 0) = true from rfl]
    refine Cal.mk alive13_v ?_
    rintro _ _ ⟨rfl, rfl⟩ -
    simp (config := {maxSteps := 3000000}) only [run_ret, at_code_n, at_code_r, at_fin_r, ops_nil, ops_mv, ops_pick, ev_t, put_get, opv_mk, vpick, obsOk, and_true, true_and, Nat.reduceEqDiff, ↓reduceIte, vret, rvAll, rvVal, resv_1, eq_self]
    exact g0 _ (weak_put hwf.weak hb)
end
end Go.Proofs.Ytbmkohmhiafphaa
