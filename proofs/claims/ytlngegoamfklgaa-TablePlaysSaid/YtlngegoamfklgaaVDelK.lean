/- slices.IndexFunc and slices.DeleteFunc of table.Key: contracts. Printed by a program (gen_del.py). -/
import Derived.Test.YtlngegoamfklgaaVRowC
import Derived.Test.YtlngegoamfklgaaVDelLaw
import Derived.Test.YtlngegoamfklgaaVc
namespace Go.Proofs.Ytlngegoamfklgaa
open Go

section
variable {α : Type} [Inhabited α] {val : α → V × V} {p : α → Bool} {g : FuncId} {t b cap : Nat} {X : List V} {st : St} {L : List α} {sp : List V}
set_option maxRecDepth 100000 in
set_option maxHeartbeats 4000000 in
theorem indexK_v (hp : DelF Try.prog g t X val p) (ht : st.box t = some X) (hb : st.box b = some (rowc val L sp)) (hmo : mono (rowc val L sp)) (hl : L.length < 4611686018427387904) :
    VCalls Try.prog 140 [dataV b L.length cap, clV g t] st fun v s => v = .sc (.int .i64 (idxP p L)) ∧ st = s := by
  refine vcalls_enter vc140 (Nat.le_of_ble_eq_true rfl) fun hwf hok => ?_
  show Run _ Vc140.body (.fin (finQ Vc140.res _)) _ _
  unfold Vc140
  simp (config := {maxSteps := 3000000}) only [run_reg, run_seq, run_blk, at_code_n, ops_nil, ops_mv, ops_len, ev_t, ev_c, put_get, opv_mk, args0, List.getD_cons_zero, vlen, true_and, Int.reduceNeg, ↓reduceIte, eq_self, reduceCtorEq, dataV, clV]
  refine run_loop [4, 5, 8, 9, 10, 11, 12, 13, 14, 15, 16, 17, 18] (fun B s => ∃ i : Nat, i ≤ L.length ∧ B 8 = .sc (.int .i64 i) ∧ (∀ j < i, p L[j]! = false) ∧ s = st) (fun B _ => L.length - vnat (B 8)) rfl ?_ ?_
  · simp (config := {maxSteps := 3000000}) only [put_get, and_true, ↓reduceIte, eq_self]
    exact ⟨0, by omega, rfl, fun j hj => by omega⟩
  · rintro B s ⟨i, hi, h8, hno, rfl⟩
    by_cases c1 : i < L.length
    · simp (config := {maxSteps := 3000000}) only [run_skip, run_reg, run_seq, run_blk, run_cond, if_true, at_code_n, ops_nil, ops_mv, ops_bin, ops_ix, ops_load, ev_t, put_get, opv_mk, over_get, vnat, args0, List.getD_cons_zero, List.getD_cons_succ, vbin, vbinI, vix, vload, takeV, takeB, ops_calv, clv_func, List.map_cons, List.map_nil, List.cons_append, List.nil_append, and_true, true_and, Nat.reduceEqDiff, Int.toNat_natCast, Int.reduceNeg, Nat.zero_add, ↓reduceIte, eq_self, reduceCtorEq, Bool.false_eq_true, List.contains_cons, List.contains_nil, Nat.reduceBEq, Bool.or_false, Bool.or_true, List.mem_cons, List.not_mem_nil, or_false, h8, hb, decide_eq_true (show (i : Int) < (L.length : Int) by omega), rowc_get (show i < L.length by omega), rowc_len, hmo, hp.call, List.map_nil, List.map_cons]
      repeat (apply And.intro; focus (first | omega | (simp; done)))
      refine ⟨one_ptr, Cal.mk (hp.run s ht L[i]!) ?_⟩
      rintro _ _ ⟨rfl, rfl⟩ -
      cases c2 : p L[i]!
      · simp (config := {maxSteps := 3000000}) only [run_skip, run_reg, run_cond, if_false, at_code_n, at_blk_n, at_rnd_n, ops_nil, ops_mv, ops_bin, ev_t, ev_c, put_get, opv_mk, over_get, rel_mk, vbin, vbinI, norm, obsOk, and_true, true_and, Nat.reduceEqDiff, Int.reduceNeg, ↓reduceIte, eq_self, List.contains_cons, List.contains_nil, Nat.reduceBEq, Bool.or_false, Bool.or_true, h8]
        repeat (apply And.intro; focus (first | omega | (simp; done)))
        refine ⟨⟨i + 1, by omega, by simp, fun j hj => ?_⟩, by omega⟩
        by_cases e : j = i
        · rw [e]; exact c2
        · exact hno j (by omega)
      · simp (config := {maxSteps := 3000000}) only [run_reg, run_seq, run_ret, run_cond, if_true, at_code_n, at_code_r, at_blk_r, at_rnd_r, at_fin_r, ops_nil, ops_mv, ev_t, put_get, opv_mk, obsOk, and_true, true_and, Nat.reduceEqDiff, Int.reduceNeg, ↓reduceIte, vret, rvAll, rvVal, resv_1, eq_self]
        exact ⟨_, _, Wk.refl _, hwf.weak, by rw [idxP_at c1 c2 hno], rfl⟩
    · simp (config := {maxSteps := 3000000}) only [run_reg, run_seq, run_exit, run_ret, run_cond, if_false, at_code_n, at_code_x, at_blk_x, at_rnd_x, at_fin_r, ops_nil, ops_mv, ops_bin, ev_t, ev_c, put_get, opv_mk, over_get, vnat, vbin, vbinI, and_true, true_and, Nat.reduceEqDiff, Int.toNat_natCast, Int.reduceNeg, ↓reduceIte, vret, rvAll, rvVal, resv_1, eq_self, Bool.false_eq_true, List.contains_cons, List.contains_nil, Nat.reduceBEq, Bool.or_false, Bool.or_true, h8, decide_eq_false (show ¬ (i : Int) < (L.length : Int) by omega)]
      exact ⟨_, _, Wk.refl _, hwf.weak, by rw [idxP_none (fun j hj => hno j (by omega))], rfl⟩
set_option maxRecDepth 100000 in
set_option maxHeartbeats 8000000 in
theorem deleteK_v (hp : DelF Try.prog g t X val p) (ht : st.box t = some X) (htb : t ≠ b) (hb : st.box b = some (rowc val L sp)) (hmo : mono (rowc val L sp)) (hcap : L.length ≤ cap) (hl : cap < 4611686018427387904) (hlc : L.length * 2 + sp.length = cap * 2) :
    VCalls Try.prog 92 [dataV b L.length cap, clV g t] st fun v s => ∃ sp', (L.filter fun x => !p x).length * 2 + sp'.length = cap * 2 ∧ mono (rowc val (L.filter fun x => !p x) sp') ∧ v = dataV b (L.filter fun x => !p x).length cap ∧ s = st.put b (rowc val (L.filter fun x => !p x) sp') := by
  refine vcalls_enter vc92 (Nat.le_of_ble_eq_true rfl) fun hwf hok => ?_
  show Run _ Vc92.body (.fin (finQ Vc92.res _)) _ _
  unfold Vc92
  simp (config := {maxSteps := 3000000}) only [run_reg, run_seq, at_code_n, ops_nil, ops_mv, ops_call, ev_t, ev_c, put_get, opv_mk, args0, List.getD_cons_zero, List.getD_cons_succ, List.map_cons, List.map_nil, true_and, Nat.reduceEqDiff, Int.reduceNeg, ↓reduceIte, eq_self, reduceCtorEq, dataV, clV]
  have cc := indexK_v (cap := cap) hp ht hb hmo (by omega)
  rw [dataV, clV] at cc
  refine Cal.mk cc ?_
  rintro _ _ ⟨rfl, rfl⟩ -
  clear cc
  have hself : st.put b (rowc val L sp) = st := put_selfR hb (hwf.lt.box b _ hb)
  rcases idxP_cases p L with ⟨h0, hF⟩ | ⟨i, hi, hpi, hbi, hI⟩
  · simp (config := {maxSteps := 3000000}) only [run_reg, run_seq, run_ret, run_cond, if_true, at_code_n, at_code_r, at_fin_r, ops_nil, ops_mv, ops_bin, ev_t, ev_c, put_get, opv_mk, args0, List.getD_cons_zero, vbin, vbinI, obsOk, and_true, true_and, Int.reduceNeg, ↓reduceIte, vret, rvAll, rvVal, resv_1, decide_true, eq_self, reduceCtorEq, h0]
    exact ⟨_, _, Wk.refl _, by rw [hF, hself]; exact hwf.weak, sp, by rw [hF]; exact hlc, by rw [hF]; exact hmo, by rw [hF], rfl⟩
  · simp (config := {maxSteps := 3000000}) only [run_skip, run_reg, run_seq, run_blk, run_cond, if_false, at_code_n, ops_nil, ops_mv, ops_bin, ev_t, ev_c, put_get, opv_mk, vbin, vbinI, norm, obsOk, true_and, Nat.reduceEqDiff, Int.reduceNeg, ↓reduceIte, decide_false, eq_self, reduceCtorEq, hI]
    repeat (apply And.intro; focus (first | omega | (simp; done)))
    refine run_loop [5, 6, 7, 16, 17, 18, 19, 20, 21, 22, 23, 24, 25, 26, 27, 28, 29, 30, 31, 32, 33, 34, 35] (fun B s => ∃ (i j : Nat) (M : List α), B 5 = .sc (.int .i64 i) ∧ B 6 = .sc (.int .i64 j) ∧ DelI p L M i j ∧ (st.put b (rowc val M sp)).weak s ∧ s.Lt) (fun B _ => L.length - vnat (B 6)) rfl ?_ ?_
    · simp (config := {maxSteps := 3000000}) only [put_get, Nat.reduceEqDiff, ↓reduceIte, eq_self]
      exact ⟨i, i + 1, L, rfl, by simp, DelI.start hi hpi hbi, by rw [hself]; exact hwf.weak, hwf.lt⟩
    · clear hI hbi hpi hi
      rintro B s ⟨i, j, M, h5, h6, hI, hw, hsl⟩
      have hlen := hI.len
      have hij := hI.ij
      have hjl := hI.jl
      have hbs := (hw.box b _ put_box_same).1
      have hts := (hw.box t _ (by rw [put_box_ne htb]; exact ht)).1
      have hmo' := rowc_mono hmo hlen
      by_cases c1 : j < L.length
      · simp (config := {maxSteps := 3000000}) only [run_skip, run_reg, run_seq, run_blk, run_cond, if_true, at_code_n, ops_nil, ops_mv, ops_bin, ops_ix, ops_load, ops_len, ops_alc, ops_store, ev_t, put_get, put_none, opv_mk, stb_some, sto_ptr, over_get, vnat, Stp, put_box_same, put_put, args0, List.getD_cons_zero, List.getD_cons_succ, vbin, vbinI, vlen, vix, vload, takeV, takeB, mono_two, ops_calv, clv_func, splice, V.cells, ptrV, obsOk, List.map_cons, List.map_nil, List.length_cons, List.length_nil, List.take_succ_cons, List.take_zero, List.drop_succ_cons, List.drop_zero, List.cons_append, List.nil_append, List.append_nil, List.take_nil, List.drop_nil, and_true, true_and, Nat.reduceEqDiff, Nat.reduceAdd, Nat.reduceLT, Nat.reduceLeDiff, Nat.reduceLT, Int.toNat_natCast, Nat.zero_add, ↓reduceIte, eq_self, reduceCtorEq, Bool.false_eq_true, List.contains_cons, List.contains_nil, Nat.reduceBEq, Bool.or_false, Bool.or_true, List.mem_cons, List.not_mem_nil, or_false, h6, hbs, decide_eq_true (show (j : Int) < (L.length : Int) by omega), rowc_get (show j < M.length by omega), rowc_len, hmo']
        repeat (apply And.intro; focus (first | omega | (simp; done)))
        intro v hv
        have hbv : b ≠ v := by have := hsl.box b _ hbs; omega
        have htv : t ≠ v := by have := hsl.box t _ hts; omega
        have hvb : v ≠ b := hbv.symm
        simp (config := {maxSteps := 3000000}) only [true_and, eq_self, hp.call]
        refine ⟨one_ptr, Cal.mk (hp.run _ (by rw [put_box_ne htv]; exact hts) M[j]!) ?_⟩
        rintro _ _ ⟨rfl, rfl⟩ -
        have hMj : M[j]! = L[j]! := hI.rest j (by omega)
        have sv : (st.put b (rowc val M sp)).sz ≤ v := Nat.le_trans hw.sz hv
        cases c2 : p M[j]!
        · have hs2 := rowc_set (val := val) (sp := sp) (L := M) (i := i) (y := M[j]!) (by omega)
          simp (config := {maxSteps := 3000000}) only [run_reg, run_seq, run_cond, if_true, at_code_n, at_blk_n, at_rnd_n, ops_nil, ops_mv, ops_bin, ops_un, ops_ix, ops_load, ops_store, ev_t, ev_c, put_get, put_none, opv_mk, stb_some, sto_ptr, over_get, rel_mk, Stp, put_box_same, args0, List.getD_cons_zero, vbin, vbinI, vun, norm, vix, vload, takeV, takeB, mono_two, splice, V.cells, obsOk, List.length_cons, List.length_nil, List.take_succ_cons, List.drop_zero, List.take_nil, and_true, true_and, Nat.reduceEqDiff, Nat.reduceAdd, Nat.reduceLT, Nat.reduceLeDiff, Nat.reduceLT, Int.toNat_natCast, Int.reduceNeg, Nat.zero_add, ↓reduceIte, Bool.not_false, eq_self, reduceCtorEq, Bool.false_eq_true, List.contains_cons, List.contains_nil, Nat.reduceBEq, Bool.or_false, Bool.or_true, h5, h6, put_box_ne hbv, hbs, rowc_len, hmo', hs2]
          repeat (apply And.intro; focus (first | omega | (simp; done)))
          refine ⟨⟨i + 1, j + 1, M.set i M[j]!, by simp, by simp, hI.keep c1 (by rw [← hMj]; exact c2), ?_, hsl.put.put⟩, by omega⟩
          have := weak_both (b := b) (cs := rowc val (M.set i M[j]!) sp) (weak_put (b := v) (cs := [(val M[j]!).1, (val M[j]!).2]) hw sv)
          rwa [put_put] at this
        · simp (config := {maxSteps := 3000000}) only [run_skip, run_reg, run_cond, if_false, at_code_n, at_blk_n, at_rnd_n, ops_nil, ops_mv, ops_bin, ops_un, ev_t, ev_c, put_get, opv_mk, over_get, rel_mk, vbin, vbinI, vun, norm, obsOk, true_and, Nat.reduceEqDiff, Int.reduceNeg, ↓reduceIte, Bool.not_true, eq_self, List.contains_cons, List.contains_nil, Nat.reduceBEq, Bool.or_false, Bool.or_true, h5, h6]
          repeat (apply And.intro; focus (first | omega | (simp; done)))
          exact ⟨⟨i, j + 1, M, rfl, by simp, hI.drop c1 (by rw [← hMj]; exact c2), weak_put hw sv, hsl.put⟩, by omega⟩
      · have hF := hI.fin (by omega)
        obtain ⟨sp', hsp, e3⟩ := rowc_cut (val := val) (sp := sp) (L := M) (i := i) (z := [.sc (.int .i64 0), .sc (.int .u16 0)]) (by omega) rfl
        have hiF : (L.filter fun x => !p x).length = i := by rw [← hF]; simp; omega
        have e4 : M.length - i = L.length - i := by omega
        rw [e4] at e3
        have ecl : i * 2 + (L.length - i) * 2 ≤ (rowc val M sp).length := by rw [rowc_len]; omega
        have eic : (i : Int) < (cap : Int) := by omega
        simp (config := {maxSteps := 3000000}) only [run_reg, run_seq, run_exit, run_ret, run_cond, if_false, at_code_n, at_code_x, at_blk_x, at_rnd_x, at_fin_r, ops_nil, ops_mv, ops_bin, ops_len, ops_slc, ev_t, put_get, put_none, opv_mk, over_get, vnat, args0, List.getD_cons_zero, vbin, vbinI, vlen, ops_clr, clr_box, clb_some, vslc, splice, obsOk, Option.map_some, Option.map_none, and_true, true_and, Nat.reduceEqDiff, Int.toNat_natCast, Nat.zero_add, ↓reduceIte, vret, rvAll, rvVal, resv_1, eq_self, reduceCtorEq, Bool.false_eq_true, List.contains_cons, List.contains_nil, Nat.reduceBEq, Bool.or_false, Bool.or_true, or_true, h5, h6, hbs, decide_eq_false (show ¬ (j : Int) < (L.length : Int) by omega), hmo', ecl, eic]
        repeat (apply And.intro; focus (first | omega | (simp; done)))
        rw [hF] at e3 hsp
        refine ⟨_, _, Wk.refl _, ?_, sp', ?_, ?_, ?_, rfl⟩
        · unfold splice at e3
          rw [e3]
          have := weak_both (b := b) (cs := rowc val (L.filter fun x => !p x) sp') hw
          rwa [put_put] at this
        · omega
        · refine mono_big ?_
          rw [rowc_len]; omega
        · rw [hiF]
end
end Go.Proofs.Ytlngegoamfklgaa
