/- The pool's law, call by call: which are free, who leases, who holds. -/
import Derived.Test.YtlngegoamfklgaaVPlay1
import Derived.Test.YtlngegoamfklgaaVSortA
import Derived.Test.YtlngegoamfklgaaVSortN
import Derived.Test.YtlngegoamfklgaaVRowB
namespace Go.Proofs.Ytlngegoamfklgaa
open Go

section
variable {st : St} {first many : Int} {S : List (ByteArray × Int)} {l : List (Int × ByteArray)} {tk t2 : Tk}
theorem RO.use0 {size : Nat} {st s : St} (hw : st.weak s) (hl : s.Lt) {g : Nat} (hg : s.sz ≤ g) : RO size st (s.use g 0) (.sl (.own g size) []) [] := RO.use (cs := []) hw hl hg
set_option maxRecDepth 100000 in
set_option maxHeartbeats 4000000 in
theorem free29_v (hm : many ≤ 64) : VCalls Try.prog 36 [shapeV first many tk S, .sl t2 (ones l)] st fun v s => v = .sl .no (us (freeN first (swp S) l many.toNat)) ∧ st = s := by
  refine vcalls_enter vc36 (Nat.le_of_ble_eq_true rfl) fun hwf hok => ?_
  show Run _ Vc36.body (.fin (finQ Vc36.res _)) _ _
  unfold Vc36
  simp (config := {maxSteps := 3000000}) only [run_reg, run_seq, run_blk, at_code_n, ops_nil, ops_mv, ops_box, ev_t, ev_c, opv_mk, Bx, args0, List.getD_cons_zero, V.cells, ptrV, obsOk, List.length_cons, List.length_nil, true_and, Nat.reduceAdd, Nat.zero_add, ne_eq, not_false_eq_true, reduceCtorEq, shapeV]
  intro b hb
  refine run_loop [5, 6, 7, 8, 9, 10, 11, 12, 13, 14, 15, 16, 17, 18, 19, 20, 21, 22, 23, 24, 25, 26, 27, 28, 29, 30, 31, 32] (fun B s => ∃ (i : Nat) (v : V), ((i : Int) ≤ many ∨ i = 0) ∧ B 6 = .sc (.int .i64 i) ∧ B 5 = v ∧ RO 1 st s v (us (freeN first (swp S) l i)) ∧ s.box b = some [.sc (.int .u32 first), .sc (.int .i64 many), .sl tk (sts S)]) (fun B _ => 64 - vnat (B 6)) rfl ?_ ?_
  · exact ⟨0, .sl .nil [], .inr rfl, rfl, rfl, RO.nil (weak_put hwf.weak hb) hwf.lt.put, put_box_same⟩
  · rintro B s ⟨i, v, hi, h6, h5, R, hbx⟩
    by_cases c1 : (i : Int) < many
    · have e1 : (i : Int) % 4294967296 = i := by omega
      have en : (first + (i : Int)) % 4294967296 = nthA first i := rfl
      simp (config := {maxSteps := 3000000}) only [run_skip, run_reg, run_seq, run_blk, run_cond, if_true, at_code_n, ops_nil, ops_mv, ops_bin, ops_conv, ops_fld, ops_load, ops_call, ev_t, put_get, opv_mk, over_get, vnat, args0, List.getD_cons_zero, List.getD_cons_succ, vbin, vbinI, vconv, norm, vfld, vload, takeV, takeB, V.cells, List.map_cons, List.map_nil, List.length_cons, List.length_nil, List.getElem?_cons_zero, List.getElem?_cons_succ, and_true, true_and, Nat.reduceEqDiff, Int.toNat_natCast, Nat.zero_add, Nat.add_zero, ↓reduceIte, eq_self, Bool.false_eq_true, List.contains_cons, List.contains_nil, Nat.reduceBEq, Bool.or_false, Bool.or_true, h6, hbx, e1, en, decide_eq_true c1]
      repeat (apply And.intro; focus (first | omega | (simp; done)))
      refine Cal.mk has29_v ?_
      rintro _ _ ⟨r, hr, rfl, rfl⟩ -
      by_cases c2 : r < 0
      · have g1 := hr.neg.1 c2
        simp (config := {maxSteps := 3000000}) only [ops_grd, grd_tt, ops_mv, ops_bin, ops_load, ops_call, ev_t, ev_c, put_get, opv_mk, over_get, vbin, vbinI, vload, takeV, takeB, mono_two, obsOk, List.map_cons, List.map_nil, List.length_cons, List.length_nil, List.take_succ_cons, List.drop_zero, List.take_nil, and_true, true_and, Nat.reduceEqDiff, Nat.reduceAdd, Nat.reduceLeDiff, Nat.zero_add, ↓reduceIte, eq_self, Bool.false_eq_true, List.contains_cons, List.contains_nil, Nat.reduceBEq, Bool.or_false, hbx, decide_eq_true c2]
        refine Cal.mk kept29_v ?_
        rintro _ _ ⟨rfl, rfl⟩ -
        cases c3 : aget (nthA first i) (swp S) with
        | none =>
          have hf : freeB first (swp S) l i = true := by simp [freeB, g1, c3]
          simp (config := {maxSteps := 3000000}) only [run_reg, run_cond, if_true, at_code_n, ops_nil, ops_grd, grd_tt, ops_mv, ops_pick, ops_un, ops_bsl, ops_app, ev_t, put_get, opv_mk, over_get, vbsl, vpick, vun, V.cells, strip, strip1, allLen, obsOk, List.map_cons, List.map_nil, List.length_cons, List.length_nil, and_true, true_and, Nat.reduceEqDiff, Nat.zero_add, ↓reduceIte, Bool.not_false, eq_self, List.contains_cons, List.contains_nil, Nat.reduceBEq, Bool.or_false, h5, Option.isSome_none]
          obtain ⟨tv, rfl⟩ := R.sl
          have hfl := freeN_len (first := first) (kept := swp S) (l := l) i
          refine App.mk (l := us (freeN first (swp S) l i)) (ys := us [nthA first i]) R.own (allSz_us _) (by simp only [us_len, List.length_cons, List.length_nil, maxLen]; omega) (by simp only [us_len, List.length_cons, List.length_nil]; omega) ?_
          intro r2 s2 k3 k4
          have R2 := R.app k3 k4
          rw [us_append] at R2
          simp (config := {maxSteps := 3000000}) only [run_reg, at_code_n, at_blk_n, at_rnd_n, ops_nil, ops_mv, ops_bin, ev_t, ev_c, put_get, opv_mk, over_get, rel_mk, vbin, vbinI, norm, obsOk, true_and, Nat.reduceEqDiff, Int.reduceNeg, ↓reduceIte, eq_self, List.contains_cons, List.contains_nil, Nat.reduceBEq, Bool.or_false, Bool.or_true, h6]
          repeat (apply And.intro; focus (first | omega | (simp; done)))
          refine ⟨⟨i + 1, _, .inl (by omega), by simp, rfl, by rw [freeN_succ, if_pos hf]; exact R2, by rw [k4.box]; exact hbx⟩, by omega⟩
        | some y =>
          have hf : freeB first (swp S) l i = false := by simp [freeB, c3]
          simp (config := {maxSteps := 3000000}) only [run_skip, run_reg, run_cond, if_false, at_code_n, at_blk_n, at_rnd_n, ops_nil, ops_grd, grd_tt, ops_mv, ops_pick, ops_bin, ops_un, ev_t, ev_c, put_get, opv_mk, over_get, rel_mk, vpick, vbin, vbinI, vun, norm, obsOk, true_and, Nat.reduceEqDiff, Int.reduceNeg, ↓reduceIte, Bool.not_true, eq_self, List.contains_cons, List.contains_nil, Nat.reduceBEq, Bool.or_false, Bool.or_true, h6, h5, Option.isSome_some]
          repeat (apply And.intro; focus (first | omega | (simp; done)))
          refine ⟨⟨i + 1, _, .inl (by omega), by simp, rfl, by rw [freeN_succ, if_neg (by rw [hf]; simp), List.append_nil]; exact R, hbx⟩, by omega⟩
      · have g1 : aget (nthA first i) l ≠ none := fun h => c2 (hr.neg.2 h)
        have hf : freeB first (swp S) l i = false := by
          cases h : aget (nthA first i) l with
          | none => exact absurd h g1
          | some y => simp [freeB, h]
        simp (config := {maxSteps := 3000000}) only [run_skip, run_reg, run_cond, if_false, at_code_n, at_blk_n, at_rnd_n, ops_nil, ops_grd, grd_ft, ops_mv, ops_pick, ops_bin, ev_t, ev_c, put_get, opv_mk, over_get, rel_mk, vpick, vbin, vbinI, norm, obsOk, true_and, Nat.reduceEqDiff, Int.reduceNeg, ↓reduceIte, eq_self, Bool.false_eq_true, List.contains_cons, List.contains_nil, Nat.reduceBEq, Bool.or_false, Bool.or_true, h6, h5, decide_eq_false c2]
        repeat (apply And.intro; focus (first | omega | (simp; done)))
        refine ⟨⟨i + 1, _, .inl (by omega), by simp, rfl, by rw [freeN_succ, if_neg (by rw [hf]; simp), List.append_nil]; exact R, hbx⟩, by omega⟩
    · have ei : many.toNat = i := by omega
      simp (config := {maxSteps := 3000000}) only [run_reg, run_seq, run_exit, run_ret, run_cond, if_false, at_code_n, at_code_x, at_blk_x, at_rnd_x, at_fin_r, ops_nil, ops_mv, ops_bin, ops_fld, ops_load, ev_t, put_get, opv_mk, over_get, vnat, vbin, vbinI, vfld, vload, takeV, takeB, V.cells, List.length_cons, List.length_nil, List.getElem?_cons_zero, List.getElem?_cons_succ, and_true, true_and, Nat.reduceEqDiff, Int.toNat_natCast, Nat.zero_add, ↓reduceIte, vret, rvAll, rvVal, resv_1, eq_self, Bool.false_eq_true, List.contains_cons, List.contains_nil, Nat.reduceBEq, Bool.or_false, Bool.or_true, h6, h5, hbx, decide_eq_false c1]
      obtain ⟨tv, rfl⟩ := R.sl
      exact ⟨_, _, Wk.no, R.weak, by rw [ei], rfl⟩
variable {b kb hb : Nat} {kept held : List (Int × ByteArray)} {kes hes : List (V × V × Nat)} {kc hc : Nat}
set_option maxRecDepth 100000 in
set_option maxHeartbeats 4000000 in
theorem poolFree_v (h : PoolB st b kb hb first many kept held kes hes kc hc) (hm : many ≤ 64) : VCalls Try.prog 35 [ptrV b] st fun v s => v = .sc (.int .i64 (freeN first kept held many.toNat).length) ∧ st = s := by
  refine vcalls_enter vc35 (Nat.le_of_ble_eq_true rfl) fun hwf hok => ?_
  show Run _ Vc35.body (.fin (finQ Vc35.res _)) _ _
  unfold Vc35
  simp (config := {maxSteps := 3000000}) only [run_reg, run_seq, run_blk, at_code_n, ops_nil, ops_mv, ops_fld, ops_load, ops_nilck, ev_t, ev_c, put_get, opv_mk, args0, List.getD_cons_zero, vfld, vnil, vload, takeV, takeB, V.cells, ptrV, List.length_cons, List.length_nil, List.getElem?_cons_zero, List.getElem?_cons_succ, true_and, Nat.zero_add, ↓reduceIte, eq_self, reduceCtorEq, h.box]
  refine run_loop [3, 4, 5, 6, 7, 8, 9, 14, 15, 16, 17, 18, 19, 20, 21, 22, 23, 24, 25, 26, 27, 28, 29, 30, 31, 32, 33, 34, 35, 36, 37, 38, 39, 40, 41, 42, 43, 44, 45, 46, 47, 48, 49, 50] (fun B s => ∃ i : Nat, ((i : Int) ≤ many ∨ i = 0) ∧ B 14 = .sc (.int .i64 i) ∧ B 3 = .sc (.int .i64 (freeN first kept held i).length) ∧ s = st) (fun B _ => 64 - vnat (B 14)) rfl ?_ ?_
  · simp (config := {maxSteps := 3000000}) only [put_get, and_true, Nat.reduceEqDiff, ↓reduceIte, eq_self]
    exact ⟨0, .inr rfl, rfl, rfl⟩
  · rintro B s ⟨i, hi, h14, h3, rfl⟩
    by_cases c1 : (i : Int) < many
    · have e1 : (i : Int) % 4294967296 = i := by omega
      have en : (first + (i : Int)) % 4294967296 = nthA first i := rfl
      have hfl := freeN_len (first := first) (kept := kept) (l := held) i
      cases g1 : aget (nthA first i) kept with
      | some y =>
        have hf : freeB first kept held i = false := by simp [freeB, g1]
        simp (config := {maxSteps := 3000000}) only [run_skip, run_reg, run_seq, run_blk, run_cond, if_true, if_false, at_code_n, at_blk_n, at_rnd_n, ops_nil, ops_grd, grd_ft, ops_mv, ops_pick, ops_bin, ops_un, ops_conv, ops_fld, ops_load, ops_nilck, ops_ext, ev_t, ev_c, put_get, opv_mk, over_get, rel_mk, vnat, args0, List.getD_cons_zero, vpick, vbin, vbinI, vun, vconv, norm, vfld, vnil, vext, vload, takeV, takeB, vmlk, kOk, fitsV, ops_mlk, V.cells, List.length_cons, List.length_nil, List.getElem?_cons_zero, List.getElem?_cons_succ, Option.map_some, and_true, true_and, Nat.reduceEqDiff, Int.toNat_natCast, Int.reduceNeg, Nat.zero_add, Nat.add_zero, ↓reduceIte, Bool.not_true, eq_self, reduceCtorEq, Bool.false_eq_true, List.contains_cons, List.contains_nil, Nat.reduceBEq, Bool.or_false, Bool.or_true, h14, h3, decide_eq_true c1, h.box, h.kept.box, h.held.box, e1, en, h.kept.find, h.held.find, g1, Option.isSome_some, Option.getD_some, Option.map_some]
        repeat (apply And.intro; focus (first | omega | (simp; done)))
        exact ⟨⟨i + 1, .inl (by omega), by simp, by rw [freeN_succ, if_neg (by rw [hf]; simp), List.append_nil]⟩, by omega⟩
      | none =>
        cases g2 : aget (nthA first i) held with
        | some y =>
          have hf : freeB first kept held i = false := by simp [freeB, g2]
          simp (config := {maxSteps := 3000000}) only [run_skip, run_reg, run_seq, run_blk, run_cond, if_true, if_false, at_code_n, at_blk_n, at_rnd_n, ops_nil, ops_grd, grd_tt, ops_mv, ops_pick, ops_bin, ops_un, ops_conv, ops_fld, ops_load, ops_nilck, ops_ext, ev_t, ev_c, put_get, opv_mk, over_get, rel_mk, vnat, args0, List.getD_cons_zero, vpick, vbin, vbinI, vun, vconv, norm, vfld, vnil, vext, vload, takeV, takeB, vmlk, kOk, fitsV, ops_mlk, V.cells, List.length_cons, List.length_nil, List.getElem?_cons_zero, List.getElem?_cons_succ, Option.map_some, Option.map_none, and_true, true_and, Nat.reduceEqDiff, Int.toNat_natCast, Int.reduceNeg, Nat.zero_add, Nat.add_zero, ↓reduceIte, Bool.not_true, Bool.not_false, eq_self, reduceCtorEq, Bool.false_eq_true, List.contains_cons, List.contains_nil, Nat.reduceBEq, Bool.or_false, Bool.or_true, h14, h3, decide_eq_true c1, h.box, h.kept.box, h.held.box, e1, en, h.kept.find, h.held.find, g1, g2, Option.isSome_some, Option.getD_some, Option.map_some, Option.isSome_none, Option.getD_none]
          repeat (apply And.intro; focus (first | omega | (simp; done)))
          exact ⟨⟨i + 1, .inl (by omega), by simp, by rw [freeN_succ, if_neg (by rw [hf]; simp), List.append_nil]⟩, by omega⟩
        | none =>
          have hf : freeB first kept held i = true := by simp [freeB, g1, g2]
          simp (config := {maxSteps := 3000000}) only [run_skip, run_reg, run_seq, run_blk, run_cond, if_true, at_code_n, at_blk_n, at_rnd_n, ops_nil, ops_grd, grd_tt, ops_mv, ops_pick, ops_bin, ops_un, ops_conv, ops_fld, ops_load, ops_nilck, ops_ext, ev_t, ev_c, put_get, opv_mk, over_get, rel_mk, vnat, args0, List.getD_cons_zero, vpick, vbin, vbinI, vun, vconv, norm, vfld, vnil, vext, vload, takeV, takeB, vmlk, kOk, fitsV, ops_mlk, V.cells, List.length_cons, List.length_nil, List.getElem?_cons_zero, List.getElem?_cons_succ, Option.map_none, and_true, true_and, Nat.reduceEqDiff, Int.toNat_natCast, Int.reduceNeg, Nat.zero_add, Nat.add_zero, ↓reduceIte, Bool.not_false, eq_self, reduceCtorEq, Bool.false_eq_true, List.contains_cons, List.contains_nil, Nat.reduceBEq, Bool.or_false, Bool.or_true, h14, h3, decide_eq_true c1, h.box, h.kept.box, h.held.box, e1, en, h.kept.find, h.held.find, g1, g2, Option.isSome_none, Option.getD_none]
          repeat (apply And.intro; focus (first | omega | (simp; done)))
          exact ⟨⟨i + 1, .inl (by omega), by simp, by rw [freeN_succ, if_pos hf]; simp⟩, by omega⟩
    · have ei : many.toNat = i := by omega
      simp (config := {maxSteps := 3000000}) only [run_reg, run_seq, run_exit, run_ret, run_cond, if_false, at_code_n, at_code_x, at_blk_x, at_rnd_x, at_fin_r, ops_nil, ops_mv, ops_bin, ev_t, put_get, opv_mk, over_get, vnat, vbin, vbinI, and_true, true_and, Nat.reduceEqDiff, Int.toNat_natCast, ↓reduceIte, vret, rvAll, rvVal, resv_1, eq_self, Bool.false_eq_true, List.contains_cons, List.contains_nil, Nat.reduceBEq, Bool.or_false, Bool.or_true, h14, h3, decide_eq_false c1]
      exact ⟨_, _, Wk.refl _, hwf.weak, by rw [ei], rfl⟩
set_option maxRecDepth 100000 in
theorem poolHolder_v (h : PoolB st b kb hb first many kept held kes hes kc hc) {a : Int} : VCalls Try.prog 38 [ptrV b, .sc (.int .u32 a)] st fun v s => v = .tup [.sc (.string ((aget a held).getD ⟨#[]⟩)), .sc (.bool (aget a held).isSome)] ∧ st = s := by
  refine vcalls_enter vc38 (Nat.le_of_ble_eq_true rfl) fun hwf hok => ?_
  show Run _ Vc38.body (.fin (finQ Vc38.res _)) _ _
  unfold Vc38
  cases hg : aget a held with
  | none =>
    simp (config := {maxSteps := 3000000}) only [run_reg, run_seq, run_ret, at_code_n, at_fin_r, ops_nil, ops_mv, ops_fld, ops_load, ops_nilck, ops_ext, ev_t, ev_c, put_get, opv_mk, args0, List.getD_cons_zero, List.getD_cons_succ, vfld, vnil, vext, vload, takeV, takeB, vmlk, kOk, fitsV, ops_mlk, V.cells, ptrV, List.map_cons, List.map_nil, List.length_cons, List.length_nil, List.getElem?_cons_zero, List.getElem?_cons_succ, Option.map_none, and_true, true_and, Nat.reduceEqDiff, Nat.zero_add, ↓reduceIte, vret, rvAll, rvVal, resv_2, eq_self, reduceCtorEq, h.box, h.held.box, h.held.find, hg, Option.isSome_none, Option.getD_none, Option.map_none]
    exact ⟨_, _, Wk.refl _, hwf.weak, by simp, rfl⟩
  | some y =>
    simp (config := {maxSteps := 3000000}) only [run_reg, run_seq, run_ret, at_code_n, at_fin_r, ops_nil, ops_mv, ops_fld, ops_load, ops_nilck, ops_ext, ev_t, ev_c, put_get, opv_mk, args0, List.getD_cons_zero, List.getD_cons_succ, vfld, vnil, vext, vload, takeV, takeB, vmlk, kOk, fitsV, ops_mlk, V.cells, ptrV, List.map_cons, List.map_nil, List.length_cons, List.length_nil, List.getElem?_cons_zero, List.getElem?_cons_succ, Option.map_some, and_true, true_and, Nat.reduceEqDiff, Nat.zero_add, ↓reduceIte, vret, rvAll, rvVal, resv_2, eq_self, reduceCtorEq, h.box, h.held.box, h.held.find, hg, Option.isSome_some, Option.getD_some, Option.map_some, vstr]
    exact ⟨_, _, Wk.refl _, hwf.weak, by simp, rfl⟩
abbrev uval : Int → Value := fun x => .int .u32 x
set_option maxRecDepth 100000 in
set_option maxHeartbeats 4000000 in
theorem poolHeld_v (h : PoolB st b kb hb first many kept held kes hes kc hc) (hS : held.length ≤ 1000) : VCalls Try.prog 41 [ptrV b] st fun r s =>
    ∃ (ob : Nat) (M : List Int) (sp : List V), M.Perm (held.map (·.1)) ∧ M.Pairwise (fun x y => ltI y x = false) ∧ r = dataV ob M.length held.length ∧ RB uval st s ob held.length M sp := by
  refine vcalls_enter vc41 (Nat.le_of_ble_eq_true rfl) fun hwf hok => ?_
  show Run _ Vc41.body (.fin (finQ Vc41.res _)) _ _
  unfold Vc41
  have hlt := hwf.lt
  have hms := hlt.box hb _ h.held.box
  have hbs := hlt.box b _ h.box
  simp (config := {maxSteps := 3000000}) only [run_reg, run_seq, at_code_n, ops_nil, ops_mv, ops_mko, mko_int, ops_fld, ops_load, ops_nilck, ev_t, ev_c, put_get, opv_mk, args0, List.getD_cons_zero, vfld, vnil, vload, takeV, takeB, vmlen, ops_mlen, V.cells, ptrV, List.length_cons, List.length_nil, List.getElem?_cons_zero, List.getElem?_cons_succ, true_and, Int.toNat_natCast, Nat.zero_add, ↓reduceIte, eq_self, reduceCtorEq, h.box, h.held.box, h.held.mp.len]
  repeat (apply And.intro; focus (first | omega | (simp; done)))
  refine Mkr.box ?_
  intro ob hob
  have nob : hb ≠ ob := by omega
  have bob : b ≠ ob := by omega
  simp (config := {maxSteps := 3000000}) only [run_reg, run_seq, run_blk, at_code_n, ops_nil, ops_mv, ops_fld, ops_load, ops_nilck, ev_t, put_get, opv_mk, put_sz, args0, List.getD_cons_zero, vfld, vnil, vload, takeV, takeB, ops_rng, rng_map, rgb_some, V.cells, ptrV, obsOk, List.length_cons, List.length_nil, List.getElem?_cons_zero, List.getElem?_cons_succ, true_and, Nat.zero_add, ↓reduceIte, eq_self, reduceCtorEq, put_box_ne nob, put_box_ne bob, h.box, h.held.box]
  intro r hr
  have nr : hb ≠ r := by omega
  have br : b ≠ r := by omega
  have obr : ob ≠ r := by omega
  have fr : st.sz ≤ r := by omega
  clear hr
  have hz : (List.replicate held.length [V.sc (Value.int .u32 0)]).flatten = row uval [] ((List.replicate held.length [V.sc (Value.int .u32 0)]).flatten) := rfl
  have hzl : ((List.replicate held.length [V.sc (Value.int .u32 0)]).flatten).length = held.length := by simp
  have hzm : mono (row uval ([] : List Int) ((List.replicate held.length [V.sc (Value.int .u32 0)]).flatten)) := by
    clear hz hzl
    cases held with
    | nil => exact mono_nil ▸ trivial
    | cons x l =>
      have : row uval ([] : List Int) ((List.replicate (x :: l).length [V.sc (Value.int .u32 0)]).flatten) = V.sc (Value.int .u32 0) :: (List.replicate l.length [V.sc (Value.int .u32 0)]).flatten := by simp [row, List.replicate_succ]
      rw [this, mono_sc]; trivial
  have R0 : RB uval st (st.put ob ((List.replicate held.length [V.sc (Value.int .u32 0)]).flatten)) ob held.length [] ((List.replicate held.length [V.sc (Value.int .u32 0)]).flatten) :=
    ⟨by rw [put_box_same]; exact congrArg some hz, by simp, hzm, by unfold maxLen; omega, weak_put hwf.weak hob, hlt.put, hob⟩
  generalize (List.replicate held.length [V.sc (Value.int .u32 0)]).flatten = z at R0 ⊢
  generalize st.put ob z = s0 at R0 ⊢
  refine run_loop [3, 4, 16, 17, 18, 19, 20, 21, 22, 23] (fun B s => ∃ (seen ix : List Nat) (last : Nat) (M : List Int) (sp : List V), B 3 = dataV ob M.length held.length ∧ RB uval st s ob held.length M sp ∧ s.box r = some [.it (some hb) hc seen last] ∧ hc ≤ last ∧ Going hes seen ix ∧ M = ix.map (fun i => (((held.map (·.1))[i]?).getD 0)))
    (fun B s => match s.box r with | some [.it _ _ seen _] => hes.length - seen.length | _ => 0) rfl ?_ ?_
  · exact ⟨[], [], hc, [], z, rfl, R0.put obr fr, put_box_same, Nat.le_refl _, .nil, rfl⟩
  · rintro B s ⟨seen, ix, last, M, sp, h3, R, hit, hl, hg, hM⟩
    simp (config := {maxSteps := 3000000}) only [run_reg, run_seq, ev_t, put_get, over_get, ops_nxt, ↓reduceIte, eq_self, Bool.false_eq_true, List.contains_cons, List.contains_nil, Nat.reduceBEq, Bool.or_false]
    have hbox : s.box hb = some [.mp false [.int .u32] hes hc] := (R.weak.box hb _ h.held.box).1
    have hMl : M.length = seen.length := by rw [hM, hg.seenLen]; simp
    refine Nxt.mk (m := hb) hit hbox h.held.mp.lt hl ?_ ?_
    · intro hall
      have hp := hg.perm h.held.mp hall
      have hMp : M.Perm (held.map (·.1)) := by
        rw [hM]
        refine (hp.map _).trans ?_
        rw [show held.length = (held.map (·.1)).length by simp]
        generalize held.map (·.1) = T
        refine List.Perm.of_eq (List.ext_getElem (by simp) fun i h1 h2 => ?_)
        simp at h1
        simp [h1]
      simp (config := {maxSteps := 3000000}) only [run_reg, run_seq, run_exit, run_cond, if_false, at_code_n, at_code_x, at_blk_x, at_rnd_x, ops_nil, ops_mv, ops_ext, ops_call, ev_t, put_get, opv_mk, over_get, vext, obsOk, List.map_cons, List.map_nil, List.getElem?_cons_zero, true_and, Nat.reduceEqDiff, ↓reduceIte, eq_self, List.contains_cons, List.contains_nil, Nat.reduceBEq, Bool.or_false, h3]
      have cc := sortA_v (st := s) (b := ob) (cap := held.length) (L := M) (sp := sp) R.mono (by have := R.len; omega)
      rw [R.self] at cc
      refine Cal.mk cc ?_
      rintro _ _ ⟨N, n1, n2, rfl⟩ -
      have hlen := n1.length_eq
      simp (config := {maxSteps := 3000000}) only [run_reg, run_seq, run_ret, at_code_n, at_fin_r, ops_nil, ops_mv, ev_t, put_get, opv_mk, over_get, obsOk, and_true, true_and, Nat.reduceEqDiff, ↓reduceIte, vret, rvAll, rvVal, resv_1, eq_self, List.contains_cons, List.contains_nil, Nat.reduceBEq, Bool.or_false, h3]
      exact ⟨_, _, Wk.refl _, (R.mix hlen).lt.weak, ob, N, sp, n1.trans hMp, n2, by rw [hlen], R.mix hlen⟩
    · intro e he hns
      obtain ⟨i, p, hni, hei, hp, hek, hev, hg'⟩ := hg.step h.held.mp he hns
      have hent := h.held.mp.ent he (seen := seen)
      have hMlt : M.length < held.length := by
        have := hg'.len
        rw [List.length_append] at this
        have h2 := h.held.mp.len
        rw [hMl, hg.seenLen]
        simp at this; omega
      have hname : e.1 = .sc (.int .u32 p.1) := hek
      have nro : r ≠ ob := obr.symm
      simp (config := {maxSteps := 3000000}) only [run_skip, run_reg, run_seq, run_blk, run_cond, if_true, at_code_n, ops_nil, ops_mv, ops_ext, ops_bsl, ops_app, ev_t, put_get, opv_mk, over_get, vbsl, put_box_same, vext, vent, ops_ent, V.cells, strip, strip1, allLen, obsOk, List.map_cons, List.map_nil, List.length_cons, List.length_nil, List.getElem?_cons_zero, and_true, true_and, Nat.reduceEqDiff, Nat.zero_add, ↓reduceIte, eq_self, Bool.false_eq_true, List.contains_cons, List.contains_nil, Nat.reduceBEq, Bool.or_false, h3, hbox, hent, hname, put_box_ne nr]
      have R' := R.put (cs := [.it (some hb) hc (seen ++ [e.2.2]) hc]) obr fr
      refine App.push (bytes := 4) (val := uval) (x := p.1) R'.box R'.len R'.mono R'.max (by unfold maxLen; omega) (by omega) ?_
      intro b' cap' sp' k1 k2 k3 k4 k5
      obtain ⟨rfl, rfl⟩ := k2 hMlt
      have R2 := R'.push (.inl rfl) k3 k4 k5
      simp (config := {maxSteps := 3000000}) only [at_blk_n, at_rnd_n, ops_nil, ops_mv, ev_t, put_get, opv_mk, rel_mk, obsOk, true_and, ↓reduceIte, eq_self]
      repeat (apply And.intro; focus (first | omega | (simp; done)))
      refine ⟨⟨seen ++ [e.2.2], ix ++ [i], hc, M ++ [p.1], sp', rfl, R2, by rw [put_box_ne nro, put_box_same], Nat.le_refl _, hg', ?_⟩, ?_⟩
      · rw [hM, List.map_append]
        simp [hp]
      · rw [put_box_ne nro, put_box_same, hit]
        have := hg'.len
        have h2 := hg'.seenLen
        simp only [List.length_append, List.length_cons, List.length_nil] at *
        omega
end
end Go.Proofs.Ytlngegoamfklgaa
