/- The law TapeBack: contract. -/
import Derived.Test.YtmomebkfaibmgaaVTape7
import Derived.Test.YtmomebkfaibmgaaVTapeLaw2
namespace Go.Proofs.Ytmomebkfaibmgaa
open Go

theorem wantT_all {E : List EvR} {O : List (List OuR)} {P : TR → Prop} (hE : ∀ x ∈ E, P x.tr) (hO : ∀ o ∈ O, ∀ y ∈ o, P y.tr) : ∀ n, ∀ r ∈ wantT E O n, P r
  | 0, r, h => by cases h
  | n + 1, r, h => by
    simp only [wantT, List.mem_append, List.mem_map] at h
    rcases h with (h | ⟨x, hx, rfl⟩) | ⟨y, hy, rfl⟩
    · exact wantT_all hE hO n r h
    · refine hE x ?_
      rw [Option.mem_toList] at hx
      exact List.mem_of_getElem? hx
    · cases ho : O[n]? with
      | none => rw [ho] at hy; cases hy
      | some o =>
        rw [ho] at hy
        exact hO o (List.mem_of_getElem? ho) y hy
theorem out_isB {r : TR} (h : r.right = true) (hE : IsB r.EL) (hO : IsB r.OL) : IsB r.out := by
  obtain ⟨k, ek, ec, en, EL, ok, oc, on, oa, OL⟩ := r
  unfold TR.out
  rw [if_pos h]
  rcases TR.right1 h with ⟨rfl, rfl, rfl, rfl, rfl, h6, h7⟩ | ⟨rfl, rfl, rfl, rfl, h5, h7⟩
  · obtain ⟨g0, g1, g2, g3, g4, g5, g6⟩ := fitsB_is h7
    unfold recL
    rw [if_pos rfl]
    exact (((isB3 (a := 1) (b := ek) (c := ec) (by omega) (by omega) (by omega)).append (beL_isB _ _)).append (beL_isB _ _)).append hE
  · obtain ⟨g0, g1, g2, g3, g4, g5, g6⟩ := fitsB_is h7
    unfold recL
    rw [if_neg (by simp)]
    exact ((((isB3 (a := 2) (b := ok) (c := oc) (by omega) (by omega) (by omega)).append (beL_isB _ _)).append (beL_isB _ _)).append (beL_isB _ _)).append hO
theorem outR_isB : ∀ {l : List TR}, (∀ r ∈ l, r.right = true) → (∀ r ∈ l, IsB r.EL ∧ IsB r.OL) → IsB (outR l)
  | [], _, _ => by intro x hx; simp [outR] at hx
  | r :: l, h, h' => by
    have e : outR (r :: l) = r.out ++ outR l := by simp [outR]
    rw [e]
    exact (out_isB (h r (by simp)) (h' r (by simp)).1 (h' r (by simp)).2).append (outR_isB (fun x hx => h x (by simp [hx])) (fun x hx => h' x (by simp [hx])))
/-- A row of records of the call's own. -/
structure RU (base s : St) (r : V) (l : List V) : Prop where
  own : Own 10 s r l
  weak : base.weak s
  lt : s.Lt
  tok : ∀ g k l', r = .sl (.own g k) l' → base.sz ≤ g
theorem RU.app {base s s' : St} {x r : V} {l l' : List V} (h : RU base s x l) (ho : Own 10 s' r l') (k : AppSt s x s' r) : RU base s' r l' :=
  ⟨ho, k.keeps h.weak h.tok, h.lt.app k, k.fresh h.weak.sz h.tok⟩
section
variable {st : St} {E : List EvR} {O : List (List OuR)} {cut : Int}
theorem alive57_v : VCalls Try.prog 17 [] st fun r st' => r = .sc (.bool true) ∧ st = st' := by
  refine vcalls_enter vc17 (Nat.le_of_ble_eq_true rfl) fun hwf hok => ?_
  show Run _ Vc17.body (.fin (finQ Vc17.res _)) _ _
  unfold Vc17
  simp (config := {maxSteps := 3000000}) only [run_reg, run_seq, at_code_n, ops_nil, ops_mv, ops_bld, ops_call, ev_t, ev_c, put_get, opv_mk, vbld, fillV, splice, V.cells, List.map_cons, List.map_nil, List.length_cons, List.length_nil, List.take_succ_cons, List.take_zero, List.drop_succ_cons, List.drop_zero, List.cons_append, List.nil_append, and_true, true_and, Nat.reduceAdd, Nat.reduceLT, Nat.reduceLeDiff, Nat.reduceLT, Nat.zero_add, ↓reduceIte, eq_self]
  refine Cal.mk (tPut_v (r := ⟨1, 1, 3, 0, [], 0, 0, 0, 0, []⟩) (t1 := .nil) (t2 := .nil) (L := []) rfl (by simp) Own.nil (by simp)) ?_
  rintro r1 s1 ⟨k1, k2⟩ -
  have ew : [] ++ TR.out ⟨1, 1, 3, 0, [], 0, 0, 0, 0, []⟩ = [1, 1, 3, 0, 0, 0, 0, 0, 0] := by decide
  rw [ew] at k1
  obtain ⟨tk1, rfl⟩ := k1.sl
  simp (config := {maxSteps := 3000000}) only [ops_bslo, ev_c, strip, strip1, obsOk, List.map_cons, List.map_nil, true_and]
  refine Bo.own (by simp [allLen, V.cells]) ?_
  intro g hg
  simp (config := {maxSteps := 3000000}) only [ops_call, ev_t, put_get, obsOk, List.map_cons, List.map_nil, List.length_cons, List.length_nil, true_and, Nat.reduceEqDiff, Nat.reduceAdd, Nat.zero_add, ↓reduceIte, eq_self]
  refine Cal.mk (eqB_v (M := [1, 1, 3, 0, 0, 0, 0, 0, 0])) ?_
  rintro _ _ ⟨rfl, rfl⟩ -
  have e1 : decide (([1, 1, 3, 0, 0, 0, 0, 0, 0] : List Int) = [1, 1, 3, 0, 0, 0, 0, 0, 0]) = true := by decide
  rw [e1]
  simp (config := {maxSteps := 3000000}) only [run_ret, at_code_n, at_fin_r, ops_nil, ops_mv, ops_pick, ev_t, ev_c, put_get, opv_mk, vpick, obsOk, and_true, true_and, ↓reduceIte, vret, rvAll, rvVal, resv_1, eq_self]
  exact ⟨_, _, Wk.refl _, weak_use (k2.over hwf.lt) (by have := k2.sz; omega), rfl, rfl⟩
set_option maxRecDepth 100000 in
set_option maxHeartbeats 8000000 in
theorem TapeBack_v (hE : ∀ x ∈ E, IsB x.L) (hO : ∀ o ∈ O, ∀ y ∈ o, IsB y.L ∧ 0 ≤ y.a ∧ y.a ≤ 4294967295) : VCalls Try.prog 4 [.sl .no (evs E), .sl .no (oos O), .sc (.int .i64 cut)] st fun r st' => r = .sc (.bool true) ∧ st = st' := by
  have haW : ∀ n, ∀ r ∈ wantT E O n, 0 ≤ r.oa ∧ r.oa ≤ 4294967295 := wantT_all (P := fun r => 0 ≤ r.oa ∧ r.oa ≤ 4294967295) (fun x _ => ⟨Int.le_refl _, by simp [EvR.tr]⟩) (fun o ho y hy => (hO o ho y hy).2)
  have hbW : ∀ n, ∀ r ∈ wantT E O n, IsB r.EL ∧ IsB r.OL := wantT_all (P := fun r => IsB r.EL ∧ IsB r.OL) (fun x hx => ⟨hE x hx, (fun _ h => by cases h)⟩) (fun o ho y hy => ⟨(fun _ h => by cases h), (hO o ho y hy).1⟩)
  refine vcalls_enter vc4 (Nat.le_of_ble_eq_true rfl) fun hwf hok => ?_
  show Run _ Vc4.body (.fin (finQ Vc4.res _)) _ _
  unfold Vc4
  by_cases c1 : E.length > 20
  · simp (config := {maxSteps := 3000000}) only [run_reg, run_seq, run_ret, run_cond, if_true, at_code_n, at_code_r, at_fin_r, ops_nil, ops_grd, grd_tf, ops_mv, ops_pick, ops_bin, ops_len, ev_t, ev_c, put_get, opv_mk, args0, List.getD_cons_zero, vpick, vbin, vbinI, vlen, and_true, true_and, Nat.reduceEqDiff, ↓reduceIte, vret, rvAll, rvVal, resv_1, eq_self, reduceCtorEq, evs_len, decide_eq_true (show (E.length : Int) > 20 by omega)]
    exact ⟨_, _, Wk.refl _, hwf.weak, rfl, rfl⟩
  by_cases c2 : O.length > 20
  · simp (config := {maxSteps := 3000000}) only [run_reg, run_seq, run_ret, run_cond, if_true, at_code_n, at_code_r, at_fin_r, ops_nil, ops_grd, grd_ff, ops_mv, ops_pick, ops_bin, ops_len, ev_t, ev_c, put_get, opv_mk, args0, List.getD_cons_zero, List.getD_cons_succ, vpick, vbin, vbinI, vlen, and_true, true_and, Nat.reduceEqDiff, ↓reduceIte, vret, rvAll, rvVal, resv_1, eq_self, reduceCtorEq, Bool.false_eq_true, evs_len, oos_len, decide_eq_false (show ¬ (E.length : Int) > 20 by omega), decide_eq_true (show (O.length : Int) > 20 by omega)]
    exact ⟨_, _, Wk.refl _, hwf.weak, rfl, rfl⟩
  simp (config := {maxSteps := 3000000}) only [run_skip, run_reg, run_seq, run_blk, run_cond, if_false, at_code_n, ops_nil, ops_grd, grd_ff, ops_mv, ops_pick, ops_bin, ops_len, ev_t, ev_c, put_get, opv_mk, args0, List.getD_cons_zero, List.getD_cons_succ, vpick, vbin, vbinI, vlen, true_and, Nat.reduceEqDiff, ↓reduceIte, eq_self, reduceCtorEq, Bool.false_eq_true, evs_len, oos_len, decide_eq_false (show ¬ (E.length : Int) > 20 by omega), decide_eq_false (show ¬ (O.length : Int) > 20 by omega)]
  have R0 : RU st st (.sl .nil []) (trs (wantT E O 0)) := ⟨.inl ⟨rfl, rfl⟩, hwf.weak, hwf.lt, fun g k l e => by cases e⟩
  refine run_loop [6, 7, 8, 9, 26, 27, 28, 29, 30, 31, 32, 33, 34, 35, 36, 37, 38, 39, 40, 41, 42, 43, 44, 45, 46, 47, 48, 49, 50, 51, 52, 53, 54, 55, 56, 57, 58, 59, 60, 61, 62, 63, 64, 65, 66, 67, 68, 69, 70, 71, 72, 73, 74, 75, 76, 77, 78, 79, 80, 81, 82, 83, 84, 85, 86] (fun B s => ∃ (i : Nat) (r : V), i ≤ E.length ∧ B 8 = .sc (.int .i64 i) ∧ B 7 = r ∧ RU st s r (trs (wantT E O i)) ∧ ∀ j o, j < i → O[j]? = some o → o.length ≤ 5) (fun B _ => E.length - vnat (B 8)) rfl ?_ ?_
  · simp (config := {maxSteps := 3000000}) only [put_get, Nat.reduceEqDiff, ↓reduceIte, eq_self]
    exact ⟨0, _, by omega, rfl, rfl, R0, fun j o hj => by omega⟩
  · rintro B s ⟨i, r, hi, h8, h7, hR, hf⟩
    by_cases hlt : i < E.length
    · obtain ⟨x, hx⟩ := get_ex hlt
      by_cases c3 : x.L.length > 300
      · simp (config := {maxSteps := 3000000}) only [run_skip, run_reg, run_seq, run_blk, run_ret, run_cond, if_true, at_code_n, at_code_r, at_blk_r, at_rnd_r, at_fin_r, ops_nil, ops_mv, ops_bin, ops_fld, ops_ix, ops_load, ops_len, ev_t, ev_c, put_get, opv_mk, over_get, vnat, args0, List.getD_cons_zero, vbin, vbinI, vfld, vlen, vix, vload, takeV, V.cells, List.length_cons, List.length_nil, List.getElem?_cons_zero, List.getElem?_cons_succ, and_true, true_and, Nat.reduceEqDiff, Nat.reduceAdd, Int.toNat_natCast, Nat.zero_add, ↓reduceIte, vret, rvAll, rvVal, resv_1, eq_self, reduceCtorEq, Bool.false_eq_true, List.contains_cons, List.contains_nil, Nat.reduceBEq, Bool.or_false, Bool.or_true, h8, evs_len, decide_eq_true (show (i : Int) < (E.length : Int) by omega), evs_get hx, EvR.v, bs_len, decide_eq_true (show (x.L.length : Int) > 300 by omega)]
        repeat (apply And.intro; focus (first | omega | (simp; done)))
        exact ⟨_, _, Wk.refl _, hR.weak, rfl, rfl⟩
      simp (config := {maxSteps := 3000000}) only [run_skip, run_reg, run_seq, run_blk, run_cond, if_true, if_false, at_code_n, ops_nil, ops_mv, ops_bin, ops_fld, ops_ix, ops_load, ops_len, ops_bld, ops_bsl, ops_app, ev_t, ev_c, put_get, opv_mk, over_get, vnat, vbld, vbsl, args0, List.getD_cons_zero, vbin, vbinI, vfld, vlen, vix, vload, takeV, fillV, splice, V.cells, strip, strip1, allLen, List.map_cons, List.map_nil, List.length_cons, List.length_nil, List.getElem?_cons_zero, List.getElem?_cons_succ, List.take_succ_cons, List.take_zero, List.drop_succ_cons, List.drop_zero, List.cons_append, List.nil_append, List.take_nil, and_true, true_and, Nat.reduceEqDiff, Nat.reduceAdd, Nat.reduceLT, Nat.reduceLeDiff, Nat.reduceLT, Int.toNat_natCast, Nat.zero_add, ↓reduceIte, eq_self, reduceCtorEq, Bool.false_eq_true, List.contains_cons, List.contains_nil, Nat.reduceBEq, Bool.or_false, Bool.or_true, h8, h7, evs_len, decide_eq_true (show (i : Int) < (E.length : Int) by omega), evs_get hx, EvR.v, bs_len, decide_eq_false (show ¬ (x.L.length : Int) > 300 by omega)]
      repeat (apply And.intro; focus (first | omega | (simp; done)))
      have hTl := wantT_few (E := E) (O := O) i (fun j o hj => hf j o hj)
      refine App.mk (l := trs (wantT E O i)) (ys := trs [x.tr]) hR.own (allSz_trs _) (by simp only [trs_len, List.length_cons, List.length_nil, maxLen]; omega) (by simp only [trs_len, List.length_cons, List.length_nil]; omega) ?_
      intro r1 s1 k1 k2
      rw [trs_append] at k1
      have R1 := hR.app k1 k2
      simp (config := {maxSteps := 3000000}) only [run_reg, run_seq, run_blk, at_code_n, ops_nil, ops_mv, ev_t, ev_c, put_get, opv_mk, obsOk, true_and, ↓reduceIte, eq_self]
      by_cases hno : O.length ≤ i
      · have ho : O[i]? = none := List.getElem?_eq_none hno
        rw [← wantT_ev hx ho] at R1
        refine run_loop [6, 7, 9, 47, 48, 49, 50, 51, 52, 53, 54, 55, 56, 57, 58, 59, 60, 61, 62, 63, 64, 65, 66, 67, 68, 69, 70, 71, 72, 73, 74, 75, 76, 77, 78, 79, 80, 81, 82, 83, 84, 85, 86] (fun C s' => C 9 = .sc (.int .i64 0) ∧ C 7 = r1 ∧ s1 = s') (fun C _ => 0) rfl ?_ ?_
        · simp (config := {maxSteps := 3000000}) only [put_get, and_true, Nat.reduceEqDiff, ↓reduceIte, eq_self]
        · rintro C s' ⟨h9, h7', rfl⟩
          simp (config := {maxSteps := 3000000}) only [run_reg, run_seq, run_exit, run_cond, if_false, at_code_n, at_code_x, at_blk_n, at_blk_x, at_rnd_n, at_rnd_x, ops_nil, ops_grd, grd_ft, ops_mv, ops_pick, ops_bin, ops_len, ev_t, ev_c, put_get, opv_mk, over_get, rel_mk, args0, List.getD_cons_zero, List.getD_cons_succ, vpick, vbin, vbinI, norm, vlen, true_and, Nat.reduceEqDiff, Int.reduceNeg, ↓reduceIte, eq_self, Bool.false_eq_true, List.contains_cons, List.contains_nil, Nat.reduceBEq, Bool.or_false, Bool.or_true, h8, h7', oos_len, decide_eq_false (show ¬ (i : Int) < (O.length : Int) by omega)]
          repeat (apply And.intro; focus (first | omega | (simp; done)))
          exact ⟨⟨i + 1, _, by omega, by simp, rfl, R1, fun j o hj hjo => by
            by_cases e : j = i
            · subst e; rw [ho] at hjo; cases hjo
            · exact hf j o (by omega) hjo⟩, by omega⟩
      · obtain ⟨o, ho⟩ := get_ex (L := O) (i := i) (by omega)
        refine run_loop [6, 7, 9, 47, 48, 49, 50, 51, 52, 53, 54, 55, 56, 57, 58, 59, 60, 61, 62, 63, 64, 65, 66, 67, 68, 69, 70, 71, 72, 73, 74, 75, 76, 77, 78, 79, 80, 81, 82, 83, 84, 85, 86] (fun C s' => ∃ (j : Nat) (r' : V), j ≤ o.length ∧ j ≤ 5 ∧ C 9 = .sc (.int .i64 j) ∧ C 7 = r' ∧ RU st s' r' (trs (wantT E O i ++ [x.tr] ++ (o.take j).map OuR.tr))) (fun C _ => o.length - vnat (C 9)) rfl ?_ ?_
        · simp (config := {maxSteps := 3000000}) only [put_get, Nat.reduceEqDiff, ↓reduceIte, eq_self]
          exact ⟨0, _, by omega, by omega, rfl, rfl, by simpa using R1⟩
        · rintro C s' ⟨j, r', hj, hj5, h9, h7', hR'⟩
          have hio := decide_eq_true (show (i : Int) < (O.length : Int) by omega)
          by_cases hjl : j < o.length
          case neg =>
            obtain rfl : j = o.length := by omega
            rw [List.take_of_length_le (Nat.le_refl _), ← wantT_o hx ho] at hR'
            simp (config := {maxSteps := 3000000}) only [run_reg, run_seq, run_exit, run_cond, if_false, at_code_n, at_code_x, at_blk_n, at_blk_x, at_rnd_n, at_rnd_x, ops_nil, ops_grd, grd_tt, ops_mv, ops_pick, ops_bin, ops_ix, ops_load, ops_len, ev_t, ev_c, put_get, opv_mk, over_get, rel_mk, vnat, args0, List.getD_cons_zero, List.getD_cons_succ, vpick, vbin, vbinI, norm, vlen, vix, vload, takeV, V.cells, List.length_cons, List.length_nil, List.getElem?_cons_zero, and_true, true_and, Nat.reduceEqDiff, Int.toNat_natCast, Int.reduceNeg, Nat.zero_add, ↓reduceIte, decide_false, Int.lt_irrefl, eq_self, Bool.false_eq_true, List.contains_cons, List.contains_nil, Nat.reduceBEq, Bool.or_false, Bool.or_true, h8, h9, h7', oos_len, hio, oos_get ho, ous_len]
            repeat (apply And.intro; focus (first | omega | (simp; done)))
            exact ⟨⟨i + 1, _, by omega, by simp, rfl, hR', fun j o' hj hjo => by
              by_cases e : j = i
              · subst e; rw [ho] at hjo; cases hjo; exact hj5
              · exact hf j o' (by omega) hjo⟩, by omega⟩
          obtain ⟨y, hy⟩ := get_ex hjl
          have hjo := decide_eq_true (show (j : Int) < (o.length : Int) by omega)
          by_cases hj4 : j > 4
          · simp (config := {maxSteps := 3000000}) only [run_skip, run_reg, run_seq, run_blk, run_ret, run_cond, if_true, at_code_n, at_code_r, at_blk_r, at_rnd_r, at_fin_r, ops_nil, ops_grd, grd_tt, grd_tf, ops_mv, ops_pick, ops_bin, ops_ix, ops_load, ops_len, ev_t, ev_c, put_get, opv_mk, over_get, vnat, args0, List.getD_cons_zero, List.getD_cons_succ, vpick, vbin, vbinI, vlen, vix, vload, takeV, V.cells, List.length_cons, List.length_nil, List.getElem?_cons_zero, and_true, true_and, Nat.reduceEqDiff, Int.toNat_natCast, Nat.zero_add, ↓reduceIte, vret, rvAll, rvVal, resv_1, eq_self, Bool.false_eq_true, List.contains_cons, List.contains_nil, Nat.reduceBEq, Bool.or_false, Bool.or_true, h8, h9, oos_len, hio, oos_get ho, ous_len, hjo, decide_eq_true (show (j : Int) > 4 by omega)]
            repeat (apply And.intro; focus (first | omega | (simp; done)))
            exact ⟨_, _, Wk.refl _, hR'.weak, rfl, rfl⟩
          have hj4' := decide_eq_false (show ¬ (j : Int) > 4 by omega)
          by_cases hy3 : y.L.length > 300
          · simp (config := {maxSteps := 3000000}) only [run_skip, run_reg, run_seq, run_blk, run_ret, run_cond, if_true, at_code_n, at_code_r, at_blk_r, at_rnd_r, at_fin_r, ops_nil, ops_grd, grd_tt, grd_ff, ops_mv, ops_pick, ops_bin, ops_fld, ops_ix, ops_load, ops_len, ev_t, ev_c, put_get, opv_mk, over_get, vnat, args0, List.getD_cons_zero, List.getD_cons_succ, vpick, vbin, vbinI, vfld, vlen, vix, vload, takeV, V.cells, List.length_cons, List.length_nil, List.getElem?_cons_zero, List.getElem?_cons_succ, and_true, true_and, Nat.reduceEqDiff, Nat.reduceAdd, Int.toNat_natCast, Nat.zero_add, ↓reduceIte, vret, rvAll, rvVal, resv_1, eq_self, Bool.false_eq_true, List.contains_cons, List.contains_nil, Nat.reduceBEq, Bool.or_false, Bool.or_true, h8, h9, oos_len, hio, oos_get ho, ous_len, hjo, hj4', ous_get hy, OuR.v, bs_len, decide_eq_true (show (y.L.length : Int) > 300 by omega)]
            repeat (apply And.intro; focus (first | omega | (simp; done)))
            exact ⟨_, _, Wk.refl _, hR'.weak, rfl, rfl⟩
          have hstep : (o.take (j + 1)).map OuR.tr = (o.take j).map OuR.tr ++ [y.tr] := by
            rw [List.take_add_one, hy, List.map_append]; rfl
          simp (config := {maxSteps := 3000000}) only [run_skip, run_reg, run_seq, run_blk, run_cond, if_true, if_false, at_code_n, ops_nil, ops_grd, grd_tt, grd_ff, ops_mv, ops_pick, ops_bin, ops_fld, ops_ix, ops_load, ops_len, ops_bld, ops_bsl, ops_app, ev_t, ev_c, put_get, opv_mk, over_get, vnat, vbld, vbsl, args0, List.getD_cons_zero, List.getD_cons_succ, vpick, vbin, vbinI, vfld, vlen, vix, vload, takeV, fillV, splice, V.cells, strip, strip1, allLen, List.map_cons, List.map_nil, List.length_cons, List.length_nil, List.getElem?_cons_zero, List.getElem?_cons_succ, List.take_succ_cons, List.take_zero, List.drop_succ_cons, List.drop_zero, List.cons_append, List.nil_append, List.append_nil, List.take_nil, List.drop_nil, and_true, true_and, Nat.reduceEqDiff, Nat.reduceAdd, Nat.reduceLT, Nat.reduceLeDiff, Nat.reduceLT, Int.toNat_natCast, Nat.zero_add, ↓reduceIte, eq_self, Bool.false_eq_true, List.contains_cons, List.contains_nil, Nat.reduceBEq, Bool.or_false, Bool.or_true, h8, h9, h7', oos_len, hio, oos_get ho, ous_len, hjo, hj4', ous_get hy, OuR.v, bs_len, decide_eq_false (show ¬ (y.L.length : Int) > 300 by omega)]
          repeat (apply And.intro; focus (first | omega | (simp; done)))
          refine App.mk (l := trs (wantT E O i ++ [x.tr] ++ (o.take j).map OuR.tr)) (ys := trs [y.tr]) hR'.own (allSz_trs _) (by simp only [trs_len, List.length_append, List.length_map, List.length_take, List.length_cons, List.length_nil, maxLen]; omega) (by simp only [trs_len, List.length_append, List.length_map, List.length_take, List.length_cons, List.length_nil]; omega) ?_
          intro r2 s2 k3 k4
          rw [trs_append, List.append_assoc, ← hstep] at k3
          have R2 := hR'.app k3 k4
          simp (config := {maxSteps := 3000000}) only [run_reg, at_code_n, at_blk_n, at_rnd_n, ops_nil, ops_mv, ops_bin, ev_t, ev_c, put_get, opv_mk, over_get, rel_mk, vbin, vbinI, norm, obsOk, true_and, Nat.reduceEqDiff, Int.reduceNeg, ↓reduceIte, eq_self, List.contains_cons, List.contains_nil, Nat.reduceBEq, Bool.or_false, Bool.or_true, h9]
          repeat (apply And.intro; focus (first | omega | (simp; done)))
          exact ⟨⟨j + 1, _, by omega, by omega, by simp, rfl, R2⟩, by omega⟩
    · obtain rfl : i = E.length := by omega
      have hTl := wantT_few (E := E) (O := O) E.length (fun j o hj => hf j o hj)
      obtain ⟨tkw, hw7⟩ := hR.own.sl
      subst hw7
      have hweak := hR.weak
      simp (config := {maxSteps := 3000000}) only [run_reg, run_seq, run_blk, run_exit, run_cond, if_false, at_code_n, at_code_x, at_blk_x, at_rnd_x, ops_nil, ops_mv, ops_bin, ops_len, ev_t, ev_c, put_get, opv_mk, over_get, vnat, args0, List.getD_cons_zero, vbin, vbinI, vlen, true_and, Nat.reduceEqDiff, Int.toNat_natCast, ↓reduceIte, decide_false, Int.lt_irrefl, eq_self, reduceCtorEq, Bool.false_eq_true, List.contains_cons, List.contains_nil, Nat.reduceBEq, Bool.or_false, Bool.or_true, h8, evs_len]
      refine run_loop [6, 10, 87, 88, 89, 90, 91, 92, 93, 94, 95, 96, 97, 98] (fun C s' => s = s' ∧ ∃ j : Nat, j ≤ (wantT E O E.length).length ∧ C 10 = .sc (.int .i64 j) ∧ ∀ t r, t < j → (wantT E O E.length)[t]? = some r → r.right = true) (fun C _ => (wantT E O E.length).length - vnat (C 10)) rfl ?_ ?_
      · simp (config := {maxSteps := 3000000}) only [put_get, true_and, ↓reduceIte, eq_self]
        exact ⟨0, by omega, rfl, fun t r ht => by omega⟩
      · rintro C s' ⟨rfl, j, hj, h10, hrt⟩
        by_cases hjl : j < (wantT E O E.length).length
        · obtain ⟨r, hr⟩ := get_ex hjl
          simp (config := {maxSteps := 3000000}) only [run_skip, run_reg, run_seq, run_blk, run_cond, if_true, at_code_n, ops_nil, ops_mv, ops_bin, ops_ix, ops_load, ops_len, ops_call, ev_t, put_get, opv_mk, over_get, vnat, vbin, vbinI, vlen, vix, vload, takeV, V.cells, List.map_cons, List.map_nil, List.length_cons, List.length_nil, List.take_succ_cons, List.drop_zero, List.take_nil, and_true, true_and, Nat.reduceEqDiff, Nat.reduceAdd, Nat.reduceLeDiff, Int.toNat_natCast, Nat.zero_add, ↓reduceIte, eq_self, Bool.false_eq_true, List.contains_cons, List.contains_nil, Nat.reduceBEq, Bool.or_false, Bool.or_true, h10, h7, trs_len, decide_eq_true (show (j : Int) < ((wantT E O E.length).length : Int) by omega), trs_get hr, TR.v]
          repeat (apply And.intro; focus (first | omega | (simp; done)))
          refine Cal.mk (rRight57_v (r := r) (t1 := .no) (t2 := .no)) ?_
          rintro _ _ ⟨rfl, rfl⟩ -
          cases hg : r.right
          · simp (config := {maxSteps := 3000000}) only [run_reg, run_seq, run_ret, run_cond, if_true, at_code_n, at_code_r, at_blk_r, at_rnd_r, at_fin_r, ops_nil, ops_mv, ops_un, ev_t, ev_c, put_get, opv_mk, vun, obsOk, and_true, true_and, ↓reduceIte, vret, rvAll, rvVal, resv_1, Bool.not_false, eq_self]
            exact ⟨_, _, Wk.refl _, hweak, rfl, rfl⟩
          · simp (config := {maxSteps := 3000000}) only [run_skip, run_reg, run_cond, if_false, at_code_n, at_blk_n, at_rnd_n, ops_nil, ops_mv, ops_bin, ops_un, ev_t, ev_c, put_get, opv_mk, over_get, rel_mk, vbin, vbinI, vun, norm, obsOk, true_and, Nat.reduceEqDiff, Int.reduceNeg, ↓reduceIte, Bool.not_true, eq_self, List.contains_cons, List.contains_nil, Nat.reduceBEq, Bool.or_false, Bool.or_true, h10]
            repeat (apply And.intro; focus (first | omega | (simp; done)))
            exact ⟨⟨j + 1, by omega, by simp, fun t r' ht hr' => by
              by_cases e : t = j
              · subst e; rw [hr] at hr'; cases hr'; exact hg
              · exact hrt t r' (by omega) hr'⟩, by omega⟩
        · obtain rfl : j = (wantT E O E.length).length := by omega
          have hrW : ∀ r ∈ wantT E O E.length, r.right = true := fun r hr => by
            obtain ⟨q, hq, rfl⟩ := List.mem_iff_getElem.1 hr
            exact hrt q _ hq (List.getElem?_eq_getElem hq)
          have hfit : ∀ r ∈ wantT E O E.length, r.Fit := fun r hr => ⟨hrW r hr, (haW _ r hr).1, (haW _ r hr).2⟩
          have hB := outR_isB hrW (hbW E.length)
          have hbl := outR_len hrW
          have hOf := fun st : St => tOf_v (st := st) (E := E) (O := O) (by omega) hf hrW (haW _)
          have hrg : ∀ (i : Nat) (r : TR), (wantT E O E.length)[i]? = some r → r.right = true ∧ 0 ≤ r.oa ∧ r.oa ≤ 4294967295 := fun i r hr => ⟨hrW r (List.mem_of_getElem? hr), haW _ r (List.mem_of_getElem? hr)⟩
          clear hrt hrW hf haW hbW
          generalize wantT E O E.length = W at *
          simp (config := {maxSteps := 3000000}) only [run_reg, run_seq, run_exit, run_cond, if_false, at_code_n, at_code_x, at_blk_x, at_rnd_x, ops_nil, ops_mv, ops_bin, ops_len, ops_call, ev_t, put_get, opv_mk, over_get, vnat, args0, List.getD_cons_zero, List.getD_cons_succ, vbin, vbinI, vlen, List.map_cons, List.map_nil, true_and, Nat.reduceEqDiff, Int.toNat_natCast, ↓reduceIte, decide_false, Int.lt_irrefl, eq_self, reduceCtorEq, Bool.false_eq_true, List.contains_cons, List.contains_nil, Nat.reduceBEq, Bool.or_false, Bool.or_true, h10, h7, trs_len]
          refine Cal.mk (hOf _) ?_
          rintro _ _ ⟨rfl, rfl⟩ -
          have hBL : (outR W).length ≤ 10000000 := by omega
          have hrd := fun (tk : Tk) (st : St) => tRead_v (tk := tk) (st := st) hB (by omega)
          have hrd2 := fun (tk : Tk) (st : St) (k : Nat) => tRead_v (tk := tk) (st := st) (hB.take k) (by simp; omega)
          simp (config := {maxSteps := 3000000}) only [run_reg, run_seq, at_code_n, ops_nil, ops_mv, ops_call, ev_t, put_get, opv_mk, obsOk, List.map_cons, List.map_nil, true_and, ↓reduceIte, eq_self]
          refine Cal.mk (hrd _ _) ?_
          rintro _ _ ⟨rs, n, rfl, rfl, u1, u2⟩ -
          obtain ⟨k, hk, hkL⟩ : ∃ k : Nat, min (max cut 0) ((outR W).length : Int) = k ∧ k ≤ (outR W).length := ⟨(min (max cut 0) ((outR W).length : Int)).toNat, by omega, by omega⟩
          simp (config := {maxSteps := 3000000}) only [run_reg, run_seq, at_code_n, ops_nil, ops_mv, ops_ext, ops_len, ops_mn, ops_mx, ops_slc, ops_call, ev_t, ev_c, put_get, opv_mk, over_get, args0, List.getD_cons_zero, List.getD_cons_succ, vlen, vext, vmm, vslc, obsOk, List.map_cons, List.map_nil, List.getElem?_cons_zero, List.getElem?_cons_succ, Option.map_some, Option.map_none, true_and, Nat.reduceEqDiff, Int.toNat_natCast, ↓reduceIte, eq_self, Bool.false_eq_true, List.contains_cons, List.contains_nil, Nat.reduceBEq, Bool.or_false, bs_len, hk, bs_take, allSz_bs']
          repeat (apply And.intro; focus (first | omega | (simp; done)))
          refine Cal.mk (hrd2 _ _ k) ?_
          rintro _ _ ⟨ms, at_, rfl, rfl, u3, u4⟩ -
          obtain ⟨rfl, rfl, hak, hml, hms, hlast⟩ := back_law hfit hkL u1 u2 u3 u4
          have d1 := decide_eq_false (show ¬ ¬ ((outR rs).length : Int) = ((outR rs).length : Int) from fun h => h rfl)
          have d2 := decide_eq_false (show ¬ ¬ (rs.length : Int) = (rs.length : Int) from fun h => h rfl)
          have d3 := decide_eq_false (show ¬ (at_ : Int) > (k : Int) by omega)
          have d4 := decide_eq_false (show ¬ (ms.length : Int) > (rs.length : Int) by omega)
          simp (config := {maxSteps := 3000000}) only [run_skip, run_reg, run_seq, run_blk, run_cond, if_false, at_code_n, ops_nil, ops_grd, grd_ff, ops_mv, ops_pick, ops_bin, ops_ext, ops_len, ev_t, ev_c, put_get, opv_mk, over_get, vpick, vbin, vbinI, vlen, vext, obsOk, List.getElem?_cons_zero, List.getElem?_cons_succ, true_and, Nat.reduceEqDiff, ↓reduceIte, decide_false, ne_eq, not_true_eq_false, eq_self, Bool.false_eq_true, List.contains_cons, List.contains_nil, Nat.reduceBEq, Bool.or_false, Bool.or_true, h7, bs_len, trs_len, d3, d4]
          have hmg : ∀ i : Nat, i < ms.length → ∀ t, rs[i]? = some t → ms[i]? = some t := fun i hi t ht => by
            rw [hms, List.getElem?_take, if_pos hi]; exact ht
          refine run_loop [6, 17, 142, 143, 144, 145, 146, 147, 148, 149, 150, 151, 152, 153, 154, 155, 156, 157, 158, 159, 160, 161, 162, 163, 164, 165, 166, 167, 168, 169, 170, 171, 172, 173, 174, 175] (fun C s' => s = s' ∧ ∃ j : Nat, j ≤ rs.length ∧ C 17 = .sc (.int .i64 j)) (fun C _ => rs.length - vnat (C 17)) rfl ?_ ?_
          · simp (config := {maxSteps := 3000000}) only [put_get, true_and, ↓reduceIte, eq_self]
            exact ⟨0, by omega, rfl⟩
          · rintro C2 s' ⟨rfl, j, hj, h17⟩
            by_cases hjl : j < rs.length
            · obtain ⟨r, hr⟩ := get_ex hjl
              simp (config := {maxSteps := 3000000}) only [run_skip, run_reg, run_seq, run_blk, run_cond, if_true, at_code_n, ops_nil, ops_mv, ops_bin, ops_ix, ops_load, ops_len, ops_call, ev_t, put_get, opv_mk, over_get, vnat, vbin, vbinI, vlen, vix, vload, takeV, V.cells, List.map_cons, List.map_nil, List.length_cons, List.length_nil, List.take_succ_cons, List.drop_zero, List.take_nil, and_true, true_and, Nat.reduceEqDiff, Nat.reduceAdd, Nat.reduceLeDiff, Int.toNat_natCast, Nat.zero_add, ↓reduceIte, eq_self, Bool.false_eq_true, List.contains_cons, List.contains_nil, Nat.reduceBEq, Bool.or_false, Bool.or_true, h17, h7, trs_len, decide_eq_true (show (j : Int) < (rs.length : Int) by omega), trs_get hr, TR.v]
              repeat (apply And.intro; focus (first | omega | (simp; done)))
              refine Cal.mk (same57_v (r := r) (t1 := .no) (t2 := .no) (t3 := .no) (t4 := .no)) ?_
              rintro _ _ ⟨rfl, rfl⟩ -
              by_cases hjm : j < ms.length
              · simp (config := {maxSteps := 3000000}) only [ops_grd, grd_tt, grd_ff, ops_mv, ops_bin, ops_un, ops_ix, ops_load, ops_len, ops_call, ev_t, put_get, opv_mk, over_get, vbin, vbinI, vun, vlen, vix, vload, takeV, V.cells, obsOk, List.map_cons, List.map_nil, List.length_cons, List.length_nil, List.take_succ_cons, List.drop_zero, List.take_nil, and_true, true_and, Nat.reduceEqDiff, Nat.reduceAdd, Nat.reduceLeDiff, Int.toNat_natCast, Nat.zero_add, ↓reduceIte, Bool.not_true, eq_self, Bool.false_eq_true, List.contains_cons, List.contains_nil, Nat.reduceBEq, Bool.or_false, Bool.or_true, h17, h7, trs_len, decide_eq_true (show (j : Int) < (ms.length : Int) by omega), trs_get hr, trs_get (hmg j hjm r hr), TR.v]
                repeat (apply And.intro; focus (first | omega | (simp; done)))
                refine Cal.mk (same57_v (r := r) (t1 := .no) (t2 := .no) (t3 := .no) (t4 := .no)) ?_
                rintro _ _ ⟨rfl, rfl⟩ -
                simp (config := {maxSteps := 3000000}) only [run_skip, run_reg, run_cond, if_false, at_code_n, at_blk_n, at_rnd_n, ops_nil, ops_grd, grd_tt, grd_ff, ops_mv, ops_pick, ops_bin, ops_un, ev_t, ev_c, put_get, opv_mk, over_get, rel_mk, vpick, vbin, vbinI, vun, norm, obsOk, true_and, Nat.reduceEqDiff, Int.reduceNeg, ↓reduceIte, Bool.not_true, eq_self, Bool.false_eq_true, List.contains_cons, List.contains_nil, Nat.reduceBEq, Bool.or_false, Bool.or_true, h17]
                repeat (apply And.intro; focus (first | omega | (simp; done)))
                exact ⟨⟨j + 1, by omega, by simp⟩, by omega⟩
              · simp (config := {maxSteps := 3000000}) only [run_skip, run_reg, run_cond, if_false, at_code_n, at_blk_n, at_rnd_n, ops_nil, ops_grd, grd_ff, grd_ft, ops_mv, ops_pick, ops_bin, ops_un, ops_len, ev_t, ev_c, put_get, opv_mk, over_get, rel_mk, vpick, vbin, vbinI, vun, norm, vlen, obsOk, true_and, Nat.reduceEqDiff, Int.reduceNeg, ↓reduceIte, Bool.not_true, eq_self, Bool.false_eq_true, List.contains_cons, List.contains_nil, Nat.reduceBEq, Bool.or_false, Bool.or_true, h17, trs_len, decide_eq_false (show ¬ (j : Int) < (ms.length : Int) by omega)]
                repeat (apply And.intro; focus (first | omega | (simp; done)))
                exact ⟨⟨j + 1, by omega, by simp⟩, by omega⟩
            · obtain rfl : j = rs.length := by omega
              have dl := decide_eq_false (show ¬ (rs.length : Int) < (rs.length : Int) by omega)
              by_cases hme : ms.length = rs.length
              · simp (config := {maxSteps := 3000000}) only [run_reg, run_seq, run_exit, run_cond, if_false, at_code_n, at_code_x, at_blk_x, at_rnd_x, ops_nil, ops_grd, grd_tt, grd_tf, ops_mv, ops_pick, ops_bin, ops_len, ops_call, ev_t, ev_c, put_get, opv_mk, over_get, vnat, vpick, vbin, vbinI, vlen, List.map_nil, true_and, Nat.reduceEqDiff, Int.toNat_natCast, ↓reduceIte, decide_false, Int.lt_irrefl, eq_self, Bool.false_eq_true, List.contains_cons, List.contains_nil, Nat.reduceBEq, Bool.or_false, Bool.or_true, h17, trs_len, decide_eq_true (show (ms.length : Int) = (rs.length : Int) by omega)]
                refine Cal.mk alive57_v ?_
                rintro _ _ ⟨rfl, rfl⟩ -
                simp (config := {maxSteps := 3000000}) only [run_ret, at_code_n, at_fin_r, ops_nil, ops_mv, ops_pick, ev_t, put_get, opv_mk, vpick, obsOk, and_true, true_and, Nat.reduceEqDiff, ↓reduceIte, vret, rvAll, rvVal, resv_1, eq_self]
                exact ⟨_, _, Wk.refl _, hweak, rfl, rfl⟩
              · obtain ⟨r, hr⟩ := get_ex (L := rs) (i := ms.length) (by omega)
                obtain ⟨g1, g2⟩ := hrg _ _ hr
                have hl := hlast r hr
                have hol := out_len g1
                simp (config := {maxSteps := 3000000}) only [run_reg, run_seq, run_exit, run_cond, if_false, at_code_n, at_code_x, at_blk_x, at_rnd_x, ops_nil, ops_grd, grd_ff, ops_mv, ops_bin, ops_ix, ops_load, ops_len, ops_call, ev_t, put_get, opv_mk, over_get, vnat, vbin, vbinI, vlen, vix, vload, takeV, V.cells, List.map_cons, List.map_nil, List.length_cons, List.length_nil, List.take_succ_cons, List.drop_zero, List.take_nil, and_true, true_and, Nat.reduceEqDiff, Nat.reduceAdd, Nat.reduceLeDiff, Int.toNat_natCast, Nat.zero_add, ↓reduceIte, decide_false, Int.lt_irrefl, eq_self, Bool.false_eq_true, List.contains_cons, List.contains_nil, Nat.reduceBEq, Bool.or_false, Bool.or_true, h17, h7, trs_len, decide_eq_false (show ¬ (ms.length : Int) = (rs.length : Int) by omega), trs_get hr, TR.v]
                repeat (apply And.intro; focus (first | omega | (simp; done)))
                refine Cal.mk (rPut57_v (r := r) (t1 := .no) (t2 := .no) g1 g2) ?_
                rintro _ _ ⟨rfl, rfl⟩ -
                simp (config := {maxSteps := 3000000}) only [ops_grd, grd_tt, grd_ff, ops_mv, ops_pick, ops_bin, ops_len, ops_call, ev_t, put_get, opv_mk, over_get, vpick, vbin, vbinI, norm, vlen, obsOk, List.map_nil, true_and, Nat.reduceEqDiff, Int.reduceNeg, ↓reduceIte, eq_self, Bool.false_eq_true, List.contains_cons, List.contains_nil, Nat.reduceBEq, Bool.or_false, bs_len, decide_eq_true (show (at_ : Int) + (r.out.length : Int) > (k : Int) by omega)]
                repeat (apply And.intro; focus (first | omega | (simp; done)))
                refine Cal.mk alive57_v ?_
                rintro _ _ ⟨rfl, rfl⟩ -
                simp (config := {maxSteps := 3000000}) only [run_ret, at_code_n, at_fin_r, ops_nil, ops_mv, ops_pick, ev_t, put_get, opv_mk, vpick, obsOk, and_true, true_and, Nat.reduceEqDiff, ↓reduceIte, vret, rvAll, rvVal, resv_1, eq_self]
                exact ⟨_, _, Wk.refl _, hweak, rfl, rfl⟩
end
end Go.Proofs.Ytmomebkfaibmgaa
