/- The table's law: what its own functions answer; a peer's keys. -/
import Derived.Test.YtlngegoamfklgaaVTbl3
import Derived.Test.YtlngegoamfklgaaVTblLaw
import Derived.Test.YtlngegoamfklgaaVDelK
namespace Go.Proofs.Ytlngegoamfklgaa
open Go

def itV (p : It) : V := .agg [.sc (.int .i64 p.1.1), .sc (.int .u16 p.1.2), .sc (.int .i64 p.2)]
def its (l : List It) : List V := l.map itV
theorem its_len (l : List It) : (its l).length = l.length := by simp [its]
theorem its_get {l : List It} {i : Nat} {p : It} (h : l[i]? = some p) : (its l)[i]? = some (.agg [.sc (.int .i64 p.1.1), .sc (.int .u16 p.1.2), .sc (.int .i64 p.2)]) := by simp [its, h, itV]
theorem its_take (l : List It) (k : Nat) : (its l).take k = its (l.take k) := by simp [its, List.map_take]
theorem its_drop (l : List It) (k : Nat) : (its l).drop k = its (l.drop k) := by simp [its, List.map_drop]
theorem its_append (l m : List It) : its l ++ its m = its (l ++ m) := by simp [its]
theorem allSz_its (l : List It) : allSz 3 (its l) := fun d hd => by
  obtain ⟨x, _, rfl⟩ := List.mem_map.1 hd; rfl
theorem allSz_its' (l : List It) : allSz 3 (its l) = True := by simp [allSz_its]
section
variable {st : St} {b mb c : Nat} {most conn : Int} {T l : List It} {es : List (V × V × Nat)} {tk : Tk}
set_option maxRecDepth 100000 in
theorem behind_v {x y : Key} : VCalls Try.prog 135 [.agg [.sc (.int .i64 x.1), .sc (.int .u16 x.2)], .agg [.sc (.int .i64 y.1), .sc (.int .u16 y.2)]] st fun v s => v = .sc (.bool (ltK y x)) ∧ st = s := by
  refine vcalls_enter vc135 (Nat.le_of_ble_eq_true rfl) fun hwf hok => ?_
  show Run _ Vc135.body (.fin (finQ Vc135.res _)) _ _
  unfold Vc135
  simp (config := {maxSteps := 3000000}) only [run_reg, run_seq, at_code_n, ops_nil, ops_mv, ops_fld, ops_load, ops_box, ev_t, ev_c, put_get, opv_mk, Bx, put_sz, args0, List.getD_cons_zero, List.getD_cons_succ, vfld, vload, takeV, takeB, V.cells, ptrV, obsOk, List.length_cons, List.length_nil, true_and, Nat.reduceEqDiff, Nat.reduceAdd, Nat.zero_add, Nat.add_zero, ↓reduceIte, ne_eq, not_false_eq_true, eq_self, reduceCtorEq]
  intro b1 h1 b2 h2
  have hbc : b1 < b2 := by omega
  have hc2 : st.sz ≤ b2 := by omega
  clear h2
  have fin : st.weak ((st.put b1 [.sc (.int .i64 x.1), .sc (.int .u16 x.2)]).put b2 [.sc (.int .i64 y.1), .sc (.int .u16 y.2)]) := weak_put (weak_put hwf.weak h1) hc2
  by_cases c1 : y.1 < x.1
  · simp (config := {maxSteps := 3000000}) only [run_ret, at_code_n, at_fin_r, ops_nil, ops_grd, grd_und, grd_tf, ops_mv, ops_pick, ops_bin, ops_fld, ops_load, ev_t, ev_c, put_get, opv_mk, put_box_same, vpick, vbin, vbinI, vfld, vload, takeV, takeB, V.cells, List.length_cons, List.length_nil, List.getElem?_cons_zero, and_true, true_and, Nat.reduceEqDiff, Nat.zero_add, Nat.add_zero, ↓reduceIte, vret, rvAll, rvVal, resv_1, eq_self, put_box_ne (Nat.ne_of_lt hbc), decide_eq_true c1]
    exact ⟨_, _, Wk.refl _, fin, by simp [ltK, c1], rfl⟩
  by_cases c2 : x.1 = y.1
  · by_cases c3 : y.2 < x.2
    · simp (config := {maxSteps := 3000000}) only [run_ret, at_code_n, at_fin_r, ops_nil, ops_grd, grd_tt, grd_ff, ops_mv, ops_pick, ops_bin, ops_fld, ops_load, ev_t, put_get, opv_mk, put_box_same, vpick, vbin, vbinI, vfld, vload, takeV, takeB, V.cells, List.length_cons, List.length_nil, List.getElem?_cons_zero, List.getElem?_cons_succ, and_true, true_and, Nat.reduceEqDiff, Nat.zero_add, Nat.add_zero, ↓reduceIte, vret, rvAll, rvVal, resv_1, eq_self, Bool.false_eq_true, put_box_ne (Nat.ne_of_lt hbc), decide_eq_false c1, decide_eq_true c2, decide_eq_true c3]
      exact ⟨_, _, Wk.refl _, fin, by simp [ltK, c2, c3], rfl⟩
    · simp (config := {maxSteps := 3000000}) only [run_ret, at_code_n, at_fin_r, ops_nil, ops_grd, grd_tt, grd_ff, ops_mv, ops_pick, ops_bin, ops_fld, ops_load, ev_t, put_get, opv_mk, put_box_same, vpick, vbin, vbinI, vfld, vload, takeV, takeB, V.cells, List.length_cons, List.length_nil, List.getElem?_cons_zero, List.getElem?_cons_succ, and_true, true_and, Nat.reduceEqDiff, Nat.zero_add, Nat.add_zero, ↓reduceIte, vret, rvAll, rvVal, resv_1, eq_self, Bool.false_eq_true, put_box_ne (Nat.ne_of_lt hbc), decide_eq_false c1, decide_eq_true c2, decide_eq_false c3]
      exact ⟨_, _, Wk.refl _, fin, by simp [ltK, c2, c3], rfl⟩
  · have c2' : ¬ y.1 = x.1 := fun e => c2 e.symm
    simp (config := {maxSteps := 3000000}) only [run_ret, at_code_n, at_fin_r, ops_nil, ops_grd, grd_ff, grd_ft, ops_mv, ops_pick, ops_bin, ops_fld, ops_load, ev_t, ev_c, put_get, opv_mk, put_box_same, vpick, vbin, vbinI, vfld, vload, takeV, takeB, V.cells, List.length_cons, List.length_nil, List.getElem?_cons_zero, and_true, true_and, Nat.reduceEqDiff, Nat.zero_add, Nat.add_zero, ↓reduceIte, vret, rvAll, rvVal, resv_1, eq_self, Bool.false_eq_true, put_box_ne (Nat.ne_of_lt hbc), decide_eq_false c1, decide_eq_false c2]
    exact ⟨_, _, Wk.refl _, fin, by simp [ltK, c1, c2'], rfl⟩
set_option maxRecDepth 100000 in
theorem many18_v : VCalls Try.prog 52 [.sl tk (its l), .sc (.int .i64 conn)] st fun v s => v = .sc (.int .i64 (manyT conn l)) ∧ st = s := by
  refine vcalls_enter vc52 (Nat.le_of_ble_eq_true rfl) fun hwf hok => ?_
  show Run _ Vc52.body (.fin (finQ Vc52.res _)) _ _
  unfold Vc52
  have hsm := vlen_max (hok (.sl tk (its l)) (by simp))
  rw [its_len] at hsm
  simp (config := {maxSteps := 3000000}) only [run_reg, run_seq, run_blk, at_code_n, ops_nil, ops_mv, ev_c, opv_mk, true_and]
  refine run_loop [5, 6, 7, 8, 9, 10, 11, 12, 13, 14, 15, 16, 17, 18, 19, 20, 21, 22] (fun B s => ∃ i : Nat, i ≤ l.length ∧ B 6 = .sc (.int .i64 i) ∧ B 5 = .sc (.int .i64 (manyT conn (l.take i))) ∧ s = st) (fun B _ => l.length - vnat (B 6)) rfl ?_ ?_
  · simp (config := {maxSteps := 3000000}) only [put_get, and_true, Nat.reduceEqDiff, ↓reduceIte, eq_self]
    exact ⟨0, by omega, rfl, rfl⟩
  · rintro B s ⟨i, hi, h6, h5, rfl⟩
    by_cases c1 : i < l.length
    · obtain ⟨x, hx⟩ := get_ex c1
      have hct : manyT conn (l.take (i + 1)) = manyT conn (l.take i) + if x.1.1 = conn then 1 else 0 := by
        rw [List.take_add_one, hx]
        unfold manyT
        rw [List.countP_append]
        simp [List.countP_cons]
      have hle : manyT conn (l.take i) ≤ i := Nat.le_trans List.countP_le_length (by simp; omega)
      by_cases cc : x.1.1 = conn
      · rw [if_pos cc] at hct
        simp (config := {maxSteps := 3000000}) only [run_skip, run_reg, run_seq, run_blk, run_cond, if_true, at_code_n, at_blk_n, at_rnd_n, ops_nil, ops_mv, ops_bin, ops_fld, ops_ix, ops_load, ops_len, ev_t, ev_c, put_get, opv_mk, over_get, rel_mk, vnat, args0, List.getD_cons_zero, List.getD_cons_succ, vbin, vbinI, norm, vfld, vlen, vix, vload, takeV, V.cells, List.length_cons, List.length_nil, List.getElem?_cons_zero, and_true, true_and, Nat.reduceEqDiff, Nat.reduceAdd, Int.toNat_natCast, Int.reduceNeg, Nat.zero_add, Nat.add_zero, ↓reduceIte, eq_self, reduceCtorEq, Bool.false_eq_true, List.contains_cons, List.contains_nil, Nat.reduceBEq, Bool.or_false, Bool.or_true, h6, h5, its_get hx, its_len, decide_eq_true (show (i : Int) < (l.length : Int) by omega), decide_eq_true cc]
        repeat (apply And.intro; focus (first | omega | (simp; done)))
        exact ⟨⟨i + 1, by omega, by simp, by rw [hct]; simp⟩, by omega⟩
      · rw [if_neg cc] at hct
        simp (config := {maxSteps := 3000000}) only [run_skip, run_reg, run_seq, run_blk, run_cond, if_true, if_false, at_code_n, at_blk_n, at_rnd_n, ops_nil, ops_mv, ops_bin, ops_fld, ops_ix, ops_load, ops_len, ev_t, ev_c, put_get, opv_mk, over_get, rel_mk, vnat, args0, List.getD_cons_zero, List.getD_cons_succ, vbin, vbinI, norm, vfld, vlen, vix, vload, takeV, V.cells, List.length_cons, List.length_nil, List.getElem?_cons_zero, and_true, true_and, Nat.reduceEqDiff, Nat.reduceAdd, Int.toNat_natCast, Int.reduceNeg, Nat.zero_add, Nat.add_zero, ↓reduceIte, eq_self, reduceCtorEq, Bool.false_eq_true, List.contains_cons, List.contains_nil, Nat.reduceBEq, Bool.or_false, Bool.or_true, h6, h5, its_get hx, its_len, decide_eq_true (show (i : Int) < (l.length : Int) by omega), decide_eq_false cc]
        repeat (apply And.intro; focus (first | omega | (simp; done)))
        exact ⟨⟨i + 1, by omega, by simp, by rw [hct]; simp⟩, by omega⟩
    · obtain rfl : i = l.length := by omega
      rw [List.take_length] at h5
      simp (config := {maxSteps := 3000000}) only [run_reg, run_seq, run_exit, run_ret, run_cond, if_false, at_code_n, at_code_x, at_blk_x, at_rnd_x, at_fin_r, ops_nil, ops_mv, ops_bin, ops_len, ev_t, put_get, opv_mk, over_get, vnat, args0, List.getD_cons_zero, vbin, vbinI, vlen, and_true, true_and, Nat.reduceEqDiff, Int.toNat_natCast, ↓reduceIte, vret, rvAll, rvVal, resv_1, decide_false, Int.lt_irrefl, eq_self, reduceCtorEq, Bool.false_eq_true, List.contains_cons, List.contains_nil, Nat.reduceBEq, Bool.or_false, Bool.or_true, h6, h5, its_len]
      exact ⟨_, _, Wk.refl _, hwf.weak, rfl, rfl⟩
/-- What find answers. -/
def FindQ (k : Key) (l : List It) (v : V) : Prop := ∃ (i : Nat) (B : Bool), PosK k l i ∧ (B = true ↔ ∃ p, l[i]? = some p ∧ p.1 = k) ∧ v = .tup [.sc (.int .i64 i), .sc (.bool B)]
set_option maxRecDepth 100000 in
set_option maxHeartbeats 4000000 in
theorem find18_v {k : Key} : VCalls Try.prog 83 [.sl tk (its l), .agg [.sc (.int .i64 k.1), .sc (.int .u16 k.2)]] st fun v s => FindQ k l v ∧ st = s := by
  refine vcalls_enter vc83 (Nat.le_of_ble_eq_true rfl) fun hwf hok => ?_
  show Run _ Vc83.body (.fin (finQ Vc83.res _)) _ _
  unfold Vc83
  have hsm := vlen_max (hok (.sl tk (its l)) (by simp))
  rw [its_len] at hsm
  simp (config := {maxSteps := 3000000}) only [run_reg, run_seq, run_blk, at_code_n, ops_nil, ops_mv, ops_box, ev_t, ev_c, opv_mk, Bx, args0, List.getD_cons_zero, List.getD_cons_succ, V.cells, ptrV, obsOk, List.length_cons, List.length_nil, true_and, Nat.reduceAdd, Nat.zero_add, ne_eq, not_false_eq_true, reduceCtorEq]
  intro b hb
  refine run_loop [6, 7, 8, 9, 10, 11, 12, 13, 14, 15, 16, 17, 18, 19, 20, 21] (fun B s => ∃ i : Nat, i ≤ l.length ∧ B 6 = .sc (.int .i64 i) ∧ (∀ (j : Nat) (p : It), j < i → l[j]? = some p → ltK p.1 k = true) ∧ s = st.put b [.sc (.int .i64 k.1), .sc (.int .u16 k.2)]) (fun B _ => l.length - vnat (B 6)) rfl ?_ ?_
  · simp (config := {maxSteps := 3000000}) only [put_get, and_true, ↓reduceIte, eq_self]
    exact ⟨0, by omega, rfl, fun j p hj => by omega⟩
  · rintro B s ⟨i, hi, h6, hlo, rfl⟩
    by_cases c1 : i < l.length
    · obtain ⟨x, hx⟩ := get_ex c1
      simp (config := {maxSteps := 3000000}) only [run_reg, run_seq, ops_grd, grd_tt, ops_mv, ops_bin, ops_fld, ops_ix, ops_load, ops_len, ops_call, ev_t, put_get, opv_mk, over_get, vnat, put_box_same, args0, List.getD_cons_zero, vbin, vbinI, vfld, vlen, vix, vload, takeV, takeB, mono_two, V.cells, List.map_cons, List.map_nil, List.length_cons, List.length_nil, List.take_succ_cons, List.take_zero, List.drop_zero, List.take_nil, and_true, true_and, Nat.reduceEqDiff, Nat.reduceAdd, Nat.reduceLeDiff, Int.toNat_natCast, Nat.zero_add, Nat.add_zero, ↓reduceIte, eq_self, reduceCtorEq, Bool.false_eq_true, List.contains_cons, List.contains_nil, Nat.reduceBEq, Bool.or_false, h6, its_get hx, its_len, decide_eq_true (show (i : Int) < (l.length : Int) by omega)]
      repeat (apply And.intro; focus (first | omega | (simp; done)))
      refine Cal.mk (behind_v (x := k) (y := x.1)) ?_
      rintro _ _ ⟨rfl, rfl⟩ -
      cases c2 : ltK x.1 k
      · have hP : PosK k l i := ⟨hi, hlo, fun p hp => by rw [hx] at hp; cases hp; exact c2⟩
        by_cases c3 : x.1 = k
        · simp (config := {maxSteps := 3000000}) only [run_reg, run_seq, run_exit, run_ret, run_cond, if_false, at_code_n, at_code_x, at_blk_x, at_rnd_x, at_fin_r, ops_nil, ops_grd, grd_tt, ops_mv, ops_pick, ops_bin, ops_eqs, veqs, ops_fld, ops_ix, ops_load, ops_len, ev_t, put_get, opv_mk, over_get, put_box_same, args0, List.getD_cons_zero, vpick, vbin, vbinI, vfld, vlen, vix, vload, takeV, takeB, mono_two, fitsV, V.cells, obsOk, List.map_cons, List.map_nil, List.length_cons, List.length_nil, List.take_succ_cons, List.take_zero, List.drop_zero, List.take_nil, and_true, true_and, Nat.reduceEqDiff, Nat.reduceAdd, Nat.reduceLeDiff, Int.toNat_natCast, Nat.zero_add, Nat.add_zero, ↓reduceIte, vret, rvAll, rvVal, resv_2, eq_self, reduceCtorEq, Bool.false_eq_true, List.contains_cons, List.contains_nil, Nat.reduceBEq, Bool.or_false, h6, its_get hx, its_len, decide_eq_true (show (i : Int) < (l.length : Int) by omega), fitsV, eqV, decide_eq_true (show x.1.1 = k.1 by rw [c3]), decide_eq_true (show x.1.2 = k.2 by rw [c3]), Bool.and_self]
          repeat (apply And.intro; focus (first | omega | (simp; done)))
          exact ⟨_, _, Wk.refl _, weak_put hwf.weak hb, ⟨i, true, hP, ⟨fun _ => ⟨x, hx, c3⟩, fun _ => rfl⟩, rfl⟩, rfl⟩
        · have hne : (decide (x.1.1 = k.1) && (decide (x.1.2 = k.2) && true)) = false := by
            cases e : (decide (x.1.1 = k.1) && (decide (x.1.2 = k.2) && true)) with
            | false => rfl
            | true =>
              simp only [Bool.and_eq_true, decide_eq_true_eq, and_true] at e
              exact absurd (Prod.ext e.1 e.2) c3
          simp (config := {maxSteps := 3000000}) only [run_reg, run_seq, run_exit, run_ret, run_cond, if_false, at_code_n, at_code_x, at_blk_x, at_rnd_x, at_fin_r, ops_nil, ops_grd, grd_tt, ops_mv, ops_pick, ops_bin, ops_eqs, veqs, ops_fld, ops_ix, ops_load, ops_len, ev_t, put_get, opv_mk, over_get, put_box_same, args0, List.getD_cons_zero, vpick, vbin, vbinI, vfld, vlen, vix, vload, takeV, takeB, mono_two, fitsV, V.cells, obsOk, List.map_cons, List.map_nil, List.length_cons, List.length_nil, List.take_succ_cons, List.take_zero, List.drop_zero, List.take_nil, and_true, true_and, Nat.reduceEqDiff, Nat.reduceAdd, Nat.reduceLeDiff, Int.toNat_natCast, Nat.zero_add, Nat.add_zero, ↓reduceIte, vret, rvAll, rvVal, resv_2, eq_self, reduceCtorEq, Bool.false_eq_true, List.contains_cons, List.contains_nil, Nat.reduceBEq, Bool.or_false, h6, its_get hx, its_len, decide_eq_true (show (i : Int) < (l.length : Int) by omega), fitsV, eqV, hne]
          repeat (apply And.intro; focus (first | omega | (simp; done)))
          exact ⟨_, _, Wk.refl _, weak_put hwf.weak hb, ⟨i, false, hP, ⟨fun h => (by cases h), fun ⟨p, hp, e⟩ => (by rw [hx] at hp; cases hp; exact absurd e c3)⟩, rfl⟩, rfl⟩
      · simp (config := {maxSteps := 3000000}) only [run_skip, run_reg, run_blk, run_cond, if_true, at_code_n, at_blk_n, at_rnd_n, ops_nil, ops_mv, ops_pick, ops_bin, ev_t, ev_c, put_get, opv_mk, over_get, rel_mk, vpick, vbin, vbinI, norm, obsOk, and_true, true_and, Nat.reduceEqDiff, Int.reduceNeg, ↓reduceIte, eq_self, List.contains_cons, List.contains_nil, Nat.reduceBEq, Bool.or_false, h6]
        repeat (apply And.intro; focus (first | omega | (simp; done)))
        refine ⟨⟨i + 1, by omega, by simp, fun j p hj hp => ?_⟩, by omega⟩
        by_cases e : j = i
        · subst e; rw [hx] at hp; cases hp; exact c2
        · exact hlo j p (by omega) hp
    · have hno : l[i]? = none := List.getElem?_eq_none (by omega)
      simp (config := {maxSteps := 3000000}) only [run_reg, run_seq, run_exit, run_ret, run_cond, if_false, at_code_n, at_code_x, at_blk_x, at_rnd_x, at_fin_r, ops_nil, ops_grd, grd_ft, ops_mv, ops_pick, ops_bin, ops_len, ev_t, ev_c, put_get, opv_mk, over_get, vnat, args0, List.getD_cons_zero, vpick, vbin, vbinI, vlen, vload, takeV, takeB, V.cells, List.map_cons, List.map_nil, and_true, true_and, Nat.reduceEqDiff, Int.toNat_natCast, ↓reduceIte, vret, rvAll, rvVal, resv_2, eq_self, reduceCtorEq, Bool.false_eq_true, List.contains_cons, List.contains_nil, Nat.reduceBEq, Bool.or_false, h6, its_len, decide_eq_false (show ¬ (i : Int) < (l.length : Int) by omega)]
      exact ⟨_, _, Wk.refl _, weak_put hwf.weak hb, ⟨i, false, ⟨hi, hlo, fun p hp => (by rw [hno] at hp; cases hp)⟩, ⟨fun h => (by cases h), fun ⟨p, hp, _⟩ => (by rw [hno] at hp; cases hp)⟩, rfl⟩, rfl⟩
set_option maxRecDepth 100000 in
theorem of1_v {t : Nat} (ht : st.box t = some [.sc (.int .i64 conn)]) {k : Key} : VCalls Try.prog 93 [.agg [(kval k).1, (kval k).2], .sc (.pointer (some ⟨t, 0, none⟩))] st fun v s => v = .sc (.bool (decide (k.1 ≠ conn))) ∧ st = s := by
  refine vcalls_enter vc93 (Nat.le_of_ble_eq_true rfl) fun hwf hok => ?_
  show Run _ Vc93.body (.fin (finQ Vc93.res _)) _ _
  unfold Vc93
  simp (config := {maxSteps := 3000000}) only [run_reg, run_seq, at_code_n, ops_nil, ops_mv, ops_fld, ops_load, ops_box, ev_t, ev_c, put_get, opv_mk, Bx, put_box_same, args0, List.getD_cons_zero, List.getD_cons_succ, vfld, vload, takeV, takeB, V.cells, ptrV, obsOk, List.length_cons, List.length_nil, List.getElem?_cons_zero, true_and, Nat.reduceEqDiff, Nat.reduceAdd, Nat.zero_add, Nat.add_zero, ↓reduceIte, ne_eq, not_false_eq_true, eq_self, reduceCtorEq, kval]
  intro b hb
  have tb : t ≠ b := by have := hwf.lt.box t _ ht; omega
  simp (config := {maxSteps := 3000000}) only [run_ret, at_code_n, at_fin_r, ops_nil, ops_mv, ops_bin, ev_t, put_get, opv_mk, vbin, vbinI, List.length_cons, List.length_nil, List.getElem?_cons_zero, and_true, true_and, Nat.reduceEqDiff, Nat.zero_add, ↓reduceIte, vret, rvAll, rvVal, resv_1, ne_eq, eq_self, put_box_ne tb, ht]
  exact ⟨_, _, Wk.refl _, weak_put hwf.weak hb, rfl, rfl⟩
theorem delOf {t : Nat} : DelF Try.prog 93 t [.sc (.int .i64 conn)] kval (fun k : Key => decide (k.1 ≠ conn)) := ⟨fun st ht k => of1_v ht, by kernel_rfl⟩
set_option maxRecDepth 100000 in
set_option maxHeartbeats 4000000 in
theorem tblOf_v (h : TblB st b mb most T es c) (hS : T.length ≤ 1000) : VCalls Try.prog 55 [ptrV b, .sc (.int .i64 conn)] st fun r s =>
    ∃ (ob : Nat) (M : List Key) (sp : List V), M.Perm (T.map (·.1)) ∧ M.Pairwise (fun x y => ltK y x = false) ∧ r = dataV ob (M.filter fun k => !decide (k.1 ≠ conn)).length T.length ∧ RBC kval st s ob T.length (M.filter fun k => !decide (k.1 ≠ conn)) sp := by
  refine vcalls_enter vc55 (Nat.le_of_ble_eq_true rfl) fun hwf hok => ?_
  show Run _ Vc55.body (.fin (finQ Vc55.res _)) _ _
  unfold Vc55
  have hlt := hwf.lt
  have hms := hlt.box mb _ h.mbox
  have hbs := hlt.box b _ h.box
  simp (config := {maxSteps := 3000000}) only [run_reg, run_seq, at_code_n, ops_nil, ops_mv, ops_box, ops_call, ev_t, ev_c, put_get, opv_mk, Bx, args0, List.getD_cons_zero, List.getD_cons_succ, V.cells, ptrV, obsOk, List.map_cons, List.map_nil, List.length_cons, List.length_nil, true_and, Nat.zero_add, ↓reduceIte, ne_eq, not_false_eq_true, eq_self, reduceCtorEq]
  intro t ht
  have h2 := h.put (cs := [.sc (.int .i64 conn)]) (show b ≠ t by omega) (show mb ≠ t by omega)
  refine Cal.mk (tblKeys_v h2 hS) ?_
  rintro _ s1 ⟨ob, M, sp, m1, m2, rfl, R⟩ -
  have hts := (R.weak.box t _ put_box_same).1
  have hto : t ≠ ob := by have := R.fresh; simp only [put_sz] at this; omega
  simp (config := {maxSteps := 3000000}) only [ops_call, ev_t, put_get, opv_mk, vmfn, allSc, ops_mfn, obsOk, List.map_cons, List.map_nil, Option.map_some, true_and, Nat.reduceEqDiff, ↓reduceIte, eq_self]
  have hMl : M.length = T.length := by rw [m1.length_eq]; simp
  have cc := deleteK_v (st := s1) (L := M) (sp := sp) (cap := T.length) delOf hts hto R.box R.mono (by omega) (by omega) R.len
  rw [dataV, clV] at cc
  refine Cal.mk cc ?_
  rintro _ _ ⟨sp', q1, q2, rfl, rfl⟩ -
  simp (config := {maxSteps := 3000000}) only [run_ret, at_code_n, at_fin_r, ops_nil, ops_mv, ev_t, put_get, opv_mk, obsOk, and_true, true_and, ↓reduceIte, vret, rvAll, rvVal, resv_1, ne_eq, eq_self]
  have hw : st.weak (s1.put ob (rowc kval (M.filter fun k => !decide (k.1 ≠ conn)) sp')) := weak_put (weak_tr (weak_put hwf.weak ht) R.weak) (by have := R.fresh; simp only [put_sz] at this; omega)
  exact ⟨_, _, Wk.refl _, R.lt.put.weak, ob, M, sp', m1, m2, rfl, ⟨put_box_same, q1, q2, R.max, hw, R.lt.put, by have := R.fresh; simp only [put_sz] at this; omega⟩⟩
end
end Go.Proofs.Ytlngegoamfklgaa
