/- A table of numbers under keys: contracts. -/
import Derived.Test.YtlngegoamfklgaaVTbl1
import Derived.Test.YtlngegoamfklgaaVRowC
import Derived.Test.YtlngegoamfklgaaVMp
namespace Go.Proofs.Ytlngegoamfklgaa
open Go

def ival (x : Int) : V := .sc (.int .i64 x)
theorem keyV_eq (a b : Key) : eqV (keyV a).cells (keyV b).cells = decide (a = b) := by
  simp only [keyV, V.cells, eqV, Bool.and_true]
  rw [Bool.eq_iff_iff]
  simp only [Bool.and_eq_true, decide_eq_true_eq]
  exact ⟨fun h => Prod.ext h.1 h.2, fun h => by rw [h]; exact ⟨rfl, rfl⟩⟩
structure TblB (s : St) (b mb : Nat) (most : Int) (T : List (Key × Int)) (es : List (V × V × Nat)) (c : Nat) : Prop where
  box : s.box b = some [.sc (.map (some mb)), .sc (.int .i64 most)]
  mbox : s.box mb = some [.mp true [.int .i64, .int .u16] es c]
  mp : Mp keyV ival es c T
  bm : b ≠ mb
theorem TblB.find {s : St} {b mb c : Nat} {most : Int} {T : List (Key × Int)} {es : List (V × V × Nat)} (h : TblB s b mb most T es c) (k : Key) : mfind (.agg [.sc (.int .i64 k.1), .sc (.int .u16 k.2)]) es = (aget k T).map ival := Mp.find keyV_eq h.mp k
/-- How many a peer has. -/
def manyT (conn : Int) (T : List (Key × Int)) : Nat := T.countP fun p => decide (p.1.1 = conn)
def connAt (conn : Int) (T : List (Key × Int)) (i : Nat) : Bool := match T[i]? with | some p => decide (p.1.1 = conn) | none => false
theorem range_at {α : Type} (T : List α) (d : α) : T = (List.range T.length).map fun i => (T[i]?).getD d :=
  List.ext_getElem (by simp) fun i h1 h2 => by simp [h1]
theorem many_perm {conn : Int} {T : List (Key × Int)} {ix : List Nat} (h : ix.Perm (List.range T.length)) : ix.countP (connAt conn T) = manyT conn T := by
  rw [h.countP_eq]
  unfold manyT
  have e := range_at T ((0, 0), 0)
  have e2 : T.countP (fun p => decide (p.1.1 = conn)) = ((List.range T.length).map fun i => (T[i]?).getD ((0, 0), 0)).countP (fun p => decide (p.1.1 = conn)) := by rw [← e]
  rw [e2, List.countP_map]
  refine List.countP_congr fun i hi => ?_
  have hl := List.mem_range.1 hi
  simp [connAt, hl]
section
variable {st : St} {b mb c : Nat} {most conn : Int} {T : List (Key × Int)} {es : List (V × V × Nat)}
set_option maxRecDepth 100000 in
theorem tblNew_v : VCalls Try.prog 48 [.sc (.int .i64 most)] st fun v s => ∃ b mb, v = ptrV b ∧ TblB s b mb most [] [] 0 ∧ st.weak s ∧ s.Lt ∧ st.sz ≤ b ∧ st.sz ≤ mb := by
  refine vcalls_enter vc48 (Nat.le_of_ble_eq_true rfl) fun hwf hok => ?_
  show Run _ Vc48.body (.fin (finQ Vc48.res _)) _ _
  unfold Vc48
  have hlt := hwf.lt
  simp (config := {maxSteps := 3000000}) only [run_reg, run_seq, run_ret, at_code_n, at_fin_r, ops_nil, ops_mv, ops_bld, ops_box, ev_t, ev_c, put_get, opv_mk, Bx, vbld, put_sz, args0, List.getD_cons_zero, ops_mkm, fillV, splice, V.cells, ptrV, obsOk, List.map_cons, List.map_nil, List.length_cons, List.length_nil, List.take_succ_cons, List.take_zero, List.drop_succ_cons, List.drop_zero, List.cons_append, List.nil_append, List.append_nil, List.drop_nil, and_true, true_and, Nat.reduceEqDiff, Nat.reduceAdd, Nat.reduceLT, Nat.reduceLeDiff, Nat.reduceLT, Nat.zero_add, ↓reduceIte, vret, rvAll, rvVal, resv_1, ne_eq, not_false_eq_true, eq_self, reduceCtorEq]
  intro mb hmb b hb
  have hmb2 : mb < b := by omega
  have hb2 : st.sz ≤ b := by omega
  clear hb
  exact ⟨_, _, Wk.refl _, hlt.put.put.weak, b, mb, rfl, ⟨put_box_same, by rw [put_box_ne (by omega), put_box_same], .nil, by omega⟩, weak_put (weak_put hwf.weak hmb) hb2, hlt.put.put, hb2, hmb⟩
set_option maxRecDepth 100000 in
theorem tblLen_v (h : TblB st b mb most T es c) : VCalls Try.prog 50 [ptrV b] st fun v s => v = .sc (.int .i64 T.length) ∧ st = s := by
  refine vcalls_enter vc50 (Nat.le_of_ble_eq_true rfl) fun hwf hok => ?_
  show Run _ Vc50.body (.fin (finQ Vc50.res _)) _ _
  unfold Vc50
  simp (config := {maxSteps := 3000000}) only [run_reg, run_seq, run_ret, at_code_n, at_fin_r, ops_nil, ops_mv, ops_fld, ops_load, ops_nilck, ev_t, ev_c, put_get, opv_mk, args0, List.getD_cons_zero, vfld, vnil, vload, takeV, takeB, vmlen, ops_mlen, V.cells, ptrV, List.length_cons, List.length_nil, List.getElem?_cons_zero, and_true, true_and, Nat.zero_add, Nat.add_zero, ↓reduceIte, vret, rvAll, rvVal, resv_1, eq_self, reduceCtorEq, h.box, h.mbox, h.mp.len]
  exact ⟨_, _, Wk.refl _, hwf.weak, rfl, rfl⟩
set_option maxRecDepth 100000 in
set_option maxHeartbeats 4000000 in
theorem tblMany_v (h : TblB st b mb most T es c) (hT : T.length ≤ 1000) : VCalls Try.prog 51 [ptrV b, .sc (.int .i64 conn)] st fun v s => v = .sc (.int .i64 (manyT conn T)) ∧ st = s := by
  refine vcalls_enter vc51 (Nat.le_of_ble_eq_true rfl) fun hwf hok => ?_
  show Run _ Vc51.body (.fin (finQ Vc51.res _)) _ _
  unfold Vc51
  have hlt := hwf.lt
  have hms := hlt.box mb _ h.mbox
  simp (config := {maxSteps := 3000000}) only [run_reg, run_seq, run_blk, at_code_n, ops_nil, ops_mv, ops_fld, ops_load, ops_nilck, ev_t, ev_c, put_get, opv_mk, args0, List.getD_cons_zero, vfld, vnil, vload, takeV, takeB, ops_rng, rng_map, rgb_some, V.cells, ptrV, obsOk, List.length_cons, List.length_nil, List.getElem?_cons_zero, true_and, Nat.zero_add, Nat.add_zero, ↓reduceIte, eq_self, reduceCtorEq, h.box, h.mbox]
  intro r hr
  refine run_loop [5, 6, 12, 13, 14, 15, 16, 17, 18, 19, 20, 21] (fun B s => ∃ (seen ix : List Nat) (last : Nat), B 5 = .sc (.int .i64 (ix.countP (connAt conn T))) ∧ st.weak s ∧ s.Lt ∧ s.box r = some [.it (some mb) c seen last] ∧ c ≤ last ∧ Going es seen ix)
    (fun B s => match s.box r with | some [.it _ _ seen _] => es.length - seen.length | _ => 0) rfl ?_ ?_
  · exact ⟨[], [], c, rfl, weak_put hwf.weak hr, hlt.put, put_box_same, Nat.le_refl _, .nil⟩
  · rintro B s ⟨seen, ix, last, h5, hw, hl, hit, hcl, hg⟩
    simp (config := {maxSteps := 3000000}) only [run_reg, run_seq, ev_t, put_get, over_get, ops_nxt, ↓reduceIte, eq_self, Bool.false_eq_true, List.contains_cons, List.contains_nil, Nat.reduceBEq, Bool.or_false]
    have hbox := (hw.box mb _ h.mbox).1
    refine Nxt.mk (m := mb) hit hbox h.mp.lt hcl ?_ ?_
    · intro hall
      have hp := hg.perm h.mp hall
      simp (config := {maxSteps := 3000000}) only [run_reg, run_seq, run_exit, run_ret, run_cond, if_false, at_code_n, at_code_x, at_blk_x, at_rnd_x, at_fin_r, ops_nil, ops_mv, ops_ext, ev_t, put_get, opv_mk, over_get, vext, obsOk, List.getElem?_cons_zero, and_true, true_and, Nat.reduceEqDiff, ↓reduceIte, vret, rvAll, rvVal, resv_1, eq_self, List.contains_cons, List.contains_nil, Nat.reduceBEq, Bool.or_false, h5]
      exact ⟨_, _, Wk.refl _, hw, by rw [many_perm hp], rfl⟩
    · intro e he hns
      obtain ⟨i, p, hni, hei, hp, hek, hev, hg'⟩ := hg.step h.mp he hns
      have hent := h.mp.ent he (seen := seen)
      have hname : e.1 = .agg [.sc (.int .i64 p.1.1), .sc (.int .u16 p.1.2)] := hek
      have nr : mb ≠ r := by omega
      have hle : ix.countP (connAt conn T) ≤ ix.length := List.countP_le_length
      have hil := hg'.len
      have h2 := h.mp.len
      rw [List.length_append] at hil
      simp only [List.length_cons, List.length_nil] at hil
      simp (config := {maxSteps := 3000000}) only [run_skip, run_reg, run_seq, run_blk, run_cond, if_true, at_code_n, ops_nil, ops_mv, ops_bin, ops_fld, ops_load, ops_ext, ops_alc, ops_store, ev_t, put_get, put_none, opv_mk, stb_some, sto_ptr, over_get, Stp, put_box_same, put_sz, put_put, args0, List.getD_cons_zero, List.getD_cons_succ, vbin, vbinI, vfld, vext, vload, takeV, takeB, mono_two, vent, ops_ent, splice, V.cells, ptrV, obsOk, List.length_cons, List.length_nil, List.getElem?_cons_zero, List.take_zero, List.drop_succ_cons, List.nil_append, List.append_nil, List.drop_nil, true_and, Nat.reduceEqDiff, Nat.reduceAdd, Nat.reduceLT, Nat.reduceLeDiff, Nat.reduceLT, Nat.zero_add, Nat.add_zero, ↓reduceIte, eq_self, Bool.false_eq_true, List.contains_cons, List.contains_nil, Nat.reduceBEq, Bool.or_false, hbox, hent, hname, put_box_ne nr]
      intro v hv
      have hcnt : (ix ++ [i]).countP (connAt conn T) = ix.countP (connAt conn T) + if p.1.1 = conn then 1 else 0 := by
        rw [List.countP_append, List.countP_singleton]
        simp only [connAt, hp, decide_eq_true_eq]
      have rv : r ≠ v := by have := hl.box r _ hit; omega
      have sv : st.sz ≤ v := by have := hw.sz; omega
      have hmeas : es.length - (seen ++ [e.2.2]).length < es.length - seen.length := by
        have := hg'.seenLen
        have := hg.seenLen
        simp only [List.length_append, List.length_cons, List.length_nil] at *
        omega
      by_cases cc : p.1.1 = conn
      · rw [if_pos cc] at hcnt
        simp (config := {maxSteps := 3000000}) only [run_reg, if_true, at_blk_n, at_rnd_n, ops_nil, ops_mv, ops_bin, ev_t, ev_c, put_get, opv_mk, over_get, rel_mk, vbin, vbinI, norm, true_and, Nat.reduceEqDiff, Int.reduceNeg, ↓reduceIte, eq_self, List.contains_cons, List.contains_nil, Nat.reduceBEq, Bool.or_false, h5, decide_eq_true cc]
        repeat (apply And.intro; focus (first | omega | (simp; done)))
        exact ⟨⟨seen ++ [e.2.2], ix ++ [i], c, by rw [hcnt]; simp, weak_put (weak_put hw hr) sv, hl.put.put, by rw [put_box_ne rv, put_box_same], Nat.le_refl _, hg'⟩, by rw [put_box_ne rv, put_box_same, hit]; exact hmeas⟩
      · rw [if_neg cc] at hcnt
        simp (config := {maxSteps := 3000000}) only [run_skip, if_false, at_blk_n, at_rnd_n, put_get, over_get, rel_mk, Nat.reduceEqDiff, ↓reduceIte, eq_self, List.contains_cons, List.contains_nil, Nat.reduceBEq, Bool.or_false, h5, decide_eq_false cc]
        repeat (apply And.intro; focus (first | omega | (simp; done)))
        exact ⟨⟨seen ++ [e.2.2], ix ++ [i], c, by rw [hcnt]; simp, weak_put (weak_put hw hr) sv, hl.put.put, by rw [put_box_ne rv, put_box_same], Nat.le_refl _, hg'⟩, by rw [put_box_ne rv, put_box_same, hit]; exact hmeas⟩
set_option maxRecDepth 100000 in
theorem tblGet_v (h : TblB st b mb most T es c) {k : Key} : VCalls Try.prog 136 [ptrV b, .agg [.sc (.int .i64 k.1), .sc (.int .u16 k.2)]] st fun v s => v = .tup [.sc (.int .i64 ((aget k T).getD 0)), .sc (.bool (aget k T).isSome)] ∧ st = s := by
  refine vcalls_enter vc136 (Nat.le_of_ble_eq_true rfl) fun hwf hok => ?_
  show Run _ Vc136.body (.fin (finQ Vc136.res _)) _ _
  unfold Vc136
  have hlt := hwf.lt
  have hms := hlt.box mb _ h.mbox
  have hbs := hlt.box b _ h.box
  simp (config := {maxSteps := 3000000}) only [run_reg, run_seq, at_code_n, ops_nil, ops_mv, ops_fld, ops_load, ops_nilck, ops_box, ev_t, ev_c, put_get, opv_mk, Bx, args0, List.getD_cons_zero, List.getD_cons_succ, vfld, vnil, vload, takeV, takeB, V.cells, ptrV, obsOk, List.length_cons, List.length_nil, true_and, Nat.reduceAdd, Nat.zero_add, Nat.add_zero, ↓reduceIte, ne_eq, not_false_eq_true, eq_self, reduceCtorEq]
  intro v hv
  have nm : mb ≠ v := by omega
  have nb : b ≠ v := by omega
  cases hg : aget k T with
  | none =>
    simp (config := {maxSteps := 3000000}) only [run_reg, run_seq, run_ret, at_code_n, at_fin_r, ops_nil, ops_mv, ops_load, ops_ext, ev_t, put_get, opv_mk, put_box_same, args0, vext, vload, takeV, takeB, mono_two, vmlk, kOk, fitsV, ops_mlk, V.cells, List.map_cons, List.map_nil, List.length_cons, List.length_nil, List.getElem?_cons_zero, List.getElem?_cons_succ, List.take_succ_cons, List.drop_zero, List.take_nil, Option.map_none, and_true, true_and, Nat.reduceEqDiff, Nat.reduceAdd, Nat.reduceLeDiff, Nat.zero_add, ↓reduceIte, vret, rvAll, rvVal, resv_2, eq_self, put_box_ne nm, put_box_ne nb, h.box, h.mbox, h.find, hg, Option.isSome_none, Option.getD_none, Option.map_none]
    exact ⟨_, _, Wk.refl _, weak_put hwf.weak hv, by simp, rfl⟩
  | some x =>
    simp (config := {maxSteps := 3000000}) only [run_reg, run_seq, run_ret, at_code_n, at_fin_r, ops_nil, ops_mv, ops_load, ops_ext, ev_t, put_get, opv_mk, put_box_same, args0, vext, vload, takeV, takeB, mono_two, vmlk, kOk, fitsV, ops_mlk, V.cells, List.map_cons, List.map_nil, List.length_cons, List.length_nil, List.getElem?_cons_zero, List.getElem?_cons_succ, List.take_succ_cons, List.drop_zero, List.take_nil, Option.map_some, and_true, true_and, Nat.reduceEqDiff, Nat.reduceAdd, Nat.reduceLeDiff, Nat.zero_add, ↓reduceIte, vret, rvAll, rvVal, resv_2, eq_self, put_box_ne nm, put_box_ne nb, h.box, h.mbox, h.find, hg, Option.isSome_some, Option.getD_some, Option.map_some, ival]
    exact ⟨_, _, Wk.refl _, weak_put hwf.weak hv, by simp, rfl⟩
theorem TblB.put {s : St} (h : TblB s b mb most T es c) {d : Nat} {cs : List V} (h1 : b ≠ d) (h2 : mb ≠ d) : TblB (s.put d cs) b mb most T es c := ⟨by rw [put_box_ne h1]; exact h.box, by rw [put_box_ne h2]; exact h.mbox, h.mp, h.bm⟩
/-- What Put answers. -/
def PutQ (st : St) (mb : Nat) (most : Int) (T : List (Key × Int)) (es : List (V × V × Nat)) (c : Nat) (k : Key) (x : Int) (v : V) (s : St) : Prop :=
  (((aget k T).isSome = true ∨ most ≤ manyT k.1 T) ∧ v = .sc (.bool false) ∧ st = s) ∨
    (aget k T = none ∧ ¬ most ≤ manyT k.1 T ∧ v = .sc (.bool true) ∧ s = st.put mb [.mp true [.int .i64, .int .u16] (mset (keyV k) (ival x) c es) (mclk es (keyV k) c)])
set_option maxRecDepth 100000 in
theorem tblPut_v (h : TblB st b mb most T es c) (hT : T.length ≤ 1000) {k : Key} {x : Int} : VCalls Try.prog 84 [ptrV b, .agg [.sc (.int .i64 k.1), .sc (.int .u16 k.2)], .sc (.int .i64 x)] st (PutQ st mb most T es c k x) := by
  refine vcalls_enter vc84 (Nat.le_of_ble_eq_true rfl) fun hwf hok => ?_
  show Run _ Vc84.body (.fin (finQ Vc84.res _)) _ _
  unfold Vc84
  have hlt := hwf.lt
  have hms := hlt.box mb _ h.mbox
  have hbs := hlt.box b _ h.box
  simp (config := {maxSteps := 3000000}) only [run_reg, run_seq, at_code_n, ops_nil, ops_mv, ops_fld, ops_load, ops_nilck, ops_box, ev_t, ev_c, put_get, opv_mk, Bx, args0, List.getD_cons_zero, List.getD_cons_succ, vfld, vnil, vload, takeV, takeB, V.cells, ptrV, obsOk, List.length_cons, List.length_nil, true_and, Nat.reduceAdd, Nat.zero_add, Nat.add_zero, ↓reduceIte, ne_eq, not_false_eq_true, eq_self, reduceCtorEq]
  intro v hv
  have nm : mb ≠ v := by omega
  have nb : b ≠ v := by omega
  have h2 := h.put (cs := [.sc (.int .i64 k.1), .sc (.int .u16 k.2)]) nb nm
  cases hg : aget k T with
  | some y =>
    simp (config := {maxSteps := 3000000}) only [run_reg, run_seq, run_ret, run_cond, if_true, at_code_n, at_code_r, at_fin_r, ops_nil, ops_grd, grd_tf, ops_mv, ops_pick, ops_load, ops_ext, ev_t, ev_c, put_get, opv_mk, put_box_same, vpick, vext, vload, takeV, takeB, mono_two, vmlk, kOk, fitsV, ops_mlk, List.length_cons, List.length_nil, List.getElem?_cons_zero, List.getElem?_cons_succ, List.take_succ_cons, List.drop_zero, List.take_nil, Option.map_some, and_true, true_and, Nat.reduceEqDiff, Nat.reduceAdd, Nat.reduceLeDiff, Nat.zero_add, ↓reduceIte, vret, rvAll, rvVal, resv_1, eq_self, put_box_ne nm, put_box_ne nb, h.box, h.mbox, h.find, hg, Option.isSome_some, Option.getD_some, Option.map_some, ival]
    exact ⟨_, _, Wk.refl _, weak_put hwf.weak hv, .inl ⟨.inl (by rw [hg]; rfl), rfl, rfl⟩⟩
  | none =>
    simp (config := {maxSteps := 3000000}) only [run_reg, run_seq, at_code_n, ops_nil, ops_grd, grd_ff, ops_mv, ops_fld, ops_load, ops_nilck, ops_ext, ops_call, ev_t, put_get, opv_mk, put_box_same, args0, List.getD_cons_zero, vfld, vnil, vext, vload, takeV, takeB, mono_two, vmlk, kOk, fitsV, ops_mlk, V.cells, List.map_cons, List.map_nil, List.length_cons, List.length_nil, List.getElem?_cons_zero, List.getElem?_cons_succ, List.take_succ_cons, List.drop_zero, List.take_nil, Option.map_none, and_true, true_and, Nat.reduceEqDiff, Nat.reduceAdd, Nat.reduceLeDiff, Nat.zero_add, Nat.add_zero, ↓reduceIte, eq_self, reduceCtorEq, put_box_ne nm, put_box_ne nb, h.box, h.mbox, h.find, hg, Option.isSome_none, Option.getD_none, Option.map_none]
    refine Cal.mk (tblMany_v h2 hT) ?_
    rintro _ _ ⟨rfl, rfl⟩ -
    by_cases cm : most ≤ (manyT k.1 T : Int)
    · simp (config := {maxSteps := 3000000}) only [run_reg, run_seq, run_ret, run_cond, if_true, at_code_n, at_code_r, at_fin_r, ops_nil, ops_grd, grd_ff, ops_mv, ops_pick, ops_bin, ev_t, ev_c, put_get, opv_mk, vpick, vbin, vbinI, vload, takeV, takeB, V.cells, obsOk, List.length_cons, List.length_nil, List.getElem?_cons_zero, List.getElem?_cons_succ, and_true, true_and, Nat.reduceEqDiff, Nat.zero_add, ↓reduceIte, vret, rvAll, rvVal, resv_1, eq_self, Bool.false_eq_true, put_box_ne nb, h.box, decide_eq_true cm]
      exact ⟨_, _, Wk.refl _, weak_put hwf.weak hv, .inl ⟨.inr cm, rfl, rfl⟩⟩
    · have vm : v ≠ mb := nm.symm
      simp (config := {maxSteps := 3000000}) only [run_skip, run_reg, run_seq, run_ret, run_cond, if_false, at_code_n, at_fin_r, ops_nil, ops_grd, grd_ff, ops_mv, ops_pick, ops_bin, ops_fld, ops_load, ops_nilck, ev_t, ev_c, put_get, put_none, opv_mk, Stp, put_box_same, args0, List.getD_cons_zero, List.getD_cons_succ, vpick, vbin, vbinI, vfld, vnil, vload, takeV, takeB, mono_two, kOk, fitsV, ops_mup, mup_map, mub_some, V.cells, obsOk, List.length_cons, List.length_nil, List.getElem?_cons_zero, List.getElem?_cons_succ, List.take_succ_cons, List.drop_zero, List.take_nil, and_true, true_and, Nat.reduceEqDiff, Nat.reduceAdd, Nat.reduceLeDiff, Nat.zero_add, Nat.add_zero, ↓reduceIte, vret, rvAll, rvVal, resv_1, eq_self, reduceCtorEq, Bool.false_eq_true, put_box_ne nm, put_box_ne nb, h.box, h.mbox, decide_eq_false cm]
      exact ⟨_, _, Wk.refl _, weak_both (weak_put hwf.weak hv), .inr ⟨hg, cm, rfl, rfl⟩⟩
set_option maxRecDepth 100000 in
theorem tblDrop_v (h : TblB st b mb most T es c) {k : Key} : VCalls Try.prog 85 [ptrV b, .agg [.sc (.int .i64 k.1), .sc (.int .u16 k.2)]] st fun v s =>
    v = .sc (.bool (aget k T).isSome) ∧ s = st.put mb [.mp true [.int .i64, .int .u16] (mdel (keyV k) es) c] := by
  refine vcalls_enter vc85 (Nat.le_of_ble_eq_true rfl) fun hwf hok => ?_
  show Run _ Vc85.body (.fin (finQ Vc85.res _)) _ _
  unfold Vc85
  have hlt := hwf.lt
  have hms := hlt.box mb _ h.mbox
  have hbs := hlt.box b _ h.box
  simp (config := {maxSteps := 3000000}) only [run_reg, run_seq, at_code_n, ops_nil, ops_mv, ops_fld, ops_load, ops_nilck, ops_box, ev_t, ev_c, put_get, opv_mk, Bx, args0, List.getD_cons_zero, List.getD_cons_succ, vfld, vnil, vload, takeV, takeB, V.cells, ptrV, obsOk, List.length_cons, List.length_nil, true_and, Nat.reduceAdd, Nat.zero_add, Nat.add_zero, ↓reduceIte, ne_eq, not_false_eq_true, eq_self, reduceCtorEq]
  intro v hv
  have nm : mb ≠ v := by omega
  have nb : b ≠ v := by omega
  cases hg : aget k T with
  | some y =>
    simp (config := {maxSteps := 3000000}) only [run_reg, run_seq, run_ret, at_code_n, at_fin_r, ops_nil, ops_mv, ops_fld, ops_load, ops_nilck, ops_ext, ev_t, put_get, put_none, opv_mk, put_box_same, args0, List.getD_cons_zero, vfld, vnil, vext, vload, takeV, takeB, mono_two, vmlk, kOk, fitsV, ops_mlk, ops_mdel, mdl_map, mdb_some, V.cells, obsOk, List.length_cons, List.length_nil, List.getElem?_cons_zero, List.getElem?_cons_succ, List.take_succ_cons, List.drop_zero, List.take_nil, Option.map_some, and_true, true_and, Nat.reduceEqDiff, Nat.reduceAdd, Nat.reduceLeDiff, Nat.zero_add, Nat.add_zero, ↓reduceIte, vret, rvAll, rvVal, resv_1, eq_self, reduceCtorEq, put_box_ne nm, put_box_ne nb, h.box, h.mbox, h.find, hg, Option.isSome_some, Option.getD_some, Option.map_some, ival]
    exact ⟨_, _, Wk.refl _, weak_both (weak_put hwf.weak hv), rfl, rfl⟩
  | none =>
    simp (config := {maxSteps := 3000000}) only [run_reg, run_seq, run_ret, at_code_n, at_fin_r, ops_nil, ops_mv, ops_fld, ops_load, ops_nilck, ops_ext, ev_t, put_get, put_none, opv_mk, put_box_same, args0, List.getD_cons_zero, vfld, vnil, vext, vload, takeV, takeB, mono_two, vmlk, kOk, fitsV, ops_mlk, ops_mdel, mdl_map, mdb_some, V.cells, obsOk, List.length_cons, List.length_nil, List.getElem?_cons_zero, List.getElem?_cons_succ, List.take_succ_cons, List.drop_zero, List.take_nil, Option.map_none, and_true, true_and, Nat.reduceEqDiff, Nat.reduceAdd, Nat.reduceLeDiff, Nat.zero_add, Nat.add_zero, ↓reduceIte, vret, rvAll, rvVal, resv_1, eq_self, reduceCtorEq, put_box_ne nm, put_box_ne nb, h.box, h.mbox, h.find, hg, Option.isSome_none, Option.getD_none, Option.map_none]
    exact ⟨_, _, Wk.refl _, weak_both (weak_put hwf.weak hv), rfl, rfl⟩
end
end Go.Proofs.Ytlngegoamfklgaa
