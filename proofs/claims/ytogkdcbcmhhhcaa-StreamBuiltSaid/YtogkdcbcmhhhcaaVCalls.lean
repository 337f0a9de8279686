/- Package calls: contracts. -/
import Derived.Test.YtogkdcbcmhhhcaaVMsg2
namespace Go.Proofs.Ytogkdcbcmhhhcaa
open Go Go.RowKit

/-- A control message, part by part. -/
structure M9 where
  ty : Int
  n0 : Int
  n1 : Int
  n2 : Int
  n3 : Int
  n4 : Int
  n5 : Int
  n6 : Int
  n7 : Int
  n8 : Int
  t0 : ByteArray
  t1 : ByteArray
  t2 : ByteArray
def M9.cells (m : M9) : List V := [.sc (.int .i64 m.ty), .sc (.int .u32 m.n0), .sc (.int .u32 m.n1), .sc (.int .u32 m.n2), .sc (.int .u32 m.n3), .sc (.int .u32 m.n4), .sc (.int .u32 m.n5), .sc (.int .u32 m.n6), .sc (.int .u32 m.n7), .sc (.int .u32 m.n8), .sc (.string m.t0), .sc (.string m.t1), .sc (.string m.t2)]
def M9.v (m : M9) : V := .agg m.cells
structure M9.Ok (m : M9) : Prop where
  n0 : 0 ≤ m.n0 ∧ m.n0 < 4294967296
  n1 : 0 ≤ m.n1 ∧ m.n1 < 4294967296
  n2 : 0 ≤ m.n2 ∧ m.n2 < 4294967296
  n3 : 0 ≤ m.n3 ∧ m.n3 < 4294967296
  n6 : 0 ≤ m.n6 ∧ m.n6 < 4294967296
  n7 : 0 ≤ m.n7 ∧ m.n7 < 4294967296
/-- A message of numbers alone. -/
def mN (ty a b c d e f g h i : Int) : M9 := ⟨ty, a, b, c, d, e, f, g, h, i, e0, e0, e0⟩
/-- A call. -/
structure CL where
  state : Int
  mine : Int
  theirs : Int
  known : Bool
  window : Int
  delay : Int
  errors : Int
  a0 : Int
  a1 : Int
def CL.cells (c : CL) : List V := [.sc (.int .i64 c.state), .sc (.int .u16 c.mine), .sc (.int .u16 c.theirs), .sc (.bool c.known), .sc (.int .i64 c.window), .sc (.int .i64 c.delay), .sc (.int .i64 c.errors), .sc (.int .u32 c.a0), .sc (.int .u32 c.a1)]
structure CL.Ok (c : CL) : Prop where
  mine : 0 ≤ c.mine ∧ c.mine < 65536
  theirs : 0 ≤ c.theirs ∧ c.theirs < 65536
def endM (c : CL) (res : Int) : M9 := mN 13 c.mine (res % 256) 0 0 0 0 0 0 0
def hangS (c : CL) : CL := if c.state = 4 ∨ c.state = 5 then c else { c with state := 4 }
def hangM (c : CL) : List M9 := if c.state = 4 ∨ c.state = 5 then [] else [mN 12 c.mine 0 0 0 0 0 0 0 0]
def lateS (c : CL) : CL := if c.state = 1 ∨ c.state = 2 ∨ c.state = 4 then { c with state := 5 } else c
def lateM (c : CL) : List M9 := if c.state = 1 ∨ c.state = 2 then [endM c 1] else []
def infoM (c : CL) : List M9 := if c.state = 3 then [mN 15 c.theirs 4294967295 4294967295 0 0 0 0 0 0] else []
def replyS (c : CL) (m : M9) : CL := if m.n2 ≠ 1 then { c with state := 5 } else { c with state := 3, theirs := m.n0 % 65536, known := true, window := m.n6, delay := m.n7 }
def takeS (c : CL) (m : M9) : CL :=
  if m.ty = 11 ∧ c.state = 1 then { c with state := 3, window := m.n2, delay := m.n3 }
  else if m.ty = 8 ∧ c.state = 2 then replyS c m
  else if m.ty = 12 ∧ c.state ≠ 5 then { c with state := 5 }
  else if m.ty = 13 then { c with state := 5 }
  else if m.ty = 14 ∧ c.state = 3 then { c with errors := c.errors + 1 }
  else if m.ty = 15 ∧ c.state = 3 then { c with a0 := m.n1, a1 := m.n2 }
  else c
def takeM (c : CL) (m : M9) : List M9 := if m.ty = 12 ∧ c.state ≠ 5 then [endM c 4] else []
theorem nc9 : ((9 : Nat) : Int) = 9 := rfl
theorem put_self {st : St} {b : Nat} {cs : List V} (hb : st.box b = some cs) (h : b < st.sz) : st.put b cs = st := by
  obtain ⟨bx, ow, sz⟩ := st
  simp only [St.put] at *
  congr 1
  · funext x
    split
    · rename_i e; subst e; exact hb.symm
    · rfl
  · omega
/-- Numbers of 32 bits. -/
def U32 (l : List Int) : Prop := ∀ x ∈ l, 0 ≤ x ∧ x < 4294967296
theorem U32.one {a : Int} (ha : 0 ≤ a ∧ a < 4294967296) : U32 [a] := fun x hx => by simp at hx; subst hx; exact ha
theorem U32.cons {a : Int} {l : List Int} (ha : 0 ≤ a ∧ a < 4294967296) (h : U32 l) : U32 (a :: l) := fun x hx => by
  rcases List.mem_cons.1 hx with rfl | hx
  · exact ha
  · exact h x hx
theorem of_at {tk : Tk} {st : St} {t : Int} {l : List Int} {m : M9} (hl : U32 l) (hll : l.length ≤ 1000000) (e : (ofM t l).v = m.v) : VCalls Try.prog 37 [.sc (.int .i64 t), .sl tk (us l)] st fun r st' => r = m.v ∧ st = st' := by
  rw [← e]
  exact Of_v hl hll t
section
variable {st : St} {b : Nat} {c : CL}
theorem State_v (hb : st.box b = some c.cells) : VCalls Try.prog 20 [ptrV b] st fun r st' => r = .sc (.int .i64 c.state) ∧ st = st' := by
  refine vcalls_enter vc20 (Nat.le_of_ble_eq_true rfl) fun hwf hok => ?_
  show Run _ Vc20.body (.fin (finQ Vc20.res _)) _ _
  unfold Vc20
  simp (config := {maxSteps := 3000000}) only [run_reg, run_seq, run_ret, at_code_n, at_fin_r, ops_nil, ops_mv, ops_fld, ops_load, ops_nilck, ev_t, ev_c, put_get, opv_mk, args0, List.getD_cons_zero, vfld, vnil, vload, takeV, V.cells, ptrV, List.length_cons, List.length_nil, List.getElem?_cons_zero, and_true, true_and, Nat.zero_add, Nat.add_zero, ↓reduceIte, vret, rvAll, rvVal, resv_1, eq_self, reduceCtorEq, hb, CL.cells]
  exact ⟨_, _, Wk.refl _, hwf.weak, rfl, rfl⟩
theorem Theirs_v (hb : st.box b = some c.cells) : VCalls Try.prog 58 [ptrV b] st fun r st' => r = .tup [.sc (.int .u16 c.theirs), .sc (.bool c.known)] ∧ st = st' := by
  refine vcalls_enter vc58 (Nat.le_of_ble_eq_true rfl) fun hwf hok => ?_
  show Run _ Vc58.body (.fin (finQ Vc58.res _)) _ _
  unfold Vc58
  simp (config := {maxSteps := 3000000}) only [run_reg, run_seq, run_ret, at_code_n, at_fin_r, ops_nil, ops_mv, ops_fld, ops_load, ops_nilck, ev_t, ev_c, put_get, opv_mk, args0, List.getD_cons_zero, vfld, vnil, vload, takeV, V.cells, ptrV, List.map_cons, List.map_nil, List.length_cons, List.length_nil, List.getElem?_cons_zero, List.getElem?_cons_succ, and_true, true_and, Nat.reduceEqDiff, Nat.zero_add, ↓reduceIte, vret, rvAll, rvVal, resv_2, eq_self, reduceCtorEq, hb, CL.cells]
  exact ⟨_, _, Wk.refl _, hwf.weak, rfl, rfl⟩
theorem end_v (hb : st.box b = some c.cells) (hc : c.Ok) {res : Int} (h0 : 0 ≤ res) (h1 : res < 4294967296) : VCalls Try.prog 59 [ptrV b, .sc (.int .u32 res)] st fun r st' => r = (endM c res).v ∧ st' = st.put b { c with state := 5 }.cells := by
  obtain ⟨state, mine, theirs, known, window, delay, errors, a0, a1⟩ := c
  have hm := hc.mine
  simp only at hm
  have e1 : mine % 4294967296 = mine := by omega
  have e2 : mine % 65536 = mine := by omega
  refine vcalls_enter vc59 (Nat.le_of_ble_eq_true rfl) fun hwf hok => ?_
  show Run _ Vc59.body (.fin (finQ Vc59.res _)) _ _
  unfold Vc59
  have hbs := hwf.box _ _ hb
  simp (config := {maxSteps := 3000000}) only [run_reg, run_seq, at_code_n, ops_nil, ops_mv, ops_fld, ops_nilck, ops_alc, ops_store, ev_t, ev_c, put_get, opv_mk, sto_ptr, args0, List.getD_cons_zero, vfld, vnil, V.cells, ptrV, obsOk, true_and, Nat.add_zero, ↓reduceIte, eq_self, reduceCtorEq, CL.cells]
  intro d hd
  have hbd : b < d := by omega
  simp (config := {maxSteps := 3000000}) only [run_reg, run_seq, at_code_n, ops_nil, ops_mv, ops_conv, ops_fld, ops_load, ops_nilck, ops_bslo, ev_t, ev_c, put_get, put_none, opv_mk, stb_some, Stp, put_box_same, args0, List.getD_cons_zero, List.getD_cons_succ, vconv, norm, vfld, vnil, vload, takeV, splice, V.cells, strip, strip1, obsOk, List.map_cons, List.map_nil, List.length_cons, List.length_nil, List.getElem?_cons_zero, List.getElem?_cons_succ, List.take_zero, List.drop_succ_cons, List.drop_zero, List.cons_append, List.nil_append, true_and, Nat.reduceEqDiff, Nat.reduceAdd, Nat.reduceLT, Nat.reduceLeDiff, Nat.reduceLT, Nat.zero_add, ↓reduceIte, eq_self, reduceCtorEq, hb, CL.cells, put_box_ne (Nat.ne_of_lt hbd), e1]
  refine Bo.own (by simp [allLen, V.cells]) ?_
  intro g hg
  simp (config := {maxSteps := 3000000}) only [ops_call, ev_t, ev_c, put_get, obsOk, List.map_cons, List.map_nil, List.length_cons, List.length_nil, true_and, Nat.reduceAdd, Nat.zero_add, ↓reduceIte, eq_self]
  refine Cal.mk (of_at (l := [mine, res, 0, 0]) (m := endM ⟨state, mine, theirs, known, window, delay, errors, a0, a1⟩ res) (U32.cons (by omega) (U32.cons ⟨h0, h1⟩ (U32.cons (by omega) (U32.one (by omega))))) (by simp) ?_) ?_
  · have : (ofM 13 [mine, res, 0, 0]).v = (mN 13 (mine % 65536) (res % 256) 0 0 0 0 0 0 0).v := rfl
    rw [this, e2]; rfl
  rintro _ _ ⟨rfl, rfl⟩ -
  simp (config := {maxSteps := 3000000}) only [run_ret, at_code_n, at_fin_r, ops_nil, ops_store, ev_t, put_get, put_none, stb_some, sto_ptr, Stp, put_box_same, use_box, vload, takeV, splice, V.cells, obsOk, List.length_cons, List.length_nil, List.take_succ_cons, List.take_zero, List.drop_succ_cons, List.drop_zero, List.nil_append, List.append_nil, List.take_nil, List.drop_nil, and_true, true_and, Nat.reduceEqDiff, Nat.reduceAdd, Nat.reduceLT, Nat.reduceLeDiff, Nat.reduceLT, Nat.zero_add, ↓reduceIte, vret, rvAll, rvVal, resv_1, eq_self, M9.v, M9.cells, endM, mN, put_box_ne (Nat.ne_of_gt hbd)]
  exact ⟨_, _, Wk.refl _, weak_put (weak_use (weak_both (weak_put hwf.weak hd)) (by simp only [put_sz] at *; omega)) (by simp only [put_sz] at *; omega), rfl, rfl⟩
theorem Hang_v (hb : st.box b = some c.cells) (hc : c.Ok) : VCalls Try.prog 21 [ptrV b] st fun r st' => r = .sl .no ((hangM c).map M9.v) ∧ st' = st.put b (hangS c).cells := by
  obtain ⟨state, mine, theirs, known, window, delay, errors, a0, a1⟩ := c
  have hm := hc.mine
  simp only at hm
  have e1 : mine % 4294967296 = mine := by omega
  have e2 : mine % 65536 = mine := by omega
  refine vcalls_enter vc21 (Nat.le_of_ble_eq_true rfl) fun hwf hok => ?_
  show Run _ Vc21.body (.fin (finQ Vc21.res _)) _ _
  unfold Vc21
  have hbs := hwf.box _ _ hb
  have hps := put_self hb hbs
  by_cases c4 : state = 4
  · rw [hangM, if_pos (.inl c4), hangS, if_pos (.inl c4), hps]
    simp (config := {maxSteps := 3000000}) only [run_reg, run_seq, run_ret, run_cond, if_true, at_code_n, at_code_r, at_fin_r, ops_nil, ops_grd, grd_tf, ops_mv, ops_pick, ops_bin, ops_fld, ops_load, ops_nilck, ev_t, ev_c, put_get, opv_mk, args0, List.getD_cons_zero, vpick, vbin, vbinI, vfld, vnil, vload, takeV, V.cells, ptrV, List.map_nil, List.length_cons, List.length_nil, List.getElem?_cons_zero, and_true, true_and, Nat.reduceEqDiff, Nat.zero_add, Nat.add_zero, ↓reduceIte, vret, rvAll, rvVal, resv_1, eq_self, reduceCtorEq, hb, CL.cells, decide_eq_true c4]
    exact ⟨_, _, Wk.no, hwf.weak, rfl, rfl⟩
  by_cases c5 : state = 5
  · rw [hangM, if_pos (.inr c5), hangS, if_pos (.inr c5), hps]
    simp (config := {maxSteps := 3000000}) only [run_reg, run_seq, run_ret, run_cond, if_true, at_code_n, at_code_r, at_fin_r, ops_nil, ops_grd, grd_ff, ops_mv, ops_pick, ops_bin, ops_fld, ops_load, ops_nilck, ev_t, ev_c, put_get, opv_mk, args0, List.getD_cons_zero, vpick, vbin, vbinI, vfld, vnil, vload, takeV, V.cells, ptrV, List.map_nil, List.length_cons, List.length_nil, List.getElem?_cons_zero, and_true, true_and, Nat.reduceEqDiff, Nat.zero_add, Nat.add_zero, ↓reduceIte, vret, rvAll, rvVal, resv_1, eq_self, reduceCtorEq, Bool.false_eq_true, hb, CL.cells, decide_eq_false c4, decide_eq_true c5]
    exact ⟨_, _, Wk.no, hwf.weak, rfl, rfl⟩
  have hn : ¬ (state = 4 ∨ state = 5) := by omega
  rw [hangM, if_neg hn, hangS, if_neg hn]
  simp (config := {maxSteps := 3000000}) only [run_skip, run_reg, run_seq, run_cond, if_false, at_code_n, ops_nil, ops_grd, grd_ff, ops_mv, ops_pick, ops_bin, ops_conv, ops_fld, ops_load, ops_nilck, ops_bslo, ops_store, ev_t, ev_c, put_get, put_none, opv_mk, stb_some, sto_ptr, Stp, put_box_same, args0, List.getD_cons_zero, vpick, vbin, vbinI, vconv, norm, vfld, vnil, vload, takeV, splice, V.cells, strip, strip1, ptrV, obsOk, List.map_cons, List.map_nil, List.length_cons, List.length_nil, List.getElem?_cons_zero, List.getElem?_cons_succ, List.take_zero, List.drop_succ_cons, List.drop_zero, List.cons_append, List.nil_append, true_and, Nat.reduceEqDiff, Nat.reduceAdd, Nat.reduceLT, Nat.reduceLeDiff, Nat.reduceLT, Nat.zero_add, Nat.add_zero, ↓reduceIte, eq_self, reduceCtorEq, Bool.false_eq_true, hb, CL.cells, decide_eq_false c4, decide_eq_false c5, e1]
  refine Bo.own (by simp [allLen, V.cells]) ?_
  intro g hg
  simp (config := {maxSteps := 3000000}) only [ops_call, ev_t, ev_c, put_get, obsOk, List.map_cons, List.map_nil, List.length_cons, List.length_nil, true_and, Nat.zero_add, ↓reduceIte, eq_self]
  refine Cal.mk (of_at (l := [mine]) (m := mN 12 mine 0 0 0 0 0 0 0 0) (U32.one (by omega)) (by simp) ?_) ?_
  · have : (ofM 12 [mine]).v = (mN 12 (mine % 65536) 0 0 0 0 0 0 0 0).v := rfl
    rw [this, e2]
  rintro _ _ ⟨rfl, rfl⟩ -
  simp (config := {maxSteps := 3000000}) only [ops_bslo, ev_t, put_get, strip, strip1, obsOk, List.map_cons, List.map_nil, true_and, ↓reduceIte, eq_self, M9.v, M9.cells, mN]
  refine Bo.own (by simp [allLen, V.cells]) ?_
  intro g2 hg2
  simp (config := {maxSteps := 3000000}) only [run_ret, at_code_n, at_fin_r, ops_nil, ops_mv, ev_t, put_get, opv_mk, obsOk, List.length_cons, List.length_nil, and_true, true_and, Nat.zero_add, ↓reduceIte, vret, rvAll, rvVal, resv_1, eq_self]
  exact ⟨_, _, Wk.no, weak_use (weak_use (weak_both hwf.weak) (by simp only [put_sz, use_sz] at *; omega)) (by simp only [put_sz, use_sz] at *; omega), rfl, rfl⟩
theorem Late_v (hb : st.box b = some c.cells) (hc : c.Ok) : VCalls Try.prog 22 [ptrV b] st fun r st' => r = .sl .no ((lateM c).map M9.v) ∧ st' = st.put b (lateS c).cells := by
  have he := fun st hb => end_v (st := st) (b := b) (c := c) hb hc (res := 1) (by omega) (by omega)
  obtain ⟨state, mine, theirs, known, window, delay, errors, a0, a1⟩ := c
  refine vcalls_enter vc22 (Nat.le_of_ble_eq_true rfl) fun hwf hok => ?_
  show Run _ Vc22.body (.fin (finQ Vc22.res _)) _ _
  unfold Vc22
  have hbs := hwf.box _ _ hb
  have hps := put_self hb hbs
  have he := he st hb
  by_cases c1 : state = 1 ∨ state = 2
  · rw [lateM, if_pos c1, lateS, if_pos (by rcases c1 with h | h; exact .inl h; exact .inr (.inl h))]
    have tail : ∀ (g2 : Nat), (st.put b _).sz ≤ g2 → (st.put b (CL.mk 5 mine theirs known window delay errors a0 a1).cells).weak ((st.put b (CL.mk 5 mine theirs known window delay errors a0 a1).cells).use g2 1) := fun g2 hg2 => weak_use (weak_both hwf.weak) hg2
    rcases c1 with c1 | c1
    · simp (config := {maxSteps := 3000000}) only [run_skip, run_reg, run_seq, run_blk, run_cond, if_true, at_code_n, ops_nil, ops_mv, ops_bin, ops_fld, ops_load, ops_nilck, ops_call, ev_t, ev_c, put_get, opv_mk, args0, List.getD_cons_zero, vbin, vbinI, vfld, vnil, vload, takeV, V.cells, ptrV, List.map_cons, List.map_nil, List.length_cons, List.length_nil, List.getElem?_cons_zero, true_and, Nat.zero_add, Nat.add_zero, ↓reduceIte, eq_self, reduceCtorEq, hb, CL.cells, decide_eq_true c1]
      refine Cal.mk he ?_
      rintro _ _ ⟨rfl, rfl⟩ -
      simp (config := {maxSteps := 3000000}) only [ops_bslo, ev_t, put_get, strip, strip1, obsOk, List.map_cons, List.map_nil, true_and, Int.reduceMod, ↓reduceIte, eq_self, M9.v, M9.cells, mN, endM]
      refine Bo.own (by simp [allLen, V.cells]) ?_
      intro g2 hg2
      simp (config := {maxSteps := 3000000}) only [run_ret, at_code_n, at_code_r, at_blk_r, at_fin_r, ops_nil, ops_mv, ev_t, put_get, opv_mk, obsOk, List.length_cons, List.length_nil, and_true, true_and, Nat.zero_add, ↓reduceIte, vret, rvAll, rvVal, resv_1, eq_self]
      exact ⟨_, _, Wk.no, tail g2 hg2, rfl, rfl⟩
    · simp (config := {maxSteps := 3000000}) only [run_reg, run_seq, run_blk, run_cond, if_true, if_false, at_code_n, ops_nil, ops_mv, ops_bin, ops_fld, ops_load, ops_nilck, ops_call, ev_t, ev_c, put_get, opv_mk, args0, List.getD_cons_zero, vbin, vbinI, vfld, vnil, vload, takeV, V.cells, ptrV, List.map_cons, List.map_nil, List.length_cons, List.length_nil, List.getElem?_cons_zero, true_and, Nat.reduceEqDiff, Nat.zero_add, Nat.add_zero, ↓reduceIte, eq_self, reduceCtorEq, hb, CL.cells, decide_eq_false (show ¬ state = 1 by omega), decide_eq_true c1]
      refine Cal.mk he ?_
      rintro _ _ ⟨rfl, rfl⟩ -
      simp (config := {maxSteps := 3000000}) only [ops_bslo, ev_t, put_get, strip, strip1, obsOk, List.map_cons, List.map_nil, true_and, Int.reduceMod, ↓reduceIte, eq_self, M9.v, M9.cells, mN, endM]
      refine Bo.own (by simp [allLen, V.cells]) ?_
      intro g2 hg2
      simp (config := {maxSteps := 3000000}) only [run_ret, at_code_n, at_code_r, at_blk_r, at_fin_r, ops_nil, ops_mv, ev_t, put_get, opv_mk, obsOk, List.length_cons, List.length_nil, and_true, true_and, Nat.zero_add, ↓reduceIte, vret, rvAll, rvVal, resv_1, eq_self]
      exact ⟨_, _, Wk.no, tail g2 hg2, rfl, rfl⟩
  rw [lateM, if_neg c1]
  by_cases c4 : state = 4
  · rw [lateS, if_pos (.inr (.inr c4))]
    simp (config := {maxSteps := 3000000}) only [run_reg, run_seq, run_blk, run_ret, run_cond, if_true, if_false, at_code_n, at_blk_n, at_fin_r, ops_nil, ops_mv, ops_bin, ops_fld, ops_load, ops_nilck, ops_store, ev_t, ev_c, put_get, put_none, opv_mk, stb_some, sto_ptr, Stp, args0, List.getD_cons_zero, vbin, vbinI, vfld, vnil, vload, takeV, splice, V.cells, ptrV, obsOk, List.map_nil, List.length_cons, List.length_nil, List.getElem?_cons_zero, List.take_zero, List.drop_succ_cons, List.drop_zero, List.cons_append, List.nil_append, and_true, true_and, Nat.reduceEqDiff, Nat.reduceAdd, Nat.reduceLT, Nat.reduceLeDiff, Nat.reduceLT, Nat.zero_add, Nat.add_zero, ↓reduceIte, vret, rvAll, rvVal, resv_1, eq_self, reduceCtorEq, hb, CL.cells, decide_eq_false (show ¬ state = 1 by omega), decide_eq_false (show ¬ state = 2 by omega), decide_eq_true c4]
    exact ⟨_, _, Wk.no, weak_both hwf.weak, rfl, rfl⟩
  · rw [lateS, if_neg (fun h => by rcases h with h | h | h; exact c1 (.inl h); exact c1 (.inr h); exact c4 h), hps]
    simp (config := {maxSteps := 3000000}) only [run_skip, run_reg, run_seq, run_blk, run_ret, run_cond, if_false, at_code_n, at_blk_n, at_fin_r, ops_nil, ops_mv, ops_bin, ops_fld, ops_load, ops_nilck, ev_t, ev_c, put_get, opv_mk, args0, List.getD_cons_zero, vbin, vbinI, vfld, vnil, vload, takeV, V.cells, ptrV, List.map_nil, List.length_cons, List.length_nil, List.getElem?_cons_zero, and_true, true_and, Nat.reduceEqDiff, Nat.zero_add, Nat.add_zero, ↓reduceIte, vret, rvAll, rvVal, resv_1, eq_self, reduceCtorEq, hb, CL.cells, decide_eq_false (show ¬ state = 1 by omega), decide_eq_false (show ¬ state = 2 by omega), decide_eq_false c4]
    exact ⟨_, _, Wk.no, hwf.weak, rfl, rfl⟩
theorem Info_v (hb : st.box b = some c.cells) (hc : c.Ok) : VCalls Try.prog 23 [ptrV b] st fun r st' => r = .sl .no ((infoM c).map M9.v) ∧ st = st' := by
  obtain ⟨state, mine, theirs, known, window, delay, errors, a0, a1⟩ := c
  have hm := hc.theirs
  simp only at hm
  have e1 : theirs % 4294967296 = theirs := by omega
  have e2 : theirs % 65536 = theirs := by omega
  refine vcalls_enter vc23 (Nat.le_of_ble_eq_true rfl) fun hwf hok => ?_
  show Run _ Vc23.body (.fin (finQ Vc23.res _)) _ _
  unfold Vc23
  by_cases c3 : state = 3
  rotate_left
  · rw [infoM, if_neg c3]
    simp (config := {maxSteps := 3000000}) only [run_reg, run_seq, run_ret, run_cond, if_true, at_code_n, at_code_r, at_fin_r, ops_nil, ops_mv, ops_bin, ops_fld, ops_load, ops_nilck, ev_t, ev_c, put_get, opv_mk, args0, List.getD_cons_zero, vbin, vbinI, vfld, vnil, vload, takeV, V.cells, ptrV, List.map_nil, List.length_cons, List.length_nil, List.getElem?_cons_zero, and_true, true_and, Nat.zero_add, Nat.add_zero, ↓reduceIte, vret, rvAll, rvVal, resv_1, ne_eq, eq_self, reduceCtorEq, hb, CL.cells, decide_eq_true c3]
    exact ⟨_, _, Wk.no, hwf.weak, rfl, rfl⟩
  rw [infoM, if_pos c3]
  simp (config := {maxSteps := 3000000}) only [run_skip, run_reg, run_seq, run_cond, if_false, at_code_n, ops_nil, ops_mv, ops_bin, ops_conv, ops_fld, ops_load, ops_nilck, ops_bslo, ev_t, ev_c, put_get, opv_mk, args0, List.getD_cons_zero, vbin, vbinI, vconv, norm, vfld, vnil, vload, takeV, V.cells, strip, strip1, ptrV, List.map_cons, List.map_nil, List.length_cons, List.length_nil, List.getElem?_cons_zero, List.getElem?_cons_succ, true_and, Nat.zero_add, Nat.add_zero, ↓reduceIte, ne_eq, eq_self, reduceCtorEq, hb, CL.cells, decide_eq_false (show ¬ ¬ state = 3 by omega), e1]
  refine Bo.own (by simp [allLen, V.cells]) ?_
  intro g hg
  simp (config := {maxSteps := 3000000}) only [ops_call, ev_t, ev_c, put_get, obsOk, List.map_cons, List.map_nil, List.length_cons, List.length_nil, true_and, Nat.reduceAdd, Nat.zero_add, ↓reduceIte, eq_self]
  refine Cal.mk (of_at (l := [theirs, 4294967295, 4294967295]) (m := mN 15 theirs 4294967295 4294967295 0 0 0 0 0 0) (U32.cons (by omega) (U32.cons (by omega) (U32.one (by omega)))) (by simp) ?_) ?_
  · have : (ofM 15 [theirs, 4294967295, 4294967295]).v = (mN 15 (theirs % 65536) 4294967295 4294967295 0 0 0 0 0 0).v := rfl
    rw [this, e2]
  rintro _ _ ⟨rfl, rfl⟩ -
  simp (config := {maxSteps := 3000000}) only [ops_bslo, ev_t, put_get, strip, strip1, obsOk, List.map_cons, List.map_nil, true_and, ↓reduceIte, eq_self, M9.v, M9.cells, mN]
  refine Bo.own (by simp [allLen, V.cells]) ?_
  intro g2 hg2
  simp (config := {maxSteps := 3000000}) only [run_ret, at_code_n, at_fin_r, ops_nil, ops_mv, ev_t, put_get, opv_mk, obsOk, List.length_cons, List.length_nil, and_true, true_and, Nat.zero_add, ↓reduceIte, vret, rvAll, rvVal, resv_1, eq_self]
  exact ⟨_, _, Wk.no, weak_use (weak_use hwf.weak (by simp only [use_sz] at *; omega)) (by simp only [use_sz] at *; omega), rfl, rfl⟩
theorem reply_v (hb : st.box b = some c.cells) {m : M9} (hm : m.Ok) : VCalls Try.prog 60 [ptrV b, m.v] st fun r st' => st' = st.put b (replyS c m).cells := by
  have k0 := hm.n0
  have k6 := hm.n6
  have k7 := hm.n7
  obtain ⟨state, mine, theirs, known, window, delay, errors, a0, a1⟩ := c
  obtain ⟨ty, n0, n1, n2, n3, n4, n5, n6, n7, n8, t0, t1, t2⟩ := m
  simp only at k0 k6 k7
  refine vcalls_enter vc60 (Nat.le_of_ble_eq_true rfl) fun hwf hok => ?_
  show Run _ Vc60.body (.fin (finQ Vc60.res _)) _ _
  unfold Vc60
  have hbs := hwf.box _ _ hb
  by_cases c1 : n2 = 1
  rotate_left
  · rw [replyS, if_pos c1]
    simp (config := {maxSteps := 3000000}) only [run_reg, run_seq, run_cond, at_code_n, ops_nil, ops_bin, ops_fld, ops_ixa, ops_load, ops_box, ev_t, ev_c, put_get, opv_mk, Bx, put_box_same, args0, List.getD_cons_zero, List.getD_cons_succ, vbin, vbinI, vfld, vixa, vload, takeV, V.cells, ptrV, obsOk, List.length_cons, List.length_nil, List.getElem?_cons_zero, List.getElem?_cons_succ, true_and, Nat.reduceAdd, Int.reduceToNat, Int.reduceLE, Nat.zero_add, Nat.mul_one, ↓reduceIte, ne_eq, not_false_eq_true, eq_self, reduceCtorEq, M9.v, M9.cells, CL.cells]
    intro d hd
    have hbd : b < d := by omega
    simp (config := {maxSteps := 3000000}) only [run_reg, run_seq, run_ret, if_true, at_code_n, at_code_r, at_fin_r, ops_nil, ops_mv, ops_fld, ops_nilck, ops_store, ev_t, ev_c, put_get, put_none, opv_mk, stb_some, sto_ptr, Stp, args0, List.getD_cons_zero, vfld, vnil, splice, V.cells, obsOk, List.length_cons, List.length_nil, List.take_zero, List.drop_succ_cons, List.drop_zero, List.cons_append, List.nil_append, true_and, Nat.reduceAdd, Nat.reduceLT, Nat.reduceLeDiff, Nat.reduceLT, Int.reduceLT, Nat.zero_add, Nat.add_zero, ↓reduceIte, vret, rvAll, eq_self, reduceCtorEq, hb, put_box_ne (Nat.ne_of_lt hbd), nc9, CL.cells, decide_eq_true (p := ¬ n2 = 1) c1]
    exact ⟨_, _, Wk.refl _, weak_both (weak_put hwf.weak hd), rfl⟩
  · rw [replyS, if_neg (by simpa using c1)]
    simp (config := {maxSteps := 3000000}) only [run_reg, run_seq, run_cond, at_code_n, ops_nil, ops_bin, ops_fld, ops_ixa, ops_load, ops_box, ev_t, ev_c, put_get, opv_mk, Bx, put_box_same, args0, List.getD_cons_zero, List.getD_cons_succ, vbin, vbinI, vfld, vixa, vload, takeV, V.cells, ptrV, obsOk, List.length_cons, List.length_nil, List.getElem?_cons_zero, List.getElem?_cons_succ, true_and, Nat.reduceAdd, Int.reduceToNat, Int.reduceLE, Nat.zero_add, Nat.mul_one, ↓reduceIte, ne_eq, not_false_eq_true, eq_self, reduceCtorEq, M9.v, M9.cells, CL.cells]
    intro d hd
    have hbd : b < d := by omega
    simp (config := {maxSteps := 3000000}) only [run_skip, run_reg, run_seq, if_false, at_code_n, at_fin_n, ops_nil, ops_mv, ops_conv, ops_fld, ops_ixa, ops_load, ops_nilck, ops_store, ev_t, ev_c, put_get, put_none, opv_mk, stb_some, sto_ptr, Stp, put_box_same, put_put, args0, List.getD_cons_zero, vconv, norm, vfld, vnil, vixa, vload, takeV, splice, V.cells, obsOk, List.length_cons, List.length_nil, List.getElem?_cons_zero, List.getElem?_cons_succ, List.take_succ_cons, List.take_zero, List.drop_succ_cons, List.drop_zero, List.cons_append, List.nil_append, and_true, true_and, Nat.reduceEqDiff, Nat.reduceAdd, Nat.reduceLT, Nat.reduceLeDiff, Nat.reduceLT, Int.reduceToNat, Int.reduceLE, Int.reduceLT, Int.reduceNeg, Nat.zero_add, Nat.add_zero, Nat.mul_one, ↓reduceIte, vret, rvAll, eq_self, reduceCtorEq, hb, put_box_ne (Nat.ne_of_lt hbd), put_box_ne (Nat.ne_of_gt hbd), nc9, CL.cells, decide_eq_false (show ¬ ¬ n2 = 1 by omega)]
    repeat (apply And.intro; focus (first | omega | (simp; done)))
    exact ⟨_, _, Wk.refl _, weak_both (weak_put hwf.weak hd), rfl⟩
theorem callTake_v (hb : st.box b = some c.cells) (hc : c.Ok) (he0 : 0 ≤ c.errors ∧ c.errors ≤ 1000000) {m : M9} (hm : m.Ok) : VCalls Try.prog 24 [ptrV b, m.v] st fun r st' => r = .sl .no ((takeM c m).map M9.v) ∧ st' = st.put b (takeS c m).cells := by
  have k2 := hm.n2
  have k3 := hm.n3
  have gr := fun (s : St) hs => reply_v (st := s) (b := b) (c := c) hs hm
  have ge := fun (s : St) hs => end_v (st := s) (b := b) (c := c) hs hc (res := 4) (by omega) (by omega)
  generalize hrS : replyS c m = RS at gr
  have hS : takeS c m = if m.ty = 11 ∧ c.state = 1 then { c with state := 3, window := m.n2, delay := m.n3 } else if m.ty = 8 ∧ c.state = 2 then RS else if m.ty = 12 ∧ c.state ≠ 5 then { c with state := 5 } else if m.ty = 13 then { c with state := 5 } else if m.ty = 14 ∧ c.state = 3 then { c with errors := c.errors + 1 } else if m.ty = 15 ∧ c.state = 3 then { c with a0 := m.n1, a1 := m.n2 } else c := by rw [← hrS]; rfl
  have hM : takeM c m = if m.ty = 12 ∧ c.state ≠ 5 then [endM c 4] else [] := rfl
  generalize takeS c m = TS at *
  generalize takeM c m = TM at *
  clear hrS hm
  obtain ⟨state, mine, theirs, known, window, delay, errors, a0, a1⟩ := c
  obtain ⟨ty, n0, n1, n2, n3, n4, n5, n6, n7, n8, t0, t1, t2⟩ := m
  simp only at k2 k3 he0 hS hM
  refine vcalls_enter vc24 (Nat.le_of_ble_eq_true rfl) fun hwf hok => ?_
  show Run _ Vc24.body (.fin (finQ Vc24.res _)) _ _
  unfold Vc24
  have hbs := hwf.box _ _ hb
  have hps := put_self hb hbs
  simp only [M9.v] at gr ge
  simp (config := {maxSteps := 3000000}) only [run_reg, run_seq, run_blk, at_code_n, ops_nil, ops_grd, ops_mv, ops_bin, ops_fld, ops_load, ops_box, ev_t, ev_c, put_get, opv_mk, Bx, put_box_same, args0, List.getD_cons_zero, List.getD_cons_succ, vbin, vbinI, vfld, vload, takeV, V.cells, ptrV, obsOk, List.length_cons, List.length_nil, List.getElem?_cons_zero, true_and, Nat.reduceEqDiff, Nat.reduceAdd, Nat.zero_add, Nat.add_zero, ↓reduceIte, ne_eq, not_false_eq_true, eq_self, reduceCtorEq, M9.v, M9.cells]
  intro d hd
  have hbd : b < d := by omega
  have gr2 := gr (st.put d (M9.mk ty n0 n1 n2 n3 n4 n5 n6 n7 n8 t0 t1 t2).cells) (by rw [put_box_ne (by omega)]; exact hb)
  have ge2 := ge (st.put d (M9.mk ty n0 n1 n2 n3 n4 n5 n6 n7 n8 t0 t1 t2).cells) (by rw [put_box_ne (by omega)]; exact hb)
  clear gr ge
  simp only [M9.cells] at gr2 ge2
  by_cases c1 : ty = 11 ∧ state = 1
  · rw [if_pos c1] at hS
    rw [if_neg (by omega)] at hM
    subst hS hM
    obtain ⟨rfl, rfl⟩ := c1
    simp (config := {maxSteps := 3000000}) only [run_reg, run_seq, run_ret, run_cond, if_true, at_code_n, at_blk_n, at_fin_r, ops_nil, ops_grd, grd_tt, ops_mv, ops_pick, ops_bin, ops_conv, ops_fld, ops_ixa, ops_load, ops_nilck, ops_store, ev_t, ev_c, put_get, put_none, opv_mk, stb_some, sto_ptr, Stp, put_box_same, put_put, args0, List.getD_cons_zero, vpick, vbin, vbinI, vconv, norm, vfld, vnil, vixa, vload, takeV, splice, V.cells, obsOk, List.map_nil, List.length_cons, List.length_nil, List.getElem?_cons_zero, List.getElem?_cons_succ, List.take_succ_cons, List.take_zero, List.drop_succ_cons, List.drop_zero, List.cons_append, List.nil_append, and_true, true_and, Nat.reduceEqDiff, Nat.reduceAdd, Nat.reduceLT, Nat.reduceLeDiff, Nat.reduceLT, Int.reduceToNat, Int.reduceLE, Int.reduceLT, Int.reduceNeg, Nat.zero_add, Nat.add_zero, Nat.mul_one, ↓reduceIte, vret, rvAll, rvVal, resv_1, decide_true, eq_self, reduceCtorEq, hb, put_box_ne (Nat.ne_of_lt hbd), put_box_ne (Nat.ne_of_gt hbd), nc9, CL.cells, List.map_nil]
    repeat (apply And.intro; focus (first | omega | (simp; done)))
    exact ⟨_, _, Wk.no, weak_both (weak_put hwf.weak hd), rfl, rfl⟩
  rw [if_neg c1] at hS
  by_cases c2 : ty = 8 ∧ state = 2
  · rw [if_pos c2] at hS
    rw [if_neg (by omega)] at hM
    subst hS hM
    obtain ⟨rfl, rfl⟩ := c2
    simp (config := {maxSteps := 3000000}) only [run_reg, run_seq, run_cond, if_true, if_false, at_code_n, ops_nil, ops_grd, grd_tt, grd_ft, ops_mv, ops_pick, ops_bin, ops_fld, ops_load, ops_nilck, ops_call, ev_t, ev_c, put_get, opv_mk, put_box_same, args0, List.getD_cons_zero, vpick, vbin, vbinI, vfld, vnil, vload, takeV, V.cells, List.map_cons, List.map_nil, List.length_cons, List.length_nil, List.getElem?_cons_zero, List.take_succ_cons, List.drop_zero, List.take_nil, true_and, Nat.reduceEqDiff, Nat.reduceAdd, Nat.reduceLeDiff, Int.reduceEq, Nat.zero_add, Nat.add_zero, ↓reduceIte, decide_true, decide_false, eq_self, reduceCtorEq, Bool.false_eq_true, hb, put_box_ne (Nat.ne_of_lt hbd), CL.cells, List.map_nil]
    refine Cal.mk gr2 ?_
    rintro _ _ rfl -
    simp (config := {maxSteps := 3000000}) only [run_reg, run_seq, run_ret, at_code_n, at_blk_n, at_fin_r, ops_nil, ops_mv, ev_c, put_get, opv_mk, obsOk, and_true, true_and, ↓reduceIte, vret, rvAll, rvVal, resv_1, eq_self]
    exact ⟨_, _, Wk.no, weak_both (weak_put hwf.weak hd), rfl, rfl⟩
  rw [if_neg c2] at hS
  by_cases c3 : ty = 12 ∧ state ≠ 5
  · rw [if_pos c3] at hS hM
    subst hS hM
    obtain ⟨rfl, c3⟩ := c3
    simp (config := {maxSteps := 3000000}) only [run_reg, run_seq, run_cond, if_true, if_false, at_code_n, ops_nil, ops_grd, grd_tt, grd_ft, ops_mv, ops_pick, ops_bin, ops_fld, ops_load, ops_nilck, ops_call, ev_t, ev_c, put_get, opv_mk, put_box_same, args0, List.getD_cons_zero, vpick, vbin, vbinI, vfld, vnil, vload, takeV, V.cells, List.map_cons, List.map_nil, List.length_cons, List.length_nil, List.getElem?_cons_zero, true_and, Nat.reduceEqDiff, Int.reduceEq, Nat.zero_add, Nat.add_zero, ↓reduceIte, decide_true, decide_false, ne_eq, eq_self, reduceCtorEq, Bool.false_eq_true, hb, put_box_ne (Nat.ne_of_lt hbd), CL.cells, decide_eq_true (p := ¬ state = 5) c3]
    refine Cal.mk ge2 ?_
    rintro _ _ ⟨rfl, rfl⟩ -
    simp (config := {maxSteps := 3000000}) only [ops_bslo, ev_t, put_get, strip, strip1, obsOk, List.map_cons, List.map_nil, true_and, Int.reduceMod, ↓reduceIte, eq_self, M9.v, M9.cells, mN, endM]
    refine Bo.own (by simp [allLen, V.cells]) ?_
    intro g hg
    simp (config := {maxSteps := 3000000}) only [run_ret, at_code_n, at_code_r, at_blk_r, at_fin_r, ops_nil, ops_mv, ev_t, put_get, opv_mk, obsOk, List.length_cons, List.length_nil, and_true, true_and, Nat.zero_add, ↓reduceIte, vret, rvAll, rvVal, resv_1, eq_self]
    exact ⟨_, _, Wk.no, weak_use (weak_both (weak_put hwf.weak hd)) (by simp only [put_sz] at *; omega), rfl, rfl⟩
  rw [if_neg c3] at hS hM
  have c3' : ¬ ty = 12 ∨ state = 5 := by
    by_cases h : ty = 12
    · exact .inr (Classical.byContradiction fun h' => c3 ⟨h, h'⟩)
    · exact .inl h
  -- the tests ahead, decided
  have q1 : ty = 11 → decide (state = 1) = false := fun h => decide_eq_false fun h' => c1 ⟨h, h'⟩
  have q2 : ty = 8 → decide (state = 2) = false := fun h => decide_eq_false fun h' => c2 ⟨h, h'⟩
  subst hM
  by_cases c4 : ty = 13
  · rw [if_pos c4] at hS
    subst hS c4
    simp (config := {maxSteps := 3000000}) only [run_reg, run_seq, run_ret, run_cond, if_true, if_false, at_code_n, at_blk_n, at_fin_r, ops_nil, ops_grd, grd_ft, ops_mv, ops_pick, ops_bin, ops_fld, ops_load, ops_nilck, ops_store, ev_t, ev_c, put_get, put_none, opv_mk, stb_some, sto_ptr, Stp, put_box_same, args0, List.getD_cons_zero, vpick, vbin, vbinI, vfld, vnil, vload, takeV, splice, V.cells, obsOk, List.map_nil, List.length_cons, List.length_nil, List.getElem?_cons_zero, List.take_zero, List.drop_succ_cons, List.drop_zero, List.cons_append, List.nil_append, and_true, true_and, Nat.reduceEqDiff, Nat.reduceAdd, Nat.reduceLT, Nat.reduceLeDiff, Nat.reduceLT, Int.reduceEq, Nat.zero_add, Nat.add_zero, ↓reduceIte, vret, rvAll, rvVal, resv_1, decide_true, decide_false, eq_self, reduceCtorEq, Bool.false_eq_true, hb, put_box_ne (Nat.ne_of_lt hbd), CL.cells, List.map_nil]
    repeat (apply And.intro; focus (first | omega | (simp; done)))
    exact ⟨_, _, Wk.no, weak_both (weak_put hwf.weak hd), rfl, rfl⟩
  rw [if_neg c4] at hS
  by_cases c5 : ty = 14 ∧ state = 3
  · rw [if_pos c5] at hS
    subst hS
    obtain ⟨rfl, rfl⟩ := c5
    simp (config := {maxSteps := 3000000}) only [run_reg, run_seq, run_ret, run_cond, if_true, if_false, at_code_n, at_blk_n, at_fin_r, ops_nil, ops_grd, grd_tt, grd_ft, ops_mv, ops_pick, ops_bin, ops_fld, ops_load, ops_nilck, ops_store, ev_t, ev_c, put_get, put_none, opv_mk, stb_some, sto_ptr, Stp, put_box_same, args0, List.getD_cons_zero, vpick, vbin, vbinI, norm, vfld, vnil, vload, takeV, splice, V.cells, obsOk, List.map_nil, List.length_cons, List.length_nil, List.getElem?_cons_zero, List.getElem?_cons_succ, List.take_succ_cons, List.take_zero, List.drop_succ_cons, List.drop_zero, List.cons_append, List.nil_append, and_true, true_and, Nat.reduceEqDiff, Nat.reduceAdd, Nat.reduceLT, Nat.reduceLeDiff, Nat.reduceLT, Int.reduceNeg, Int.reduceEq, Nat.zero_add, Nat.add_zero, ↓reduceIte, vret, rvAll, rvVal, resv_1, decide_true, decide_false, eq_self, reduceCtorEq, Bool.false_eq_true, hb, put_box_ne (Nat.ne_of_lt hbd), CL.cells, List.map_nil]
    repeat (apply And.intro; focus (first | omega | (simp; done)))
    exact ⟨_, _, Wk.no, weak_both (weak_put hwf.weak hd), rfl, rfl⟩
  rw [if_neg c5] at hS
  by_cases c6 : ty = 15 ∧ state = 3
  · rw [if_pos c6] at hS
    subst hS
    obtain ⟨rfl, rfl⟩ := c6
    simp (config := {maxSteps := 3000000}) only [run_reg, run_seq, run_ret, run_cond, if_true, if_false, at_code_n, at_blk_n, at_fin_r, ops_nil, ops_grd, grd_tt, grd_ft, ops_mv, ops_pick, ops_bin, ops_fld, ops_ixa, ops_load, ops_nilck, ops_bld, ops_store, ev_t, ev_c, put_get, put_none, opv_mk, stb_some, sto_ptr, Stp, vbld, put_box_same, args0, List.getD_cons_zero, vpick, vbin, vbinI, vfld, vnil, vixa, vload, takeV, fillV, splice, V.cells, obsOk, List.map_cons, List.map_nil, List.length_cons, List.length_nil, List.getElem?_cons_zero, List.getElem?_cons_succ, List.take_succ_cons, List.take_zero, List.drop_succ_cons, List.drop_zero, List.cons_append, List.nil_append, List.append_nil, List.drop_nil, and_true, true_and, Nat.reduceEqDiff, Nat.reduceAdd, Nat.reduceLT, Nat.reduceLeDiff, Nat.reduceLT, Int.reduceToNat, Int.reduceLE, Int.reduceLT, Int.reduceEq, Nat.zero_add, Nat.add_zero, Nat.mul_one, ↓reduceIte, vret, rvAll, rvVal, resv_1, decide_true, decide_false, eq_self, reduceCtorEq, Bool.false_eq_true, hb, put_box_ne (Nat.ne_of_lt hbd), nc9, CL.cells, List.map_nil]
    repeat (apply And.intro; focus (first | omega | (simp; done)))
    exact ⟨_, _, Wk.no, weak_both (weak_put hwf.weak hd), rfl, rfl⟩
  rw [if_neg c6] at hS
  subst hS
  rw [hps]
  have q5 : ty = 14 → decide (state = 3) = false := fun h => decide_eq_false fun h' => c5 ⟨h, h'⟩
  have q6 : ty = 15 → decide (state = 3) = false := fun h => decide_eq_false fun h' => c6 ⟨h, h'⟩
  by_cases t1 : ty = 11
  · have q1 := q1 t1
    subst t1
    simp (config := {maxSteps := 3000000}) only [run_skip, run_reg, run_seq, run_ret, run_cond, if_false, at_code_n, at_blk_n, at_fin_r, ops_nil, ops_grd, grd_tt, grd_ft, ops_mv, ops_pick, ops_bin, ops_fld, ops_load, ops_nilck, ev_t, ev_c, put_get, opv_mk, put_box_same, args0, List.getD_cons_zero, vpick, vbin, vbinI, vfld, vnil, vload, takeV, V.cells, List.map_nil, List.length_cons, List.length_nil, List.getElem?_cons_zero, and_true, true_and, Nat.reduceEqDiff, Int.reduceEq, Nat.zero_add, Nat.add_zero, ↓reduceIte, vret, rvAll, rvVal, resv_1, decide_true, decide_false, eq_self, reduceCtorEq, Bool.false_eq_true, hb, put_box_ne (Nat.ne_of_lt hbd), CL.cells, q1, List.map_nil]
    exact ⟨_, _, Wk.no, weak_put hwf.weak hd, rfl, rfl⟩
  by_cases t2' : ty = 8
  · have q2 := q2 t2'
    subst t2'
    simp (config := {maxSteps := 3000000}) only [run_skip, run_reg, run_seq, run_ret, run_cond, if_false, at_code_n, at_blk_n, at_fin_r, ops_nil, ops_grd, grd_tt, grd_ft, ops_mv, ops_pick, ops_bin, ops_fld, ops_load, ops_nilck, ev_t, ev_c, put_get, opv_mk, put_box_same, args0, List.getD_cons_zero, vpick, vbin, vbinI, vfld, vnil, vload, takeV, V.cells, List.map_nil, List.length_cons, List.length_nil, List.getElem?_cons_zero, and_true, true_and, Nat.reduceEqDiff, Int.reduceEq, Nat.zero_add, Nat.add_zero, ↓reduceIte, vret, rvAll, rvVal, resv_1, decide_true, decide_false, eq_self, reduceCtorEq, Bool.false_eq_true, hb, put_box_ne (Nat.ne_of_lt hbd), CL.cells, q2, List.map_nil]
    exact ⟨_, _, Wk.no, weak_put hwf.weak hd, rfl, rfl⟩
  by_cases t3 : ty = 12
  · have q3 : state = 5 := by rcases c3' with h | h; exact absurd t3 h; exact h
    subst t3 q3
    simp (config := {maxSteps := 3000000}) only [run_skip, run_reg, run_seq, run_ret, run_cond, if_false, at_code_n, at_blk_n, at_fin_r, ops_nil, ops_grd, grd_tt, grd_ft, ops_mv, ops_pick, ops_bin, ops_fld, ops_load, ops_nilck, ev_t, ev_c, put_get, opv_mk, put_box_same, args0, List.getD_cons_zero, vpick, vbin, vbinI, vfld, vnil, vload, takeV, V.cells, List.map_nil, List.length_cons, List.length_nil, List.getElem?_cons_zero, and_true, true_and, Nat.reduceEqDiff, Int.reduceEq, Nat.zero_add, Nat.add_zero, ↓reduceIte, vret, rvAll, rvVal, resv_1, decide_true, decide_false, ne_eq, not_true_eq_false, eq_self, reduceCtorEq, Bool.false_eq_true, hb, put_box_ne (Nat.ne_of_lt hbd), CL.cells, List.map_nil]
    exact ⟨_, _, Wk.no, weak_put hwf.weak hd, rfl, rfl⟩
  by_cases t5 : ty = 14
  · have q5 := q5 t5
    subst t5
    simp (config := {maxSteps := 3000000}) only [run_skip, run_reg, run_seq, run_ret, run_cond, if_false, at_code_n, at_blk_n, at_fin_r, ops_nil, ops_grd, grd_tt, grd_ft, ops_mv, ops_pick, ops_bin, ops_fld, ops_load, ops_nilck, ev_t, ev_c, put_get, opv_mk, put_box_same, args0, List.getD_cons_zero, vpick, vbin, vbinI, vfld, vnil, vload, takeV, V.cells, List.map_nil, List.length_cons, List.length_nil, List.getElem?_cons_zero, and_true, true_and, Nat.reduceEqDiff, Int.reduceEq, Nat.zero_add, Nat.add_zero, ↓reduceIte, vret, rvAll, rvVal, resv_1, decide_true, decide_false, eq_self, reduceCtorEq, Bool.false_eq_true, hb, put_box_ne (Nat.ne_of_lt hbd), CL.cells, q5, List.map_nil]
    exact ⟨_, _, Wk.no, weak_put hwf.weak hd, rfl, rfl⟩
  by_cases t6 : ty = 15
  · have q6 := q6 t6
    subst t6
    simp (config := {maxSteps := 3000000}) only [run_skip, run_reg, run_seq, run_ret, run_cond, if_false, at_code_n, at_blk_n, at_fin_r, ops_nil, ops_grd, grd_tt, grd_ft, ops_mv, ops_pick, ops_bin, ops_fld, ops_load, ops_nilck, ev_t, ev_c, put_get, opv_mk, put_box_same, args0, List.getD_cons_zero, vpick, vbin, vbinI, vfld, vnil, vload, takeV, V.cells, List.map_nil, List.length_cons, List.length_nil, List.getElem?_cons_zero, and_true, true_and, Nat.reduceEqDiff, Int.reduceEq, Nat.zero_add, Nat.add_zero, ↓reduceIte, vret, rvAll, rvVal, resv_1, decide_true, decide_false, eq_self, reduceCtorEq, Bool.false_eq_true, hb, put_box_ne (Nat.ne_of_lt hbd), CL.cells, q6, List.map_nil]
    exact ⟨_, _, Wk.no, weak_put hwf.weak hd, rfl, rfl⟩
  simp (config := {maxSteps := 3000000}) only [run_skip, run_reg, run_seq, run_ret, run_cond, if_false, at_code_n, at_blk_n, at_fin_r, ops_nil, ops_grd, grd_ft, ops_mv, ops_pick, ops_bin, ops_fld, ops_load, ev_t, ev_c, put_get, opv_mk, put_box_same, vpick, vbin, vbinI, vfld, vload, takeV, V.cells, List.map_nil, List.length_cons, List.length_nil, List.getElem?_cons_zero, and_true, true_and, Nat.reduceEqDiff, Nat.zero_add, Nat.add_zero, ↓reduceIte, vret, rvAll, rvVal, resv_1, eq_self, Bool.false_eq_true, decide_eq_false t1, decide_eq_false t2', decide_eq_false t3, decide_eq_false c4, decide_eq_false t5, decide_eq_false t6, List.map_nil]
  exact ⟨_, _, Wk.no, weak_put hwf.weak hd, rfl, rfl⟩
theorem weak_putN {s t : St} {d : Nat} {cs : List V} (h : s.weak t) (hd : s.box d = none) : s.weak (t.put d cs) :=
  ⟨fun c ds hc => ⟨by rw [put_box_ne (fun e => by rw [e, hd] at hc; cases hc)]; exact (h.box c ds hc).1, (h.box c ds hc).2⟩, fun g m hg => h.own g m hg, by have := h.sz; simp only [put_sz]; omega⟩
theorem wf_none {st : St} (h : st.Wf) {d : Nat} (hd : st.sz ≤ d) : st.box d = none := by
  cases hb : st.box d with
  | none => rfl
  | some cs => have := h.box d cs hb; omega
def outC (mine : Int) : CL := ⟨2, mine, 0, false, 0, 0, 0, 0, 0⟩
def outM (mine serial window : Int) : M9 := mN 7 mine serial 300 100000000 3 3 (window % 65536) 0 0
theorem Out_v {mine serial window : Int} (h0 : 0 ≤ mine ∧ mine < 65536) (h1 : 0 ≤ serial ∧ serial < 65536) (h2 : 0 ≤ window ∧ window < 65536) : VCalls Try.prog 18 [.sc (.int .u16 mine), .sc (.int .u16 serial), .sc (.int .i64 window)] st fun r st' => ∃ b, st.sz ≤ b ∧ r = .tup [ptrV b, (outM mine serial window).v] ∧ st' = st.put b (outC mine).cells := by
  have e1 : mine % 4294967296 = mine := by omega
  have e2 : serial % 4294967296 = serial := by omega
  have e3 : window % 4294967296 = window := by omega
  have f1 : mine % 65536 = mine := by omega
  have f2 : serial % 65536 = serial := by omega
  refine vcalls_enter vc18 (Nat.le_of_ble_eq_true rfl) fun hwf hok => ?_
  show Run _ Vc18.body (.fin (finQ Vc18.res _)) _ _
  unfold Vc18
  simp (config := {maxSteps := 3000000}) only [run_reg, run_seq, at_code_n, ops_nil, ops_mv, ops_conv, ops_bld, ops_box, ops_alc, ops_bslo, ev_t, ev_c, put_get, opv_mk, Bx, vbld, put_sz, args0, List.getD_cons_zero, List.getD_cons_succ, vconv, norm, fillV, splice, V.cells, strip, strip1, ptrV, obsOk, List.map_cons, List.map_nil, List.length_cons, List.length_nil, List.take_succ_cons, List.take_zero, List.drop_succ_cons, List.drop_zero, List.cons_append, List.nil_append, and_true, true_and, Nat.reduceEqDiff, Nat.reduceAdd, Nat.reduceLT, Nat.reduceLeDiff, Nat.reduceLT, Nat.zero_add, ↓reduceIte, ne_eq, not_false_eq_true, eq_self, reduceCtorEq]
  intro d hd b hb
  obtain ⟨hb1, hdb⟩ : st.sz ≤ b ∧ d < b := by omega
  clear hb
  simp (config := {maxSteps := 3000000}) only [e1, e2, e3]
  refine Bo.own (by simp [allLen, V.cells]) ?_
  intro g hg
  simp (config := {maxSteps := 3000000}) only [ops_call, ev_t, ev_c, put_get, obsOk, List.map_cons, List.map_nil, List.length_cons, List.length_nil, true_and, Nat.reduceAdd, Nat.zero_add, ↓reduceIte, eq_self]
  refine Cal.mk (of_at (l := [mine, serial, 300, 100000000, 3, 3, window, 0, 0]) (m := outM mine serial window) (U32.cons (by omega) (U32.cons (by omega) (U32.cons (by omega) (U32.cons (by omega) (U32.cons (by omega) (U32.cons (by omega) (U32.cons (by omega) (U32.cons (by omega) (U32.one (by omega))))))))))  (by simp) ?_) ?_
  · have : (ofM 7 [mine, serial, 300, 100000000, 3, 3, window, 0, 0]).v = (mN 7 (mine % 65536) (serial % 65536) 300 100000000 3 3 (window % 65536) 0 0).v := by simp [ofM, ofN, layoutL, ofS, isNum, MG.v, MG.cells, M9.v, M9.cells, mN, us, ts]
    rw [this, f1, f2, outM]
  rintro _ _ ⟨rfl, rfl⟩ -
  simp (config := {maxSteps := 3000000}) only [run_ret, at_code_n, at_fin_r, ops_nil, ops_mv, ops_store, ev_t, put_get, put_none, opv_mk, stb_some, sto_ptr, Stp, put_box_same, use_box, args0, vload, takeV, splice, V.cells, obsOk, List.map_cons, List.map_nil, List.length_cons, List.length_nil, List.take_succ_cons, List.take_zero, List.drop_succ_cons, List.drop_zero, List.nil_append, List.append_nil, List.take_nil, List.drop_nil, and_true, true_and, Nat.reduceEqDiff, Nat.reduceAdd, Nat.reduceLT, Nat.reduceLeDiff, Nat.reduceLT, Nat.zero_add, ↓reduceIte, vret, rvAll, rvVal, resv_2, eq_self, M9.v, M9.cells, outM, mN, put_box_ne (Nat.ne_of_lt hdb)]
  refine ⟨_, st.put b (outC mine).cells, Wk.refl _, weak_putN (weak_use (weak_both (weak_put hwf.weak hd)) (by simp only [put_sz] at *; omega)) (by rw [put_box_ne (Nat.ne_of_lt hdb)]; exact wf_none hwf hd), b, hb1, rfl, rfl⟩
def inC (m : M9) (mine : Int) : CL := ⟨1, mine, m.n0 % 65536, true, 0, 0, 0, 0, 0⟩
def inM (m : M9) (mine window : Int) : M9 := mN 10 mine (m.n0 % 65536) 1 0 (window % 65536) 0 0 0 0
theorem In_v {m : M9} (hm : m.Ok) {mine window : Int} (h0 : 0 ≤ mine ∧ mine < 65536) (h2 : 0 ≤ window ∧ window < 65536) : VCalls Try.prog 19 [m.v, .sc (.int .u16 mine), .sc (.int .i64 window)] st fun r st' => ∃ b, st.sz ≤ b ∧ r = .tup [ptrV b, (inM m mine window).v] ∧ st' = st.put b (inC m mine).cells := by
  have k0 := hm.n0
  obtain ⟨ty, n0, n1, n2, n3, n4, n5, n6, n7, n8, t0, t1, t2⟩ := m
  simp only at k0
  have e1 : mine % 4294967296 = mine := by omega
  have e3 : window % 4294967296 = window := by omega
  have f1 : mine % 65536 = mine := by omega
  refine vcalls_enter vc19 (Nat.le_of_ble_eq_true rfl) fun hwf hok => ?_
  show Run _ Vc19.body (.fin (finQ Vc19.res _)) _ _
  unfold Vc19
  simp (config := {maxSteps := 3000000}) only [run_reg, run_seq, at_code_n, ops_nil, ops_mv, ops_fld, ops_ixa, ops_load, ops_box, ops_alc, ev_t, ev_c, put_get, opv_mk, Bx, put_sz, args0, List.getD_cons_zero, List.getD_cons_succ, vfld, vixa, vload, takeV, V.cells, ptrV, obsOk, List.length_cons, List.length_nil, true_and, Nat.reduceEqDiff, Nat.reduceAdd, Int.reduceToNat, Int.reduceLE, Nat.zero_add, Nat.add_zero, Nat.mul_one, ↓reduceIte, ne_eq, not_false_eq_true, eq_self, reduceCtorEq, M9.v, M9.cells]
  intro a ha d hd
  obtain ⟨hd1, had⟩ : st.sz ≤ d ∧ a < d := by omega
  clear hd
  simp (config := {maxSteps := 3000000}) only [run_reg, run_seq, at_code_n, ops_nil, ops_mv, ops_conv, ops_fld, ops_ixa, ops_load, ops_bld, ops_box, ev_t, ev_c, put_get, opv_mk, Bx, vbld, put_box_same, put_sz, args0, List.getD_cons_zero, List.getD_cons_succ, vconv, norm, vfld, vixa, vload, takeV, fillV, splice, V.cells, ptrV, obsOk, List.map_cons, List.map_nil, List.length_cons, List.length_nil, List.getElem?_cons_zero, List.getElem?_cons_succ, List.take_succ_cons, List.take_zero, List.drop_succ_cons, List.drop_zero, List.cons_append, List.nil_append, and_true, true_and, Nat.reduceEqDiff, Nat.reduceAdd, Nat.reduceLT, Nat.reduceLeDiff, Nat.reduceLT, Int.reduceToNat, Int.reduceLE, Int.reduceLT, Nat.zero_add, Nat.add_zero, Nat.mul_one, ↓reduceIte, ne_eq, not_false_eq_true, eq_self, reduceCtorEq, nc9, put_box_ne (Nat.ne_of_lt had)]
  intro b hb
  obtain ⟨hb1, hdb, hab⟩ : st.sz ≤ b ∧ d < b ∧ a < b := by omega
  clear hb
  simp (config := {maxSteps := 3000000}) only [ops_mv, ops_conv, ops_bslo, ev_t, ev_c, put_get, opv_mk, put_box_same, args0, List.getD_cons_zero, List.getD_cons_succ, vconv, norm, strip, strip1, List.map_cons, List.map_nil, List.length_cons, List.length_nil, List.getElem?_cons_zero, List.getElem?_cons_succ, true_and, Nat.reduceEqDiff, Nat.zero_add, ↓reduceIte, eq_self, e1, e3, put_box_ne (Nat.ne_of_lt had), put_box_ne (Nat.ne_of_lt hab)]
  refine Bo.own (by simp [allLen, V.cells]) ?_
  intro g hg
  simp (config := {maxSteps := 3000000}) only [ops_call, ev_t, ev_c, put_get, obsOk, List.map_cons, List.map_nil, List.length_cons, List.length_nil, true_and, Nat.reduceAdd, Nat.zero_add, ↓reduceIte, eq_self]
  refine Cal.mk (of_at (l := [mine, n0, 1, 0, window, 0]) (m := inM ⟨ty, n0, n1, n2, n3, n4, n5, n6, n7, n8, t0, t1, t2⟩ mine window) (U32.cons (by omega) (U32.cons (by omega) (U32.cons (by omega) (U32.cons (by omega) (U32.cons (by omega) (U32.one (by omega))))))) (by simp) ?_) ?_
  · have : (ofM 10 [mine, n0, 1, 0, window, 0]).v = (mN 10 (mine % 65536) (n0 % 65536) 1 0 (window % 65536) 0 0 0 0).v := by simp [ofM, ofN, layoutL, ofS, isNum, MG.v, MG.cells, M9.v, M9.cells, mN, us, ts]
    rw [this, f1, inM]
  rintro _ _ ⟨rfl, rfl⟩ -
  simp (config := {maxSteps := 3000000}) only [run_ret, at_code_n, at_fin_r, ops_nil, ops_mv, ops_store, ev_t, put_get, put_none, opv_mk, stb_some, sto_ptr, Stp, put_box_same, use_box, args0, vload, takeV, splice, V.cells, obsOk, List.map_cons, List.map_nil, List.length_cons, List.length_nil, List.take_succ_cons, List.take_zero, List.drop_succ_cons, List.drop_zero, List.nil_append, List.append_nil, List.take_nil, List.drop_nil, and_true, true_and, Nat.reduceEqDiff, Nat.reduceAdd, Nat.reduceLT, Nat.reduceLeDiff, Nat.reduceLT, Nat.zero_add, ↓reduceIte, vret, rvAll, rvVal, resv_2, eq_self, M9.v, M9.cells, inM, mN, put_box_ne (Nat.ne_of_lt hdb)]
  refine ⟨_, st.put b (inC ⟨ty, n0, n1, n2, n3, n4, n5, n6, n7, n8, t0, t1, t2⟩ mine).cells, Wk.refl _, weak_putN (weak_use (weak_both (weak_put (weak_put hwf.weak ha) hd1)) (by simp only [put_sz] at *; omega)) (by rw [put_box_ne (Nat.ne_of_lt hdb)]; exact wf_none hwf hd1), b, hb1, rfl, rfl⟩
end
end Go.Proofs.Ytogkdcbcmhhhcaa
