/- CallsEnd: a call that ends stays ended, walked. -/
import Derived.Test.YtogkdcbcmhhhcaaVCalls
namespace Go.Proofs.Ytogkdcbcmhhhcaa
open Go Go.RowKit

section
variable {st : St} {tk : Tk}
theorem alive41_v : VCalls Try.prog 17 [] st fun r st' => r = .sc (.bool true) ∧ st = st' := by
  refine vcalls_enter vc17 (Nat.le_of_ble_eq_true rfl) fun hwf hok => ?_
  show Run _ Vc17.body (.fin (finQ Vc17.res _)) _ _
  unfold Vc17
  simp (config := {maxSteps := 3000000}) only [run_reg, run_seq, at_code_n, ops_nil, ops_mv, ops_call, ev_c, opv_mk, List.map_cons, List.map_nil, true_and]
  refine Cal.mk (Out_v (by omega) (by omega) (by omega)) ?_
  rintro _ _ ⟨b, hb, rfl, rfl⟩ -
  simp (config := {maxSteps := 3000000}) only [run_skip, run_reg, run_seq, run_cond, if_false, at_code_n, ops_nil, ops_grd, grd_ff, ops_mv, ops_pick, ops_bin, ops_pnil, vpnil, ops_fld, ops_load, ops_ext, ops_alc, ops_bslo, ops_store, ev_t, ev_c, put_get, put_none, opv_mk, stb_some, sto_ptr, Stp, put_box_same, put_sz, put_put, vpick, vbin, vbinI, vfld, vext, vload, takeV, splice, V.cells, strip, strip1, ptrV, obsOk, List.map_cons, List.map_nil, List.length_cons, List.length_nil, List.getElem?_cons_zero, List.getElem?_cons_succ, List.take_zero, List.drop_succ_cons, List.nil_append, List.append_nil, List.drop_nil, true_and, Nat.reduceEqDiff, Nat.reduceAdd, Nat.reduceLT, Nat.reduceLeDiff, Nat.reduceLT, Int.reduceMod, Nat.zero_add, Nat.add_zero, ↓reduceIte, decide_false, ne_eq, not_true_eq_false, eq_self, Bool.false_eq_true, M9.v, M9.cells, outM, mN]
  intro d hd
  have hbd : b < d := by omega
  have hd1 : st.sz ≤ d := by omega
  simp (config := {maxSteps := 3000000}) only [CL.cells, outC]
  refine Bo.own (by simp [allLen, V.cells]) ?_
  intro g hg
  simp (config := {maxSteps := 3000000}) only [ops_call, ev_t, ev_c, put_get, obsOk, List.map_cons, List.map_nil, List.length_cons, List.length_nil, true_and, Nat.reduceAdd, Nat.zero_add, ↓reduceIte, eq_self]
  refine Cal.mk (of_at (l := [9, 5, 1]) (m := mN 8 9 5 1 0 0 0 0 0 0) (U32.cons (by omega) (U32.cons (by omega) (U32.one (by omega)))) (by simp) rfl) ?_
  rintro _ _ ⟨rfl, rfl⟩ -
  simp (config := {maxSteps := 3000000}) only [ops_call, ev_t, put_get, obsOk, List.map_cons, List.map_nil, true_and, Nat.reduceEqDiff, ↓reduceIte, eq_self]
  refine Cal.mk (callTake_v (c := outC 5) (m := mN 8 9 5 1 0 0 0 0 0 0) (by simp only [use_box]; rw [put_box_ne (Nat.ne_of_lt hbd)]; exact put_box_same) ⟨by decide, by decide⟩ ⟨by decide, by decide⟩ ⟨by decide, by decide, by decide, by decide, by decide, by decide⟩) ?_
  rintro _ _ ⟨rfl, rfl⟩ -
  rw [show takeM (outC 5) (mN 8 9 5 1 0 0 0 0 0 0) = [] from rfl, show takeS (outC 5) (mN 8 9 5 1 0 0 0 0 0 0) = ⟨3, 5, 9, true, 0, 0, 0, 0, 0⟩ from rfl]
  simp (config := {maxSteps := 3000000}) only [run_reg, run_seq, at_code_n, ops_nil, ops_mv, ops_call, ev_t, put_get, opv_mk, obsOk, List.map_cons, List.map_nil, true_and, Nat.reduceEqDiff, ↓reduceIte, eq_self, List.map_nil]
  refine Cal.mk (Theirs_v (c := ⟨3, 5, 9, true, 0, 0, 0, 0, 0⟩) put_box_same) ?_
  rintro _ _ ⟨rfl, rfl⟩ -
  simp (config := {maxSteps := 3000000}) only [run_reg, run_seq, at_code_n, ops_nil, ops_grd, grd_tt, ops_mv, ops_bin, ops_ext, ops_len, ops_call, ev_t, ev_c, put_get, opv_mk, vbin, vbinI, vlen, vext, obsOk, List.map_cons, List.map_nil, List.length_nil, List.getElem?_cons_zero, List.getElem?_cons_succ, true_and, Nat.reduceEqDiff, ↓reduceIte, eq_self, show decide (((0 : Nat) : Int) = 0) = true from rfl]
  refine Cal.mk (State_v (c := ⟨3, 5, 9, true, 0, 0, 0, 0, 0⟩) put_box_same) ?_
  rintro _ _ ⟨rfl, rfl⟩ -
  simp (config := {maxSteps := 3000000}) only [run_ret, at_code_n, at_fin_r, ops_nil, ops_grd, grd_tt, ops_mv, ops_pick, ops_bin, ev_t, ev_c, put_get, opv_mk, vpick, vbin, vbinI, obsOk, and_true, true_and, Nat.reduceEqDiff, ↓reduceIte, vret, rvAll, rvVal, resv_1, decide_true, eq_self]
  exact ⟨_, _, Wk.refl _, weak_put (weak_use (weak_put (weak_put hwf.weak hb) hd1) (by simp only [put_sz] at *; omega)) hb, rfl, rfl⟩
/-- A call of a call. -/
def opV (o : Int × M9) : V := .agg [.sc (.int .i64 o.1), .sc (.int .i64 o.2.ty), .sc (.int .u32 o.2.n0), .sc (.int .u32 o.2.n1), .sc (.int .u32 o.2.n2), .sc (.int .u32 o.2.n3), .sc (.int .u32 o.2.n4), .sc (.int .u32 o.2.n5), .sc (.int .u32 o.2.n6), .sc (.int .u32 o.2.n7), .sc (.int .u32 o.2.n8), .sc (.string o.2.t0), .sc (.string o.2.t1), .sc (.string o.2.t2)]
def opsV (L : List (Int × M9)) : List V := L.map opV
theorem opsV_len (L : List (Int × M9)) : (opsV L).length = L.length := by simp [opsV]
theorem opsV_get (L : List (Int × M9)) (i : Nat) : (opsV L)[i]? = (L[i]?).map opV := by simp [opsV]
/-- How a call begins. -/
def startV (inb : Bool) (m : M9) (mine serial window : Int) : V := .agg [.sc (.bool inb), .sc (.int .i64 m.ty), .sc (.int .u32 m.n0), .sc (.int .u32 m.n1), .sc (.int .u32 m.n2), .sc (.int .u32 m.n3), .sc (.int .u32 m.n4), .sc (.int .u32 m.n5), .sc (.int .u32 m.n6), .sc (.int .u32 m.n7), .sc (.int .u32 m.n8), .sc (.string m.t0), .sc (.string m.t1), .sc (.string m.t2), .sc (.int .u16 mine), .sc (.int .u16 serial), .sc (.int .i64 window)]
theorem hangS_ok {c : CL} (h : c.Ok) : (hangS c).Ok ∧ (hangS c).errors = c.errors ∧ (c.state = 5 → (hangS c).state = 5) ∧ ((hangS c).state = 3 → c.state = 3) := by
  unfold hangS
  split
  · exact ⟨h, rfl, fun h => h, fun h => h⟩
  · exact ⟨⟨h.mine, h.theirs⟩, rfl, fun _ => by omega, fun h => by simp at h⟩
theorem lateS_ok {c : CL} (h : c.Ok) : (lateS c).Ok ∧ (lateS c).errors = c.errors ∧ (c.state = 5 → (lateS c).state = 5) ∧ ((lateS c).state = 3 → c.state = 3) := by
  unfold lateS
  split
  · exact ⟨⟨h.mine, h.theirs⟩, rfl, fun _ => rfl, fun h => by simp at h⟩
  · exact ⟨h, rfl, fun h => h, fun h => h⟩
theorem takeS_ok {c : CL} (h : c.Ok) (m : M9) : (takeS c m).Ok ∧ (takeS c m).errors ≤ c.errors + 1 ∧ c.errors ≤ (takeS c m).errors ∧ (c.state = 5 → (takeS c m).state = 5) ∧ ((takeS c m).state = 3 → c.state = 3 ∨ m.ty = 11 ∨ (m.ty = 8 ∧ m.n2 = 1)) := by
  unfold takeS
  split
  · rename_i h1; exact ⟨⟨h.mine, h.theirs⟩, by simp only; omega, by simp only; omega, fun h => by omega, fun _ => .inr (.inl h1.1)⟩
  split
  · rename_i _ h1
    unfold replyS
    split
    · exact ⟨⟨h.mine, h.theirs⟩, by simp only; omega, by simp only; omega, fun h => by simp, fun h => by simp at h⟩
    · rename_i h2
      exact ⟨⟨h.mine, by simp only; omega⟩, by simp only; omega, by simp only; omega, fun h => by omega, fun _ => .inr (.inr ⟨h1.1, by simpa using h2⟩)⟩
  split
  · exact ⟨⟨h.mine, h.theirs⟩, by simp only; omega, by simp only; omega, fun _ => rfl, fun h => by simp at h⟩
  split
  · exact ⟨⟨h.mine, h.theirs⟩, by simp only; omega, by simp only; omega, fun _ => rfl, fun h => by simp at h⟩
  split
  · exact ⟨⟨h.mine, h.theirs⟩, by simp only; omega, by simp only; omega, fun h => h, fun h => .inl h⟩
  split
  · exact ⟨⟨h.mine, h.theirs⟩, by simp only; omega, by simp only; omega, fun h => h, fun h => .inl h⟩
  · exact ⟨h, by omega, by omega, fun h => h, fun h => .inl h⟩
set_option maxRecDepth 100000 in
set_option maxHeartbeats 20000000 in
theorem CallsEnd_v {inb : Bool} {m : M9} (hm : m.Ok) {mine serial window : Int} (h0 : 0 ≤ mine ∧ mine < 65536) (h1 : 0 ≤ serial ∧ serial < 65536) {L : List (Int × M9)} (hL : ∀ o ∈ L, o.2.Ok) : VCalls Try.prog 4 [startV inb m mine serial window, .sl tk (opsV L)] st fun r _ => r = .sc (.bool true) := by
  have gi := fun (h : 0 ≤ window ∧ window < 65536) (s : St) => In_v (st := s) hm h0 h
  obtain ⟨ty, n0, n1, n2, n3, n4, n5, n6, n7, n8, t0, t1, t2⟩ := m
  simp only [M9.v, M9.cells] at gi
  refine vcalls_enter vc4 (Nat.le_of_ble_eq_true rfl) fun hwf hok => ?_
  show Run _ Vc4.body (.fin (finQ Vc4.res _)) _ _
  unfold Vc4
  have g0 : ∀ s : St, st.weak s → ∃ (r' : V) (st'' : St), Wk (V.sc (.bool true)) r' ∧ st''.weak s ∧ r' = V.sc (.bool true) := fun s hw => ⟨_, st, Wk.refl _, hw, rfl⟩
  simp (config := {maxSteps := 3000000}) only [run_reg, run_seq, at_code_n, ops_nil, ops_grd, ops_mv, ops_bin, ops_len, ops_box, ev_t, ev_c, put_get, opv_mk, Bx, args0, List.getD_cons_zero, List.getD_cons_succ, vbin, vbinI, vlen, V.cells, ptrV, obsOk, List.length_cons, List.length_nil, true_and, Nat.reduceEqDiff, Nat.reduceAdd, Nat.zero_add, ↓reduceIte, ne_eq, not_false_eq_true, eq_self, reduceCtorEq, startV]
  intro a ha
  by_cases c1 : (100 : Int) < L.length
  · simp (config := {maxSteps := 3000000}) only [run_reg, run_seq, run_ret, run_cond, if_true, at_code_n, at_code_r, at_fin_r, ops_nil, ops_grd, grd_tf, ops_mv, ops_pick, ev_t, ev_c, put_get, opv_mk, vpick, and_true, true_and, Nat.reduceEqDiff, ↓reduceIte, vret, rvAll, rvVal, resv_1, eq_self, opsV_len, decide_eq_true c1]
    exact g0 _ (weak_put hwf.weak ha)
  by_cases c2 : window < 0
  · simp (config := {maxSteps := 3000000}) only [run_reg, run_seq, run_ret, run_cond, if_true, at_code_n, at_code_r, at_fin_r, ops_nil, ops_grd, grd_ff, grd_tf, ops_mv, ops_pick, ops_bin, ops_fld, ops_load, ev_t, ev_c, put_get, opv_mk, put_box_same, vpick, vbin, vbinI, vfld, vload, takeV, V.cells, List.length_cons, List.length_nil, List.getElem?_cons_zero, List.getElem?_cons_succ, and_true, true_and, Nat.reduceEqDiff, Nat.zero_add, ↓reduceIte, vret, rvAll, rvVal, resv_1, eq_self, Bool.false_eq_true, opsV_len, decide_eq_false c1, decide_eq_true c2]
    exact g0 _ (weak_put hwf.weak ha)
  by_cases c3 : 65535 < window
  · simp (config := {maxSteps := 3000000}) only [run_reg, run_seq, run_ret, run_cond, if_true, at_code_n, at_code_r, at_fin_r, ops_nil, ops_grd, grd_ff, ops_mv, ops_pick, ops_bin, ops_fld, ops_load, ev_t, ev_c, put_get, opv_mk, put_box_same, vpick, vbin, vbinI, vfld, vload, takeV, V.cells, List.length_cons, List.length_nil, List.getElem?_cons_zero, List.getElem?_cons_succ, and_true, true_and, Nat.reduceEqDiff, Nat.zero_add, ↓reduceIte, vret, rvAll, rvVal, resv_1, eq_self, Bool.false_eq_true, opsV_len, decide_eq_false c1, decide_eq_false c2, decide_eq_true c3]
    exact g0 _ (weak_put hwf.weak ha)
  simp (config := {maxSteps := 3000000}) only [run_skip, run_reg, run_seq, run_cond, if_false, at_code_n, ops_nil, ops_grd, grd_ff, ops_mv, ops_pick, ops_bin, ops_fld, ops_load, ops_call, ev_t, ev_c, put_get, opv_mk, put_box_same, vpick, vbin, vbinI, vfld, vload, takeV, V.cells, List.map_cons, List.map_nil, List.length_cons, List.length_nil, List.getElem?_cons_zero, List.getElem?_cons_succ, true_and, Nat.reduceEqDiff, Nat.zero_add, ↓reduceIte, eq_self, Bool.false_eq_true, opsV_len, decide_eq_false c1, decide_eq_false c2, decide_eq_false c3]
  have hw : 0 ≤ window ∧ window < 65536 := by omega
  refine Cal.mk (Out_v h0 h1 hw) ?_
  rintro _ _ ⟨b, hb, rfl, rfl⟩ -
  have hab : a < b := by simp only [put_sz] at hb; omega
  have hb1 : st.sz ≤ b := by simp only [put_sz] at hb; omega
  simp (config := {maxSteps := 3000000}) only [run_reg, run_seq, at_code_n, ops_nil, ops_mv, ops_fld, ops_load, ops_ext, ops_alc, ops_store, ev_t, put_get, put_none, opv_mk, stb_some, sto_ptr, Stp, put_box_same, put_sz, put_put, vfld, vext, vload, takeV, splice, V.cells, ptrV, obsOk, List.length_cons, List.length_nil, List.getElem?_cons_zero, List.getElem?_cons_succ, List.take_zero, List.drop_succ_cons, List.nil_append, List.append_nil, List.drop_nil, true_and, Nat.reduceEqDiff, Nat.reduceAdd, Nat.reduceLT, Nat.reduceLeDiff, Nat.reduceLT, Nat.zero_add, Nat.add_zero, ↓reduceIte, eq_self, M9.v, M9.cells, outM, mN]
  intro d hd
  obtain ⟨hd1, hbd, had⟩ : st.sz ≤ d ∧ b < d ∧ a < d := by omega
  clear hd
  cases inb
  · simp (config := {maxSteps := 3000000}) only [run_skip, run_reg, run_seq, run_blk, run_cond, if_false, at_code_n, ops_nil, ops_mv, ops_pnil, vpnil, ev_t, ev_c, put_get, opv_mk, put_box_same, List.length_cons, List.length_nil, List.getElem?_cons_zero, true_and, Nat.reduceEqDiff, Nat.zero_add, ↓reduceIte, eq_self, put_box_ne (Nat.ne_of_lt had), put_box_ne (Nat.ne_of_lt hab)]
    clear hm gi
    refine run_loop [4, 7, 8, 9, 10, 48, 49, 50, 51, 52, 53, 54, 55, 56, 57, 58, 59, 60, 61, 62, 63, 64, 65, 66, 67, 68, 69, 70, 71, 72, 73, 74, 75, 76, 77, 78, 79, 80, 81, 82, 83, 84, 85, 86, 87, 88, 89, 90, 91, 92, 93, 94, 95, 96, 97, 98, 99, 100, 101, 102, 103, 104, 105, 106, 107, 108, 109, 110, 111, 112, 113, 114, 115, 116, 117, 118, 119, 120, 121, 122, 123, 124, 125, 126, 127, 128, 129, 130, 131, 132, 133, 134, 135, 136] (fun B s => ∃ (i : Nat) (c : CL), i ≤ L.length ∧ B 8 = .sc (.int .i64 (i : Int)) ∧ B 7 = .sc (.bool (decide (c.state = 5))) ∧ c.Ok ∧ 0 ≤ c.errors ∧ c.errors ≤ (i : Int) ∧ st.weak s ∧ s.Lt ∧ s.box b = some c.cells) (fun B _ => L.length - vnat (B 8)) rfl ?_ ?_
    · simp (config := {maxSteps := 3000000}) only [put_get, Nat.reduceEqDiff, ↓reduceIte, eq_self]
      exact ⟨0, outC mine, by omega, by simp, by simp [outC], ⟨h0, by simp [outC]⟩, by simp [outC], by simp [outC], weak_put (weak_put (weak_put hwf.weak ha) hb1) hd1, hwf.lt.put.put.put, by rw [put_box_ne (Nat.ne_of_lt hbd)]; exact put_box_same⟩
    · rintro B s ⟨i, c, hi, h8, h7, cok, ce0, ce1, hws, hls, hbc⟩
      by_cases hlt : i < L.length
      rotate_left
      · obtain rfl : i = L.length := by omega
        simp (config := {maxSteps := 3000000}) only [run_reg, run_seq, run_exit, run_cond, if_false, at_code_n, at_code_x, at_blk_x, at_rnd_x, ops_nil, ops_mv, ops_bin, ops_len, ops_call, ev_t, put_get, opv_mk, over_get, vnat, args0, List.getD_cons_zero, List.getD_cons_succ, vbin, vbinI, vlen, List.map_nil, true_and, Nat.reduceEqDiff, Int.toNat_natCast, ↓reduceIte, decide_false, Int.lt_irrefl, eq_self, Bool.false_eq_true, List.contains_cons, List.contains_nil, Nat.reduceBEq, Bool.or_false, Bool.or_true, h8, opsV_len]
        refine Cal.mk alive41_v ?_
        rintro _ _ ⟨rfl, rfl⟩ -
        simp (config := {maxSteps := 3000000}) only [run_ret, at_code_n, at_fin_r, ops_nil, ops_mv, ev_t, put_get, opv_mk, obsOk, and_true, true_and, ↓reduceIte, vret, rvAll, rvVal, resv_1, eq_self]
        exact g0 _ hws
      have hx0 := opsV_get L i
      have hLi := hL L[i] (List.getElem_mem hlt)
      rw [List.getElem?_eq_getElem hlt, Option.map_some] at hx0
      generalize L[i] = o at hx0 hLi
      obtain ⟨kind, ⟨uy, u0, u1, u2, u3, u4, u5, u6, u7, u8, v0, v1, v2⟩⟩ := o
      have hx := hx0
      clear hx0
      simp only at hLi
      have dlt := decide_eq_true (show (i : Int) < (L.length : Int) by omega)
      by_cases k0 : kind < 0
      · simp (config := {maxSteps := 3000000}) only [run_skip, run_reg, run_seq, run_blk, run_ret, run_cond, if_true, at_code_n, at_code_r, at_blk_r, at_rnd_r, at_fin_r, ops_nil, ops_mv, ops_bin, ops_fld, ops_ix, ops_load, ops_len, ev_t, ev_c, put_get, opv_mk, over_get, vnat, args0, List.getD_cons_zero, List.getD_cons_succ, vbin, vbinI, vfld, vlen, vix, vload, takeV, V.cells, List.length_cons, List.length_nil, List.getElem?_cons_zero, and_true, true_and, Nat.reduceEqDiff, Nat.reduceAdd, Int.toNat_natCast, Nat.zero_add, Nat.add_zero, ↓reduceIte, vret, rvAll, rvVal, resv_1, eq_self, Bool.false_eq_true, List.contains_cons, List.contains_nil, Nat.reduceBEq, Bool.or_false, Bool.or_true, h8, opsV_len, dlt, hx, opV, decide_eq_true k0]
        repeat (apply And.intro; focus (first | omega | (simp; done)))
        exact g0 _ hws
      simp (config := {maxSteps := 3000000}) only [run_skip, run_reg, run_seq, run_blk, run_cond, if_true, if_false, at_code_n, ops_nil, ops_mv, ops_bin, ops_fld, ops_ix, ops_load, ops_len, ops_call, ev_t, ev_c, put_get, opv_mk, over_get, vnat, args0, List.getD_cons_zero, List.getD_cons_succ, vbin, vbinI, vfld, vlen, vix, vload, takeV, V.cells, List.map_cons, List.map_nil, List.length_cons, List.length_nil, List.getElem?_cons_zero, and_true, true_and, Nat.reduceEqDiff, Nat.reduceAdd, Int.toNat_natCast, Nat.zero_add, Nat.add_zero, ↓reduceIte, eq_self, Bool.false_eq_true, List.contains_cons, List.contains_nil, Nat.reduceBEq, Bool.or_false, Bool.or_true, h8, opsV_len, dlt, hx, opV, decide_eq_false k0]
      repeat (apply And.intro; focus (first | omega | (simp; done)))
      refine Cal.mk (State_v hbc) ?_
      rintro _ _ ⟨rfl, rfl⟩ -
      by_cases k4 : kind % 7 = 4
      · have d4 := decide_eq_true k4
        simp (config := {maxSteps := 3000000}) only [run_reg, run_seq, run_blk, run_cond, if_true, at_code_n, ops_nil, ops_mv, ops_bin, ops_fld, ops_ix, ops_load, ops_call, ev_t, ev_c, put_get, opv_mk, over_get, args0, List.getD_cons_zero, List.getD_cons_succ, vbin, vbinI, vfld, vix, vload, takeV, V.cells, obsOk, List.map_cons, List.map_nil, List.length_cons, List.length_nil, List.getElem?_cons_zero, and_true, true_and, Nat.reduceEqDiff, Nat.reduceAdd, Int.toNat_natCast, Int.reduceLT, Nat.zero_add, Nat.add_zero, ↓reduceIte, eq_self, Bool.false_eq_true, List.contains_cons, List.contains_nil, Nat.reduceBEq, Bool.or_false, Bool.or_true, h8, hx, opV, d4]
        repeat (apply And.intro; focus (first | omega | (simp; done)))
        refine Cal.mk (Hang_v hbc cok) ?_
        rintro _ _ ⟨rfl, rfl⟩ -
        obtain ⟨pok, pe, p5, p3⟩ := hangS_ok cok
        have hbx : (s.put b (hangS c).cells).box b = some (hangS c).cells := put_box_same
        have pw : st.weak (s.put b (hangS c).cells) := weak_put hws hb1
        have pl : (s.put b (hangS c).cells).Lt := hls.put
        by_cases s5 : c.state = 5
        · have x5 := p5 s5
          have dx5 := decide_eq_true x5
          simp (config := {maxSteps := 3000000}) only [run_reg, run_seq, at_code_n, at_blk_n, ops_nil, ops_grd, grd_tt, grd_tf, ops_mv, ops_pick, ops_bin, ops_call, ev_t, ev_c, put_get, opv_mk, over_get, vpick, vbin, vbinI, obsOk, List.map_cons, List.map_nil, true_and, Nat.reduceEqDiff, ↓reduceIte, ne_eq, eq_self, Bool.false_eq_true, List.contains_cons, List.contains_nil, Nat.reduceBEq, Bool.or_false, Bool.or_true, h7, decide_eq_true s5, decide_eq_true (show ¬ c.state = 3 by omega)]
          refine Cal.mk (State_v (c := hangS c) hbx) ?_
          rintro _ _ ⟨rfl, rfl⟩ -
          simp (config := {maxSteps := 3000000}) only [run_reg, run_seq, at_code_n, ops_nil, ops_grd, grd_tt, ops_mv, ops_pick, ops_bin, ops_call, ev_t, ev_c, put_get, opv_mk, over_get, vpick, vbin, vbinI, obsOk, List.map_cons, List.map_nil, true_and, Nat.reduceEqDiff, ↓reduceIte, eq_self, Bool.false_eq_true, List.contains_cons, List.contains_nil, Nat.reduceBEq, Bool.or_false, decide_eq_false (show ¬ (hangS c).state = 3 by omega)]
          refine Cal.mk (State_v (c := hangS c) hbx) ?_
          rintro _ _ ⟨rfl, rfl⟩ -
          simp (config := {maxSteps := 3000000}) only [run_skip, run_reg, run_cond, if_false, at_code_n, at_blk_n, at_rnd_n, ops_nil, ops_grd, grd_und, grd_tt, grd_ff, grd_ft, ops_mv, ops_pick, ops_bin, ev_t, ev_c, put_get, opv_mk, over_get, rel_mk, put_box_same, vpick, vbin, vbinI, norm, obsOk, true_and, Nat.reduceEqDiff, Int.reduceNeg, ↓reduceIte, ne_eq, eq_self, Bool.false_eq_true, List.contains_cons, List.contains_nil, Nat.reduceBEq, Bool.or_false, Bool.or_true, h8, decide_eq_false (show ¬ ¬ (hangS c).state = 5 by omega)]
          repeat (apply And.intro; focus (first | omega | (simp; done)))
          first | exact ⟨⟨i + 1, hangS c, by omega, by simp, by rw [dx5], pok, by omega, by omega, pw, pl, by first | exact hbx | rfl⟩, by omega⟩ | omega
        have ds5 := decide_eq_false s5
        simp (config := {maxSteps := 3000000}) only [run_reg, run_seq, at_code_n, at_blk_n, ops_nil, ops_grd, grd_ff, ops_mv, ops_call, ev_t, put_get, opv_mk, over_get, obsOk, List.map_cons, List.map_nil, true_and, Nat.reduceEqDiff, ↓reduceIte, eq_self, Bool.false_eq_true, List.contains_cons, List.contains_nil, Nat.reduceBEq, Bool.or_false, Bool.or_true, h7, ds5]
        refine Cal.mk (State_v (c := hangS c) hbx) ?_
        rintro _ _ ⟨rfl, rfl⟩ -
        by_cases x5 : (hangS c).state = 5
        · have dx5 := decide_eq_true x5
          by_cases s3 : c.state = 3
          · simp (config := {maxSteps := 3000000}) only [run_reg, run_seq, at_code_n, ops_nil, ops_grd, grd_tt, grd_ff, grd_ft, ops_mv, ops_pick, ops_bin, ops_call, ev_t, ev_c, put_get, opv_mk, over_get, vpick, vbin, vbinI, obsOk, List.map_cons, List.map_nil, true_and, Nat.reduceEqDiff, ↓reduceIte, ne_eq, eq_self, Bool.false_eq_true, List.contains_cons, List.contains_nil, Nat.reduceBEq, Bool.or_false, dx5, decide_eq_false (show ¬ ¬ c.state = 3 by omega)]
            refine Cal.mk (State_v (c := hangS c) hbx) ?_
            rintro _ _ ⟨rfl, rfl⟩ -
            simp (config := {maxSteps := 3000000}) only [run_skip, run_reg, run_cond, if_false, at_code_n, at_blk_n, at_rnd_n, ops_nil, ops_grd, grd_und, grd_tt, grd_ff, grd_ft, ops_mv, ops_pick, ops_bin, ev_t, ev_c, put_get, opv_mk, over_get, rel_mk, put_box_same, vpick, vbin, vbinI, norm, obsOk, true_and, Nat.reduceEqDiff, Int.reduceNeg, ↓reduceIte, ne_eq, eq_self, Bool.false_eq_true, List.contains_cons, List.contains_nil, Nat.reduceBEq, Bool.or_false, Bool.or_true, h8, decide_eq_false (show ¬ ¬ (hangS c).state = 5 by omega)]
            repeat (apply And.intro; focus (first | omega | (simp; done)))
            first | exact ⟨⟨i + 1, hangS c, by omega, by simp, by rw [dx5], pok, by omega, by omega, pw, pl, by first | exact hbx | rfl⟩, by omega⟩ | omega
          · simp (config := {maxSteps := 3000000}) only [run_reg, run_seq, at_code_n, ops_nil, ops_grd, grd_tt, grd_ff, ops_mv, ops_pick, ops_bin, ops_call, ev_t, ev_c, put_get, opv_mk, over_get, vpick, vbin, vbinI, obsOk, List.map_cons, List.map_nil, true_and, Nat.reduceEqDiff, ↓reduceIte, ne_eq, eq_self, Bool.false_eq_true, List.contains_cons, List.contains_nil, Nat.reduceBEq, Bool.or_false, dx5, decide_eq_true (p := ¬ c.state = 3) s3]
            refine Cal.mk (State_v (c := hangS c) hbx) ?_
            rintro _ _ ⟨rfl, rfl⟩ -
            simp (config := {maxSteps := 3000000}) only [run_reg, run_seq, at_code_n, ops_nil, ops_grd, grd_tt, ops_mv, ops_pick, ops_bin, ops_call, ev_t, ev_c, put_get, opv_mk, over_get, vpick, vbin, vbinI, obsOk, List.map_cons, List.map_nil, true_and, Nat.reduceEqDiff, ↓reduceIte, eq_self, Bool.false_eq_true, List.contains_cons, List.contains_nil, Nat.reduceBEq, Bool.or_false, decide_eq_false (show ¬ (hangS c).state = 3 by omega)]
            refine Cal.mk (State_v (c := hangS c) hbx) ?_
            rintro _ _ ⟨rfl, rfl⟩ -
            simp (config := {maxSteps := 3000000}) only [run_skip, run_reg, run_cond, if_false, at_code_n, at_blk_n, at_rnd_n, ops_nil, ops_grd, grd_und, grd_tt, grd_ff, grd_ft, ops_mv, ops_pick, ops_bin, ev_t, ev_c, put_get, opv_mk, over_get, rel_mk, put_box_same, vpick, vbin, vbinI, norm, obsOk, true_and, Nat.reduceEqDiff, Int.reduceNeg, ↓reduceIte, ne_eq, eq_self, Bool.false_eq_true, List.contains_cons, List.contains_nil, Nat.reduceBEq, Bool.or_false, Bool.or_true, h8, decide_eq_false (show ¬ ¬ (hangS c).state = 5 by omega)]
            repeat (apply And.intro; focus (first | omega | (simp; done)))
            first | exact ⟨⟨i + 1, hangS c, by omega, by simp, by rw [dx5], pok, by omega, by omega, pw, pl, by first | exact hbx | rfl⟩, by omega⟩ | omega
        have dx5 := decide_eq_false x5
        by_cases s3 : c.state = 3
        · simp (config := {maxSteps := 3000000}) only [run_skip, run_reg, run_seq, run_cond, if_false, at_code_n, at_blk_n, at_rnd_n, ops_nil, ops_grd, grd_und, grd_ff, grd_ft, ops_mv, ops_pick, ops_bin, ev_t, ev_c, put_get, opv_mk, over_get, rel_mk, put_box_same, vpick, vbin, vbinI, norm, obsOk, true_and, Nat.reduceEqDiff, Int.reduceNeg, ↓reduceIte, ne_eq, eq_self, Bool.false_eq_true, List.contains_cons, List.contains_nil, Nat.reduceBEq, Bool.or_false, Bool.or_true, h8, dx5, decide_eq_false (show ¬ ¬ c.state = 3 by omega)]
          repeat (apply And.intro; focus (first | omega | (simp; done)))
          first | exact ⟨⟨i + 1, hangS c, by omega, by simp, by rw [dx5], pok, by omega, by omega, pw, pl, by first | exact hbx | rfl⟩, by omega⟩ | omega
        simp (config := {maxSteps := 3000000}) only [run_reg, run_seq, at_code_n, ops_nil, ops_grd, grd_tt, grd_ff, ops_mv, ops_pick, ops_bin, ops_call, ev_t, ev_c, put_get, opv_mk, over_get, vpick, vbin, vbinI, obsOk, List.map_cons, List.map_nil, true_and, Nat.reduceEqDiff, ↓reduceIte, ne_eq, eq_self, Bool.false_eq_true, List.contains_cons, List.contains_nil, Nat.reduceBEq, Bool.or_false, dx5, decide_eq_true (p := ¬ c.state = 3) s3]
        refine Cal.mk (State_v (c := hangS c) hbx) ?_
        rintro _ _ ⟨rfl, rfl⟩ -
        by_cases x3 : (hangS c).state = 3
        rotate_left
        · simp (config := {maxSteps := 3000000}) only [run_skip, run_reg, run_seq, run_cond, if_false, at_code_n, at_blk_n, at_rnd_n, ops_nil, ops_grd, grd_und, grd_tt, grd_ff, grd_ft, ops_mv, ops_pick, ops_bin, ev_t, ev_c, put_get, opv_mk, over_get, rel_mk, put_box_same, vpick, vbin, vbinI, norm, obsOk, true_and, Nat.reduceEqDiff, Int.reduceNeg, ↓reduceIte, eq_self, Bool.false_eq_true, List.contains_cons, List.contains_nil, Nat.reduceBEq, Bool.or_false, Bool.or_true, h8, decide_eq_false x3]
          repeat (apply And.intro; focus (first | omega | (simp; done)))
          first | exact ⟨⟨i + 1, hangS c, by omega, by simp, by rw [dx5], pok, by omega, by omega, pw, pl, by first | exact hbx | rfl⟩, by omega⟩ | omega
        exact absurd (p3 x3) s3
      have d4 := decide_eq_false k4
      by_cases k5 : kind % 7 = 5
      · have d5 := decide_eq_true k5
        simp (config := {maxSteps := 3000000}) only [run_reg, run_seq, run_blk, run_cond, if_true, if_false, at_code_n, ops_nil, ops_mv, ops_bin, ops_fld, ops_ix, ops_load, ops_call, ev_t, ev_c, put_get, opv_mk, over_get, args0, List.getD_cons_zero, List.getD_cons_succ, vbin, vbinI, vfld, vix, vload, takeV, V.cells, obsOk, List.map_cons, List.map_nil, List.length_cons, List.length_nil, List.getElem?_cons_zero, and_true, true_and, Nat.reduceEqDiff, Nat.reduceAdd, Int.toNat_natCast, Int.reduceLT, Nat.zero_add, Nat.add_zero, ↓reduceIte, eq_self, Bool.false_eq_true, List.contains_cons, List.contains_nil, Nat.reduceBEq, Bool.or_false, Bool.or_true, h8, hx, opV, d4, d5]
        repeat (apply And.intro; focus (first | omega | (simp; done)))
        refine Cal.mk (Late_v hbc cok) ?_
        rintro _ _ ⟨rfl, rfl⟩ -
        obtain ⟨pok, pe, p5, p3⟩ := lateS_ok cok
        have hbx : (s.put b (lateS c).cells).box b = some (lateS c).cells := put_box_same
        have pw : st.weak (s.put b (lateS c).cells) := weak_put hws hb1
        have pl : (s.put b (lateS c).cells).Lt := hls.put
        by_cases s5 : c.state = 5
        · have x5 := p5 s5
          have dx5 := decide_eq_true x5
          simp (config := {maxSteps := 3000000}) only [run_reg, run_seq, at_code_n, at_blk_n, ops_nil, ops_grd, grd_tt, grd_tf, ops_mv, ops_pick, ops_bin, ops_call, ev_t, ev_c, put_get, opv_mk, over_get, vpick, vbin, vbinI, obsOk, List.map_cons, List.map_nil, true_and, Nat.reduceEqDiff, ↓reduceIte, ne_eq, eq_self, Bool.false_eq_true, List.contains_cons, List.contains_nil, Nat.reduceBEq, Bool.or_false, Bool.or_true, h7, decide_eq_true s5, decide_eq_true (show ¬ c.state = 3 by omega)]
          refine Cal.mk (State_v (c := lateS c) hbx) ?_
          rintro _ _ ⟨rfl, rfl⟩ -
          simp (config := {maxSteps := 3000000}) only [run_reg, run_seq, at_code_n, ops_nil, ops_grd, grd_tt, ops_mv, ops_pick, ops_bin, ops_call, ev_t, ev_c, put_get, opv_mk, over_get, vpick, vbin, vbinI, obsOk, List.map_cons, List.map_nil, true_and, Nat.reduceEqDiff, ↓reduceIte, eq_self, Bool.false_eq_true, List.contains_cons, List.contains_nil, Nat.reduceBEq, Bool.or_false, decide_eq_false (show ¬ (lateS c).state = 3 by omega)]
          refine Cal.mk (State_v (c := lateS c) hbx) ?_
          rintro _ _ ⟨rfl, rfl⟩ -
          simp (config := {maxSteps := 3000000}) only [run_skip, run_reg, run_cond, if_false, at_code_n, at_blk_n, at_rnd_n, ops_nil, ops_grd, grd_und, grd_tt, grd_ff, grd_ft, ops_mv, ops_pick, ops_bin, ev_t, ev_c, put_get, opv_mk, over_get, rel_mk, put_box_same, vpick, vbin, vbinI, norm, obsOk, true_and, Nat.reduceEqDiff, Int.reduceNeg, ↓reduceIte, ne_eq, eq_self, Bool.false_eq_true, List.contains_cons, List.contains_nil, Nat.reduceBEq, Bool.or_false, Bool.or_true, h8, decide_eq_false (show ¬ ¬ (lateS c).state = 5 by omega)]
          repeat (apply And.intro; focus (first | omega | (simp; done)))
          first | exact ⟨⟨i + 1, lateS c, by omega, by simp, by rw [dx5], pok, by omega, by omega, pw, pl, by first | exact hbx | rfl⟩, by omega⟩ | omega
        have ds5 := decide_eq_false s5
        simp (config := {maxSteps := 3000000}) only [run_reg, run_seq, at_code_n, at_blk_n, ops_nil, ops_grd, grd_ff, ops_mv, ops_call, ev_t, put_get, opv_mk, over_get, obsOk, List.map_cons, List.map_nil, true_and, Nat.reduceEqDiff, ↓reduceIte, eq_self, Bool.false_eq_true, List.contains_cons, List.contains_nil, Nat.reduceBEq, Bool.or_false, Bool.or_true, h7, ds5]
        refine Cal.mk (State_v (c := lateS c) hbx) ?_
        rintro _ _ ⟨rfl, rfl⟩ -
        by_cases x5 : (lateS c).state = 5
        · have dx5 := decide_eq_true x5
          by_cases s3 : c.state = 3
          · simp (config := {maxSteps := 3000000}) only [run_reg, run_seq, at_code_n, ops_nil, ops_grd, grd_tt, grd_ff, grd_ft, ops_mv, ops_pick, ops_bin, ops_call, ev_t, ev_c, put_get, opv_mk, over_get, vpick, vbin, vbinI, obsOk, List.map_cons, List.map_nil, true_and, Nat.reduceEqDiff, ↓reduceIte, ne_eq, eq_self, Bool.false_eq_true, List.contains_cons, List.contains_nil, Nat.reduceBEq, Bool.or_false, dx5, decide_eq_false (show ¬ ¬ c.state = 3 by omega)]
            refine Cal.mk (State_v (c := lateS c) hbx) ?_
            rintro _ _ ⟨rfl, rfl⟩ -
            simp (config := {maxSteps := 3000000}) only [run_skip, run_reg, run_cond, if_false, at_code_n, at_blk_n, at_rnd_n, ops_nil, ops_grd, grd_und, grd_tt, grd_ff, grd_ft, ops_mv, ops_pick, ops_bin, ev_t, ev_c, put_get, opv_mk, over_get, rel_mk, put_box_same, vpick, vbin, vbinI, norm, obsOk, true_and, Nat.reduceEqDiff, Int.reduceNeg, ↓reduceIte, ne_eq, eq_self, Bool.false_eq_true, List.contains_cons, List.contains_nil, Nat.reduceBEq, Bool.or_false, Bool.or_true, h8, decide_eq_false (show ¬ ¬ (lateS c).state = 5 by omega)]
            repeat (apply And.intro; focus (first | omega | (simp; done)))
            first | exact ⟨⟨i + 1, lateS c, by omega, by simp, by rw [dx5], pok, by omega, by omega, pw, pl, by first | exact hbx | rfl⟩, by omega⟩ | omega
          · simp (config := {maxSteps := 3000000}) only [run_reg, run_seq, at_code_n, ops_nil, ops_grd, grd_tt, grd_ff, ops_mv, ops_pick, ops_bin, ops_call, ev_t, ev_c, put_get, opv_mk, over_get, vpick, vbin, vbinI, obsOk, List.map_cons, List.map_nil, true_and, Nat.reduceEqDiff, ↓reduceIte, ne_eq, eq_self, Bool.false_eq_true, List.contains_cons, List.contains_nil, Nat.reduceBEq, Bool.or_false, dx5, decide_eq_true (p := ¬ c.state = 3) s3]
            refine Cal.mk (State_v (c := lateS c) hbx) ?_
            rintro _ _ ⟨rfl, rfl⟩ -
            simp (config := {maxSteps := 3000000}) only [run_reg, run_seq, at_code_n, ops_nil, ops_grd, grd_tt, ops_mv, ops_pick, ops_bin, ops_call, ev_t, ev_c, put_get, opv_mk, over_get, vpick, vbin, vbinI, obsOk, List.map_cons, List.map_nil, true_and, Nat.reduceEqDiff, ↓reduceIte, eq_self, Bool.false_eq_true, List.contains_cons, List.contains_nil, Nat.reduceBEq, Bool.or_false, decide_eq_false (show ¬ (lateS c).state = 3 by omega)]
            refine Cal.mk (State_v (c := lateS c) hbx) ?_
            rintro _ _ ⟨rfl, rfl⟩ -
            simp (config := {maxSteps := 3000000}) only [run_skip, run_reg, run_cond, if_false, at_code_n, at_blk_n, at_rnd_n, ops_nil, ops_grd, grd_und, grd_tt, grd_ff, grd_ft, ops_mv, ops_pick, ops_bin, ev_t, ev_c, put_get, opv_mk, over_get, rel_mk, put_box_same, vpick, vbin, vbinI, norm, obsOk, true_and, Nat.reduceEqDiff, Int.reduceNeg, ↓reduceIte, ne_eq, eq_self, Bool.false_eq_true, List.contains_cons, List.contains_nil, Nat.reduceBEq, Bool.or_false, Bool.or_true, h8, decide_eq_false (show ¬ ¬ (lateS c).state = 5 by omega)]
            repeat (apply And.intro; focus (first | omega | (simp; done)))
            first | exact ⟨⟨i + 1, lateS c, by omega, by simp, by rw [dx5], pok, by omega, by omega, pw, pl, by first | exact hbx | rfl⟩, by omega⟩ | omega
        have dx5 := decide_eq_false x5
        by_cases s3 : c.state = 3
        · simp (config := {maxSteps := 3000000}) only [run_skip, run_reg, run_seq, run_cond, if_false, at_code_n, at_blk_n, at_rnd_n, ops_nil, ops_grd, grd_und, grd_ff, grd_ft, ops_mv, ops_pick, ops_bin, ev_t, ev_c, put_get, opv_mk, over_get, rel_mk, put_box_same, vpick, vbin, vbinI, norm, obsOk, true_and, Nat.reduceEqDiff, Int.reduceNeg, ↓reduceIte, ne_eq, eq_self, Bool.false_eq_true, List.contains_cons, List.contains_nil, Nat.reduceBEq, Bool.or_false, Bool.or_true, h8, dx5, decide_eq_false (show ¬ ¬ c.state = 3 by omega)]
          repeat (apply And.intro; focus (first | omega | (simp; done)))
          first | exact ⟨⟨i + 1, lateS c, by omega, by simp, by rw [dx5], pok, by omega, by omega, pw, pl, by first | exact hbx | rfl⟩, by omega⟩ | omega
        simp (config := {maxSteps := 3000000}) only [run_reg, run_seq, at_code_n, ops_nil, ops_grd, grd_tt, grd_ff, ops_mv, ops_pick, ops_bin, ops_call, ev_t, ev_c, put_get, opv_mk, over_get, vpick, vbin, vbinI, obsOk, List.map_cons, List.map_nil, true_and, Nat.reduceEqDiff, ↓reduceIte, ne_eq, eq_self, Bool.false_eq_true, List.contains_cons, List.contains_nil, Nat.reduceBEq, Bool.or_false, dx5, decide_eq_true (p := ¬ c.state = 3) s3]
        refine Cal.mk (State_v (c := lateS c) hbx) ?_
        rintro _ _ ⟨rfl, rfl⟩ -
        by_cases x3 : (lateS c).state = 3
        rotate_left
        · simp (config := {maxSteps := 3000000}) only [run_skip, run_reg, run_seq, run_cond, if_false, at_code_n, at_blk_n, at_rnd_n, ops_nil, ops_grd, grd_und, grd_tt, grd_ff, grd_ft, ops_mv, ops_pick, ops_bin, ev_t, ev_c, put_get, opv_mk, over_get, rel_mk, put_box_same, vpick, vbin, vbinI, norm, obsOk, true_and, Nat.reduceEqDiff, Int.reduceNeg, ↓reduceIte, eq_self, Bool.false_eq_true, List.contains_cons, List.contains_nil, Nat.reduceBEq, Bool.or_false, Bool.or_true, h8, decide_eq_false x3]
          repeat (apply And.intro; focus (first | omega | (simp; done)))
          first | exact ⟨⟨i + 1, lateS c, by omega, by simp, by rw [dx5], pok, by omega, by omega, pw, pl, by first | exact hbx | rfl⟩, by omega⟩ | omega
        exact absurd (p3 x3) s3
      have d5 := decide_eq_false k5
      by_cases k6 : kind % 7 = 6
      · have d6 := decide_eq_true k6
        simp (config := {maxSteps := 3000000}) only [run_reg, run_seq, run_blk, run_cond, if_true, if_false, at_code_n, ops_nil, ops_mv, ops_bin, ops_fld, ops_ix, ops_load, ops_call, ev_t, ev_c, put_get, opv_mk, over_get, args0, List.getD_cons_zero, List.getD_cons_succ, vbin, vbinI, vfld, vix, vload, takeV, V.cells, obsOk, List.map_cons, List.map_nil, List.length_cons, List.length_nil, List.getElem?_cons_zero, and_true, true_and, Nat.reduceEqDiff, Nat.reduceAdd, Int.toNat_natCast, Int.reduceLT, Nat.zero_add, Nat.add_zero, ↓reduceIte, eq_self, Bool.false_eq_true, List.contains_cons, List.contains_nil, Nat.reduceBEq, Bool.or_false, Bool.or_true, h8, hx, opV, d4, d5, d6]
        repeat (apply And.intro; focus (first | omega | (simp; done)))
        refine Cal.mk (Info_v hbc cok) ?_
        rintro _ _ ⟨rfl, rfl⟩ -
        have pok := cok
        have p5 : c.state = 5 → c.state = 5 := fun h => h
        have p3 : c.state = 3 → c.state = 3 := fun h => h
        have hbx := hbc
        have pw := hws
        have pl := hls
        by_cases s5 : c.state = 5
        · have x5 := p5 s5
          have dx5 := decide_eq_true x5
          simp (config := {maxSteps := 3000000}) only [run_reg, run_seq, at_code_n, at_blk_n, ops_nil, ops_grd, grd_tt, grd_tf, ops_mv, ops_pick, ops_bin, ops_call, ev_t, ev_c, put_get, opv_mk, over_get, vpick, vbin, vbinI, obsOk, List.map_cons, List.map_nil, true_and, Nat.reduceEqDiff, ↓reduceIte, ne_eq, eq_self, Bool.false_eq_true, List.contains_cons, List.contains_nil, Nat.reduceBEq, Bool.or_false, Bool.or_true, h7, decide_eq_true s5, decide_eq_true (show ¬ c.state = 3 by omega)]
          refine Cal.mk (State_v (c := c) hbx) ?_
          rintro _ _ ⟨rfl, rfl⟩ -
          simp (config := {maxSteps := 3000000}) only [run_reg, run_seq, at_code_n, ops_nil, ops_grd, grd_tt, ops_mv, ops_pick, ops_bin, ops_call, ev_t, ev_c, put_get, opv_mk, over_get, vpick, vbin, vbinI, obsOk, List.map_cons, List.map_nil, true_and, Nat.reduceEqDiff, ↓reduceIte, eq_self, Bool.false_eq_true, List.contains_cons, List.contains_nil, Nat.reduceBEq, Bool.or_false, decide_eq_false (show ¬ (c).state = 3 by omega)]
          refine Cal.mk (State_v (c := c) hbx) ?_
          rintro _ _ ⟨rfl, rfl⟩ -
          simp (config := {maxSteps := 3000000}) only [run_skip, run_reg, run_cond, if_false, at_code_n, at_blk_n, at_rnd_n, ops_nil, ops_grd, grd_und, grd_tt, grd_ff, grd_ft, ops_mv, ops_pick, ops_bin, ev_t, ev_c, put_get, opv_mk, over_get, rel_mk, vpick, vbin, vbinI, norm, obsOk, true_and, Nat.reduceEqDiff, Int.reduceNeg, ↓reduceIte, ne_eq, eq_self, Bool.false_eq_true, List.contains_cons, List.contains_nil, Nat.reduceBEq, Bool.or_false, Bool.or_true, h8, decide_eq_false (show ¬ ¬ (c).state = 5 by omega)]
          repeat (apply And.intro; focus (first | omega | (simp; done)))
          first | exact ⟨⟨i + 1, c, by omega, by simp, by rw [dx5], pok, by omega, by omega, pw, pl, by first | exact hbx | rfl⟩, by omega⟩ | omega
        have ds5 := decide_eq_false s5
        simp (config := {maxSteps := 3000000}) only [run_reg, run_seq, at_code_n, at_blk_n, ops_nil, ops_grd, grd_ff, ops_mv, ops_call, ev_t, put_get, opv_mk, over_get, obsOk, List.map_cons, List.map_nil, true_and, Nat.reduceEqDiff, ↓reduceIte, eq_self, Bool.false_eq_true, List.contains_cons, List.contains_nil, Nat.reduceBEq, Bool.or_false, Bool.or_true, h7, ds5]
        refine Cal.mk (State_v (c := c) hbx) ?_
        rintro _ _ ⟨rfl, rfl⟩ -
        by_cases x5 : (c).state = 5
        · have dx5 := decide_eq_true x5
          by_cases s3 : c.state = 3
          · simp (config := {maxSteps := 3000000}) only [run_reg, run_seq, at_code_n, ops_nil, ops_grd, grd_tt, grd_ff, grd_ft, ops_mv, ops_pick, ops_bin, ops_call, ev_t, ev_c, put_get, opv_mk, over_get, vpick, vbin, vbinI, obsOk, List.map_cons, List.map_nil, true_and, Nat.reduceEqDiff, ↓reduceIte, ne_eq, eq_self, Bool.false_eq_true, List.contains_cons, List.contains_nil, Nat.reduceBEq, Bool.or_false, dx5, decide_eq_false (show ¬ ¬ c.state = 3 by omega)]
            refine Cal.mk (State_v (c := c) hbx) ?_
            rintro _ _ ⟨rfl, rfl⟩ -
            simp (config := {maxSteps := 3000000}) only [run_skip, run_reg, run_cond, if_false, at_code_n, at_blk_n, at_rnd_n, ops_nil, ops_grd, grd_und, grd_tt, grd_ff, grd_ft, ops_mv, ops_pick, ops_bin, ev_t, ev_c, put_get, opv_mk, over_get, rel_mk, vpick, vbin, vbinI, norm, obsOk, true_and, Nat.reduceEqDiff, Int.reduceNeg, ↓reduceIte, ne_eq, eq_self, Bool.false_eq_true, List.contains_cons, List.contains_nil, Nat.reduceBEq, Bool.or_false, Bool.or_true, h8, decide_eq_false (show ¬ ¬ (c).state = 5 by omega)]
            repeat (apply And.intro; focus (first | omega | (simp; done)))
            first | exact ⟨⟨i + 1, c, by omega, by simp, by rw [dx5], pok, by omega, by omega, pw, pl, by first | exact hbx | rfl⟩, by omega⟩ | omega
          · simp (config := {maxSteps := 3000000}) only [run_reg, run_seq, at_code_n, ops_nil, ops_grd, grd_tt, grd_ff, ops_mv, ops_pick, ops_bin, ops_call, ev_t, ev_c, put_get, opv_mk, over_get, vpick, vbin, vbinI, obsOk, List.map_cons, List.map_nil, true_and, Nat.reduceEqDiff, ↓reduceIte, ne_eq, eq_self, Bool.false_eq_true, List.contains_cons, List.contains_nil, Nat.reduceBEq, Bool.or_false, dx5, decide_eq_true (p := ¬ c.state = 3) s3]
            refine Cal.mk (State_v (c := c) hbx) ?_
            rintro _ _ ⟨rfl, rfl⟩ -
            simp (config := {maxSteps := 3000000}) only [run_reg, run_seq, at_code_n, ops_nil, ops_grd, grd_tt, ops_mv, ops_pick, ops_bin, ops_call, ev_t, ev_c, put_get, opv_mk, over_get, vpick, vbin, vbinI, obsOk, List.map_cons, List.map_nil, true_and, Nat.reduceEqDiff, ↓reduceIte, eq_self, Bool.false_eq_true, List.contains_cons, List.contains_nil, Nat.reduceBEq, Bool.or_false, decide_eq_false (show ¬ (c).state = 3 by omega)]
            refine Cal.mk (State_v (c := c) hbx) ?_
            rintro _ _ ⟨rfl, rfl⟩ -
            simp (config := {maxSteps := 3000000}) only [run_skip, run_reg, run_cond, if_false, at_code_n, at_blk_n, at_rnd_n, ops_nil, ops_grd, grd_und, grd_tt, grd_ff, grd_ft, ops_mv, ops_pick, ops_bin, ev_t, ev_c, put_get, opv_mk, over_get, rel_mk, vpick, vbin, vbinI, norm, obsOk, true_and, Nat.reduceEqDiff, Int.reduceNeg, ↓reduceIte, ne_eq, eq_self, Bool.false_eq_true, List.contains_cons, List.contains_nil, Nat.reduceBEq, Bool.or_false, Bool.or_true, h8, decide_eq_false (show ¬ ¬ (c).state = 5 by omega)]
            repeat (apply And.intro; focus (first | omega | (simp; done)))
            first | exact ⟨⟨i + 1, c, by omega, by simp, by rw [dx5], pok, by omega, by omega, pw, pl, by first | exact hbx | rfl⟩, by omega⟩ | omega
        have dx5 := decide_eq_false x5
        by_cases s3 : c.state = 3
        · simp (config := {maxSteps := 3000000}) only [run_skip, run_reg, run_seq, run_cond, if_false, at_code_n, at_blk_n, at_rnd_n, ops_nil, ops_grd, grd_und, grd_ff, grd_ft, ops_mv, ops_pick, ops_bin, ev_t, ev_c, put_get, opv_mk, over_get, rel_mk, vpick, vbin, vbinI, norm, obsOk, true_and, Nat.reduceEqDiff, Int.reduceNeg, ↓reduceIte, ne_eq, eq_self, Bool.false_eq_true, List.contains_cons, List.contains_nil, Nat.reduceBEq, Bool.or_false, Bool.or_true, h8, dx5, decide_eq_false (show ¬ ¬ c.state = 3 by omega)]
          repeat (apply And.intro; focus (first | omega | (simp; done)))
          first | exact ⟨⟨i + 1, c, by omega, by simp, by rw [dx5], pok, by omega, by omega, pw, pl, by first | exact hbx | rfl⟩, by omega⟩ | omega
        simp (config := {maxSteps := 3000000}) only [run_reg, run_seq, at_code_n, ops_nil, ops_grd, grd_tt, grd_ff, ops_mv, ops_pick, ops_bin, ops_call, ev_t, ev_c, put_get, opv_mk, over_get, vpick, vbin, vbinI, obsOk, List.map_cons, List.map_nil, true_and, Nat.reduceEqDiff, ↓reduceIte, ne_eq, eq_self, Bool.false_eq_true, List.contains_cons, List.contains_nil, Nat.reduceBEq, Bool.or_false, dx5, decide_eq_true (p := ¬ c.state = 3) s3]
        refine Cal.mk (State_v (c := c) hbx) ?_
        rintro _ _ ⟨rfl, rfl⟩ -
        by_cases x3 : (c).state = 3
        rotate_left
        · simp (config := {maxSteps := 3000000}) only [run_skip, run_reg, run_seq, run_cond, if_false, at_code_n, at_blk_n, at_rnd_n, ops_nil, ops_grd, grd_und, grd_tt, grd_ff, grd_ft, ops_mv, ops_pick, ops_bin, ev_t, ev_c, put_get, opv_mk, over_get, rel_mk, vpick, vbin, vbinI, norm, obsOk, true_and, Nat.reduceEqDiff, Int.reduceNeg, ↓reduceIte, eq_self, Bool.false_eq_true, List.contains_cons, List.contains_nil, Nat.reduceBEq, Bool.or_false, Bool.or_true, h8, decide_eq_false x3]
          repeat (apply And.intro; focus (first | omega | (simp; done)))
          first | exact ⟨⟨i + 1, c, by omega, by simp, by rw [dx5], pok, by omega, by omega, pw, pl, by first | exact hbx | rfl⟩, by omega⟩ | omega
        exact absurd (p3 x3) s3
      have d6 := decide_eq_false k6
      have gt := callTake_v (st := s) hbc cok ⟨ce0, by omega⟩ hLi
      simp only [M9.v, M9.cells] at gt
      simp (config := {maxSteps := 3000000}) only [run_reg, run_seq, run_blk, run_cond, if_false, at_code_n, ops_nil, ops_mv, ops_bin, ops_fld, ops_ix, ops_load, ops_call, ev_t, ev_c, put_get, opv_mk, over_get, args0, List.getD_cons_zero, List.getD_cons_succ, vbin, vbinI, vfld, vix, vload, takeV, V.cells, obsOk, List.map_cons, List.map_nil, List.length_cons, List.length_nil, List.getElem?_cons_zero, List.take_succ_cons, List.drop_succ_cons, List.drop_zero, List.take_nil, and_true, true_and, Nat.reduceEqDiff, Nat.reduceAdd, Nat.reduceLeDiff, Int.toNat_natCast, Int.reduceLT, Nat.zero_add, Nat.add_zero, ↓reduceIte, eq_self, Bool.false_eq_true, List.contains_cons, List.contains_nil, Nat.reduceBEq, Bool.or_false, Bool.or_true, h8, hx, opV, d4, d5, d6]
      repeat (apply And.intro; focus (first | omega | (simp; done)))
      refine Cal.mk gt ?_
      rintro _ _ ⟨rfl, rfl⟩ -
      obtain ⟨pok, pe, pe2, p5, p3⟩ := takeS_ok cok ⟨uy, u0, u1, u2, u3, u4, u5, u6, u7, u8, v0, v1, v2⟩
      simp only at p3
      have hbx : (s.put b (takeS c ⟨uy, u0, u1, u2, u3, u4, u5, u6, u7, u8, v0, v1, v2⟩).cells).box b = some (takeS c ⟨uy, u0, u1, u2, u3, u4, u5, u6, u7, u8, v0, v1, v2⟩).cells := put_box_same
      have pw : st.weak (s.put b (takeS c ⟨uy, u0, u1, u2, u3, u4, u5, u6, u7, u8, v0, v1, v2⟩).cells) := weak_put hws hb1
      have pl : (s.put b (takeS c ⟨uy, u0, u1, u2, u3, u4, u5, u6, u7, u8, v0, v1, v2⟩).cells).Lt := hls.put
      by_cases s5 : c.state = 5
      · have x5 := p5 s5
        have dx5 := decide_eq_true x5
        simp (config := {maxSteps := 3000000}) only [run_reg, run_seq, at_code_n, at_blk_n, ops_nil, ops_grd, grd_tt, grd_tf, ops_mv, ops_pick, ops_bin, ops_call, ev_t, ev_c, put_get, opv_mk, over_get, vpick, vbin, vbinI, obsOk, List.map_cons, List.map_nil, true_and, Nat.reduceEqDiff, ↓reduceIte, ne_eq, eq_self, Bool.false_eq_true, List.contains_cons, List.contains_nil, Nat.reduceBEq, Bool.or_false, Bool.or_true, h7, decide_eq_true s5, decide_eq_true (show ¬ c.state = 3 by omega)]
        refine Cal.mk (State_v (c := takeS c ⟨uy, u0, u1, u2, u3, u4, u5, u6, u7, u8, v0, v1, v2⟩) hbx) ?_
        rintro _ _ ⟨rfl, rfl⟩ -
        simp (config := {maxSteps := 3000000}) only [run_reg, run_seq, at_code_n, ops_nil, ops_grd, grd_tt, ops_mv, ops_pick, ops_bin, ops_call, ev_t, ev_c, put_get, opv_mk, over_get, vpick, vbin, vbinI, obsOk, List.map_cons, List.map_nil, true_and, Nat.reduceEqDiff, ↓reduceIte, eq_self, Bool.false_eq_true, List.contains_cons, List.contains_nil, Nat.reduceBEq, Bool.or_false, decide_eq_false (show ¬ (takeS c ⟨uy, u0, u1, u2, u3, u4, u5, u6, u7, u8, v0, v1, v2⟩).state = 3 by omega)]
        refine Cal.mk (State_v (c := takeS c ⟨uy, u0, u1, u2, u3, u4, u5, u6, u7, u8, v0, v1, v2⟩) hbx) ?_
        rintro _ _ ⟨rfl, rfl⟩ -
        simp (config := {maxSteps := 3000000}) only [run_skip, run_reg, run_cond, if_false, at_code_n, at_blk_n, at_rnd_n, ops_nil, ops_grd, grd_und, grd_tt, grd_ff, grd_ft, ops_mv, ops_pick, ops_bin, ev_t, ev_c, put_get, opv_mk, over_get, rel_mk, put_box_same, vpick, vbin, vbinI, norm, obsOk, true_and, Nat.reduceEqDiff, Int.reduceNeg, ↓reduceIte, ne_eq, eq_self, Bool.false_eq_true, List.contains_cons, List.contains_nil, Nat.reduceBEq, Bool.or_false, Bool.or_true, h8, decide_eq_false (show ¬ ¬ (takeS c ⟨uy, u0, u1, u2, u3, u4, u5, u6, u7, u8, v0, v1, v2⟩).state = 5 by omega)]
        repeat (apply And.intro; focus (first | omega | (simp; done)))
        first | exact ⟨⟨i + 1, takeS c ⟨uy, u0, u1, u2, u3, u4, u5, u6, u7, u8, v0, v1, v2⟩, by omega, by simp, by rw [dx5], pok, by omega, by omega, pw, pl, by first | exact hbx | rfl⟩, by omega⟩ | omega
      have ds5 := decide_eq_false s5
      simp (config := {maxSteps := 3000000}) only [run_reg, run_seq, at_code_n, at_blk_n, ops_nil, ops_grd, grd_ff, ops_mv, ops_call, ev_t, put_get, opv_mk, over_get, obsOk, List.map_cons, List.map_nil, true_and, Nat.reduceEqDiff, ↓reduceIte, eq_self, Bool.false_eq_true, List.contains_cons, List.contains_nil, Nat.reduceBEq, Bool.or_false, Bool.or_true, h7, ds5]
      refine Cal.mk (State_v (c := takeS c ⟨uy, u0, u1, u2, u3, u4, u5, u6, u7, u8, v0, v1, v2⟩) hbx) ?_
      rintro _ _ ⟨rfl, rfl⟩ -
      by_cases x5 : (takeS c ⟨uy, u0, u1, u2, u3, u4, u5, u6, u7, u8, v0, v1, v2⟩).state = 5
      · have dx5 := decide_eq_true x5
        by_cases s3 : c.state = 3
        · simp (config := {maxSteps := 3000000}) only [run_reg, run_seq, at_code_n, ops_nil, ops_grd, grd_tt, grd_ff, grd_ft, ops_mv, ops_pick, ops_bin, ops_call, ev_t, ev_c, put_get, opv_mk, over_get, vpick, vbin, vbinI, obsOk, List.map_cons, List.map_nil, true_and, Nat.reduceEqDiff, ↓reduceIte, ne_eq, eq_self, Bool.false_eq_true, List.contains_cons, List.contains_nil, Nat.reduceBEq, Bool.or_false, dx5, decide_eq_false (show ¬ ¬ c.state = 3 by omega)]
          refine Cal.mk (State_v (c := takeS c ⟨uy, u0, u1, u2, u3, u4, u5, u6, u7, u8, v0, v1, v2⟩) hbx) ?_
          rintro _ _ ⟨rfl, rfl⟩ -
          simp (config := {maxSteps := 3000000}) only [run_skip, run_reg, run_cond, if_false, at_code_n, at_blk_n, at_rnd_n, ops_nil, ops_grd, grd_und, grd_tt, grd_ff, grd_ft, ops_mv, ops_pick, ops_bin, ev_t, ev_c, put_get, opv_mk, over_get, rel_mk, put_box_same, vpick, vbin, vbinI, norm, obsOk, true_and, Nat.reduceEqDiff, Int.reduceNeg, ↓reduceIte, ne_eq, eq_self, Bool.false_eq_true, List.contains_cons, List.contains_nil, Nat.reduceBEq, Bool.or_false, Bool.or_true, h8, decide_eq_false (show ¬ ¬ (takeS c ⟨uy, u0, u1, u2, u3, u4, u5, u6, u7, u8, v0, v1, v2⟩).state = 5 by omega)]
          repeat (apply And.intro; focus (first | omega | (simp; done)))
          first | exact ⟨⟨i + 1, takeS c ⟨uy, u0, u1, u2, u3, u4, u5, u6, u7, u8, v0, v1, v2⟩, by omega, by simp, by rw [dx5], pok, by omega, by omega, pw, pl, by first | exact hbx | rfl⟩, by omega⟩ | omega
        · simp (config := {maxSteps := 3000000}) only [run_reg, run_seq, at_code_n, ops_nil, ops_grd, grd_tt, grd_ff, ops_mv, ops_pick, ops_bin, ops_call, ev_t, ev_c, put_get, opv_mk, over_get, vpick, vbin, vbinI, obsOk, List.map_cons, List.map_nil, true_and, Nat.reduceEqDiff, ↓reduceIte, ne_eq, eq_self, Bool.false_eq_true, List.contains_cons, List.contains_nil, Nat.reduceBEq, Bool.or_false, dx5, decide_eq_true (p := ¬ c.state = 3) s3]
          refine Cal.mk (State_v (c := takeS c ⟨uy, u0, u1, u2, u3, u4, u5, u6, u7, u8, v0, v1, v2⟩) hbx) ?_
          rintro _ _ ⟨rfl, rfl⟩ -
          simp (config := {maxSteps := 3000000}) only [run_reg, run_seq, at_code_n, ops_nil, ops_grd, grd_tt, ops_mv, ops_pick, ops_bin, ops_call, ev_t, ev_c, put_get, opv_mk, over_get, vpick, vbin, vbinI, obsOk, List.map_cons, List.map_nil, true_and, Nat.reduceEqDiff, ↓reduceIte, eq_self, Bool.false_eq_true, List.contains_cons, List.contains_nil, Nat.reduceBEq, Bool.or_false, decide_eq_false (show ¬ (takeS c ⟨uy, u0, u1, u2, u3, u4, u5, u6, u7, u8, v0, v1, v2⟩).state = 3 by omega)]
          refine Cal.mk (State_v (c := takeS c ⟨uy, u0, u1, u2, u3, u4, u5, u6, u7, u8, v0, v1, v2⟩) hbx) ?_
          rintro _ _ ⟨rfl, rfl⟩ -
          simp (config := {maxSteps := 3000000}) only [run_skip, run_reg, run_cond, if_false, at_code_n, at_blk_n, at_rnd_n, ops_nil, ops_grd, grd_und, grd_tt, grd_ff, grd_ft, ops_mv, ops_pick, ops_bin, ev_t, ev_c, put_get, opv_mk, over_get, rel_mk, put_box_same, vpick, vbin, vbinI, norm, obsOk, true_and, Nat.reduceEqDiff, Int.reduceNeg, ↓reduceIte, ne_eq, eq_self, Bool.false_eq_true, List.contains_cons, List.contains_nil, Nat.reduceBEq, Bool.or_false, Bool.or_true, h8, decide_eq_false (show ¬ ¬ (takeS c ⟨uy, u0, u1, u2, u3, u4, u5, u6, u7, u8, v0, v1, v2⟩).state = 5 by omega)]
          repeat (apply And.intro; focus (first | omega | (simp; done)))
          first | exact ⟨⟨i + 1, takeS c ⟨uy, u0, u1, u2, u3, u4, u5, u6, u7, u8, v0, v1, v2⟩, by omega, by simp, by rw [dx5], pok, by omega, by omega, pw, pl, by first | exact hbx | rfl⟩, by omega⟩ | omega
      have dx5 := decide_eq_false x5
      by_cases s3 : c.state = 3
      · simp (config := {maxSteps := 3000000}) only [run_skip, run_reg, run_seq, run_cond, if_false, at_code_n, at_blk_n, at_rnd_n, ops_nil, ops_grd, grd_und, grd_ff, grd_ft, ops_mv, ops_pick, ops_bin, ev_t, ev_c, put_get, opv_mk, over_get, rel_mk, put_box_same, vpick, vbin, vbinI, norm, obsOk, true_and, Nat.reduceEqDiff, Int.reduceNeg, ↓reduceIte, ne_eq, eq_self, Bool.false_eq_true, List.contains_cons, List.contains_nil, Nat.reduceBEq, Bool.or_false, Bool.or_true, h8, dx5, decide_eq_false (show ¬ ¬ c.state = 3 by omega)]
        repeat (apply And.intro; focus (first | omega | (simp; done)))
        first | exact ⟨⟨i + 1, takeS c ⟨uy, u0, u1, u2, u3, u4, u5, u6, u7, u8, v0, v1, v2⟩, by omega, by simp, by rw [dx5], pok, by omega, by omega, pw, pl, by first | exact hbx | rfl⟩, by omega⟩ | omega
      simp (config := {maxSteps := 3000000}) only [run_reg, run_seq, at_code_n, ops_nil, ops_grd, grd_tt, grd_ff, ops_mv, ops_pick, ops_bin, ops_call, ev_t, ev_c, put_get, opv_mk, over_get, vpick, vbin, vbinI, obsOk, List.map_cons, List.map_nil, true_and, Nat.reduceEqDiff, ↓reduceIte, ne_eq, eq_self, Bool.false_eq_true, List.contains_cons, List.contains_nil, Nat.reduceBEq, Bool.or_false, dx5, decide_eq_true (p := ¬ c.state = 3) s3]
      refine Cal.mk (State_v (c := takeS c ⟨uy, u0, u1, u2, u3, u4, u5, u6, u7, u8, v0, v1, v2⟩) hbx) ?_
      rintro _ _ ⟨rfl, rfl⟩ -
      by_cases x3 : (takeS c ⟨uy, u0, u1, u2, u3, u4, u5, u6, u7, u8, v0, v1, v2⟩).state = 3
      rotate_left
      · simp (config := {maxSteps := 3000000}) only [run_skip, run_reg, run_seq, run_cond, if_false, at_code_n, at_blk_n, at_rnd_n, ops_nil, ops_grd, grd_und, grd_tt, grd_ff, grd_ft, ops_mv, ops_pick, ops_bin, ev_t, ev_c, put_get, opv_mk, over_get, rel_mk, put_box_same, vpick, vbin, vbinI, norm, obsOk, true_and, Nat.reduceEqDiff, Int.reduceNeg, ↓reduceIte, eq_self, Bool.false_eq_true, List.contains_cons, List.contains_nil, Nat.reduceBEq, Bool.or_false, Bool.or_true, h8, decide_eq_false x3]
        repeat (apply And.intro; focus (first | omega | (simp; done)))
        first | exact ⟨⟨i + 1, takeS c ⟨uy, u0, u1, u2, u3, u4, u5, u6, u7, u8, v0, v1, v2⟩, by omega, by simp, by rw [dx5], pok, by omega, by omega, pw, pl, by first | exact hbx | rfl⟩, by omega⟩ | omega
      by_cases y1 : uy = 11
      · simp (config := {maxSteps := 3000000}) only [run_skip, run_reg, run_seq, run_cond, if_false, at_code_n, at_blk_n, at_rnd_n, ops_nil, ops_grd, grd_und, grd_tt, grd_ff, grd_ft, ops_mv, ops_pick, ops_bin, ops_fld, ops_ix, ops_load, ev_t, ev_c, put_get, opv_mk, over_get, rel_mk, put_box_same, args0, List.getD_cons_zero, List.getD_cons_succ, vpick, vbin, vbinI, norm, vfld, vix, vload, takeV, V.cells, obsOk, List.length_cons, List.length_nil, List.getElem?_cons_zero, List.getElem?_cons_succ, and_true, true_and, Nat.reduceEqDiff, Nat.reduceAdd, Int.toNat_natCast, Int.reduceNeg, Nat.zero_add, Nat.add_zero, ↓reduceIte, ne_eq, eq_self, Bool.false_eq_true, List.contains_cons, List.contains_nil, Nat.reduceBEq, Bool.or_false, Bool.or_true, h8, hx, opV, decide_eq_true x3, decide_eq_false (show ¬ ¬ uy = 11 by omega)]
        repeat (apply And.intro; focus (first | omega | (simp; done)))
        first | exact ⟨⟨i + 1, takeS c ⟨uy, u0, u1, u2, u3, u4, u5, u6, u7, u8, v0, v1, v2⟩, by omega, by simp, by rw [dx5], pok, by omega, by omega, pw, pl, by first | exact hbx | rfl⟩, by omega⟩ | omega
      have y2 : uy = 8 ∧ u2 = 1 := by rcases p3 x3 with h | h | h; exact absurd h s3; exact absurd h y1; exact h
      simp (config := {maxSteps := 3000000}) only [run_skip, run_reg, run_seq, run_cond, if_false, at_code_n, at_blk_n, at_rnd_n, ops_nil, ops_grd, grd_tt, grd_ff, grd_ft, ops_mv, ops_pick, ops_bin, ops_fld, ops_ix, ops_ixa, ops_load, ev_t, ev_c, put_get, opv_mk, over_get, rel_mk, put_box_same, args0, List.getD_cons_zero, List.getD_cons_succ, vpick, vbin, vbinI, norm, vfld, vix, vixa, vload, takeV, V.cells, obsOk, List.length_cons, List.length_nil, List.getElem?_cons_zero, List.getElem?_cons_succ, and_true, true_and, Nat.reduceEqDiff, Nat.reduceAdd, Int.reduceToNat, Int.toNat_natCast, Int.reduceLE, Int.reduceLT, Int.reduceNeg, Nat.zero_add, Nat.add_zero, Nat.mul_one, ↓reduceIte, ne_eq, eq_self, Bool.false_eq_true, List.contains_cons, List.contains_nil, Nat.reduceBEq, Bool.or_false, Bool.or_true, h8, hx, opV, nc9, decide_eq_true x3, decide_eq_true (p := ¬ uy = 11) y1, decide_eq_false (show ¬ ¬ uy = 8 by omega), decide_eq_false (show ¬ ¬ u2 = 1 by omega)]
      repeat (apply And.intro; focus (first | omega | (simp; done)))
      first | exact ⟨⟨i + 1, takeS c ⟨uy, u0, u1, u2, u3, u4, u5, u6, u7, u8, v0, v1, v2⟩, by omega, by simp, by rw [dx5], pok, by omega, by omega, pw, pl, by first | exact hbx | rfl⟩, by omega⟩ | omega
  · simp (config := {maxSteps := 3000000}) only [run_reg, run_cond, if_true, at_code_n, ops_nil, ops_fld, ops_load, ops_call, ev_t, put_get, opv_mk, put_box_same, vfld, vload, takeV, V.cells, List.map_cons, List.map_nil, List.length_cons, List.length_nil, List.getElem?_cons_zero, List.getElem?_cons_succ, List.take_succ_cons, List.take_zero, List.drop_succ_cons, List.drop_zero, true_and, Nat.reduceEqDiff, Nat.reduceAdd, Nat.reduceLeDiff, Nat.zero_add, ↓reduceIte, eq_self, put_box_ne (Nat.ne_of_lt had), put_box_ne (Nat.ne_of_lt hab)]
    refine Cal.mk (gi hw _) ?_
    rintro _ _ ⟨e, he, rfl, rfl⟩ -
    have he1 : st.sz ≤ e := by simp only [put_sz] at he; omega
    have hn0 := hm.n0
    simp only at hn0
    simp (config := {maxSteps := 3000000}) only [run_skip, run_reg, run_seq, run_blk, run_cond, if_false, at_code_n, ops_nil, ops_mv, ops_pnil, vpnil, ops_ext, ev_t, ev_c, put_get, opv_mk, vext, ptrV, obsOk, List.getElem?_cons_zero, List.getElem?_cons_succ, true_and, Nat.reduceEqDiff, ↓reduceIte, eq_self]
    clear gi
    refine run_loop [4, 7, 8, 9, 10, 48, 49, 50, 51, 52, 53, 54, 55, 56, 57, 58, 59, 60, 61, 62, 63, 64, 65, 66, 67, 68, 69, 70, 71, 72, 73, 74, 75, 76, 77, 78, 79, 80, 81, 82, 83, 84, 85, 86, 87, 88, 89, 90, 91, 92, 93, 94, 95, 96, 97, 98, 99, 100, 101, 102, 103, 104, 105, 106, 107, 108, 109, 110, 111, 112, 113, 114, 115, 116, 117, 118, 119, 120, 121, 122, 123, 124, 125, 126, 127, 128, 129, 130, 131, 132, 133, 134, 135, 136] (fun B s => ∃ (i : Nat) (c : CL), i ≤ L.length ∧ B 8 = .sc (.int .i64 (i : Int)) ∧ B 7 = .sc (.bool (decide (c.state = 5))) ∧ c.Ok ∧ 0 ≤ c.errors ∧ c.errors ≤ (i : Int) ∧ st.weak s ∧ s.Lt ∧ s.box e = some c.cells) (fun B _ => L.length - vnat (B 8)) rfl ?_ ?_
    · simp (config := {maxSteps := 3000000}) only [put_get, put_box_same, Nat.reduceEqDiff, ↓reduceIte, eq_self]
      exact ⟨0, inC ⟨ty, n0, n1, n2, n3, n4, n5, n6, n7, n8, t0, t1, t2⟩ mine, by omega, by simp, by simp [inC], ⟨h0, by simp only [inC]; omega⟩, by simp [inC], by simp [inC], weak_put (weak_put (weak_put (weak_put hwf.weak ha) hb1) hd1) he1, hwf.lt.put.put.put.put, by first | exact put_box_same | rfl⟩
    · rintro B s ⟨i, c, hi, h8, h7, cok, ce0, ce1, hws, hls, hbc⟩
      by_cases hlt : i < L.length
      rotate_left
      · obtain rfl : i = L.length := by omega
        simp (config := {maxSteps := 3000000}) only [run_reg, run_seq, run_exit, run_cond, if_false, at_code_n, at_code_x, at_blk_x, at_rnd_x, ops_nil, ops_mv, ops_bin, ops_len, ops_call, ev_t, put_get, opv_mk, over_get, vnat, args0, List.getD_cons_zero, List.getD_cons_succ, vbin, vbinI, vlen, List.map_nil, true_and, Nat.reduceEqDiff, Int.toNat_natCast, ↓reduceIte, decide_false, Int.lt_irrefl, eq_self, Bool.false_eq_true, List.contains_cons, List.contains_nil, Nat.reduceBEq, Bool.or_false, Bool.or_true, h8, opsV_len]
        refine Cal.mk alive41_v ?_
        rintro _ _ ⟨rfl, rfl⟩ -
        simp (config := {maxSteps := 3000000}) only [run_ret, at_code_n, at_fin_r, ops_nil, ops_mv, ev_t, put_get, opv_mk, obsOk, and_true, true_and, ↓reduceIte, vret, rvAll, rvVal, resv_1, eq_self]
        exact g0 _ hws
      have hx0 := opsV_get L i
      have hLi := hL L[i] (List.getElem_mem hlt)
      rw [List.getElem?_eq_getElem hlt, Option.map_some] at hx0
      generalize L[i] = o at hx0 hLi
      obtain ⟨kind, ⟨uy, u0, u1, u2, u3, u4, u5, u6, u7, u8, v0, v1, v2⟩⟩ := o
      have hx := hx0
      clear hx0
      simp only at hLi
      have dlt := decide_eq_true (show (i : Int) < (L.length : Int) by omega)
      by_cases k0 : kind < 0
      · simp (config := {maxSteps := 3000000}) only [run_skip, run_reg, run_seq, run_blk, run_ret, run_cond, if_true, at_code_n, at_code_r, at_blk_r, at_rnd_r, at_fin_r, ops_nil, ops_mv, ops_bin, ops_fld, ops_ix, ops_load, ops_len, ev_t, ev_c, put_get, opv_mk, over_get, vnat, args0, List.getD_cons_zero, List.getD_cons_succ, vbin, vbinI, vfld, vlen, vix, vload, takeV, V.cells, List.length_cons, List.length_nil, List.getElem?_cons_zero, and_true, true_and, Nat.reduceEqDiff, Nat.reduceAdd, Int.toNat_natCast, Nat.zero_add, Nat.add_zero, ↓reduceIte, vret, rvAll, rvVal, resv_1, eq_self, Bool.false_eq_true, List.contains_cons, List.contains_nil, Nat.reduceBEq, Bool.or_false, Bool.or_true, h8, opsV_len, dlt, hx, opV, decide_eq_true k0]
        repeat (apply And.intro; focus (first | omega | (simp; done)))
        exact g0 _ hws
      simp (config := {maxSteps := 3000000}) only [run_skip, run_reg, run_seq, run_blk, run_cond, if_true, if_false, at_code_n, ops_nil, ops_mv, ops_bin, ops_fld, ops_ix, ops_load, ops_len, ops_call, ev_t, ev_c, put_get, opv_mk, over_get, vnat, args0, List.getD_cons_zero, List.getD_cons_succ, vbin, vbinI, vfld, vlen, vix, vload, takeV, V.cells, List.map_cons, List.map_nil, List.length_cons, List.length_nil, List.getElem?_cons_zero, and_true, true_and, Nat.reduceEqDiff, Nat.reduceAdd, Int.toNat_natCast, Nat.zero_add, Nat.add_zero, ↓reduceIte, eq_self, Bool.false_eq_true, List.contains_cons, List.contains_nil, Nat.reduceBEq, Bool.or_false, Bool.or_true, h8, opsV_len, dlt, hx, opV, decide_eq_false k0]
      repeat (apply And.intro; focus (first | omega | (simp; done)))
      refine Cal.mk (State_v hbc) ?_
      rintro _ _ ⟨rfl, rfl⟩ -
      by_cases k4 : kind % 7 = 4
      · have d4 := decide_eq_true k4
        simp (config := {maxSteps := 3000000}) only [run_reg, run_seq, run_blk, run_cond, if_true, at_code_n, ops_nil, ops_mv, ops_bin, ops_fld, ops_ix, ops_load, ops_call, ev_t, ev_c, put_get, opv_mk, over_get, args0, List.getD_cons_zero, List.getD_cons_succ, vbin, vbinI, vfld, vix, vload, takeV, V.cells, obsOk, List.map_cons, List.map_nil, List.length_cons, List.length_nil, List.getElem?_cons_zero, and_true, true_and, Nat.reduceEqDiff, Nat.reduceAdd, Int.toNat_natCast, Int.reduceLT, Nat.zero_add, Nat.add_zero, ↓reduceIte, eq_self, Bool.false_eq_true, List.contains_cons, List.contains_nil, Nat.reduceBEq, Bool.or_false, Bool.or_true, h8, hx, opV, d4]
        repeat (apply And.intro; focus (first | omega | (simp; done)))
        refine Cal.mk (Hang_v hbc cok) ?_
        rintro _ _ ⟨rfl, rfl⟩ -
        obtain ⟨pok, pe, p5, p3⟩ := hangS_ok cok
        have hbx : (s.put e (hangS c).cells).box e = some (hangS c).cells := put_box_same
        have pw : st.weak (s.put e (hangS c).cells) := weak_put hws he1
        have pl : (s.put e (hangS c).cells).Lt := hls.put
        by_cases s5 : c.state = 5
        · have x5 := p5 s5
          have dx5 := decide_eq_true x5
          simp (config := {maxSteps := 3000000}) only [run_reg, run_seq, at_code_n, at_blk_n, ops_nil, ops_grd, grd_tt, grd_tf, ops_mv, ops_pick, ops_bin, ops_call, ev_t, ev_c, put_get, opv_mk, over_get, vpick, vbin, vbinI, obsOk, List.map_cons, List.map_nil, true_and, Nat.reduceEqDiff, ↓reduceIte, ne_eq, eq_self, Bool.false_eq_true, List.contains_cons, List.contains_nil, Nat.reduceBEq, Bool.or_false, Bool.or_true, h7, decide_eq_true s5, decide_eq_true (show ¬ c.state = 3 by omega)]
          refine Cal.mk (State_v (c := hangS c) hbx) ?_
          rintro _ _ ⟨rfl, rfl⟩ -
          simp (config := {maxSteps := 3000000}) only [run_reg, run_seq, at_code_n, ops_nil, ops_grd, grd_tt, ops_mv, ops_pick, ops_bin, ops_call, ev_t, ev_c, put_get, opv_mk, over_get, vpick, vbin, vbinI, obsOk, List.map_cons, List.map_nil, true_and, Nat.reduceEqDiff, ↓reduceIte, eq_self, Bool.false_eq_true, List.contains_cons, List.contains_nil, Nat.reduceBEq, Bool.or_false, decide_eq_false (show ¬ (hangS c).state = 3 by omega)]
          refine Cal.mk (State_v (c := hangS c) hbx) ?_
          rintro _ _ ⟨rfl, rfl⟩ -
          simp (config := {maxSteps := 3000000}) only [run_skip, run_reg, run_cond, if_false, at_code_n, at_blk_n, at_rnd_n, ops_nil, ops_grd, grd_und, grd_tt, grd_ff, grd_ft, ops_mv, ops_pick, ops_bin, ev_t, ev_c, put_get, opv_mk, over_get, rel_mk, put_box_same, vpick, vbin, vbinI, norm, obsOk, true_and, Nat.reduceEqDiff, Int.reduceNeg, ↓reduceIte, ne_eq, eq_self, Bool.false_eq_true, List.contains_cons, List.contains_nil, Nat.reduceBEq, Bool.or_false, Bool.or_true, h8, decide_eq_false (show ¬ ¬ (hangS c).state = 5 by omega)]
          repeat (apply And.intro; focus (first | omega | (simp; done)))
          first | exact ⟨⟨i + 1, hangS c, by omega, by simp, by rw [dx5], pok, by omega, by omega, pw, pl, by first | exact hbx | rfl⟩, by omega⟩ | omega
        have ds5 := decide_eq_false s5
        simp (config := {maxSteps := 3000000}) only [run_reg, run_seq, at_code_n, at_blk_n, ops_nil, ops_grd, grd_ff, ops_mv, ops_call, ev_t, put_get, opv_mk, over_get, obsOk, List.map_cons, List.map_nil, true_and, Nat.reduceEqDiff, ↓reduceIte, eq_self, Bool.false_eq_true, List.contains_cons, List.contains_nil, Nat.reduceBEq, Bool.or_false, Bool.or_true, h7, ds5]
        refine Cal.mk (State_v (c := hangS c) hbx) ?_
        rintro _ _ ⟨rfl, rfl⟩ -
        by_cases x5 : (hangS c).state = 5
        · have dx5 := decide_eq_true x5
          by_cases s3 : c.state = 3
          · simp (config := {maxSteps := 3000000}) only [run_reg, run_seq, at_code_n, ops_nil, ops_grd, grd_tt, grd_ff, grd_ft, ops_mv, ops_pick, ops_bin, ops_call, ev_t, ev_c, put_get, opv_mk, over_get, vpick, vbin, vbinI, obsOk, List.map_cons, List.map_nil, true_and, Nat.reduceEqDiff, ↓reduceIte, ne_eq, eq_self, Bool.false_eq_true, List.contains_cons, List.contains_nil, Nat.reduceBEq, Bool.or_false, dx5, decide_eq_false (show ¬ ¬ c.state = 3 by omega)]
            refine Cal.mk (State_v (c := hangS c) hbx) ?_
            rintro _ _ ⟨rfl, rfl⟩ -
            simp (config := {maxSteps := 3000000}) only [run_skip, run_reg, run_cond, if_false, at_code_n, at_blk_n, at_rnd_n, ops_nil, ops_grd, grd_und, grd_tt, grd_ff, grd_ft, ops_mv, ops_pick, ops_bin, ev_t, ev_c, put_get, opv_mk, over_get, rel_mk, put_box_same, vpick, vbin, vbinI, norm, obsOk, true_and, Nat.reduceEqDiff, Int.reduceNeg, ↓reduceIte, ne_eq, eq_self, Bool.false_eq_true, List.contains_cons, List.contains_nil, Nat.reduceBEq, Bool.or_false, Bool.or_true, h8, decide_eq_false (show ¬ ¬ (hangS c).state = 5 by omega)]
            repeat (apply And.intro; focus (first | omega | (simp; done)))
            first | exact ⟨⟨i + 1, hangS c, by omega, by simp, by rw [dx5], pok, by omega, by omega, pw, pl, by first | exact hbx | rfl⟩, by omega⟩ | omega
          · simp (config := {maxSteps := 3000000}) only [run_reg, run_seq, at_code_n, ops_nil, ops_grd, grd_tt, grd_ff, ops_mv, ops_pick, ops_bin, ops_call, ev_t, ev_c, put_get, opv_mk, over_get, vpick, vbin, vbinI, obsOk, List.map_cons, List.map_nil, true_and, Nat.reduceEqDiff, ↓reduceIte, ne_eq, eq_self, Bool.false_eq_true, List.contains_cons, List.contains_nil, Nat.reduceBEq, Bool.or_false, dx5, decide_eq_true (p := ¬ c.state = 3) s3]
            refine Cal.mk (State_v (c := hangS c) hbx) ?_
            rintro _ _ ⟨rfl, rfl⟩ -
            simp (config := {maxSteps := 3000000}) only [run_reg, run_seq, at_code_n, ops_nil, ops_grd, grd_tt, ops_mv, ops_pick, ops_bin, ops_call, ev_t, ev_c, put_get, opv_mk, over_get, vpick, vbin, vbinI, obsOk, List.map_cons, List.map_nil, true_and, Nat.reduceEqDiff, ↓reduceIte, eq_self, Bool.false_eq_true, List.contains_cons, List.contains_nil, Nat.reduceBEq, Bool.or_false, decide_eq_false (show ¬ (hangS c).state = 3 by omega)]
            refine Cal.mk (State_v (c := hangS c) hbx) ?_
            rintro _ _ ⟨rfl, rfl⟩ -
            simp (config := {maxSteps := 3000000}) only [run_skip, run_reg, run_cond, if_false, at_code_n, at_blk_n, at_rnd_n, ops_nil, ops_grd, grd_und, grd_tt, grd_ff, grd_ft, ops_mv, ops_pick, ops_bin, ev_t, ev_c, put_get, opv_mk, over_get, rel_mk, put_box_same, vpick, vbin, vbinI, norm, obsOk, true_and, Nat.reduceEqDiff, Int.reduceNeg, ↓reduceIte, ne_eq, eq_self, Bool.false_eq_true, List.contains_cons, List.contains_nil, Nat.reduceBEq, Bool.or_false, Bool.or_true, h8, decide_eq_false (show ¬ ¬ (hangS c).state = 5 by omega)]
            repeat (apply And.intro; focus (first | omega | (simp; done)))
            first | exact ⟨⟨i + 1, hangS c, by omega, by simp, by rw [dx5], pok, by omega, by omega, pw, pl, by first | exact hbx | rfl⟩, by omega⟩ | omega
        have dx5 := decide_eq_false x5
        by_cases s3 : c.state = 3
        · simp (config := {maxSteps := 3000000}) only [run_skip, run_reg, run_seq, run_cond, if_false, at_code_n, at_blk_n, at_rnd_n, ops_nil, ops_grd, grd_und, grd_ff, grd_ft, ops_mv, ops_pick, ops_bin, ev_t, ev_c, put_get, opv_mk, over_get, rel_mk, put_box_same, vpick, vbin, vbinI, norm, obsOk, true_and, Nat.reduceEqDiff, Int.reduceNeg, ↓reduceIte, ne_eq, eq_self, Bool.false_eq_true, List.contains_cons, List.contains_nil, Nat.reduceBEq, Bool.or_false, Bool.or_true, h8, dx5, decide_eq_false (show ¬ ¬ c.state = 3 by omega)]
          repeat (apply And.intro; focus (first | omega | (simp; done)))
          first | exact ⟨⟨i + 1, hangS c, by omega, by simp, by rw [dx5], pok, by omega, by omega, pw, pl, by first | exact hbx | rfl⟩, by omega⟩ | omega
        simp (config := {maxSteps := 3000000}) only [run_reg, run_seq, at_code_n, ops_nil, ops_grd, grd_tt, grd_ff, ops_mv, ops_pick, ops_bin, ops_call, ev_t, ev_c, put_get, opv_mk, over_get, vpick, vbin, vbinI, obsOk, List.map_cons, List.map_nil, true_and, Nat.reduceEqDiff, ↓reduceIte, ne_eq, eq_self, Bool.false_eq_true, List.contains_cons, List.contains_nil, Nat.reduceBEq, Bool.or_false, dx5, decide_eq_true (p := ¬ c.state = 3) s3]
        refine Cal.mk (State_v (c := hangS c) hbx) ?_
        rintro _ _ ⟨rfl, rfl⟩ -
        by_cases x3 : (hangS c).state = 3
        rotate_left
        · simp (config := {maxSteps := 3000000}) only [run_skip, run_reg, run_seq, run_cond, if_false, at_code_n, at_blk_n, at_rnd_n, ops_nil, ops_grd, grd_und, grd_tt, grd_ff, grd_ft, ops_mv, ops_pick, ops_bin, ev_t, ev_c, put_get, opv_mk, over_get, rel_mk, put_box_same, vpick, vbin, vbinI, norm, obsOk, true_and, Nat.reduceEqDiff, Int.reduceNeg, ↓reduceIte, eq_self, Bool.false_eq_true, List.contains_cons, List.contains_nil, Nat.reduceBEq, Bool.or_false, Bool.or_true, h8, decide_eq_false x3]
          repeat (apply And.intro; focus (first | omega | (simp; done)))
          first | exact ⟨⟨i + 1, hangS c, by omega, by simp, by rw [dx5], pok, by omega, by omega, pw, pl, by first | exact hbx | rfl⟩, by omega⟩ | omega
        exact absurd (p3 x3) s3
      have d4 := decide_eq_false k4
      by_cases k5 : kind % 7 = 5
      · have d5 := decide_eq_true k5
        simp (config := {maxSteps := 3000000}) only [run_reg, run_seq, run_blk, run_cond, if_true, if_false, at_code_n, ops_nil, ops_mv, ops_bin, ops_fld, ops_ix, ops_load, ops_call, ev_t, ev_c, put_get, opv_mk, over_get, args0, List.getD_cons_zero, List.getD_cons_succ, vbin, vbinI, vfld, vix, vload, takeV, V.cells, obsOk, List.map_cons, List.map_nil, List.length_cons, List.length_nil, List.getElem?_cons_zero, and_true, true_and, Nat.reduceEqDiff, Nat.reduceAdd, Int.toNat_natCast, Int.reduceLT, Nat.zero_add, Nat.add_zero, ↓reduceIte, eq_self, Bool.false_eq_true, List.contains_cons, List.contains_nil, Nat.reduceBEq, Bool.or_false, Bool.or_true, h8, hx, opV, d4, d5]
        repeat (apply And.intro; focus (first | omega | (simp; done)))
        refine Cal.mk (Late_v hbc cok) ?_
        rintro _ _ ⟨rfl, rfl⟩ -
        obtain ⟨pok, pe, p5, p3⟩ := lateS_ok cok
        have hbx : (s.put e (lateS c).cells).box e = some (lateS c).cells := put_box_same
        have pw : st.weak (s.put e (lateS c).cells) := weak_put hws he1
        have pl : (s.put e (lateS c).cells).Lt := hls.put
        by_cases s5 : c.state = 5
        · have x5 := p5 s5
          have dx5 := decide_eq_true x5
          simp (config := {maxSteps := 3000000}) only [run_reg, run_seq, at_code_n, at_blk_n, ops_nil, ops_grd, grd_tt, grd_tf, ops_mv, ops_pick, ops_bin, ops_call, ev_t, ev_c, put_get, opv_mk, over_get, vpick, vbin, vbinI, obsOk, List.map_cons, List.map_nil, true_and, Nat.reduceEqDiff, ↓reduceIte, ne_eq, eq_self, Bool.false_eq_true, List.contains_cons, List.contains_nil, Nat.reduceBEq, Bool.or_false, Bool.or_true, h7, decide_eq_true s5, decide_eq_true (show ¬ c.state = 3 by omega)]
          refine Cal.mk (State_v (c := lateS c) hbx) ?_
          rintro _ _ ⟨rfl, rfl⟩ -
          simp (config := {maxSteps := 3000000}) only [run_reg, run_seq, at_code_n, ops_nil, ops_grd, grd_tt, ops_mv, ops_pick, ops_bin, ops_call, ev_t, ev_c, put_get, opv_mk, over_get, vpick, vbin, vbinI, obsOk, List.map_cons, List.map_nil, true_and, Nat.reduceEqDiff, ↓reduceIte, eq_self, Bool.false_eq_true, List.contains_cons, List.contains_nil, Nat.reduceBEq, Bool.or_false, decide_eq_false (show ¬ (lateS c).state = 3 by omega)]
          refine Cal.mk (State_v (c := lateS c) hbx) ?_
          rintro _ _ ⟨rfl, rfl⟩ -
          simp (config := {maxSteps := 3000000}) only [run_skip, run_reg, run_cond, if_false, at_code_n, at_blk_n, at_rnd_n, ops_nil, ops_grd, grd_und, grd_tt, grd_ff, grd_ft, ops_mv, ops_pick, ops_bin, ev_t, ev_c, put_get, opv_mk, over_get, rel_mk, put_box_same, vpick, vbin, vbinI, norm, obsOk, true_and, Nat.reduceEqDiff, Int.reduceNeg, ↓reduceIte, ne_eq, eq_self, Bool.false_eq_true, List.contains_cons, List.contains_nil, Nat.reduceBEq, Bool.or_false, Bool.or_true, h8, decide_eq_false (show ¬ ¬ (lateS c).state = 5 by omega)]
          repeat (apply And.intro; focus (first | omega | (simp; done)))
          first | exact ⟨⟨i + 1, lateS c, by omega, by simp, by rw [dx5], pok, by omega, by omega, pw, pl, by first | exact hbx | rfl⟩, by omega⟩ | omega
        have ds5 := decide_eq_false s5
        simp (config := {maxSteps := 3000000}) only [run_reg, run_seq, at_code_n, at_blk_n, ops_nil, ops_grd, grd_ff, ops_mv, ops_call, ev_t, put_get, opv_mk, over_get, obsOk, List.map_cons, List.map_nil, true_and, Nat.reduceEqDiff, ↓reduceIte, eq_self, Bool.false_eq_true, List.contains_cons, List.contains_nil, Nat.reduceBEq, Bool.or_false, Bool.or_true, h7, ds5]
        refine Cal.mk (State_v (c := lateS c) hbx) ?_
        rintro _ _ ⟨rfl, rfl⟩ -
        by_cases x5 : (lateS c).state = 5
        · have dx5 := decide_eq_true x5
          by_cases s3 : c.state = 3
          · simp (config := {maxSteps := 3000000}) only [run_reg, run_seq, at_code_n, ops_nil, ops_grd, grd_tt, grd_ff, grd_ft, ops_mv, ops_pick, ops_bin, ops_call, ev_t, ev_c, put_get, opv_mk, over_get, vpick, vbin, vbinI, obsOk, List.map_cons, List.map_nil, true_and, Nat.reduceEqDiff, ↓reduceIte, ne_eq, eq_self, Bool.false_eq_true, List.contains_cons, List.contains_nil, Nat.reduceBEq, Bool.or_false, dx5, decide_eq_false (show ¬ ¬ c.state = 3 by omega)]
            refine Cal.mk (State_v (c := lateS c) hbx) ?_
            rintro _ _ ⟨rfl, rfl⟩ -
            simp (config := {maxSteps := 3000000}) only [run_skip, run_reg, run_cond, if_false, at_code_n, at_blk_n, at_rnd_n, ops_nil, ops_grd, grd_und, grd_tt, grd_ff, grd_ft, ops_mv, ops_pick, ops_bin, ev_t, ev_c, put_get, opv_mk, over_get, rel_mk, put_box_same, vpick, vbin, vbinI, norm, obsOk, true_and, Nat.reduceEqDiff, Int.reduceNeg, ↓reduceIte, ne_eq, eq_self, Bool.false_eq_true, List.contains_cons, List.contains_nil, Nat.reduceBEq, Bool.or_false, Bool.or_true, h8, decide_eq_false (show ¬ ¬ (lateS c).state = 5 by omega)]
            repeat (apply And.intro; focus (first | omega | (simp; done)))
            first | exact ⟨⟨i + 1, lateS c, by omega, by simp, by rw [dx5], pok, by omega, by omega, pw, pl, by first | exact hbx | rfl⟩, by omega⟩ | omega
          · simp (config := {maxSteps := 3000000}) only [run_reg, run_seq, at_code_n, ops_nil, ops_grd, grd_tt, grd_ff, ops_mv, ops_pick, ops_bin, ops_call, ev_t, ev_c, put_get, opv_mk, over_get, vpick, vbin, vbinI, obsOk, List.map_cons, List.map_nil, true_and, Nat.reduceEqDiff, ↓reduceIte, ne_eq, eq_self, Bool.false_eq_true, List.contains_cons, List.contains_nil, Nat.reduceBEq, Bool.or_false, dx5, decide_eq_true (p := ¬ c.state = 3) s3]
            refine Cal.mk (State_v (c := lateS c) hbx) ?_
            rintro _ _ ⟨rfl, rfl⟩ -
            simp (config := {maxSteps := 3000000}) only [run_reg, run_seq, at_code_n, ops_nil, ops_grd, grd_tt, ops_mv, ops_pick, ops_bin, ops_call, ev_t, ev_c, put_get, opv_mk, over_get, vpick, vbin, vbinI, obsOk, List.map_cons, List.map_nil, true_and, Nat.reduceEqDiff, ↓reduceIte, eq_self, Bool.false_eq_true, List.contains_cons, List.contains_nil, Nat.reduceBEq, Bool.or_false, decide_eq_false (show ¬ (lateS c).state = 3 by omega)]
            refine Cal.mk (State_v (c := lateS c) hbx) ?_
            rintro _ _ ⟨rfl, rfl⟩ -
            simp (config := {maxSteps := 3000000}) only [run_skip, run_reg, run_cond, if_false, at_code_n, at_blk_n, at_rnd_n, ops_nil, ops_grd, grd_und, grd_tt, grd_ff, grd_ft, ops_mv, ops_pick, ops_bin, ev_t, ev_c, put_get, opv_mk, over_get, rel_mk, put_box_same, vpick, vbin, vbinI, norm, obsOk, true_and, Nat.reduceEqDiff, Int.reduceNeg, ↓reduceIte, ne_eq, eq_self, Bool.false_eq_true, List.contains_cons, List.contains_nil, Nat.reduceBEq, Bool.or_false, Bool.or_true, h8, decide_eq_false (show ¬ ¬ (lateS c).state = 5 by omega)]
            repeat (apply And.intro; focus (first | omega | (simp; done)))
            first | exact ⟨⟨i + 1, lateS c, by omega, by simp, by rw [dx5], pok, by omega, by omega, pw, pl, by first | exact hbx | rfl⟩, by omega⟩ | omega
        have dx5 := decide_eq_false x5
        by_cases s3 : c.state = 3
        · simp (config := {maxSteps := 3000000}) only [run_skip, run_reg, run_seq, run_cond, if_false, at_code_n, at_blk_n, at_rnd_n, ops_nil, ops_grd, grd_und, grd_ff, grd_ft, ops_mv, ops_pick, ops_bin, ev_t, ev_c, put_get, opv_mk, over_get, rel_mk, put_box_same, vpick, vbin, vbinI, norm, obsOk, true_and, Nat.reduceEqDiff, Int.reduceNeg, ↓reduceIte, ne_eq, eq_self, Bool.false_eq_true, List.contains_cons, List.contains_nil, Nat.reduceBEq, Bool.or_false, Bool.or_true, h8, dx5, decide_eq_false (show ¬ ¬ c.state = 3 by omega)]
          repeat (apply And.intro; focus (first | omega | (simp; done)))
          first | exact ⟨⟨i + 1, lateS c, by omega, by simp, by rw [dx5], pok, by omega, by omega, pw, pl, by first | exact hbx | rfl⟩, by omega⟩ | omega
        simp (config := {maxSteps := 3000000}) only [run_reg, run_seq, at_code_n, ops_nil, ops_grd, grd_tt, grd_ff, ops_mv, ops_pick, ops_bin, ops_call, ev_t, ev_c, put_get, opv_mk, over_get, vpick, vbin, vbinI, obsOk, List.map_cons, List.map_nil, true_and, Nat.reduceEqDiff, ↓reduceIte, ne_eq, eq_self, Bool.false_eq_true, List.contains_cons, List.contains_nil, Nat.reduceBEq, Bool.or_false, dx5, decide_eq_true (p := ¬ c.state = 3) s3]
        refine Cal.mk (State_v (c := lateS c) hbx) ?_
        rintro _ _ ⟨rfl, rfl⟩ -
        by_cases x3 : (lateS c).state = 3
        rotate_left
        · simp (config := {maxSteps := 3000000}) only [run_skip, run_reg, run_seq, run_cond, if_false, at_code_n, at_blk_n, at_rnd_n, ops_nil, ops_grd, grd_und, grd_tt, grd_ff, grd_ft, ops_mv, ops_pick, ops_bin, ev_t, ev_c, put_get, opv_mk, over_get, rel_mk, put_box_same, vpick, vbin, vbinI, norm, obsOk, true_and, Nat.reduceEqDiff, Int.reduceNeg, ↓reduceIte, eq_self, Bool.false_eq_true, List.contains_cons, List.contains_nil, Nat.reduceBEq, Bool.or_false, Bool.or_true, h8, decide_eq_false x3]
          repeat (apply And.intro; focus (first | omega | (simp; done)))
          first | exact ⟨⟨i + 1, lateS c, by omega, by simp, by rw [dx5], pok, by omega, by omega, pw, pl, by first | exact hbx | rfl⟩, by omega⟩ | omega
        exact absurd (p3 x3) s3
      have d5 := decide_eq_false k5
      by_cases k6 : kind % 7 = 6
      · have d6 := decide_eq_true k6
        simp (config := {maxSteps := 3000000}) only [run_reg, run_seq, run_blk, run_cond, if_true, if_false, at_code_n, ops_nil, ops_mv, ops_bin, ops_fld, ops_ix, ops_load, ops_call, ev_t, ev_c, put_get, opv_mk, over_get, args0, List.getD_cons_zero, List.getD_cons_succ, vbin, vbinI, vfld, vix, vload, takeV, V.cells, obsOk, List.map_cons, List.map_nil, List.length_cons, List.length_nil, List.getElem?_cons_zero, and_true, true_and, Nat.reduceEqDiff, Nat.reduceAdd, Int.toNat_natCast, Int.reduceLT, Nat.zero_add, Nat.add_zero, ↓reduceIte, eq_self, Bool.false_eq_true, List.contains_cons, List.contains_nil, Nat.reduceBEq, Bool.or_false, Bool.or_true, h8, hx, opV, d4, d5, d6]
        repeat (apply And.intro; focus (first | omega | (simp; done)))
        refine Cal.mk (Info_v hbc cok) ?_
        rintro _ _ ⟨rfl, rfl⟩ -
        have pok := cok
        have p5 : c.state = 5 → c.state = 5 := fun h => h
        have p3 : c.state = 3 → c.state = 3 := fun h => h
        have hbx := hbc
        have pw := hws
        have pl := hls
        by_cases s5 : c.state = 5
        · have x5 := p5 s5
          have dx5 := decide_eq_true x5
          simp (config := {maxSteps := 3000000}) only [run_reg, run_seq, at_code_n, at_blk_n, ops_nil, ops_grd, grd_tt, grd_tf, ops_mv, ops_pick, ops_bin, ops_call, ev_t, ev_c, put_get, opv_mk, over_get, vpick, vbin, vbinI, obsOk, List.map_cons, List.map_nil, true_and, Nat.reduceEqDiff, ↓reduceIte, ne_eq, eq_self, Bool.false_eq_true, List.contains_cons, List.contains_nil, Nat.reduceBEq, Bool.or_false, Bool.or_true, h7, decide_eq_true s5, decide_eq_true (show ¬ c.state = 3 by omega)]
          refine Cal.mk (State_v (c := c) hbx) ?_
          rintro _ _ ⟨rfl, rfl⟩ -
          simp (config := {maxSteps := 3000000}) only [run_reg, run_seq, at_code_n, ops_nil, ops_grd, grd_tt, ops_mv, ops_pick, ops_bin, ops_call, ev_t, ev_c, put_get, opv_mk, over_get, vpick, vbin, vbinI, obsOk, List.map_cons, List.map_nil, true_and, Nat.reduceEqDiff, ↓reduceIte, eq_self, Bool.false_eq_true, List.contains_cons, List.contains_nil, Nat.reduceBEq, Bool.or_false, decide_eq_false (show ¬ (c).state = 3 by omega)]
          refine Cal.mk (State_v (c := c) hbx) ?_
          rintro _ _ ⟨rfl, rfl⟩ -
          simp (config := {maxSteps := 3000000}) only [run_skip, run_reg, run_cond, if_false, at_code_n, at_blk_n, at_rnd_n, ops_nil, ops_grd, grd_und, grd_tt, grd_ff, grd_ft, ops_mv, ops_pick, ops_bin, ev_t, ev_c, put_get, opv_mk, over_get, rel_mk, vpick, vbin, vbinI, norm, obsOk, true_and, Nat.reduceEqDiff, Int.reduceNeg, ↓reduceIte, ne_eq, eq_self, Bool.false_eq_true, List.contains_cons, List.contains_nil, Nat.reduceBEq, Bool.or_false, Bool.or_true, h8, decide_eq_false (show ¬ ¬ (c).state = 5 by omega)]
          repeat (apply And.intro; focus (first | omega | (simp; done)))
          first | exact ⟨⟨i + 1, c, by omega, by simp, by rw [dx5], pok, by omega, by omega, pw, pl, by first | exact hbx | rfl⟩, by omega⟩ | omega
        have ds5 := decide_eq_false s5
        simp (config := {maxSteps := 3000000}) only [run_reg, run_seq, at_code_n, at_blk_n, ops_nil, ops_grd, grd_ff, ops_mv, ops_call, ev_t, put_get, opv_mk, over_get, obsOk, List.map_cons, List.map_nil, true_and, Nat.reduceEqDiff, ↓reduceIte, eq_self, Bool.false_eq_true, List.contains_cons, List.contains_nil, Nat.reduceBEq, Bool.or_false, Bool.or_true, h7, ds5]
        refine Cal.mk (State_v (c := c) hbx) ?_
        rintro _ _ ⟨rfl, rfl⟩ -
        by_cases x5 : (c).state = 5
        · have dx5 := decide_eq_true x5
          by_cases s3 : c.state = 3
          · simp (config := {maxSteps := 3000000}) only [run_reg, run_seq, at_code_n, ops_nil, ops_grd, grd_tt, grd_ff, grd_ft, ops_mv, ops_pick, ops_bin, ops_call, ev_t, ev_c, put_get, opv_mk, over_get, vpick, vbin, vbinI, obsOk, List.map_cons, List.map_nil, true_and, Nat.reduceEqDiff, ↓reduceIte, ne_eq, eq_self, Bool.false_eq_true, List.contains_cons, List.contains_nil, Nat.reduceBEq, Bool.or_false, dx5, decide_eq_false (show ¬ ¬ c.state = 3 by omega)]
            refine Cal.mk (State_v (c := c) hbx) ?_
            rintro _ _ ⟨rfl, rfl⟩ -
            simp (config := {maxSteps := 3000000}) only [run_skip, run_reg, run_cond, if_false, at_code_n, at_blk_n, at_rnd_n, ops_nil, ops_grd, grd_und, grd_tt, grd_ff, grd_ft, ops_mv, ops_pick, ops_bin, ev_t, ev_c, put_get, opv_mk, over_get, rel_mk, vpick, vbin, vbinI, norm, obsOk, true_and, Nat.reduceEqDiff, Int.reduceNeg, ↓reduceIte, ne_eq, eq_self, Bool.false_eq_true, List.contains_cons, List.contains_nil, Nat.reduceBEq, Bool.or_false, Bool.or_true, h8, decide_eq_false (show ¬ ¬ (c).state = 5 by omega)]
            repeat (apply And.intro; focus (first | omega | (simp; done)))
            first | exact ⟨⟨i + 1, c, by omega, by simp, by rw [dx5], pok, by omega, by omega, pw, pl, by first | exact hbx | rfl⟩, by omega⟩ | omega
          · simp (config := {maxSteps := 3000000}) only [run_reg, run_seq, at_code_n, ops_nil, ops_grd, grd_tt, grd_ff, ops_mv, ops_pick, ops_bin, ops_call, ev_t, ev_c, put_get, opv_mk, over_get, vpick, vbin, vbinI, obsOk, List.map_cons, List.map_nil, true_and, Nat.reduceEqDiff, ↓reduceIte, ne_eq, eq_self, Bool.false_eq_true, List.contains_cons, List.contains_nil, Nat.reduceBEq, Bool.or_false, dx5, decide_eq_true (p := ¬ c.state = 3) s3]
            refine Cal.mk (State_v (c := c) hbx) ?_
            rintro _ _ ⟨rfl, rfl⟩ -
            simp (config := {maxSteps := 3000000}) only [run_reg, run_seq, at_code_n, ops_nil, ops_grd, grd_tt, ops_mv, ops_pick, ops_bin, ops_call, ev_t, ev_c, put_get, opv_mk, over_get, vpick, vbin, vbinI, obsOk, List.map_cons, List.map_nil, true_and, Nat.reduceEqDiff, ↓reduceIte, eq_self, Bool.false_eq_true, List.contains_cons, List.contains_nil, Nat.reduceBEq, Bool.or_false, decide_eq_false (show ¬ (c).state = 3 by omega)]
            refine Cal.mk (State_v (c := c) hbx) ?_
            rintro _ _ ⟨rfl, rfl⟩ -
            simp (config := {maxSteps := 3000000}) only [run_skip, run_reg, run_cond, if_false, at_code_n, at_blk_n, at_rnd_n, ops_nil, ops_grd, grd_und, grd_tt, grd_ff, grd_ft, ops_mv, ops_pick, ops_bin, ev_t, ev_c, put_get, opv_mk, over_get, rel_mk, vpick, vbin, vbinI, norm, obsOk, true_and, Nat.reduceEqDiff, Int.reduceNeg, ↓reduceIte, ne_eq, eq_self, Bool.false_eq_true, List.contains_cons, List.contains_nil, Nat.reduceBEq, Bool.or_false, Bool.or_true, h8, decide_eq_false (show ¬ ¬ (c).state = 5 by omega)]
            repeat (apply And.intro; focus (first | omega | (simp; done)))
            first | exact ⟨⟨i + 1, c, by omega, by simp, by rw [dx5], pok, by omega, by omega, pw, pl, by first | exact hbx | rfl⟩, by omega⟩ | omega
        have dx5 := decide_eq_false x5
        by_cases s3 : c.state = 3
        · simp (config := {maxSteps := 3000000}) only [run_skip, run_reg, run_seq, run_cond, if_false, at_code_n, at_blk_n, at_rnd_n, ops_nil, ops_grd, grd_und, grd_ff, grd_ft, ops_mv, ops_pick, ops_bin, ev_t, ev_c, put_get, opv_mk, over_get, rel_mk, vpick, vbin, vbinI, norm, obsOk, true_and, Nat.reduceEqDiff, Int.reduceNeg, ↓reduceIte, ne_eq, eq_self, Bool.false_eq_true, List.contains_cons, List.contains_nil, Nat.reduceBEq, Bool.or_false, Bool.or_true, h8, dx5, decide_eq_false (show ¬ ¬ c.state = 3 by omega)]
          repeat (apply And.intro; focus (first | omega | (simp; done)))
          first | exact ⟨⟨i + 1, c, by omega, by simp, by rw [dx5], pok, by omega, by omega, pw, pl, by first | exact hbx | rfl⟩, by omega⟩ | omega
        simp (config := {maxSteps := 3000000}) only [run_reg, run_seq, at_code_n, ops_nil, ops_grd, grd_tt, grd_ff, ops_mv, ops_pick, ops_bin, ops_call, ev_t, ev_c, put_get, opv_mk, over_get, vpick, vbin, vbinI, obsOk, List.map_cons, List.map_nil, true_and, Nat.reduceEqDiff, ↓reduceIte, ne_eq, eq_self, Bool.false_eq_true, List.contains_cons, List.contains_nil, Nat.reduceBEq, Bool.or_false, dx5, decide_eq_true (p := ¬ c.state = 3) s3]
        refine Cal.mk (State_v (c := c) hbx) ?_
        rintro _ _ ⟨rfl, rfl⟩ -
        by_cases x3 : (c).state = 3
        rotate_left
        · simp (config := {maxSteps := 3000000}) only [run_skip, run_reg, run_seq, run_cond, if_false, at_code_n, at_blk_n, at_rnd_n, ops_nil, ops_grd, grd_und, grd_tt, grd_ff, grd_ft, ops_mv, ops_pick, ops_bin, ev_t, ev_c, put_get, opv_mk, over_get, rel_mk, vpick, vbin, vbinI, norm, obsOk, true_and, Nat.reduceEqDiff, Int.reduceNeg, ↓reduceIte, eq_self, Bool.false_eq_true, List.contains_cons, List.contains_nil, Nat.reduceBEq, Bool.or_false, Bool.or_true, h8, decide_eq_false x3]
          repeat (apply And.intro; focus (first | omega | (simp; done)))
          first | exact ⟨⟨i + 1, c, by omega, by simp, by rw [dx5], pok, by omega, by omega, pw, pl, by first | exact hbx | rfl⟩, by omega⟩ | omega
        exact absurd (p3 x3) s3
      have d6 := decide_eq_false k6
      have gt := callTake_v (st := s) hbc cok ⟨ce0, by omega⟩ hLi
      simp only [M9.v, M9.cells] at gt
      simp (config := {maxSteps := 3000000}) only [run_reg, run_seq, run_blk, run_cond, if_false, at_code_n, ops_nil, ops_mv, ops_bin, ops_fld, ops_ix, ops_load, ops_call, ev_t, ev_c, put_get, opv_mk, over_get, args0, List.getD_cons_zero, List.getD_cons_succ, vbin, vbinI, vfld, vix, vload, takeV, V.cells, obsOk, List.map_cons, List.map_nil, List.length_cons, List.length_nil, List.getElem?_cons_zero, List.take_succ_cons, List.drop_succ_cons, List.drop_zero, List.take_nil, and_true, true_and, Nat.reduceEqDiff, Nat.reduceAdd, Nat.reduceLeDiff, Int.toNat_natCast, Int.reduceLT, Nat.zero_add, Nat.add_zero, ↓reduceIte, eq_self, Bool.false_eq_true, List.contains_cons, List.contains_nil, Nat.reduceBEq, Bool.or_false, Bool.or_true, h8, hx, opV, d4, d5, d6]
      repeat (apply And.intro; focus (first | omega | (simp; done)))
      refine Cal.mk gt ?_
      rintro _ _ ⟨rfl, rfl⟩ -
      obtain ⟨pok, pe, pe2, p5, p3⟩ := takeS_ok cok ⟨uy, u0, u1, u2, u3, u4, u5, u6, u7, u8, v0, v1, v2⟩
      simp only at p3
      have hbx : (s.put e (takeS c ⟨uy, u0, u1, u2, u3, u4, u5, u6, u7, u8, v0, v1, v2⟩).cells).box e = some (takeS c ⟨uy, u0, u1, u2, u3, u4, u5, u6, u7, u8, v0, v1, v2⟩).cells := put_box_same
      have pw : st.weak (s.put e (takeS c ⟨uy, u0, u1, u2, u3, u4, u5, u6, u7, u8, v0, v1, v2⟩).cells) := weak_put hws he1
      have pl : (s.put e (takeS c ⟨uy, u0, u1, u2, u3, u4, u5, u6, u7, u8, v0, v1, v2⟩).cells).Lt := hls.put
      by_cases s5 : c.state = 5
      · have x5 := p5 s5
        have dx5 := decide_eq_true x5
        simp (config := {maxSteps := 3000000}) only [run_reg, run_seq, at_code_n, at_blk_n, ops_nil, ops_grd, grd_tt, grd_tf, ops_mv, ops_pick, ops_bin, ops_call, ev_t, ev_c, put_get, opv_mk, over_get, vpick, vbin, vbinI, obsOk, List.map_cons, List.map_nil, true_and, Nat.reduceEqDiff, ↓reduceIte, ne_eq, eq_self, Bool.false_eq_true, List.contains_cons, List.contains_nil, Nat.reduceBEq, Bool.or_false, Bool.or_true, h7, decide_eq_true s5, decide_eq_true (show ¬ c.state = 3 by omega)]
        refine Cal.mk (State_v (c := takeS c ⟨uy, u0, u1, u2, u3, u4, u5, u6, u7, u8, v0, v1, v2⟩) hbx) ?_
        rintro _ _ ⟨rfl, rfl⟩ -
        simp (config := {maxSteps := 3000000}) only [run_reg, run_seq, at_code_n, ops_nil, ops_grd, grd_tt, ops_mv, ops_pick, ops_bin, ops_call, ev_t, ev_c, put_get, opv_mk, over_get, vpick, vbin, vbinI, obsOk, List.map_cons, List.map_nil, true_and, Nat.reduceEqDiff, ↓reduceIte, eq_self, Bool.false_eq_true, List.contains_cons, List.contains_nil, Nat.reduceBEq, Bool.or_false, decide_eq_false (show ¬ (takeS c ⟨uy, u0, u1, u2, u3, u4, u5, u6, u7, u8, v0, v1, v2⟩).state = 3 by omega)]
        refine Cal.mk (State_v (c := takeS c ⟨uy, u0, u1, u2, u3, u4, u5, u6, u7, u8, v0, v1, v2⟩) hbx) ?_
        rintro _ _ ⟨rfl, rfl⟩ -
        simp (config := {maxSteps := 3000000}) only [run_skip, run_reg, run_cond, if_false, at_code_n, at_blk_n, at_rnd_n, ops_nil, ops_grd, grd_und, grd_tt, grd_ff, grd_ft, ops_mv, ops_pick, ops_bin, ev_t, ev_c, put_get, opv_mk, over_get, rel_mk, put_box_same, vpick, vbin, vbinI, norm, obsOk, true_and, Nat.reduceEqDiff, Int.reduceNeg, ↓reduceIte, ne_eq, eq_self, Bool.false_eq_true, List.contains_cons, List.contains_nil, Nat.reduceBEq, Bool.or_false, Bool.or_true, h8, decide_eq_false (show ¬ ¬ (takeS c ⟨uy, u0, u1, u2, u3, u4, u5, u6, u7, u8, v0, v1, v2⟩).state = 5 by omega)]
        repeat (apply And.intro; focus (first | omega | (simp; done)))
        first | exact ⟨⟨i + 1, takeS c ⟨uy, u0, u1, u2, u3, u4, u5, u6, u7, u8, v0, v1, v2⟩, by omega, by simp, by rw [dx5], pok, by omega, by omega, pw, pl, by first | exact hbx | rfl⟩, by omega⟩ | omega
      have ds5 := decide_eq_false s5
      simp (config := {maxSteps := 3000000}) only [run_reg, run_seq, at_code_n, at_blk_n, ops_nil, ops_grd, grd_ff, ops_mv, ops_call, ev_t, put_get, opv_mk, over_get, obsOk, List.map_cons, List.map_nil, true_and, Nat.reduceEqDiff, ↓reduceIte, eq_self, Bool.false_eq_true, List.contains_cons, List.contains_nil, Nat.reduceBEq, Bool.or_false, Bool.or_true, h7, ds5]
      refine Cal.mk (State_v (c := takeS c ⟨uy, u0, u1, u2, u3, u4, u5, u6, u7, u8, v0, v1, v2⟩) hbx) ?_
      rintro _ _ ⟨rfl, rfl⟩ -
      by_cases x5 : (takeS c ⟨uy, u0, u1, u2, u3, u4, u5, u6, u7, u8, v0, v1, v2⟩).state = 5
      · have dx5 := decide_eq_true x5
        by_cases s3 : c.state = 3
        · simp (config := {maxSteps := 3000000}) only [run_reg, run_seq, at_code_n, ops_nil, ops_grd, grd_tt, grd_ff, grd_ft, ops_mv, ops_pick, ops_bin, ops_call, ev_t, ev_c, put_get, opv_mk, over_get, vpick, vbin, vbinI, obsOk, List.map_cons, List.map_nil, true_and, Nat.reduceEqDiff, ↓reduceIte, ne_eq, eq_self, Bool.false_eq_true, List.contains_cons, List.contains_nil, Nat.reduceBEq, Bool.or_false, dx5, decide_eq_false (show ¬ ¬ c.state = 3 by omega)]
          refine Cal.mk (State_v (c := takeS c ⟨uy, u0, u1, u2, u3, u4, u5, u6, u7, u8, v0, v1, v2⟩) hbx) ?_
          rintro _ _ ⟨rfl, rfl⟩ -
          simp (config := {maxSteps := 3000000}) only [run_skip, run_reg, run_cond, if_false, at_code_n, at_blk_n, at_rnd_n, ops_nil, ops_grd, grd_und, grd_tt, grd_ff, grd_ft, ops_mv, ops_pick, ops_bin, ev_t, ev_c, put_get, opv_mk, over_get, rel_mk, put_box_same, vpick, vbin, vbinI, norm, obsOk, true_and, Nat.reduceEqDiff, Int.reduceNeg, ↓reduceIte, ne_eq, eq_self, Bool.false_eq_true, List.contains_cons, List.contains_nil, Nat.reduceBEq, Bool.or_false, Bool.or_true, h8, decide_eq_false (show ¬ ¬ (takeS c ⟨uy, u0, u1, u2, u3, u4, u5, u6, u7, u8, v0, v1, v2⟩).state = 5 by omega)]
          repeat (apply And.intro; focus (first | omega | (simp; done)))
          first | exact ⟨⟨i + 1, takeS c ⟨uy, u0, u1, u2, u3, u4, u5, u6, u7, u8, v0, v1, v2⟩, by omega, by simp, by rw [dx5], pok, by omega, by omega, pw, pl, by first | exact hbx | rfl⟩, by omega⟩ | omega
        · simp (config := {maxSteps := 3000000}) only [run_reg, run_seq, at_code_n, ops_nil, ops_grd, grd_tt, grd_ff, ops_mv, ops_pick, ops_bin, ops_call, ev_t, ev_c, put_get, opv_mk, over_get, vpick, vbin, vbinI, obsOk, List.map_cons, List.map_nil, true_and, Nat.reduceEqDiff, ↓reduceIte, ne_eq, eq_self, Bool.false_eq_true, List.contains_cons, List.contains_nil, Nat.reduceBEq, Bool.or_false, dx5, decide_eq_true (p := ¬ c.state = 3) s3]
          refine Cal.mk (State_v (c := takeS c ⟨uy, u0, u1, u2, u3, u4, u5, u6, u7, u8, v0, v1, v2⟩) hbx) ?_
          rintro _ _ ⟨rfl, rfl⟩ -
          simp (config := {maxSteps := 3000000}) only [run_reg, run_seq, at_code_n, ops_nil, ops_grd, grd_tt, ops_mv, ops_pick, ops_bin, ops_call, ev_t, ev_c, put_get, opv_mk, over_get, vpick, vbin, vbinI, obsOk, List.map_cons, List.map_nil, true_and, Nat.reduceEqDiff, ↓reduceIte, eq_self, Bool.false_eq_true, List.contains_cons, List.contains_nil, Nat.reduceBEq, Bool.or_false, decide_eq_false (show ¬ (takeS c ⟨uy, u0, u1, u2, u3, u4, u5, u6, u7, u8, v0, v1, v2⟩).state = 3 by omega)]
          refine Cal.mk (State_v (c := takeS c ⟨uy, u0, u1, u2, u3, u4, u5, u6, u7, u8, v0, v1, v2⟩) hbx) ?_
          rintro _ _ ⟨rfl, rfl⟩ -
          simp (config := {maxSteps := 3000000}) only [run_skip, run_reg, run_cond, if_false, at_code_n, at_blk_n, at_rnd_n, ops_nil, ops_grd, grd_und, grd_tt, grd_ff, grd_ft, ops_mv, ops_pick, ops_bin, ev_t, ev_c, put_get, opv_mk, over_get, rel_mk, put_box_same, vpick, vbin, vbinI, norm, obsOk, true_and, Nat.reduceEqDiff, Int.reduceNeg, ↓reduceIte, ne_eq, eq_self, Bool.false_eq_true, List.contains_cons, List.contains_nil, Nat.reduceBEq, Bool.or_false, Bool.or_true, h8, decide_eq_false (show ¬ ¬ (takeS c ⟨uy, u0, u1, u2, u3, u4, u5, u6, u7, u8, v0, v1, v2⟩).state = 5 by omega)]
          repeat (apply And.intro; focus (first | omega | (simp; done)))
          first | exact ⟨⟨i + 1, takeS c ⟨uy, u0, u1, u2, u3, u4, u5, u6, u7, u8, v0, v1, v2⟩, by omega, by simp, by rw [dx5], pok, by omega, by omega, pw, pl, by first | exact hbx | rfl⟩, by omega⟩ | omega
      have dx5 := decide_eq_false x5
      by_cases s3 : c.state = 3
      · simp (config := {maxSteps := 3000000}) only [run_skip, run_reg, run_seq, run_cond, if_false, at_code_n, at_blk_n, at_rnd_n, ops_nil, ops_grd, grd_und, grd_ff, grd_ft, ops_mv, ops_pick, ops_bin, ev_t, ev_c, put_get, opv_mk, over_get, rel_mk, put_box_same, vpick, vbin, vbinI, norm, obsOk, true_and, Nat.reduceEqDiff, Int.reduceNeg, ↓reduceIte, ne_eq, eq_self, Bool.false_eq_true, List.contains_cons, List.contains_nil, Nat.reduceBEq, Bool.or_false, Bool.or_true, h8, dx5, decide_eq_false (show ¬ ¬ c.state = 3 by omega)]
        repeat (apply And.intro; focus (first | omega | (simp; done)))
        first | exact ⟨⟨i + 1, takeS c ⟨uy, u0, u1, u2, u3, u4, u5, u6, u7, u8, v0, v1, v2⟩, by omega, by simp, by rw [dx5], pok, by omega, by omega, pw, pl, by first | exact hbx | rfl⟩, by omega⟩ | omega
      simp (config := {maxSteps := 3000000}) only [run_reg, run_seq, at_code_n, ops_nil, ops_grd, grd_tt, grd_ff, ops_mv, ops_pick, ops_bin, ops_call, ev_t, ev_c, put_get, opv_mk, over_get, vpick, vbin, vbinI, obsOk, List.map_cons, List.map_nil, true_and, Nat.reduceEqDiff, ↓reduceIte, ne_eq, eq_self, Bool.false_eq_true, List.contains_cons, List.contains_nil, Nat.reduceBEq, Bool.or_false, dx5, decide_eq_true (p := ¬ c.state = 3) s3]
      refine Cal.mk (State_v (c := takeS c ⟨uy, u0, u1, u2, u3, u4, u5, u6, u7, u8, v0, v1, v2⟩) hbx) ?_
      rintro _ _ ⟨rfl, rfl⟩ -
      by_cases x3 : (takeS c ⟨uy, u0, u1, u2, u3, u4, u5, u6, u7, u8, v0, v1, v2⟩).state = 3
      rotate_left
      · simp (config := {maxSteps := 3000000}) only [run_skip, run_reg, run_seq, run_cond, if_false, at_code_n, at_blk_n, at_rnd_n, ops_nil, ops_grd, grd_und, grd_tt, grd_ff, grd_ft, ops_mv, ops_pick, ops_bin, ev_t, ev_c, put_get, opv_mk, over_get, rel_mk, put_box_same, vpick, vbin, vbinI, norm, obsOk, true_and, Nat.reduceEqDiff, Int.reduceNeg, ↓reduceIte, eq_self, Bool.false_eq_true, List.contains_cons, List.contains_nil, Nat.reduceBEq, Bool.or_false, Bool.or_true, h8, decide_eq_false x3]
        repeat (apply And.intro; focus (first | omega | (simp; done)))
        first | exact ⟨⟨i + 1, takeS c ⟨uy, u0, u1, u2, u3, u4, u5, u6, u7, u8, v0, v1, v2⟩, by omega, by simp, by rw [dx5], pok, by omega, by omega, pw, pl, by first | exact hbx | rfl⟩, by omega⟩ | omega
      by_cases y1 : uy = 11
      · simp (config := {maxSteps := 3000000}) only [run_skip, run_reg, run_seq, run_cond, if_false, at_code_n, at_blk_n, at_rnd_n, ops_nil, ops_grd, grd_und, grd_tt, grd_ff, grd_ft, ops_mv, ops_pick, ops_bin, ops_fld, ops_ix, ops_load, ev_t, ev_c, put_get, opv_mk, over_get, rel_mk, put_box_same, args0, List.getD_cons_zero, List.getD_cons_succ, vpick, vbin, vbinI, norm, vfld, vix, vload, takeV, V.cells, obsOk, List.length_cons, List.length_nil, List.getElem?_cons_zero, List.getElem?_cons_succ, and_true, true_and, Nat.reduceEqDiff, Nat.reduceAdd, Int.toNat_natCast, Int.reduceNeg, Nat.zero_add, Nat.add_zero, ↓reduceIte, ne_eq, eq_self, Bool.false_eq_true, List.contains_cons, List.contains_nil, Nat.reduceBEq, Bool.or_false, Bool.or_true, h8, hx, opV, decide_eq_true x3, decide_eq_false (show ¬ ¬ uy = 11 by omega)]
        repeat (apply And.intro; focus (first | omega | (simp; done)))
        first | exact ⟨⟨i + 1, takeS c ⟨uy, u0, u1, u2, u3, u4, u5, u6, u7, u8, v0, v1, v2⟩, by omega, by simp, by rw [dx5], pok, by omega, by omega, pw, pl, by first | exact hbx | rfl⟩, by omega⟩ | omega
      have y2 : uy = 8 ∧ u2 = 1 := by rcases p3 x3 with h | h | h; exact absurd h s3; exact absurd h y1; exact h
      simp (config := {maxSteps := 3000000}) only [run_skip, run_reg, run_seq, run_cond, if_false, at_code_n, at_blk_n, at_rnd_n, ops_nil, ops_grd, grd_tt, grd_ff, grd_ft, ops_mv, ops_pick, ops_bin, ops_fld, ops_ix, ops_ixa, ops_load, ev_t, ev_c, put_get, opv_mk, over_get, rel_mk, put_box_same, args0, List.getD_cons_zero, List.getD_cons_succ, vpick, vbin, vbinI, norm, vfld, vix, vixa, vload, takeV, V.cells, obsOk, List.length_cons, List.length_nil, List.getElem?_cons_zero, List.getElem?_cons_succ, and_true, true_and, Nat.reduceEqDiff, Nat.reduceAdd, Int.reduceToNat, Int.toNat_natCast, Int.reduceLE, Int.reduceLT, Int.reduceNeg, Nat.zero_add, Nat.add_zero, Nat.mul_one, ↓reduceIte, ne_eq, eq_self, Bool.false_eq_true, List.contains_cons, List.contains_nil, Nat.reduceBEq, Bool.or_false, Bool.or_true, h8, hx, opV, nc9, decide_eq_true x3, decide_eq_true (p := ¬ uy = 11) y1, decide_eq_false (show ¬ ¬ uy = 8 by omega), decide_eq_false (show ¬ ¬ u2 = 1 by omega)]
      repeat (apply And.intro; focus (first | omega | (simp; done)))
      first | exact ⟨⟨i + 1, takeS c ⟨uy, u0, u1, u2, u3, u4, u5, u6, u7, u8, v0, v1, v2⟩, by omega, by simp, by rw [dx5], pok, by omega, by omega, pw, pl, by first | exact hbx | rfl⟩, by omega⟩ | omega
end
end Go.Proofs.Ytogkdcbcmhhhcaa
