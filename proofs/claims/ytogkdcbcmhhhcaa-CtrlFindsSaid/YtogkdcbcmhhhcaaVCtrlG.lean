/- CtrlFinds, walked. -/
import Derived.Test.YtogkdcbcmhhhcaaVCtrlF
namespace Go.Proofs.Ytogkdcbcmhhhcaa
open Go Go.RowKit

def whoV (me other : Int) (host : ByteArray) : V := .agg [.sc (.int .u32 me), .sc (.int .u32 other), .sc (.string host)]
theorem cos_get (L : List CO) (i : Nat) : (L.map CO.v)[i]? = (L[i]?).map CO.v := by simp
theorem tick_ok {c : CC} {now : Int} (h : c.Ok) : (tickC c now).Ok := by
  unfold tickC; split
  · exact h
  split
  · exact ⟨h.s0, h.s4, by simp only; omega⟩
  · exact ⟨by simp [failC], by simp [failC], h.id⟩
section
variable {tk tk' : Tk} {st : St}
set_option maxRecDepth 100000 in
set_option maxHeartbeats 20000000 in
theorem CtrlFinds_v {me other ticks : Int} {host : ByteArray} {L : List CO} (hL : ∀ o ∈ L, o.Ok) : VCalls Try.prog 8 [whoV me other host, .sl tk (L.map CO.v), .sc (.int .i64 ticks)] st fun r _ => r = .sc (.bool true) := by
  refine vcalls_enter vc8 (Nat.le_of_ble_eq_true rfl) fun hwf hok => ?_
  show Run _ Vc8.body (.fin (finQ Vc8.res _)) _ _
  unfold Vc8
  have g0 : ∀ s : St, st.weak s → ∃ (r' : V) (st'' : St), Wk (V.sc (.bool true)) r' ∧ st''.weak s ∧ r' = V.sc (.bool true) := fun s hw => ⟨_, st, Wk.refl _, hw, rfl⟩
  simp (config := {maxSteps := 3000000}) only [run_reg, run_seq, at_code_n, ops_nil, ops_grd, ops_mv, ops_bin, ops_len, ops_box, ev_t, ev_c, put_get, opv_mk, Bx, args0, List.getD_cons_zero, List.getD_cons_succ, vbin, vbinI, vlen, V.cells, ptrV, obsOk, List.length_cons, List.length_nil, true_and, Nat.reduceEqDiff, Nat.reduceAdd, Nat.zero_add, ↓reduceIte, ne_eq, not_false_eq_true, eq_self, reduceCtorEq, whoV]
  intro a ha
  by_cases c1 : (60 : Int) < L.length
  · simp (config := {maxSteps := 3000000}) only [run_reg, run_seq, run_ret, run_cond, if_true, at_code_n, at_code_r, at_fin_r, ops_nil, ops_grd, grd_tf, ops_mv, ops_pick, ev_t, ev_c, put_get, opv_mk, vpick, and_true, true_and, Nat.reduceEqDiff, ↓reduceIte, vret, rvAll, rvVal, resv_1, eq_self, List.length_map, decide_eq_true c1]
    exact g0 _ (weak_put hwf.weak ha)
  by_cases c2 : ticks < 0
  · simp (config := {maxSteps := 3000000}) only [run_reg, run_seq, run_ret, run_cond, if_true, at_code_n, at_code_r, at_fin_r, ops_nil, ops_grd, grd_ff, grd_tf, ops_mv, ops_pick, ops_bin, ev_t, ev_c, put_get, opv_mk, args0, List.getD_cons_zero, List.getD_cons_succ, vpick, vbin, vbinI, and_true, true_and, Nat.reduceEqDiff, ↓reduceIte, vret, rvAll, rvVal, resv_1, eq_self, Bool.false_eq_true, List.length_map, decide_eq_false c1, decide_eq_true c2]
    exact g0 _ (weak_put hwf.weak ha)
  by_cases c3 : 500 < ticks
  · simp (config := {maxSteps := 3000000}) only [run_reg, run_seq, run_ret, run_cond, if_true, at_code_n, at_code_r, at_fin_r, ops_nil, ops_grd, grd_ff, ops_mv, ops_pick, ops_bin, ev_t, ev_c, put_get, opv_mk, args0, List.getD_cons_zero, List.getD_cons_succ, vpick, vbin, vbinI, and_true, true_and, Nat.reduceEqDiff, ↓reduceIte, vret, rvAll, rvVal, resv_1, eq_self, Bool.false_eq_true, List.length_map, decide_eq_false c1, decide_eq_false c2, decide_eq_true c3]
    exact g0 _ (weak_put hwf.weak ha)
  simp (config := {maxSteps := 3000000}) only [run_skip, run_reg, run_seq, run_cond, if_false, at_code_n, ops_nil, ops_grd, grd_ff, ops_mv, ops_pick, ops_bin, ops_fld, ops_load, ops_call, ev_t, ev_c, put_get, opv_mk, put_box_same, args0, List.getD_cons_zero, List.getD_cons_succ, vpick, vbin, vbinI, vfld, vload, takeV, V.cells, List.map_cons, List.map_nil, List.length_cons, List.length_nil, List.getElem?_cons_zero, List.getElem?_cons_succ, true_and, Nat.reduceEqDiff, Nat.zero_add, Nat.add_zero, ↓reduceIte, eq_self, Bool.false_eq_true, List.length_map, decide_eq_false c1, decide_eq_false c2, decide_eq_false c3]
  refine Cal.mk (ctlNew_v (by omega)) ?_
  rintro _ _ ⟨b, hb, rfl, rfl⟩ -
  obtain ⟨hb1, hab⟩ : st.sz ≤ b ∧ a < b := by simp only [put_sz] at hb; omega
  clear hb
  simp (config := {maxSteps := 3000000}) only [ops_call, ev_t, ev_c, put_get, put_box_same, vload, takeV, V.cells, ptrV, obsOk, List.map_cons, List.map_nil, List.length_cons, List.length_nil, List.getElem?_cons_zero, List.getElem?_cons_succ, and_true, true_and, Nat.reduceEqDiff, Int.reduceAdd, Nat.zero_add, ↓reduceIte, eq_self, put_box_ne (Nat.ne_of_lt hab)]
  refine Cal.mk (ctlNew_v (by omega)) ?_
  rintro _ _ ⟨e, he, rfl, rfl⟩ -
  obtain ⟨he1, hae, hbe⟩ : st.sz ≤ e ∧ a < e ∧ b < e := by simp only [put_sz] at he; omega
  clear he
  simp (config := {maxSteps := 3000000}) only [run_skip, run_reg, run_seq, run_blk, run_cond, if_false, at_code_n, ops_nil, ops_grd, grd_ff, ops_mv, ops_pick, ops_pnil, vpnil, ops_fld, ops_load, ops_bld, ops_box, ev_t, ev_c, put_get, opv_mk, Bx, vbld, put_box_same, put_sz, vpick, vfld, vload, takeV, fillV, splice, V.cells, ptrV, obsOk, List.map_cons, List.map_nil, List.length_cons, List.length_nil, List.getElem?_cons_zero, List.getElem?_cons_succ, List.take_succ_cons, List.take_zero, List.drop_succ_cons, List.drop_zero, List.cons_append, List.nil_append, and_true, true_and, Nat.reduceEqDiff, Nat.reduceAdd, Nat.reduceLT, Nat.reduceLeDiff, Nat.reduceLT, Int.reduceAdd, Nat.zero_add, Nat.add_zero, ↓reduceIte, ne_eq, not_false_eq_true, eq_self, reduceCtorEq, Bool.false_eq_true, put_box_ne (Nat.ne_of_lt hab), put_box_ne (Nat.ne_of_lt hae)]
  intro f hf
  obtain ⟨hf1, haf, hbf, hef⟩ : st.sz ≤ f ∧ a < f ∧ b < f ∧ e < f := by omega
  clear hf
  refine run_loop [6, 9, 11, 55, 56, 57, 58, 59, 60, 61, 62, 63, 64, 65, 66, 67, 68, 69, 70, 71, 72, 73, 74, 75, 76, 77, 78, 79, 80, 81, 82, 83, 84, 85, 86, 87, 88, 89, 90, 91, 92, 93, 94, 95, 96, 97, 98] (fun B s => ∃ (i : Nat) (now : Int) (c : CC), i ≤ L.length ∧ B 11 = .sc (.int .i64 (i : Int)) ∧ B 9 = .sc (.int .i64 now) ∧ 0 ≤ now ∧ now ≤ 200 * i ∧ CI c now ∧ st.weak s ∧ s.Lt ∧ s.box b = some c.cells ∧ s.box f = some c.cells ∧ s.box e = some (CC.mk 0 me other host 60 false 0).cells) (fun B _ => L.length - vnat (B 11)) rfl ?_ ?_
  · simp (config := {maxSteps := 3000000}) only [put_get, put_box_same, Nat.reduceEqDiff, ↓reduceIte, eq_self]
    exact ⟨0, 0, CC.mk 0 me other host 60 false 0, by omega, by simp, rfl, by omega, by omega, ⟨⟨by simp, by simp, by simp⟩, by simp⟩, weak_put (weak_put (weak_put (weak_put hwf.weak ha) hb1) he1) hf1, hwf.lt.put.put.put.put,
      by rw [put_box_ne (Nat.ne_of_lt hbf), put_box_ne (Nat.ne_of_lt hbe)]; exact put_box_same, by first | exact put_box_same | rfl, by rw [put_box_ne (Nat.ne_of_lt hef)]; exact put_box_same⟩
  · rintro B s ⟨i, now, c, hi, h11, h9, hn0, hn1, hci, hws, hls, hbc, hfc, hec⟩
    by_cases hlt : i < L.length
    · have hx := cos_get L i
      have hLi := hL L[i] (List.getElem_mem hlt)
      rw [List.getElem?_eq_getElem hlt, Option.map_some] at hx
      generalize L[i] = o at hx hLi
      have dlt := decide_eq_true (show (i : Int) < (L.length : Int) by omega)
      have gs := fun (h : 0 ≤ now + o.ticks ∧ now + o.ticks ≤ 1000000) (h' : 0 ≤ o.kind) => step42_v (st := s) hbc hfc (Nat.ne_of_lt hbf) hci.ok h hLi h'
      have gc := fun (h : 0 ≤ o.ticks) => ci_step (c := c) (now := now + o.ticks) ⟨hci.ok, by have := hci.tm; omega⟩ o
      generalize stepC c o (now + o.ticks) = c2 at gs gc
      obtain ⟨kind, tks, ⟨uy, u0, u1, u2, u3, u4, u5, u6, u7, u8, v0, v1, v2⟩, reason⟩ := o
      simp only [CO.v] at hx gs gc
      by_cases k0 : kind < 0
      · simp (config := {maxSteps := 3000000}) only [run_skip, run_reg, run_seq, run_blk, run_ret, run_cond, if_true, at_code_n, at_code_r, at_blk_r, at_rnd_r, at_fin_r, ops_nil, ops_grd, grd_tf, ops_mv, ops_pick, ops_bin, ops_fld, ops_ix, ops_load, ops_len, ev_t, ev_c, put_get, opv_mk, over_get, vnat, args0, List.getD_cons_zero, List.getD_cons_succ, vpick, vbin, vbinI, vfld, vlen, vix, vload, takeV, V.cells, List.length_cons, List.length_nil, List.getElem?_cons_zero, and_true, true_and, Nat.reduceEqDiff, Nat.reduceAdd, Int.toNat_natCast, Nat.zero_add, Nat.add_zero, ↓reduceIte, vret, rvAll, rvVal, resv_1, eq_self, Bool.false_eq_true, List.contains_cons, List.contains_nil, Nat.reduceBEq, Bool.or_false, Bool.or_true, h11, List.length_map, dlt, hx, decide_eq_true k0]
        repeat (apply And.intro; focus (first | omega | (simp; done)))
        exact g0 _ hws
      by_cases k1 : tks < 0
      · simp (config := {maxSteps := 3000000}) only [run_skip, run_reg, run_seq, run_blk, run_ret, run_cond, if_true, at_code_n, at_code_r, at_blk_r, at_rnd_r, at_fin_r, ops_nil, ops_grd, grd_ff, grd_tf, ops_mv, ops_pick, ops_bin, ops_fld, ops_ix, ops_load, ops_len, ev_t, ev_c, put_get, opv_mk, over_get, vnat, args0, List.getD_cons_zero, List.getD_cons_succ, vpick, vbin, vbinI, vfld, vlen, vix, vload, takeV, V.cells, List.length_cons, List.length_nil, List.getElem?_cons_zero, List.getElem?_cons_succ, and_true, true_and, Nat.reduceEqDiff, Nat.reduceAdd, Int.toNat_natCast, Nat.zero_add, Nat.add_zero, ↓reduceIte, vret, rvAll, rvVal, resv_1, eq_self, Bool.false_eq_true, List.contains_cons, List.contains_nil, Nat.reduceBEq, Bool.or_false, Bool.or_true, h11, List.length_map, dlt, hx, decide_eq_false k0, decide_eq_true k1]
        repeat (apply And.intro; focus (first | omega | (simp; done)))
        exact g0 _ hws
      by_cases k2 : 200 < tks
      · simp (config := {maxSteps := 3000000}) only [run_skip, run_reg, run_seq, run_blk, run_ret, run_cond, if_true, at_code_n, at_code_r, at_blk_r, at_rnd_r, at_fin_r, ops_nil, ops_grd, grd_ff, ops_mv, ops_pick, ops_bin, ops_fld, ops_ix, ops_load, ops_len, ev_t, ev_c, put_get, opv_mk, over_get, vnat, args0, List.getD_cons_zero, List.getD_cons_succ, vpick, vbin, vbinI, vfld, vlen, vix, vload, takeV, V.cells, List.length_cons, List.length_nil, List.getElem?_cons_zero, List.getElem?_cons_succ, and_true, true_and, Nat.reduceEqDiff, Nat.reduceAdd, Int.toNat_natCast, Nat.zero_add, Nat.add_zero, ↓reduceIte, vret, rvAll, rvVal, resv_1, eq_self, Bool.false_eq_true, List.contains_cons, List.contains_nil, Nat.reduceBEq, Bool.or_false, Bool.or_true, h11, List.length_map, dlt, hx, decide_eq_false k0, decide_eq_false k1, decide_eq_true k2]
        repeat (apply And.intro; focus (first | omega | (simp; done)))
        exact g0 _ hws
      have gc := gc (by omega)
      simp (config := {maxSteps := 3000000}) only [run_skip, run_reg, run_seq, run_blk, run_cond, if_true, if_false, at_code_n, ops_nil, ops_grd, grd_ff, ops_mv, ops_pick, ops_bin, ops_fld, ops_ix, ops_load, ops_len, ops_call, ev_t, ev_c, put_get, opv_mk, over_get, vnat, args0, List.getD_cons_zero, List.getD_cons_succ, vpick, vbin, vbinI, norm, vfld, vlen, vix, vload, takeV, V.cells, List.map_cons, List.map_nil, List.length_cons, List.length_nil, List.getElem?_cons_zero, List.getElem?_cons_succ, List.take_succ_cons, List.drop_zero, List.take_nil, and_true, true_and, Nat.reduceEqDiff, Nat.reduceAdd, Nat.reduceLeDiff, Int.toNat_natCast, Int.reduceNeg, Nat.zero_add, Nat.add_zero, ↓reduceIte, eq_self, Bool.false_eq_true, List.contains_cons, List.contains_nil, Nat.reduceBEq, Bool.or_false, Bool.or_true, h11, h9, List.length_map, dlt, hx, decide_eq_false k0, decide_eq_false k1, decide_eq_false k2]
      repeat (apply And.intro; focus (first | omega | (simp; done)))
      refine Cal.mk (gs (by omega) (by omega)) ?_
      rintro _ _ ⟨rfl, rfl⟩ -
      simp (config := {maxSteps := 3000000}) only [run_skip, run_reg, run_cond, if_false, at_code_n, at_blk_n, at_rnd_n, ops_nil, ops_mv, ops_bin, ops_un, ev_t, ev_c, put_get, opv_mk, over_get, rel_mk, put_box_same, vbin, vbinI, vun, norm, obsOk, true_and, Nat.reduceEqDiff, Int.reduceNeg, ↓reduceIte, Bool.not_true, eq_self, List.contains_cons, List.contains_nil, Nat.reduceBEq, Bool.or_false, Bool.or_true, h11]
      repeat (apply And.intro; focus (first | omega | (simp; done)))
      exact ⟨⟨i + 1, now + tks, c2, by omega, by simp, rfl, by omega, by omega, gc, weak_put (weak_put hws hb1) hf1, hls.put.put, by rw [put_box_ne (Nat.ne_of_lt hbf)]; exact put_box_same, by first | exact put_box_same | rfl, by rw [put_box_ne (Nat.ne_of_lt hef), put_box_ne (Nat.ne_of_gt hbe)]; exact hec⟩, by omega⟩
    · obtain rfl : i = L.length := by omega
      simp (config := {maxSteps := 3000000}) only [run_reg, run_seq, run_blk, run_exit, run_cond, if_false, at_code_n, at_code_x, at_blk_x, at_rnd_x, ops_nil, ops_mv, ops_bin, ops_len, ev_t, ev_c, put_get, opv_mk, over_get, vnat, args0, List.getD_cons_zero, List.getD_cons_succ, vbin, vbinI, vlen, true_and, Nat.reduceEqDiff, Int.toNat_natCast, ↓reduceIte, decide_false, Int.lt_irrefl, eq_self, Bool.false_eq_true, List.contains_cons, List.contains_nil, Nat.reduceBEq, Bool.or_false, Bool.or_true, h11, List.length_map]
      clear h11 hfc
      refine run_loop [12, 99, 100, 101, 102, 103, 104, 105, 106, 107] (fun B s => ∃ (i : Nat) (c : CC), 1 ≤ i ∧ i ≤ 122 ∧ B 12 = .sc (.int .i64 (i : Int)) ∧ c.Ok ∧ LateI c now i ∧ st.weak s ∧ s.Lt ∧ s.box b = some c.cells ∧ s.box e = some (CC.mk 0 me other host 60 false 0).cells) (fun B _ => 122 - vnat (B 12)) rfl ?_ ?_
      · simp (config := {maxSteps := 3000000}) only [put_get, ↓reduceIte, eq_self]
        exact ⟨1, c, by omega, by omega, by simp, hci.ok, late_start hci, hws, hls, hbc, hec⟩
      · clear hci hws hls hbc hec
        rintro B2 s2 ⟨i, c, hi1, hi2, h12, hok2, hlate, hws, hls, hbc, hec⟩
        by_cases hlt2 : i ≤ 121
        · have ok2 := tick_ok (c := c) (now := now + i) hok2
          simp (config := {maxSteps := 3000000}) only [run_skip, run_reg, run_seq, run_blk, run_cond, if_true, at_code_n, ops_nil, ops_mv, ops_bin, ops_call, ev_t, ev_c, put_get, opv_mk, over_get, vnat, vbin, vbinI, norm, List.map_cons, List.map_nil, true_and, Nat.reduceEqDiff, Int.toNat_natCast, Int.reduceNeg, ↓reduceIte, eq_self, Bool.false_eq_true, List.contains_cons, List.contains_nil, Nat.reduceBEq, Bool.or_false, Bool.or_true, h12, h9, decide_eq_true (show (i : Int) ≤ 121 by omega)]
          repeat (apply And.intro; focus (first | omega | (simp; done)))
          refine Cal.mk (ctlTick_v (now := now + i) hbc hok2 (by omega)) ?_
          rintro _ _ ⟨rfl, rfl⟩ -
          simp (config := {maxSteps := 3000000}) only [run_reg, at_code_n, at_blk_n, at_rnd_n, ops_nil, ops_mv, ops_bin, ev_t, ev_c, put_get, opv_mk, over_get, rel_mk, put_box_same, vbin, vbinI, norm, obsOk, true_and, Nat.reduceEqDiff, Int.reduceNeg, ↓reduceIte, eq_self, List.contains_cons, List.contains_nil, Nat.reduceBEq, Bool.or_false, h12]
          repeat (apply And.intro; focus (first | omega | (simp; done)))
          exact ⟨⟨i + 1, tickC c (now + i), by omega, by omega, by simp, ok2, by have := late_step hlate; simpa using this, weak_put hws hb1, hls.put, by first | exact put_box_same | rfl, by rw [put_box_ne (Nat.ne_of_gt hbe)]; exact hec⟩, by omega⟩
        · obtain rfl : i = 122 := by omega
          have c4 : c.state = 4 := late_end (by simpa using hlate)
          simp (config := {maxSteps := 3000000}) only [run_reg, run_seq, run_exit, run_cond, if_false, at_code_n, at_code_x, at_blk_x, at_rnd_x, ops_nil, ops_mv, ops_bin, ops_call, ev_t, ev_c, put_get, opv_mk, over_get, vnat, vbin, vbinI, List.map_cons, List.map_nil, true_and, Nat.reduceEqDiff, Nat.reduceSub, Int.toNat_natCast, ↓reduceIte, eq_self, Bool.false_eq_true, List.contains_cons, List.contains_nil, Nat.reduceBEq, Bool.or_false, h12, decide_eq_false (show ¬ ((122 : Nat) : Int) ≤ 121 by omega)]
          refine Cal.mk (ctlState_v hbc) ?_
          rintro _ _ ⟨rfl, rfl⟩ -
          simp (config := {maxSteps := 3000000}) only [run_skip, run_reg, run_seq, run_cond, if_false, at_code_n, ops_nil, ops_mv, ops_bin, ops_bslo, ev_t, ev_c, put_get, opv_mk, over_get, vbin, vbinI, strip, strip1, obsOk, List.map_cons, List.map_nil, true_and, Nat.reduceEqDiff, ↓reduceIte, ne_eq, eq_self, Bool.false_eq_true, List.contains_cons, List.contains_nil, Nat.reduceBEq, Bool.or_false, decide_eq_false (show ¬ ¬ c.state = 4 by omega)]
          refine Bo.own (by simp [allLen, V.cells]) ?_
          intro g hg
          simp (config := {maxSteps := 3000000}) only [ops_call, ev_t, ev_c, put_get, obsOk, List.map_cons, List.map_nil, List.length_cons, List.length_nil, true_and, Nat.zero_add, ↓reduceIte, eq_self]
          refine Cal.mk (of_at (l := [256]) (m := mN 1 256 0 0 0 0 0 0 0 0) (U32.one (by omega)) (by simp) rfl) ?_
          rintro _ _ ⟨rfl, rfl⟩ -
          simp (config := {maxSteps := 3000000}) only [ops_call, ev_t, ev_c, put_get, obsOk, List.map_cons, List.map_nil, true_and, Nat.reduceEqDiff, ↓reduceIte, eq_self]
          refine Cal.mk (ctlTake_v (c := ⟨0, me, other, host, 60, false, 0⟩) (by simp only [use_box]; exact hec) (by omega) (mN_ok (by omega) (by omega) (by omega) (by omega) (by omega) (by omega))) ?_
          rintro _ _ ⟨rfl, rfl⟩ -
          rw [take0C]
          simp (config := {maxSteps := 3000000}) only [run_reg, run_seq, run_blk, at_code_n, ops_nil, ops_mv, ev_c, opv_mk, obsOk, true_and]
          have hg' : st.sz ≤ g := Nat.le_trans hws.sz hg
          have hw3 : st.weak ((s2.use g 1).put e (CC.mk 2 me other host 60 false 0).cells) := weak_put (weak_use hws hg') he1
          have hl3 : ((s2.use g 1).put e (CC.mk 2 me other host 60 false 0).cells).Lt := hls.use.put
          clear hlate hok2 hbc hec hws hls c4
          refine run_loop [6, 13, 14, 15, 115, 116, 117, 118, 119, 120, 121, 122, 123, 124, 125, 126, 127, 128, 129, 130, 131, 132, 133, 134, 135, 136, 137, 138, 139, 140, 141, 142, 143, 144, 145] (fun B s => ∃ (i : Nat) (c : CC), 1 ≤ i ∧ (i : Int) ≤ ticks + 1 ∧ B 13 = .sc (.int .i64 (i : Int)) ∧ c.Ok ∧ c.state = 2 ∧ c.asked = false ∧ st.weak s ∧ s.Lt ∧ s.box e = some c.cells) (fun B _ => ticks.toNat + 1 - vnat (B 13)) rfl ?_ ?_
          · simp (config := {maxSteps := 3000000}) only [put_get, put_box_same, ↓reduceIte, eq_self]
            exact ⟨1, CC.mk 2 me other host 60 false 0, by omega, by omega, by simp, ⟨by simp, by simp, by simp⟩, rfl, rfl, hw3, hl3, by first | exact put_box_same | rfl⟩
          · clear hw3 hl3
            rintro B3 s3 ⟨i, c, hi1, hi2, h13, hok, hst, has, hws, hls, hec⟩
            by_cases hlt3 : (i : Int) ≤ ticks
            rotate_left
            · simp (config := {maxSteps := 3000000}) only [run_reg, run_seq, run_exit, run_cond, if_false, at_code_n, at_code_x, at_blk_x, at_rnd_x, ops_nil, ops_mv, ops_bin, ops_call, ev_t, put_get, opv_mk, over_get, vnat, args0, List.getD_cons_zero, List.getD_cons_succ, vbin, vbinI, List.map_cons, List.map_nil, true_and, Nat.reduceEqDiff, Int.toNat_natCast, ↓reduceIte, eq_self, Bool.false_eq_true, List.contains_cons, List.contains_nil, Nat.reduceBEq, Bool.or_false, Bool.or_true, h13, decide_eq_false hlt3]
              refine Cal.mk (ctlState_v hec) ?_
              rintro _ _ ⟨rfl, rfl⟩ -
              simp (config := {maxSteps := 3000000}) only [ops_grd, grd_tt, ops_mv, ops_bin, ops_call, ev_t, ev_c, put_get, opv_mk, vbin, vbinI, obsOk, List.map_nil, true_and, ↓reduceIte, eq_self, decide_eq_true hst]
              refine Cal.mk alive42_v ?_
              rintro _ _ ⟨rfl, rfl⟩ -
              simp (config := {maxSteps := 3000000}) only [run_ret, at_code_n, at_fin_r, ops_nil, ops_mv, ops_pick, ev_t, put_get, opv_mk, vpick, obsOk, and_true, true_and, Nat.reduceEqDiff, ↓reduceIte, vret, rvAll, rvVal, resv_1, eq_self]
              exact g0 _ hws
            · simp (config := {maxSteps := 3000000}) only [run_skip, run_reg, run_seq, run_blk, run_cond, if_true, at_code_n, ops_nil, ops_mv, ops_bin, ops_call, ev_t, put_get, opv_mk, over_get, vnat, args0, List.getD_cons_zero, List.getD_cons_succ, vbin, vbinI, List.map_cons, List.map_nil, true_and, Nat.reduceEqDiff, Int.toNat_natCast, ↓reduceIte, eq_self, Bool.false_eq_true, List.contains_cons, List.contains_nil, Nat.reduceBEq, Bool.or_false, Bool.or_true, h13, decide_eq_true hlt3]
              refine Cal.mk (ctlTick_v (now := i) hec hok (by omega)) ?_
              rintro _ _ ⟨rfl, rfl⟩ -
              have ok2 := tick_ok (now := i) hok
              by_cases ht : (i : Int) < c.tm
              · have e1 : tickM c i = [] := by unfold tickM; rw [if_pos (.inr ht)]
                have e2 : tickC c i = c := by unfold tickC; rw [if_pos (.inr ht)]
                rw [e1, e2]
                simp (config := {maxSteps := 3000000}) only [run_reg, run_seq, run_blk, at_code_n, ops_nil, ops_mv, ev_t, ev_c, put_get, opv_mk, obsOk, List.map_nil, true_and, ↓reduceIte, eq_self, List.map_nil]
                refine run_loop [6, 15, 123, 124, 125, 126, 127, 128, 129, 130, 131, 132, 133, 134, 135, 136, 137, 138, 139, 140, 141, 142, 143, 144, 145] (fun B s => B 15 = .sc (.int .i64 0) ∧ s = s3.put e c.cells) (fun B _ => 0) rfl ?_ ?_
                · simp (config := {maxSteps := 3000000}) only [put_get, and_true, ↓reduceIte, eq_self]
                · rintro B4 s4 ⟨h15, rfl⟩
                  simp (config := {maxSteps := 3000000}) only [run_reg, run_seq, run_exit, run_cond, if_false, at_code_n, at_code_x, at_blk_n, at_blk_x, at_rnd_n, at_rnd_x, ops_nil, ops_mv, ops_bin, ops_len, ev_t, ev_c, put_get, opv_mk, over_get, rel_mk, put_box_same, vbin, vbinI, norm, vlen, List.length_nil, true_and, Nat.reduceEqDiff, Int.reduceNeg, ↓reduceIte, eq_self, Bool.false_eq_true, List.contains_cons, List.contains_nil, Nat.reduceBEq, Bool.or_false, Bool.or_true, h15, h13, show decide ((0 : Int) < ((0 : Nat) : Int)) = false from rfl]
                  repeat (apply And.intro; focus (first | omega | (simp; done)))
                  exact ⟨⟨i + 1, c, by omega, by omega, by simp, hok, hst, has, weak_put hws he1, hls.put, by first | exact put_box_same | rfl⟩, by omega⟩
              · have e1 : tickM c i = [mN 5 ((c.id + 1) % 4294967296) 0 0 0 0 0 0 0 0] := by unfold tickM; rw [if_neg (by omega), if_pos ⟨hst, has⟩]
                have e2 : tickC c i = { c with asked := true, tm := i + 60, id := (c.id + 1) % 4294967296 } := by unfold tickC; rw [if_neg (by omega), if_pos ⟨hst, has⟩]
                rw [e1]
                generalize hT : tickC c i = c2 at *
                have a2 : c2.asked = true := by rw [e2]
                have s2' : c2.state = 2 := by rw [e2]; exact hst
                have i2 : c2.id = (c.id + 1) % 4294967296 := by rw [e2]
                have hidr := ok2.id
                generalize hid : (c.id + 1) % 4294967296 = x at *
                clear e1 e2 hT
                have k1 : ctakeC c2 i (mN 6 x 1 0 0 0 0 0 0 0) = { c2 with asked := false, tm := i + 60 } := by
                  simp [ctakeC, heardC, takeC1, mN, a2, s2', i2]
                have k2 : ctakeM c2 i (mN 6 x 1 0 0 0 0 0 0 0) = [] := by
                  simp [ctakeM, takeM1, mN, s2']
                have hx : 0 ≤ x ∧ x < 4294967296 := by omega
                have ok3 : ({ c2 with asked := false, tm := i + 60 } : CC).Ok := ⟨ok2.s0, ok2.s4, ok2.id⟩
                simp (config := {maxSteps := 3000000}) only [run_reg, run_seq, run_blk, at_code_n, ops_nil, ops_mv, ev_t, ev_c, put_get, opv_mk, obsOk, List.map_cons, List.map_nil, true_and, ↓reduceIte, eq_self, List.map_cons, List.map_nil, M9.v, M9.cells, mN]
                refine run_loop [6, 15, 123, 124, 125, 126, 127, 128, 129, 130, 131, 132, 133, 134, 135, 136, 137, 138, 139, 140, 141, 142, 143, 144, 145] (fun B s => (B 15 = .sc (.int .i64 0) ∧ s = s3.put e c2.cells) ∨ (B 15 = .sc (.int .i64 1) ∧ st.weak s ∧ s.Lt ∧ s.box e = some (CC.mk c2.state c2.me c2.other c2.host (i + 60) false c2.id).cells)) (fun B _ => 1 - vnat (B 15)) rfl ?_ ?_
                · simp (config := {maxSteps := 3000000}) only [put_get, put_box_same, and_true, ↓reduceIte, eq_self, true_or]
                · rintro B4 s4 (⟨h15, rfl⟩ | ⟨h15, hws4, hls4, hec4⟩)
                  · simp (config := {maxSteps := 3000000}) only [run_skip, run_reg, run_seq, run_blk, run_cond, if_true, if_false, at_code_n, ops_nil, ops_mv, ops_bin, ops_fld, ops_ix, ops_ixa, ops_load, ops_len, ops_bslo, ev_t, ev_c, put_get, opv_mk, over_get, vnat, vbin, vbinI, vfld, vlen, vix, vixa, vload, takeV, V.cells, strip, strip1, List.map_cons, List.map_nil, List.length_cons, List.length_nil, List.getElem?_cons_zero, List.getElem?_cons_succ, and_true, true_and, Nat.reduceEqDiff, Nat.reduceAdd, Nat.reduceSub, Int.reduceToNat, Int.reduceLE, Int.reduceLT, Nat.zero_add, Nat.add_zero, Nat.mul_one, ↓reduceIte, decide_false, ne_eq, not_true_eq_false, eq_self, Bool.false_eq_true, List.contains_cons, List.contains_nil, Nat.reduceBEq, Bool.or_false, Bool.or_true, h15, h13, nc9, show decide ((0 : Int) < ((1 : Nat) : Int)) = true from rfl]
                    refine Bo.own (by simp [allLen, V.cells]) ?_
                    intro g hg
                    simp (config := {maxSteps := 3000000}) only [ops_call, ev_t, ev_c, put_get, obsOk, List.map_cons, List.map_nil, List.length_cons, List.length_nil, true_and, Nat.reduceAdd, Nat.zero_add, ↓reduceIte, eq_self]
                    refine Cal.mk (of_at (l := [x, 1]) (m := mN 6 x 1 0 0 0 0 0 0 0) (U32.cons (by omega) (U32.one (by omega))) (by simp) ?_) ?_
                    · have : (ofM 6 [x, 1]).v = (mN 6 (x % 4294967296) 1 0 0 0 0 0 0 0).v := rfl
                      rw [this, show x % 4294967296 = x by omega]
                    rintro _ _ ⟨rfl, rfl⟩ -
                    simp (config := {maxSteps := 3000000}) only [ops_call, ev_t, put_get, obsOk, List.map_cons, List.map_nil, true_and, Nat.reduceEqDiff, ↓reduceIte, eq_self]
                    refine Cal.mk (ctlTake_v (c := c2) (by simp only [use_box]; exact put_box_same) (by omega) (mN_ok (by omega) (by omega) (by omega) (by omega) (by omega) (by omega))) ?_
                    rintro _ _ ⟨rfl, rfl⟩ -
                    rw [k1, k2]
                    simp (config := {maxSteps := 3000000}) only [run_reg, at_code_n, at_blk_n, at_rnd_n, ops_nil, ops_mv, ops_bin, ev_t, ev_c, put_get, opv_mk, over_get, rel_mk, put_box_same, vbin, vbinI, norm, obsOk, List.map_nil, and_true, true_and, Nat.reduceEqDiff, Nat.reduceSub, Nat.reduceLT, Nat.reduceLT, Int.reduceToNat, Int.reduceLE, Int.reduceAdd, Int.reduceNeg, ↓reduceIte, eq_self, List.contains_cons, List.contains_nil, Nat.reduceBEq, Bool.or_false, Bool.or_true, h15]
                    repeat (apply And.intro; focus (first | omega | (simp; done)))
                    exact .inr ⟨weak_put (weak_use (weak_put hws he1) (by simp only [put_sz] at *; have := hws.sz; omega)) he1, hls.put.use.put⟩
                  · simp (config := {maxSteps := 3000000}) only [run_reg, run_seq, run_exit, run_cond, if_false, at_code_n, at_code_x, at_blk_n, at_blk_x, at_rnd_n, at_rnd_x, ops_nil, ops_mv, ops_bin, ops_len, ev_t, ev_c, put_get, opv_mk, over_get, rel_mk, vnat, vbin, vbinI, norm, vlen, List.length_cons, List.length_nil, true_and, Nat.reduceEqDiff, Nat.reduceSub, Int.reduceToNat, Int.reduceNeg, Nat.zero_add, ↓reduceIte, eq_self, Bool.false_eq_true, List.contains_cons, List.contains_nil, Nat.reduceBEq, Bool.or_false, Bool.or_true, h15, h13, show decide ((1 : Int) < ((1 : Nat) : Int)) = false from rfl]
                    repeat (apply And.intro; focus (first | omega | (simp; done)))
                    exact ⟨⟨i + 1, CC.mk c2.state c2.me c2.other c2.host (i + 60) false c2.id, by omega, by omega, by simp, ok3, s2', rfl, hws4, hls4, hec4⟩, by omega⟩
end
end Go.Proofs.Ytogkdcbcmhhhcaa
