/- CtrlFinds: who is silent is found, walked. -/
import Derived.Test.YtogkdcbcmhhhcaaVCtrlR
namespace Go.Proofs.Ytogkdcbcmhhhcaa
open Go Go.RowKit

/-- A call of a connection. -/
structure CO where
  kind : Int
  ticks : Int
  m : M9
  reason : Int
def CO.v (o : CO) : V := .agg [.sc (.int .i64 o.kind), .sc (.int .i64 o.ticks), .sc (.int .i64 o.m.ty), .sc (.int .u32 o.m.n0), .sc (.int .u32 o.m.n1), .sc (.int .u32 o.m.n2), .sc (.int .u32 o.m.n3), .sc (.int .u32 o.m.n4), .sc (.int .u32 o.m.n5), .sc (.int .u32 o.m.n6), .sc (.int .u32 o.m.n7), .sc (.int .u32 o.m.n8), .sc (.string o.m.t0), .sc (.string o.m.t1), .sc (.string o.m.t2), .sc (.int .u32 o.reason)]
structure CO.Ok (o : CO) : Prop where
  m : o.m.Ok
  r : 0 ≤ o.reason ∧ o.reason < 4294967296
def stepC (c : CC) (o : CO) (now : Int) : CC := if o.kind % 10 = 4 ∨ o.kind % 10 = 5 then tickC c now else if o.kind % 10 = 6 then callsC c now else if o.kind % 10 = 7 then reachC c now else if o.kind % 10 = 8 then stopC c now else if o.kind % 10 = 9 then failC c else ctakeC c now o.m
/-- What is true of each connection at each time. -/
structure CI (c : CC) (now : Int) : Prop where
  ok : c.Ok
  tm : c.tm ≤ now + 60
section
variable {c : CC} {now : Int}
theorem ci_fail (h : CI c now) : CI (failC c) now := ⟨⟨by simp [failC], by simp [failC], h.ok.id⟩, h.tm⟩
theorem ci_up (h : CI c now) : CI (upC c now) now := ⟨⟨by simp [upC], by simp [upC], h.ok.id⟩, by simp [upC]⟩
theorem ci_reach (h : CI c now) : CI (reachC c now) now := by
  unfold reachC; split
  · exact ⟨⟨by simp, by simp, h.ok.id⟩, by simp⟩
  · exact h
theorem ci_stop (h : CI c now) : CI (stopC c now) now := by
  unfold stopC; split
  · exact h
  · exact ⟨⟨by simp, by simp, h.ok.id⟩, by simp⟩
theorem ci_heard (h : CI c now) : CI (heardC c now) now := by
  unfold heardC; split
  · exact ⟨⟨h.ok.s0, h.ok.s4, h.ok.id⟩, by simp⟩
  · exact h
theorem ci_began (h : CI c now) (n0 : Int) : CI (beganC c now n0) now := by
  unfold beganC; split
  · exact h
  split
  · exact h
  split
  · exact h
  split
  · exact ci_fail h
  · exact ci_up h
theorem ci_ans (h : CI c now) (n0 n1 : Int) : CI (ansC c now n0 n1) now := by
  unfold ansC; split
  · exact ci_up h
  · exact ci_fail h
theorem ci_take (h : CI c now) (m : M9) : CI (ctakeC c now m) now := by
  unfold ctakeC; split
  · exact h
  have h := ci_heard h
  generalize heardC c now = c at *
  unfold takeC1; split
  · exact ci_began h _
  split
  · exact ci_ans h _ _
  split
  · exact ci_fail h
  split
  · exact ci_fail h
  split
  · exact ⟨⟨h.ok.s0, h.ok.s4, h.ok.id⟩, by simp⟩
  · exact h
theorem ci_calls (h : CI c now) : CI (callsC c now) now := by
  unfold callsC; split
  · exact ci_fail h
  · exact ci_heard h
theorem ci_tick (h : CI c now) : CI (tickC c now) now := by
  unfold tickC; split
  · exact h
  split
  · exact ⟨⟨h.ok.s0, h.ok.s4, by simp only; omega⟩, by simp⟩
  · exact ci_fail h
theorem ci_step (h : CI c now) (o : CO) : CI (stepC c o now) now := by
  unfold stepC; split
  · exact ci_tick h
  split
  · exact ci_calls h
  split
  · exact ci_reach h
  split
  · exact ci_stop h
  split
  · exact ci_fail h
  · exact ci_take h _
/-- Ahead of the i-th tick without a word. -/
def LateI (c : CC) (now i : Int) : Prop := c.state = 4 ∨ (c.state = 2 ∧ c.asked = true ∧ c.tm ≤ now + 120 ∧ i ≤ 120) ∨ (c.state ≠ 4 ∧ (c.state ≠ 2 ∨ c.asked = false) ∧ c.tm ≤ now + 60 ∧ i ≤ 60)
theorem late_start (h : CI c now) : LateI c now 1 := by
  have := h.tm
  by_cases h4 : c.state = 4
  · exact .inl h4
  by_cases h2 : c.state = 2 ∧ c.asked = true
  · exact .inr (.inl ⟨h2.1, h2.2, by omega, by omega⟩)
  · refine .inr (.inr ⟨h4, ?_, this, by omega⟩)
    by_cases q : c.state = 2
    · refine .inr ?_
      cases ha : c.asked
      · rfl
      · exact absurd ⟨q, ha⟩ h2
    · exact .inl q
theorem late_step {i : Int} (h : LateI c now i) : LateI (tickC c (now + i)) now (i + 1) := by
  rcases h with h | ⟨h1, h2, h3, h4⟩ | ⟨h1, h2, h3, h4⟩
  · exact .inl (by unfold tickC; rw [if_pos (.inl h)]; exact h)
  · by_cases ht : now + i < c.tm
    · refine .inr (.inl ?_)
      unfold tickC; rw [if_pos (.inr ht)]
      exact ⟨h1, h2, h3, by omega⟩
    · refine .inl ?_
      unfold tickC; rw [if_neg (by omega), if_neg (by rw [h2]; simp)]
      rfl
  · by_cases ht : now + i < c.tm
    · refine .inr (.inr ?_)
      unfold tickC; rw [if_pos (.inr ht)]
      exact ⟨h1, h2, h3, by omega⟩
    · unfold tickC; rw [if_neg (by omega)]
      split
      · rename_i hq
        exact .inr (.inl ⟨hq.1, rfl, by simp only; omega, by omega⟩)
      · exact .inl rfl
theorem late_end (h : LateI c now 122) : c.state = 4 := by
  rcases h with h | ⟨_, _, _, h⟩ | ⟨_, _, _, h⟩
  · exact h
  · omega
  · omega
end
theorem failM_len (c : CC) : (failM c).length ≤ 1000 := by unfold failM; split <;> simp
theorem reachM_len (c : CC) : (reachM c).length ≤ 1000 := by unfold reachM; split <;> simp
theorem stopM_len (c : CC) (r : Int) : (stopM c r).length ≤ 1000 := by unfold stopM; split <;> simp
theorem callsM_len (c : CC) : (callsM c).length ≤ 1000 := by unfold callsM; split; exact failM_len c; simp
theorem tickM_len (c : CC) (now : Int) : (tickM c now).length ≤ 1000 := by
  unfold tickM
  split
  · simp
  split
  · simp
  split
  · exact failM_len c
  · simp
theorem beganM_len (c : CC) (n : Int) : (beganM c n).length ≤ 1000 := by
  unfold beganM
  split
  · simp
  split
  · simp
  split
  · simp
  split <;> simp
theorem ansM_len (c : CC) (n k : Int) : (ansM c n k).length ≤ 1000 := by
  unfold ansM
  split
  · simp
  · exact failM_len c
theorem ctakeM_len (c : CC) (now : Int) (m : M9) : (ctakeM c now m).length ≤ 1000 := by
  unfold ctakeM takeM1
  split
  · simp
  split
  · exact beganM_len _ _
  split
  · exact ansM_len _ _ _
  split
  · simp
  split
  · split
    · simp
    · exact failM_len _
  split <;> simp
section
variable {tk tk' : Tk} {st : St} {b e : Nat} {c : CC}
theorem step42_v (hb : st.box b = some c.cells) (he : st.box e = some c.cells) (hbe : b ≠ e) (hc : c.Ok) {now : Int} (h0 : 0 ≤ now ∧ now ≤ 1000000) {o : CO} (ho : o.Ok) (hk : 0 ≤ o.kind) :
    VCalls Try.prog 39 [ptrV b, ptrV e, o.v, .sc (.int .i64 now)] st fun r st' => r = .sc (.bool true) ∧ st' = (st.put b (stepC c o now).cells).put e (stepC c o now).cells := by
  have hT := fun s hs => ctlTake_v (st := s) (b := b) (c := c) hs h0 ho.m
  have hR := fun s hs => rTake42_v (st := s) (b := e) (c := c) hs h0 ho.m
  have hS : stepC c o now = if o.kind % 10 = 4 ∨ o.kind % 10 = 5 then tickC c now else if o.kind % 10 = 6 then callsC c now else if o.kind % 10 = 7 then reachC c now else if o.kind % 10 = 8 then stopC c now else if o.kind % 10 = 9 then failC c else ctakeC c now o.m := rfl
  have hr := ho.r
  generalize stepC c o now = SS at *
  have lT := ctakeM_len c now o.m
  obtain ⟨kind, ticks, m, reason⟩ := o
  simp only at hT hR hS lT hk hr
  generalize ctakeM c now m = TM at *
  generalize ctakeC c now m = TS at *
  obtain ⟨ty, n0, n1, n2, n3, n4, n5, n6, n7, n8, t0, t1, t2⟩ := m
  simp only [M9.v, M9.cells] at hT hR
  clear ho
  refine vcalls_enter vc39 (Nat.le_of_ble_eq_true rfl) fun hwf hok => ?_
  show Run _ Vc39.body (.fin (finQ Vc39.res _)) _ _
  unfold Vc39
  have hbs := hwf.box _ _ hb
  have hes := hwf.box _ _ he
  simp (config := {maxSteps := 3000000}) only [run_reg, run_seq, run_blk, run_cond, at_code_n, ops_nil, ops_mv, ops_bin, ops_fld, ops_load, ops_box, ev_t, ev_c, put_get, opv_mk, Bx, put_box_same, args0, List.getD_cons_zero, List.getD_cons_succ, vbin, vbinI, vfld, vload, takeV, V.cells, ptrV, obsOk, List.length_cons, List.length_nil, List.getElem?_cons_zero, and_true, true_and, Nat.reduceEqDiff, Nat.reduceAdd, Int.reduceLT, Nat.zero_add, Nat.add_zero, ↓reduceIte, ne_eq, not_false_eq_true, eq_self, reduceCtorEq, CO.v]
  intro d hd
  obtain ⟨hbd, hed⟩ : b < d ∧ e < d := by omega
  have hb' : ∀ X, (st.put d X).box b = some c.cells := fun X => by rw [put_box_ne (Nat.ne_of_lt hbd)]; exact hb
  have he' : ∀ X, (st.put d X).box e = some c.cells := fun X => by rw [put_box_ne (Nat.ne_of_lt hed)]; exact he
  by_cases k4 : kind % 10 = 4
  · have d4 := decide_eq_true k4
    rw [if_pos (.inl k4)] at hS
    subst hS
    simp (config := {maxSteps := 3000000}) only [run_skip, run_reg, run_seq, run_cond, if_true, at_code_n, ops_mv, ops_call, ev_t, put_get, opv_mk, args0, List.getD_cons_zero, List.getD_cons_succ, List.map_cons, List.map_nil, true_and, Nat.reduceEqDiff, ↓reduceIte, eq_self, reduceCtorEq, d4]
    repeat (apply And.intro; focus (first | omega | (simp; done)))
    refine Cal.mk (ctlTick_v (hb' _) hc h0) ?_
    rintro _ _ ⟨rfl, rfl⟩ -
    simp (config := {maxSteps := 3000000}) only [ops_mv, ops_call, ev_t, put_get, opv_mk, args0, List.getD_cons_zero, List.getD_cons_succ, obsOk, List.map_cons, List.map_nil, true_and, Nat.reduceEqDiff, ↓reduceIte, eq_self]
    refine Cal.mk (rTick_v (c := c) (by rw [put_box_ne (Ne.symm hbe)]; exact he' _) hc h0) ?_
    rintro _ _ ⟨rfl, rfl⟩ -
    simp (config := {maxSteps := 3000000}) only [ops_call, ev_t, put_get, obsOk, List.map_cons, List.map_nil, true_and, Nat.reduceEqDiff, ↓reduceIte, eq_self]
    refine Cal.mk (Same_v _ (tickM_len c now)) ?_
    rintro _ _ ⟨rfl, rfl⟩ -
    simp (config := {maxSteps := 3000000}) only [run_ret, at_code_n, at_code_r, at_blk_r, at_fin_r, ops_nil, ops_mv, ev_t, put_get, opv_mk, obsOk, and_true, true_and, ↓reduceIte, vret, rvAll, rvVal, resv_1, eq_self]
    exact ⟨_, _, Wk.refl _, weak_both (weak_both (weak_put hwf.weak hd)), rfl, rfl⟩
  have d4 := decide_eq_false k4
  by_cases k5 : kind % 10 = 5
  · have d5 := decide_eq_true k5
    rw [if_pos (.inr k5)] at hS
    subst hS
    simp (config := {maxSteps := 3000000}) only [run_reg, run_seq, run_cond, if_true, if_false, at_code_n, ops_nil, ops_mv, ops_bin, ops_call, ev_t, ev_c, put_get, opv_mk, args0, List.getD_cons_zero, List.getD_cons_succ, vbin, vbinI, List.map_cons, List.map_nil, true_and, Nat.reduceEqDiff, ↓reduceIte, eq_self, reduceCtorEq, d4, d5]
    repeat (apply And.intro; focus (first | omega | (simp; done)))
    refine Cal.mk (ctlTick_v (hb' _) hc h0) ?_
    rintro _ _ ⟨rfl, rfl⟩ -
    simp (config := {maxSteps := 3000000}) only [ops_mv, ops_call, ev_t, put_get, opv_mk, args0, List.getD_cons_zero, List.getD_cons_succ, obsOk, List.map_cons, List.map_nil, true_and, Nat.reduceEqDiff, ↓reduceIte, eq_self]
    refine Cal.mk (rTick_v (c := c) (by rw [put_box_ne (Ne.symm hbe)]; exact he' _) hc h0) ?_
    rintro _ _ ⟨rfl, rfl⟩ -
    simp (config := {maxSteps := 3000000}) only [ops_call, ev_t, put_get, obsOk, List.map_cons, List.map_nil, true_and, Nat.reduceEqDiff, ↓reduceIte, eq_self]
    refine Cal.mk (Same_v _ (tickM_len c now)) ?_
    rintro _ _ ⟨rfl, rfl⟩ -
    simp (config := {maxSteps := 3000000}) only [run_ret, at_code_n, at_code_r, at_blk_r, at_fin_r, ops_nil, ops_mv, ev_t, put_get, opv_mk, obsOk, and_true, true_and, ↓reduceIte, vret, rvAll, rvVal, resv_1, eq_self]
    exact ⟨_, _, Wk.refl _, weak_both (weak_both (weak_put hwf.weak hd)), rfl, rfl⟩
  have d5 := decide_eq_false k5
  rw [if_neg (by omega)] at hS
  by_cases k6 : kind % 10 = 6
  · have d6 := decide_eq_true k6
    rw [if_pos k6] at hS
    subst hS
    simp (config := {maxSteps := 3000000}) only [run_reg, run_seq, run_cond, if_true, if_false, at_code_n, ops_nil, ops_mv, ops_bin, ops_call, ev_t, ev_c, put_get, opv_mk, args0, List.getD_cons_zero, List.getD_cons_succ, vbin, vbinI, List.map_cons, List.map_nil, true_and, Nat.reduceEqDiff, ↓reduceIte, eq_self, reduceCtorEq, d4, d5, d6]
    repeat (apply And.intro; focus (first | omega | (simp; done)))
    refine Cal.mk (ctlCalls_v (hb' _) hc h0) ?_
    rintro _ _ ⟨rfl, rfl⟩ -
    simp (config := {maxSteps := 3000000}) only [run_reg, run_seq, at_code_n, ops_nil, ops_mv, ops_ext, ops_call, ev_t, put_get, opv_mk, args0, List.getD_cons_zero, List.getD_cons_succ, vext, obsOk, List.map_cons, List.map_nil, List.getElem?_cons_zero, List.getElem?_cons_succ, true_and, Nat.reduceEqDiff, ↓reduceIte, eq_self]
    refine Cal.mk (rCalls_v (c := c) (by rw [put_box_ne (Ne.symm hbe)]; exact he' _) hc h0) ?_
    rintro _ _ ⟨rfl, rfl⟩ -
    simp (config := {maxSteps := 3000000}) only [run_reg, run_seq, at_code_n, ops_nil, ops_mv, ops_ext, ops_call, ev_t, put_get, opv_mk, vext, obsOk, List.map_cons, List.map_nil, List.getElem?_cons_zero, List.getElem?_cons_succ, true_and, Nat.reduceEqDiff, ↓reduceIte, eq_self]
    refine Cal.mk (Same_v _ (callsM_len c)) ?_
    rintro _ _ ⟨rfl, rfl⟩ -
    simp (config := {maxSteps := 3000000}) only [run_ret, at_code_n, at_code_r, at_blk_r, at_fin_r, ops_nil, ops_grd, grd_tt, ops_mv, ops_pick, ops_binb, vbinb, ev_t, put_get, opv_mk, vpick, obsOk, and_true, true_and, Nat.reduceEqDiff, ↓reduceIte, vret, rvAll, rvVal, resv_1, eq_self, Bool.false_eq_true, beq_self_eq_true]
    exact ⟨_, _, Wk.refl _, weak_both (weak_both (weak_put hwf.weak hd)), rfl, rfl⟩
  have d6 := decide_eq_false k6
  rw [if_neg k6] at hS
  by_cases k7 : kind % 10 = 7
  · have d7 := decide_eq_true k7
    rw [if_pos k7] at hS
    subst hS
    simp (config := {maxSteps := 3000000}) only [run_reg, run_seq, run_cond, if_true, if_false, at_code_n, ops_nil, ops_mv, ops_bin, ops_call, ev_t, ev_c, put_get, opv_mk, args0, List.getD_cons_zero, List.getD_cons_succ, vbin, vbinI, List.map_cons, List.map_nil, true_and, Nat.reduceEqDiff, ↓reduceIte, eq_self, reduceCtorEq, d4, d5, d6, d7]
    repeat (apply And.intro; focus (first | omega | (simp; done)))
    refine Cal.mk (ctlReach_v (hb' _) h0) ?_
    rintro _ _ ⟨rfl, rfl⟩ -
    simp (config := {maxSteps := 3000000}) only [ops_mv, ops_call, ev_t, put_get, opv_mk, args0, List.getD_cons_zero, List.getD_cons_succ, obsOk, List.map_cons, List.map_nil, true_and, Nat.reduceEqDiff, ↓reduceIte, eq_self]
    refine Cal.mk (rReach_v (c := c) (by rw [put_box_ne (Ne.symm hbe)]; exact he' _) h0) ?_
    rintro _ _ ⟨rfl, rfl⟩ -
    simp (config := {maxSteps := 3000000}) only [ops_call, ev_t, put_get, obsOk, List.map_cons, List.map_nil, true_and, Nat.reduceEqDiff, ↓reduceIte, eq_self]
    refine Cal.mk (Same_v _ (reachM_len c)) ?_
    rintro _ _ ⟨rfl, rfl⟩ -
    simp (config := {maxSteps := 3000000}) only [run_ret, at_code_n, at_code_r, at_blk_r, at_fin_r, ops_nil, ops_mv, ev_t, put_get, opv_mk, obsOk, and_true, true_and, ↓reduceIte, vret, rvAll, rvVal, resv_1, eq_self]
    exact ⟨_, _, Wk.refl _, weak_both (weak_both (weak_put hwf.weak hd)), rfl, rfl⟩
  have d7 := decide_eq_false k7
  rw [if_neg k7] at hS
  by_cases k8 : kind % 10 = 8
  · have d8 := decide_eq_true k8
    rw [if_pos k8] at hS
    subst hS
    simp (config := {maxSteps := 3000000}) only [run_reg, run_seq, run_cond, if_true, if_false, at_code_n, ops_nil, ops_mv, ops_bin, ops_fld, ops_load, ops_call, ev_t, ev_c, put_get, opv_mk, put_box_same, args0, List.getD_cons_zero, List.getD_cons_succ, vbin, vbinI, vfld, vload, takeV, V.cells, List.map_cons, List.map_nil, List.length_cons, List.length_nil, List.getElem?_cons_zero, List.getElem?_cons_succ, true_and, Nat.reduceEqDiff, Nat.zero_add, ↓reduceIte, eq_self, reduceCtorEq, d4, d5, d6, d7, d8]
    repeat (apply And.intro; focus (first | omega | (simp; done)))
    refine Cal.mk (ctlStop_v (hb' _) h0 hr) ?_
    rintro _ _ ⟨rfl, rfl⟩ -
    simp (config := {maxSteps := 3000000}) only [ops_call, ev_t, put_get, put_box_same, vload, takeV, V.cells, obsOk, List.map_cons, List.map_nil, List.length_cons, List.length_nil, List.getElem?_cons_zero, List.getElem?_cons_succ, and_true, true_and, Nat.reduceEqDiff, Nat.zero_add, ↓reduceIte, eq_self, put_box_ne (Nat.ne_of_gt hbd)]
    refine Cal.mk (rStop_v (c := c) (by rw [put_box_ne (Ne.symm hbe)]; exact he' _) hc h0 hr) ?_
    rintro _ _ ⟨rfl, rfl⟩ -
    simp (config := {maxSteps := 3000000}) only [ops_call, ev_t, put_get, obsOk, List.map_cons, List.map_nil, true_and, Nat.reduceEqDiff, ↓reduceIte, eq_self]
    refine Cal.mk (Same_v _ (stopM_len c reason)) ?_
    rintro _ _ ⟨rfl, rfl⟩ -
    simp (config := {maxSteps := 3000000}) only [run_ret, at_code_n, at_code_r, at_blk_r, at_fin_r, ops_nil, ops_mv, ev_t, put_get, opv_mk, obsOk, and_true, true_and, ↓reduceIte, vret, rvAll, rvVal, resv_1, eq_self]
    exact ⟨_, _, Wk.refl _, weak_both (weak_both (weak_put hwf.weak hd)), rfl, rfl⟩
  have d8 := decide_eq_false k8
  rw [if_neg k8] at hS
  by_cases k9 : kind % 10 = 9
  · have d9 := decide_eq_true k9
    rw [if_pos k9] at hS
    subst hS
    simp (config := {maxSteps := 3000000}) only [run_reg, run_seq, run_cond, if_true, if_false, at_code_n, ops_nil, ops_mv, ops_bin, ops_call, ev_t, ev_c, put_get, opv_mk, args0, List.getD_cons_zero, vbin, vbinI, List.map_cons, List.map_nil, true_and, Nat.reduceEqDiff, ↓reduceIte, eq_self, reduceCtorEq, d4, d5, d6, d7, d8, d9]
    repeat (apply And.intro; focus (first | omega | (simp; done)))
    refine Cal.mk (ctlFail_v (hb' _)) ?_
    rintro _ _ ⟨rfl, rfl⟩ -
    simp (config := {maxSteps := 3000000}) only [ops_mv, ops_call, ev_t, put_get, opv_mk, args0, List.getD_cons_zero, List.getD_cons_succ, obsOk, List.map_cons, List.map_nil, true_and, Nat.reduceEqDiff, ↓reduceIte, eq_self]
    refine Cal.mk (rFail_v (c := c) (by rw [put_box_ne (Ne.symm hbe)]; exact he' _)) ?_
    rintro _ _ ⟨rfl, rfl⟩ -
    simp (config := {maxSteps := 3000000}) only [ops_call, ev_t, put_get, obsOk, List.map_cons, List.map_nil, true_and, Nat.reduceEqDiff, ↓reduceIte, eq_self]
    refine Cal.mk (Same_v _ (failM_len c)) ?_
    rintro _ _ ⟨rfl, rfl⟩ -
    simp (config := {maxSteps := 3000000}) only [run_ret, at_code_n, at_code_r, at_blk_r, at_fin_r, ops_nil, ops_mv, ev_t, put_get, opv_mk, obsOk, and_true, true_and, ↓reduceIte, vret, rvAll, rvVal, resv_1, eq_self]
    exact ⟨_, _, Wk.refl _, weak_both (weak_both (weak_put hwf.weak hd)), rfl, rfl⟩
  have d9 := decide_eq_false k9
  rw [if_neg k9] at hS
  subst hS
  simp (config := {maxSteps := 3000000}) only [run_skip, run_reg, run_seq, run_cond, if_false, at_code_n, at_blk_n, ops_nil, ops_mv, ops_bin, ops_fld, ops_load, ops_call, ev_t, ev_c, put_get, opv_mk, put_box_same, args0, List.getD_cons_zero, List.getD_cons_succ, vbin, vbinI, vfld, vload, takeV, List.map_cons, List.map_nil, List.length_cons, List.length_nil, List.take_succ_cons, List.take_zero, List.drop_succ_cons, List.drop_zero, true_and, Nat.reduceEqDiff, Nat.reduceAdd, Nat.reduceLeDiff, Nat.zero_add, ↓reduceIte, eq_self, reduceCtorEq, d4, d5, d6, d7, d8, d9]
  repeat (apply And.intro; focus (first | omega | (simp; done)))
  refine Cal.mk (hT _ (hb' _)) ?_
  rintro _ _ ⟨rfl, rfl⟩ -
  simp (config := {maxSteps := 3000000}) only [ops_call, ev_t, put_get, put_box_same, vload, takeV, obsOk, List.map_cons, List.map_nil, List.length_cons, List.length_nil, List.take_succ_cons, List.take_zero, List.drop_succ_cons, List.drop_zero, and_true, true_and, Nat.reduceEqDiff, Nat.reduceAdd, Nat.reduceLeDiff, Nat.zero_add, ↓reduceIte, eq_self, put_box_ne (Nat.ne_of_gt hbd)]
  refine Cal.mk (hR _ (by rw [put_box_ne (Ne.symm hbe)]; exact he' _)) ?_
  rintro _ _ ⟨rfl, rfl⟩ -
  simp (config := {maxSteps := 3000000}) only [ops_call, ev_t, put_get, obsOk, List.map_cons, List.map_nil, true_and, Nat.reduceEqDiff, ↓reduceIte, eq_self]
  refine Cal.mk (Same_v _ lT) ?_
  rintro _ _ ⟨rfl, rfl⟩ -
  simp (config := {maxSteps := 3000000}) only [run_ret, at_code_n, at_fin_r, ops_nil, ops_mv, ev_t, put_get, opv_mk, obsOk, and_true, true_and, ↓reduceIte, vret, rvAll, rvVal, resv_1, eq_self]
  exact ⟨_, _, Wk.refl _, weak_both (weak_both (weak_put hwf.weak hd)), rfl, rfl⟩
theorem take0C (me other : Int) (host : ByteArray) : ctakeC ⟨0, me, other, host, 60, false, 0⟩ 0 (mN 1 256 0 0 0 0 0 0 0 0) = ⟨2, me, other, host, 60, false, 0⟩ := by
  simp [ctakeC, heardC, takeC1, beganC, mN, upC]
theorem take0M (me other : Int) (host : ByteArray) : ctakeM ⟨0, me, other, host, 60, false, 0⟩ 0 (mN 1 256 0 0 0 0 0 0 0 0) = [answerM ⟨0, me, other, host, 60, false, 0⟩ 1] := by
  simp [ctakeM, heardC, takeM1, beganM, mN]
theorem mN_ok {t a n k d e f g h i : Int} (h0 : 0 ≤ a ∧ a < 4294967296) (h1 : 0 ≤ n ∧ n < 4294967296) (h2 : 0 ≤ k ∧ k < 4294967296) (h3 : 0 ≤ d ∧ d < 4294967296) (h6 : 0 ≤ g ∧ g < 4294967296) (h7 : 0 ≤ h ∧ h < 4294967296) : (mN t a n k d e f g h i).Ok := ⟨h0, h1, h2, h3, h6, h7⟩
theorem alive42_v : VCalls Try.prog 33 [] st fun r st' => r = .sc (.bool true) ∧ st = st' := by
  refine vcalls_enter vc33 (Nat.le_of_ble_eq_true rfl) fun hwf hok => ?_
  show Run _ Vc33.body (.fin (finQ Vc33.res _)) _ _
  unfold Vc33
  simp (config := {maxSteps := 3000000}) only [run_reg, run_seq, at_code_n, ops_nil, ops_mv, ops_call, ev_c, opv_mk, List.map_cons, List.map_nil, true_and]
  refine Cal.mk (ctlNew_v (by omega)) ?_
  rintro _ _ ⟨b, hb, rfl, rfl⟩ -
  simp (config := {maxSteps := 3000000}) only [run_skip, run_reg, run_seq, run_cond, if_false, at_code_n, ops_nil, ops_mv, ops_pnil, vpnil, ops_bslo, ev_t, ev_c, put_get, opv_mk, strip, strip1, ptrV, obsOk, List.map_cons, List.map_nil, true_and, Nat.reduceEqDiff, Int.reduceAdd, ↓reduceIte, eq_self]
  refine Bo.own (by simp [allLen, V.cells]) ?_
  intro g hg
  simp (config := {maxSteps := 3000000}) only [ops_call, ev_t, ev_c, put_get, obsOk, List.map_cons, List.map_nil, List.length_cons, List.length_nil, true_and, Nat.zero_add, ↓reduceIte, eq_self]
  refine Cal.mk (of_at (l := [256]) (m := mN 1 256 0 0 0 0 0 0 0 0) (U32.one (by omega)) (by simp) rfl) ?_
  rintro _ _ ⟨rfl, rfl⟩ -
  simp (config := {maxSteps := 3000000}) only [ops_call, ev_t, ev_c, put_get, obsOk, List.map_cons, List.map_nil, true_and, Nat.reduceEqDiff, ↓reduceIte, eq_self]
  refine Cal.mk (ctlTake_v (c := ⟨0, 1, 2, _, 60, false, 0⟩) (by simp only [use_box]; exact put_box_same) (by omega) (mN_ok (by omega) (by omega) (by omega) (by omega) (by omega) (by omega))) ?_
  rintro _ _ ⟨rfl, rfl⟩ -
  rw [take0C, take0M]
  simp (config := {maxSteps := 3000000}) only [run_reg, run_seq, at_code_n, ops_nil, ops_grd, grd_tt, ops_mv, ops_pick, ops_bin, ops_fld, ops_ix, ops_ixa, ops_load, ops_len, ops_call, ev_t, ev_c, put_get, opv_mk, vpick, vbin, vbinI, vfld, vlen, vix, vixa, vload, takeV, V.cells, obsOk, List.map_cons, List.map_nil, List.length_cons, List.length_nil, List.getElem?_cons_zero, List.getElem?_cons_succ, and_true, true_and, Nat.reduceEqDiff, Nat.reduceAdd, Int.reduceToNat, Int.reduceLE, Int.reduceLT, Nat.zero_add, Nat.add_zero, Nat.mul_one, ↓reduceIte, decide_true, eq_self, List.map_cons, List.map_nil, M9.v, M9.cells, answerM, namedM, mN, nc9, show ((1 : Nat) : Int) = 1 from rfl]
  refine Cal.mk (ctlState_v (c := ⟨2, 1, 2, _, 60, false, 0⟩) put_box_same) ?_
  rintro _ _ ⟨rfl, rfl⟩ -
  simp (config := {maxSteps := 3000000}) only [run_ret, at_code_n, at_fin_r, ops_nil, ops_grd, grd_tt, ops_mv, ops_pick, ops_bin, ev_t, ev_c, put_get, opv_mk, vpick, vbin, vbinI, obsOk, and_true, true_and, Nat.reduceEqDiff, ↓reduceIte, vret, rvAll, rvVal, resv_1, decide_true, eq_self]
  exact ⟨_, _, Wk.refl _, weak_put (weak_use (weak_put hwf.weak hb) (by simp only [put_sz] at *; omega)) hb, rfl, rfl⟩
end
end Go.Proofs.Ytogkdcbcmhhhcaa
