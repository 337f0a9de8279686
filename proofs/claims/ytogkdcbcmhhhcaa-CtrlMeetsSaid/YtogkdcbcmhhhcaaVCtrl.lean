/- Package ctrl: contracts. -/
import Derived.Test.YtogkdcbcmhhhcaaVCallsS
namespace Go.Proofs.Ytogkdcbcmhhhcaa
open Go Go.RowKit

def catB : ByteArray := ⟨#[99, 97, 116, 119, 97, 108, 107]⟩
/-- A connection. -/
structure CC where
  state : Int
  me : Int
  other : Int
  host : ByteArray
  tm : Int
  asked : Bool
  id : Int
def CC.cells (c : CC) : List V := [.sc (.int .i64 c.state), .sc (.int .u32 c.me), .sc (.int .u32 c.other), .sc (.string c.host), .sc (.int .i64 c.tm), .sc (.bool c.asked), .sc (.int .u32 c.id)]
structure CC.Ok (c : CC) : Prop where
  s0 : 0 ≤ c.state
  s4 : c.state ≤ 4
  id : 0 ≤ c.id ∧ c.id < 4294967296
def namedM (h : ByteArray) (m : M9) : M9 := { m with t0 := h, t1 := catB }
def startM (c : CC) : M9 := namedM c.host (mN 1 256 3 3 3 1 0 0 0 0)
def answerM (c : CC) (res : Int) : M9 := namedM c.host (mN 2 256 res 0 3 3 3 1 0 0)
def failC (c : CC) : CC := { c with state := 4 }
def failM (c : CC) : List M9 := if c.state = 4 then [] else [mN 3 2 0 0 0 0 0 0 0 0]
def upC (c : CC) (now : Int) : CC := { c with state := 2, asked := false, tm := now + 60 }
def reachC (c : CC) (now : Int) : CC := if c.state = 0 then { c with state := 1, tm := now + 60 } else c
def reachM (c : CC) : List M9 := if c.state = 0 then [startM c] else []
def stopC (c : CC) (now : Int) : CC := if c.state = 3 ∨ c.state = 4 then c else { c with state := 3, tm := now + 60 }
def stopM (c : CC) (reason : Int) : List M9 := if c.state = 3 ∨ c.state = 4 then [] else [mN 3 (reason % 256) 0 0 0 0 0 0 0 0]
def beganC (c : CC) (now : Int) (n0 : Int) : CC := if c.state = 2 then c else if c.state = 1 ∧ c.other < c.me then c else if c.state = 3 then c else if n0 ≠ 256 then failC c else upC c now
def beganM (c : CC) (n0 : Int) : List M9 := if c.state = 2 then [answerM c 3] else if c.state = 1 ∧ c.other < c.me then [] else if c.state = 3 then [] else if n0 ≠ 256 then [answerM c 5] else [answerM c 1]
def ansOk (c : CC) (n0 n1 : Int) : Prop := c.state = 1 ∧ n1 = 1 ∧ n0 = 256
instance (c : CC) (n0 n1 : Int) : Decidable (ansOk c n0 n1) := by unfold ansOk; infer_instance
def ansC (c : CC) (now : Int) (n0 n1 : Int) : CC := if ansOk c n0 n1 then upC c now else failC c
def ansM (c : CC) (n0 n1 : Int) : List M9 := if ansOk c n0 n1 then [] else failM c
/-- A word came: the time begins anew. -/
def heardC (c : CC) (now : Int) : CC := if c.state = 2 ∧ c.asked = false then { c with tm := now + 60 } else c
def takeC1 (c : CC) (now : Int) (m : M9) : CC :=
  if m.ty = 1 then beganC c now m.n0 else if m.ty = 2 then ansC c now m.n0 m.n1 else if m.ty = 3 then failC c else if m.ty = 4 then failC c
  else if m.ty = 6 ∧ c.state = 2 ∧ c.asked = true ∧ m.n0 = c.id then { c with asked := false, tm := now + 60 } else c
def takeM1 (c : CC) (m : M9) : List M9 :=
  if m.ty = 1 then beganM c m.n0 else if m.ty = 2 then ansM c m.n0 m.n1 else if m.ty = 3 then [mN 4 1 0 0 0 0 0 0 0 0] else if m.ty = 4 then (if c.state = 3 then [] else failM c)
  else if m.ty = 5 then [mN 6 m.n0 1 0 0 0 0 0 0 0] else []
def ctakeC (c : CC) (now : Int) (m : M9) : CC := if c.state = 4 then c else takeC1 (heardC c now) now m
def ctakeM (c : CC) (now : Int) (m : M9) : List M9 := if c.state = 4 then [] else takeM1 (heardC c now) m
def callsC (c : CC) (now : Int) : CC := if c.state = 0 ∨ c.state = 1 then failC c else heardC c now
def callsM (c : CC) : List M9 := if c.state = 0 ∨ c.state = 1 then failM c else []
def tickC (c : CC) (now : Int) : CC := if c.state = 4 ∨ now < c.tm then c else if c.state = 2 ∧ c.asked = false then { c with asked := true, tm := now + 60, id := (c.id + 1) % 4294967296 } else failC c
def tickM (c : CC) (now : Int) : List M9 := if c.state = 4 ∨ now < c.tm then [] else if c.state = 2 ∧ c.asked = false then [mN 5 ((c.id + 1) % 4294967296) 0 0 0 0 0 0 0 0] else if c.state = 2 then failM c else []
theorem Wk.tupA {a a' : V} {x : Value} (h : Wk a a') : Wk (.tup [a, .sc x]) (.tup [a', .sc x]) := fun G v hv => by
  cases hv with
  | tup _ vs hl hg =>
    refine .tup _ vs hl fun i c u hc hu => ?_
    match i, hc with
    | 0, hc => simp at hc; subst hc; exact h G u (hg 0 a u rfl hu)
    | 1, hc => exact hg 1 c u hc hu
theorem nc3 : ((3 : Nat) : Int) = 3 := rfl
theorem failC_self {c : CC} (h : c.state = 4) : failC c = c := by cases c; simp only at h; subst h; rfl
section
variable {tk : Tk} {st : St} {b : Nat} {c : CC}
theorem ctlNew_v {me other now : Int} {host : ByteArray} (h0 : 0 ≤ now ∧ now ≤ 1000000) : VCalls Try.prog 29 [.sc (.int .u32 me), .sc (.int .u32 other), .sc (.string host), .sc (.int .i64 now)] st fun r st' => ∃ b, st.sz ≤ b ∧ r = ptrV b ∧ st' = st.put b (CC.mk 0 me other host (now + 60) false 0).cells := by
  refine vcalls_enter vc29 (Nat.le_of_ble_eq_true rfl) fun hwf hok => ?_
  show Run _ Vc29.body (.fin (finQ Vc29.res _)) _ _
  unfold Vc29
  simp (config := {maxSteps := 3000000}) only [run_reg, run_seq, run_ret, at_code_n, at_fin_r, ops_nil, ops_mv, ops_bin, ops_bld, ops_box, ev_t, ev_c, put_get, opv_mk, Bx, vbld, args0, List.getD_cons_zero, List.getD_cons_succ, vbin, vbinI, norm, fillV, splice, V.cells, ptrV, obsOk, List.map_cons, List.map_nil, List.length_cons, List.length_nil, List.take_succ_cons, List.take_zero, List.drop_succ_cons, List.drop_zero, List.cons_append, List.nil_append, and_true, true_and, Nat.reduceEqDiff, Nat.reduceAdd, Nat.reduceLT, Nat.reduceLeDiff, Nat.reduceLT, Int.reduceNeg, Nat.zero_add, ↓reduceIte, vret, rvAll, rvVal, resv_1, ne_eq, not_false_eq_true, eq_self, reduceCtorEq]
  repeat (apply And.intro; focus (first | omega | (simp; done)))
  intro b hb
  exact ⟨_, _, Wk.refl _, weak_both hwf.weak, b, hb, rfl, rfl⟩
theorem ctlState_v (hb : st.box b = some c.cells) : VCalls Try.prog 32 [ptrV b] st fun r st' => r = .sc (.int .i64 c.state) ∧ st = st' := by
  refine vcalls_enter vc32 (Nat.le_of_ble_eq_true rfl) fun hwf hok => ?_
  show Run _ Vc32.body (.fin (finQ Vc32.res _)) _ _
  unfold Vc32
  simp (config := {maxSteps := 3000000}) only [run_reg, run_seq, run_ret, at_code_n, at_fin_r, ops_nil, ops_mv, ops_fld, ops_load, ops_nilck, ev_t, ev_c, put_get, opv_mk, args0, List.getD_cons_zero, vfld, vnil, vload, takeV, V.cells, ptrV, List.length_cons, List.length_nil, List.getElem?_cons_zero, and_true, true_and, Nat.zero_add, Nat.add_zero, ↓reduceIte, vret, rvAll, rvVal, resv_1, eq_self, reduceCtorEq, hb, CC.cells]
  exact ⟨_, _, Wk.refl _, hwf.weak, rfl, rfl⟩
theorem start_v (hb : st.box b = some c.cells) {t : Int} {l : List Int} {m : M9} (hl : U32 l) (hll : l.length ≤ 1000000) (e : (ofM t l).v = m.v) : VCalls Try.prog 70 [ptrV b, .sc (.int .i64 t), .sl tk (us l)] st fun r st' => r = (namedM c.host m).v ∧ st = st' := by
  have go := fun s : St => of_at (tk := tk) (st := s) hl hll e
  obtain ⟨ty, n0, n1, n2, n3, n4, n5, n6, n7, n8, t0, t1, t2⟩ := m
  simp only [M9.v, M9.cells] at go
  clear e
  refine vcalls_enter vc70 (Nat.le_of_ble_eq_true rfl) fun hwf hok => ?_
  show Run _ Vc70.body (.fin (finQ Vc70.res _)) _ _
  unfold Vc70
  have hbs := hwf.box _ _ hb
  simp (config := {maxSteps := 3000000}) only [run_reg, run_seq, at_code_n, ops_nil, ops_mv, ops_alc, ops_call, ev_t, put_get, opv_mk, args0, List.getD_cons_zero, List.getD_cons_succ, ptrV, obsOk, List.map_cons, List.map_nil, true_and, Nat.reduceEqDiff, ↓reduceIte, eq_self]
  intro a ha
  refine Cal.mk (go _) ?_
  rintro _ _ ⟨rfl, rfl⟩ -
  simp (config := {maxSteps := 3000000}) only [run_reg, run_seq, at_code_n, ops_nil, ops_mv, ops_fld, ops_load, ops_nilck, ops_alc, ops_store, ev_t, put_get, put_none, opv_mk, stb_some, sto_ptr, Stp, put_box_same, put_sz, put_put, args0, List.getD_cons_zero, vfld, vnil, vload, takeV, splice, V.cells, ptrV, obsOk, List.length_cons, List.length_nil, List.take_zero, List.drop_succ_cons, List.nil_append, List.append_nil, List.drop_nil, true_and, Nat.reduceEqDiff, Nat.reduceAdd, Nat.reduceLT, Nat.reduceLeDiff, Nat.reduceLT, Nat.zero_add, ↓reduceIte, eq_self, reduceCtorEq]
  intro d hd
  obtain ⟨hd1, hbd, had, hba⟩ : st.sz ≤ d ∧ b < d ∧ a < d ∧ b < a := by omega
  clear hd
  simp (config := {maxSteps := 3000000}) only [run_reg, run_seq, run_ret, at_code_n, at_fin_r, ops_nil, ops_fld, ops_ixa, ops_load, ops_store, ev_t, ev_c, put_get, put_none, opv_mk, stb_some, sto_ptr, Stp, put_box_same, put_put, vfld, vixa, vload, takeV, splice, V.cells, obsOk, List.length_cons, List.length_nil, List.getElem?_cons_zero, List.getElem?_cons_succ, List.take_succ_cons, List.take_zero, List.drop_succ_cons, List.drop_zero, List.cons_append, List.nil_append, List.append_nil, List.take_nil, List.drop_nil, and_true, true_and, Nat.reduceEqDiff, Nat.reduceAdd, Nat.reduceLT, Nat.reduceLeDiff, Nat.reduceLT, Int.reduceToNat, Int.reduceLE, Int.reduceLT, Nat.zero_add, Nat.add_zero, Nat.mul_one, ↓reduceIte, vret, rvAll, rvVal, resv_1, eq_self, hb, CC.cells, nc3, put_box_ne (Nat.ne_of_lt hbd), put_box_ne (Nat.ne_of_lt had), put_box_ne (Nat.ne_of_lt hba)]
  exact ⟨_, _, Wk.refl _, weak_put (weak_put (weak_put hwf.weak ha) hd1) ha, rfl, rfl⟩
theorem ctlFail_v (hb : st.box b = some c.cells) : VCalls Try.prog 73 [ptrV b] st fun r st' => r = .sl .no ((failM c).map M9.v) ∧ st' = st.put b (failC c).cells := by
  refine vcalls_enter vc73 (Nat.le_of_ble_eq_true rfl) fun hwf hok => ?_
  show Run _ Vc73.body (.fin (finQ Vc73.res _)) _ _
  unfold Vc73
  have hbs := hwf.box _ _ hb
  by_cases c4 : c.state = 4
  · rw [failM, if_pos c4, failC_self c4, put_self hb hbs]
    simp (config := {maxSteps := 3000000}) only [run_reg, run_seq, run_ret, run_cond, if_true, at_code_n, at_code_r, at_fin_r, ops_nil, ops_mv, ops_bin, ops_fld, ops_load, ops_nilck, ev_t, ev_c, put_get, opv_mk, args0, List.getD_cons_zero, vbin, vbinI, vfld, vnil, vload, takeV, V.cells, ptrV, List.map_nil, List.length_cons, List.length_nil, List.getElem?_cons_zero, and_true, true_and, Nat.zero_add, Nat.add_zero, ↓reduceIte, vret, rvAll, rvVal, resv_1, eq_self, reduceCtorEq, hb, CC.cells, decide_eq_true c4]
    exact ⟨_, _, Wk.no, hwf.weak, rfl, rfl⟩
  · rw [failM, if_neg c4]
    simp (config := {maxSteps := 3000000}) only [run_skip, run_reg, run_seq, run_cond, if_false, at_code_n, ops_nil, ops_mv, ops_bin, ops_fld, ops_load, ops_nilck, ops_bslo, ops_store, ev_t, ev_c, put_get, put_none, opv_mk, stb_some, sto_ptr, Stp, args0, List.getD_cons_zero, vbin, vbinI, vfld, vnil, vload, takeV, splice, V.cells, strip, strip1, ptrV, obsOk, List.map_cons, List.map_nil, List.length_cons, List.length_nil, List.getElem?_cons_zero, List.take_zero, List.drop_succ_cons, List.drop_zero, List.cons_append, List.nil_append, true_and, Nat.reduceAdd, Nat.reduceLT, Nat.reduceLeDiff, Nat.reduceLT, Nat.zero_add, Nat.add_zero, ↓reduceIte, eq_self, reduceCtorEq, hb, CC.cells, decide_eq_false c4]
    refine Bo.own (by simp [allLen, V.cells]) ?_
    intro g hg
    simp (config := {maxSteps := 3000000}) only [ops_call, ev_t, ev_c, put_get, obsOk, List.map_cons, List.map_nil, List.length_cons, List.length_nil, true_and, Nat.zero_add, ↓reduceIte, eq_self]
    refine Cal.mk (of_at (l := [2]) (m := mN 3 2 0 0 0 0 0 0 0 0) (U32.one (by omega)) (by simp) rfl) ?_
    rintro _ _ ⟨rfl, rfl⟩ -
    simp (config := {maxSteps := 3000000}) only [ops_bslo, ev_t, put_get, strip, strip1, obsOk, List.map_cons, List.map_nil, true_and, ↓reduceIte, eq_self, M9.v, M9.cells, mN]
    refine Bo.own (by simp [allLen, V.cells]) ?_
    intro g2 hg2
    simp (config := {maxSteps := 3000000}) only [run_ret, at_code_n, at_fin_r, ops_nil, ops_mv, ev_t, put_get, opv_mk, obsOk, List.length_cons, List.length_nil, and_true, true_and, Nat.zero_add, ↓reduceIte, vret, rvAll, rvVal, resv_1, eq_self]
    exact ⟨_, _, Wk.no, weak_use (weak_use (weak_both hwf.weak) (by simp only [put_sz, use_sz] at *; omega)) (by simp only [put_sz, use_sz] at *; omega), rfl, rfl⟩
theorem ctlUp_v (hb : st.box b = some c.cells) {now : Int} (h0 : 0 ≤ now ∧ now ≤ 1000000) : VCalls Try.prog 100 [ptrV b, .sc (.int .i64 now)] st fun r st' => st' = st.put b (upC c now).cells := by
  refine vcalls_enter vc100 (Nat.le_of_ble_eq_true rfl) fun hwf hok => ?_
  show Run _ Vc100.body (.fin (finQ Vc100.res _)) _ _
  unfold Vc100
  have hbs := hwf.box _ _ hb
  simp (config := {maxSteps := 3000000}) only [run_reg, at_fin_n, ops_nil, ops_mv, ops_bin, ops_fld, ops_nilck, ops_store, ev_t, ev_c, put_get, put_none, opv_mk, stb_some, sto_ptr, Stp, put_box_same, put_put, args0, List.getD_cons_zero, List.getD_cons_succ, vbin, vbinI, norm, vfld, vnil, splice, V.cells, ptrV, obsOk, List.length_cons, List.length_nil, List.take_succ_cons, List.take_zero, List.drop_succ_cons, List.drop_zero, List.cons_append, List.nil_append, true_and, Nat.reduceEqDiff, Nat.reduceAdd, Nat.reduceLT, Nat.reduceLeDiff, Nat.reduceLT, Int.reduceNeg, Nat.zero_add, Nat.add_zero, ↓reduceIte, vret, rvAll, eq_self, reduceCtorEq, hb, CC.cells]
  repeat (apply And.intro; focus (first | omega | (simp; done)))
  exact ⟨_, _, Wk.refl _, weak_both hwf.weak, rfl⟩
theorem ctlReply_v (hb : st.box b = some c.cells) {res : Int} (h0 : 0 ≤ res ∧ res < 256) : VCalls Try.prog 99 [ptrV b, .sc (.int .u32 res)] st fun r st' => r = (answerM c res).v ∧ st = st' := by
  have e1 : res % 256 = res := by omega
  refine vcalls_enter vc99 (Nat.le_of_ble_eq_true rfl) fun hwf hok => ?_
  show Run _ Vc99.body (.fin (finQ Vc99.res _)) _ _
  unfold Vc99
  have hbs := hwf.box _ _ hb
  simp (config := {maxSteps := 3000000}) only [run_reg, run_seq, at_code_n, ops_nil, ops_mv, ops_alc, ops_bslo, ev_t, ev_c, put_get, opv_mk, args0, List.getD_cons_zero, List.getD_cons_succ, strip, strip1, ptrV, obsOk, List.map_cons, List.map_nil, true_and, Nat.reduceEqDiff, ↓reduceIte, eq_self, reduceCtorEq]
  intro a ha
  refine Bo.own (by simp [allLen, V.cells]) ?_
  intro g hg
  have hba : b < a := by omega
  simp (config := {maxSteps := 3000000}) only [ops_call, ev_t, ev_c, put_get, obsOk, List.map_cons, List.map_nil, List.length_cons, List.length_nil, true_and, Nat.reduceEqDiff, Nat.reduceAdd, Nat.zero_add, ↓reduceIte, eq_self]
  refine Cal.mk (start_v (c := c) (by simp only [use_box]; rw [put_box_ne (Nat.ne_of_lt hba)]; exact hb) (l := [256, res, 0, 3, 3, 3, 1]) (m := mN 2 256 res 0 3 3 3 1 0 0) (U32.cons (by omega) (U32.cons (by omega) (U32.cons (by omega) (U32.cons (by omega) (U32.cons (by omega) (U32.cons (by omega) (U32.one (by omega)))))))) (by simp) ?_) ?_
  · have : (ofM 2 [256, res, 0, 3, 3, 3, 1]).v = (mN 2 256 (res % 256) 0 3 3 3 1 0 0).v := rfl
    rw [this, e1]
  rintro _ _ ⟨rfl, rfl⟩ -
  simp (config := {maxSteps := 3000000}) only [run_ret, at_code_n, at_fin_r, ops_nil, ops_store, ev_t, put_get, put_none, stb_some, sto_ptr, Stp, put_box_same, use_box, vload, takeV, splice, V.cells, obsOk, List.length_cons, List.length_nil, List.take_succ_cons, List.take_zero, List.drop_succ_cons, List.drop_zero, List.nil_append, List.append_nil, List.take_nil, List.drop_nil, and_true, true_and, Nat.reduceEqDiff, Nat.reduceAdd, Nat.reduceLT, Nat.reduceLeDiff, Nat.reduceLT, Nat.zero_add, ↓reduceIte, vret, rvAll, rvVal, resv_1, eq_self, namedM, M9.v, M9.cells, mN, answerM]
  exact ⟨_, _, Wk.refl _, weak_put (weak_use (weak_put hwf.weak ha) (by simp only [put_sz] at *; omega)) ha, rfl, rfl⟩
theorem ctlReach_v (hb : st.box b = some c.cells) {now : Int} (h0 : 0 ≤ now ∧ now ≤ 1000000) : VCalls Try.prog 30 [ptrV b, .sc (.int .i64 now)] st fun r st' => r = .sl .no ((reachM c).map M9.v) ∧ st' = st.put b (reachC c now).cells := by
  refine vcalls_enter vc30 (Nat.le_of_ble_eq_true rfl) fun hwf hok => ?_
  show Run _ Vc30.body (.fin (finQ Vc30.res _)) _ _
  unfold Vc30
  have hbs := hwf.box _ _ hb
  by_cases c0 : c.state = 0
  rotate_left
  · rw [reachM, if_neg c0, reachC, if_neg c0, put_self hb hbs]
    simp (config := {maxSteps := 3000000}) only [run_reg, run_seq, run_ret, run_cond, if_true, at_code_n, at_code_r, at_fin_r, ops_nil, ops_mv, ops_bin, ops_fld, ops_load, ops_nilck, ev_t, ev_c, put_get, opv_mk, args0, List.getD_cons_zero, vbin, vbinI, vfld, vnil, vload, takeV, V.cells, ptrV, List.map_nil, List.length_cons, List.length_nil, List.getElem?_cons_zero, and_true, true_and, Nat.zero_add, Nat.add_zero, ↓reduceIte, vret, rvAll, rvVal, resv_1, ne_eq, eq_self, reduceCtorEq, hb, CC.cells, decide_eq_true (p := ¬ c.state = 0) c0]
    exact ⟨_, _, Wk.no, hwf.weak, rfl, rfl⟩
  · rw [reachM, if_pos c0, reachC, if_pos c0]
    simp (config := {maxSteps := 3000000}) only [run_skip, run_reg, run_seq, run_cond, if_false, at_code_n, ops_nil, ops_mv, ops_bin, ops_fld, ops_load, ops_nilck, ops_bslo, ops_store, ev_t, ev_c, put_get, put_none, opv_mk, stb_some, sto_ptr, Stp, put_box_same, put_put, args0, List.getD_cons_zero, List.getD_cons_succ, vbin, vbinI, norm, vfld, vnil, vload, takeV, splice, V.cells, strip, strip1, ptrV, obsOk, List.map_cons, List.map_nil, List.length_cons, List.length_nil, List.getElem?_cons_zero, List.take_succ_cons, List.take_zero, List.drop_succ_cons, List.drop_zero, List.cons_append, List.nil_append, true_and, Nat.reduceEqDiff, Nat.reduceAdd, Nat.reduceLT, Nat.reduceLeDiff, Nat.reduceLT, Int.reduceNeg, Nat.zero_add, Nat.add_zero, ↓reduceIte, ne_eq, eq_self, reduceCtorEq, hb, CC.cells, decide_eq_false (show ¬ ¬ c.state = 0 by omega)]
    repeat (apply And.intro; focus (first | omega | (simp; done)))
    refine Bo.own (by simp [allLen, V.cells]) ?_
    intro g hg
    simp (config := {maxSteps := 3000000}) only [ops_call, ev_t, ev_c, put_get, obsOk, List.map_cons, List.map_nil, List.length_cons, List.length_nil, true_and, Nat.reduceEqDiff, Nat.reduceAdd, Nat.zero_add, ↓reduceIte, eq_self]
    refine Cal.mk (start_v (c := { c with state := 1, tm := now + 60 }) (by simp only [use_box]; exact put_box_same) (l := [256, 3, 3, 3, 1]) (m := mN 1 256 3 3 3 1 0 0 0 0) (U32.cons (by omega) (U32.cons (by omega) (U32.cons (by omega) (U32.cons (by omega) (U32.one (by omega)))))) (by simp) rfl) ?_
    rintro _ _ ⟨rfl, rfl⟩ -
    simp (config := {maxSteps := 3000000}) only [ops_bslo, ev_t, put_get, strip, strip1, obsOk, List.map_cons, List.map_nil, true_and, ↓reduceIte, eq_self, namedM, M9.v, M9.cells, mN, startM]
    refine Bo.own (by simp [allLen, V.cells]) ?_
    intro g2 hg2
    simp (config := {maxSteps := 3000000}) only [run_ret, at_code_n, at_fin_r, ops_nil, ops_mv, ev_t, put_get, opv_mk, obsOk, List.length_cons, List.length_nil, and_true, true_and, Nat.zero_add, ↓reduceIte, vret, rvAll, rvVal, resv_1, eq_self]
    exact ⟨_, _, Wk.no, weak_use (weak_use (weak_both hwf.weak) (by simp only [put_sz, use_sz] at *; omega)) (by simp only [put_sz, use_sz] at *; omega), rfl, rfl⟩
theorem ctlStop_v (hb : st.box b = some c.cells) {now reason : Int} (h0 : 0 ≤ now ∧ now ≤ 1000000) (h1 : 0 ≤ reason ∧ reason < 4294967296) : VCalls Try.prog 82 [ptrV b, .sc (.int .i64 now), .sc (.int .u32 reason)] st fun r st' => r = .sl .no ((stopM c reason).map M9.v) ∧ st' = st.put b (stopC c now).cells := by
  refine vcalls_enter vc82 (Nat.le_of_ble_eq_true rfl) fun hwf hok => ?_
  show Run _ Vc82.body (.fin (finQ Vc82.res _)) _ _
  unfold Vc82
  have hbs := hwf.box _ _ hb
  by_cases c3 : c.state = 3
  · rw [stopM, if_pos (.inl c3), stopC, if_pos (.inl c3), put_self hb hbs]
    simp (config := {maxSteps := 3000000}) only [run_reg, run_seq, run_ret, run_cond, if_true, at_code_n, at_code_r, at_fin_r, ops_nil, ops_grd, grd_tf, ops_mv, ops_pick, ops_bin, ops_fld, ops_load, ops_nilck, ev_t, ev_c, put_get, opv_mk, args0, List.getD_cons_zero, vpick, vbin, vbinI, vfld, vnil, vload, takeV, V.cells, ptrV, List.map_nil, List.length_cons, List.length_nil, List.getElem?_cons_zero, and_true, true_and, Nat.reduceEqDiff, Nat.zero_add, Nat.add_zero, ↓reduceIte, vret, rvAll, rvVal, resv_1, eq_self, reduceCtorEq, hb, CC.cells, decide_eq_true c3]
    exact ⟨_, _, Wk.no, hwf.weak, rfl, rfl⟩
  by_cases c4 : c.state = 4
  · rw [stopM, if_pos (.inr c4), stopC, if_pos (.inr c4), put_self hb hbs]
    simp (config := {maxSteps := 3000000}) only [run_reg, run_seq, run_ret, run_cond, if_true, at_code_n, at_code_r, at_fin_r, ops_nil, ops_grd, grd_ff, ops_mv, ops_pick, ops_bin, ops_fld, ops_load, ops_nilck, ev_t, ev_c, put_get, opv_mk, args0, List.getD_cons_zero, vpick, vbin, vbinI, vfld, vnil, vload, takeV, V.cells, ptrV, List.map_nil, List.length_cons, List.length_nil, List.getElem?_cons_zero, and_true, true_and, Nat.reduceEqDiff, Nat.zero_add, Nat.add_zero, ↓reduceIte, vret, rvAll, rvVal, resv_1, eq_self, reduceCtorEq, Bool.false_eq_true, hb, CC.cells, decide_eq_false c3, decide_eq_true c4]
    exact ⟨_, _, Wk.no, hwf.weak, rfl, rfl⟩
  · rw [stopM, if_neg (by omega), stopC, if_neg (by omega)]
    simp (config := {maxSteps := 3000000}) only [run_skip, run_reg, run_seq, run_cond, if_false, at_code_n, ops_nil, ops_grd, grd_ff, ops_mv, ops_pick, ops_bin, ops_fld, ops_load, ops_nilck, ops_bslo, ops_store, ev_t, ev_c, put_get, put_none, opv_mk, stb_some, sto_ptr, Stp, put_box_same, put_put, args0, List.getD_cons_zero, List.getD_cons_succ, vpick, vbin, vbinI, norm, vfld, vnil, vload, takeV, splice, V.cells, strip, strip1, ptrV, obsOk, List.map_cons, List.map_nil, List.length_cons, List.length_nil, List.getElem?_cons_zero, List.take_succ_cons, List.take_zero, List.drop_succ_cons, List.drop_zero, List.cons_append, List.nil_append, true_and, Nat.reduceEqDiff, Nat.reduceAdd, Nat.reduceLT, Nat.reduceLeDiff, Nat.reduceLT, Int.reduceNeg, Nat.zero_add, Nat.add_zero, ↓reduceIte, eq_self, reduceCtorEq, Bool.false_eq_true, hb, CC.cells, decide_eq_false c3, decide_eq_false c4]
    repeat (apply And.intro; focus (first | omega | (simp; done)))
    refine Bo.own (by simp [allLen, V.cells]) ?_
    intro g hg
    simp (config := {maxSteps := 3000000}) only [ops_call, ev_t, ev_c, put_get, obsOk, List.map_cons, List.map_nil, List.length_cons, List.length_nil, true_and, Nat.zero_add, ↓reduceIte, eq_self]
    refine Cal.mk (of_at (l := [reason]) (m := mN 3 (reason % 256) 0 0 0 0 0 0 0 0) (U32.one (by omega)) (by simp) rfl) ?_
    rintro _ _ ⟨rfl, rfl⟩ -
    simp (config := {maxSteps := 3000000}) only [ops_bslo, ev_t, put_get, strip, strip1, obsOk, List.map_cons, List.map_nil, true_and, ↓reduceIte, eq_self, M9.v, M9.cells, mN]
    refine Bo.own (by simp [allLen, V.cells]) ?_
    intro g2 hg2
    simp (config := {maxSteps := 3000000}) only [run_ret, at_code_n, at_fin_r, ops_nil, ops_mv, ev_t, put_get, opv_mk, obsOk, List.length_cons, List.length_nil, and_true, true_and, Nat.zero_add, ↓reduceIte, vret, rvAll, rvVal, resv_1, eq_self]
    exact ⟨_, _, Wk.no, weak_use (weak_use (weak_both hwf.weak) (by simp only [put_sz, use_sz] at *; omega)) (by simp only [put_sz, use_sz] at *; omega), rfl, rfl⟩
end
end Go.Proofs.Ytogkdcbcmhhhcaa
