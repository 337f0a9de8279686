/- CtrlMeets: of two beginnings one connection comes, walked. Printed by gen_meets.py. -/
import Derived.Test.YtogkdcbcmhhhcaaVCtrlF
namespace Go.Proofs.Ytogkdcbcmhhhcaa
open Go Go.RowKit

/-! ### What happens, with no program in sight -/
def xB : ByteArray := ⟨#[120]⟩
def yB : ByteArray := ⟨#[121]⟩
def wait0 (me other : Int) (h : ByteArray) : CC := ⟨1, me, other, h, 60, false, 0⟩
def up0 (me other : Int) (h : ByteArray) : CC := ⟨2, me, other, h, 61, false, 0⟩
def hiM (h : ByteArray) : M9 := namedM h (mN 1 256 3 3 3 1 0 0 0 0)
def okM (h : ByteArray) : M9 := namedM h (mN 2 256 1 0 3 3 3 1 0 0)
/-- Where the two may be: i words were heard; what x is to hear, what y is to hear; x, y. -/
inductive Meet (a b : Int) : Nat → List M9 → List M9 → CC → CC → Prop where
  | p0 : Meet a b 0 [hiM yB] [hiM xB] (wait0 a b xB) (wait0 b a yB)
  | a1 (h : b < a) : Meet a b 1 [] [hiM xB] (wait0 a b xB) (wait0 b a yB)
  | a2 (h : b < a) : Meet a b 1 [hiM yB, okM yB] [] (wait0 a b xB) (up0 b a yB)
  | a3 (h : b < a) : Meet a b 2 [okM yB] [] (wait0 a b xB) (up0 b a yB)
  | b1 (h : a < b) : Meet a b 1 [hiM yB] [] (wait0 a b xB) (wait0 b a yB)
  | b2 (h : a < b) : Meet a b 1 [] [hiM xB, okM xB] (up0 a b xB) (wait0 b a yB)
  | b3 (h : a < b) : Meet a b 2 [] [okM xB] (up0 a b xB) (wait0 b a yB)
  | p4 : Meet a b 3 [] [] (up0 a b xB) (up0 b a yB)
section
variable {me other : Int} {h k : ByteArray}
theorem hears_lost (hl : other < me) : ctakeC (wait0 me other h) 1 (hiM k) = wait0 me other h ∧ ctakeM (wait0 me other h) 1 (hiM k) = [] := by
  constructor
  · simp [ctakeC, heardC, takeC1, beganC, wait0, hiM, namedM, mN, hl]
  · simp [ctakeM, heardC, takeM1, beganM, wait0, hiM, namedM, mN, hl]
theorem hears_hi (hl : me < other) : ctakeC (wait0 me other h) 1 (hiM k) = up0 me other h ∧ ctakeM (wait0 me other h) 1 (hiM k) = [okM h] := by
  have hn : ¬ other < me := by omega
  constructor
  · simp [ctakeC, heardC, takeC1, beganC, wait0, hiM, namedM, mN, hn, upC, up0]
  · simp [ctakeM, heardC, takeM1, beganM, wait0, hiM, namedM, mN, hn, okM, answerM]
theorem hears_ok : ctakeC (wait0 me other h) 1 (okM k) = up0 me other h ∧ ctakeM (wait0 me other h) 1 (okM k) = [] := by
  constructor
  · simp [ctakeC, heardC, takeC1, ansC, ansOk, wait0, okM, namedM, mN, upC, up0]
  · simp [ctakeM, heardC, takeM1, ansM, ansOk, wait0, okM, namedM, mN]
end
theorem hi_ok (h : ByteArray) : (hiM h).Ok := ⟨by show (0 : Int) ≤ 256 ∧ (256 : Int) < 4294967296; omega, by show (0 : Int) ≤ 3 ∧ (3 : Int) < 4294967296; omega, by show (0 : Int) ≤ 3 ∧ (3 : Int) < 4294967296; omega, by show (0 : Int) ≤ 3 ∧ (3 : Int) < 4294967296; omega, by show (0 : Int) ≤ 0 ∧ (0 : Int) < 4294967296; omega, by show (0 : Int) ≤ 0 ∧ (0 : Int) < 4294967296; omega⟩
theorem ok_ok (h : ByteArray) : (okM h).Ok := ⟨by show (0 : Int) ≤ 256 ∧ (256 : Int) < 4294967296; omega, by show (0 : Int) ≤ 1 ∧ (1 : Int) < 4294967296; omega, by show (0 : Int) ≤ 0 ∧ (0 : Int) < 4294967296; omega, by show (0 : Int) ≤ 3 ∧ (3 : Int) < 4294967296; omega, by show (0 : Int) ≤ 1 ∧ (1 : Int) < 4294967296; omega, by show (0 : Int) ≤ 0 ∧ (0 : Int) < 4294967296; omega⟩
/-- x hears. -/
theorem Meet.stepX {a b : Int} (hab : a ≠ b) {i : Nat} {m : M9} {xs ys : List M9} {c d : CC} (h : Meet a b i (m :: xs) ys c d) : m.Ok ∧ i ≤ 2 ∧ (ctakeM c 1 m).length ≤ 1000 ∧ Meet a b (i + 1) xs (ys ++ ctakeM c 1 m) (ctakeC c 1 m) d := by
  refine ⟨?_, ?_, ctakeM_len c 1 m, ?_⟩
  · cases h with
    | p0 => exact hi_ok _
    | a2 => exact hi_ok _
    | a3 => exact ok_ok _
    | b1 => exact hi_ok _
  · cases h <;> omega
  · cases h with
    | p0 =>
      rcases Int.lt_or_gt_of_ne hab with q | q
      · obtain ⟨e1, e2⟩ := hears_hi (h := xB) (k := yB) q
        rw [e1, e2]; exact .b2 q
      · obtain ⟨e1, e2⟩ := hears_lost (h := xB) (k := yB) q
        rw [e1, e2]; exact .a1 q
    | a2 q =>
      obtain ⟨e1, e2⟩ := hears_lost (h := xB) (k := yB) q
      rw [e1, e2]; exact .a3 q
    | a3 q =>
      obtain ⟨e1, e2⟩ := hears_ok (me := a) (other := b) (h := xB) (k := yB)
      rw [e1, e2]; exact .p4
    | b1 q =>
      obtain ⟨e1, e2⟩ := hears_hi (h := xB) (k := yB) q
      rw [e1, e2]; exact .b3 q
/-- y hears. -/
theorem Meet.stepY {a b : Int} (hab : a ≠ b) {i : Nat} {m : M9} {xs ys : List M9} {c d : CC} (h : Meet a b i xs (m :: ys) c d) : m.Ok ∧ i ≤ 2 ∧ (ctakeM d 1 m).length ≤ 1000 ∧ Meet a b (i + 1) (xs ++ ctakeM d 1 m) ys c (ctakeC d 1 m) := by
  refine ⟨?_, ?_, ctakeM_len d 1 m, ?_⟩
  · cases h with
    | p0 => exact hi_ok _
    | b2 => exact hi_ok _
    | b3 => exact ok_ok _
    | a1 => exact hi_ok _
  · cases h <;> omega
  · cases h with
    | p0 =>
      rcases Int.lt_or_gt_of_ne hab with q | q
      · obtain ⟨e1, e2⟩ := hears_lost (me := b) (other := a) (h := yB) (k := xB) q
        rw [e1, e2]; exact .b1 q
      · obtain ⟨e1, e2⟩ := hears_hi (me := b) (other := a) (h := yB) (k := xB) q
        rw [e1, e2]; exact .a2 q
    | a1 q =>
      obtain ⟨e1, e2⟩ := hears_hi (me := b) (other := a) (h := yB) (k := xB) q
      rw [e1, e2]; exact .a3 q
    | b2 q =>
      obtain ⟨e1, e2⟩ := hears_lost (me := b) (other := a) (h := yB) (k := xB) q
      rw [e1, e2]; exact .b3 q
    | b3 q =>
      obtain ⟨e1, e2⟩ := hears_ok (me := b) (other := a) (h := yB) (k := xB)
      rw [e1, e2]; exact .p4
theorem Meet.fin {a b : Int} {i : Nat} {c d : CC} (h : Meet a b i [] [] c d) : c.state = 2 ∧ d.state = 2 := by
  cases h; exact ⟨rfl, rfl⟩
theorem Meet.small {a b : Int} {i : Nat} {xs ys : List M9} {c d : CC} (h : Meet a b i xs ys c d) : i ≤ 3 ∧ xs.length ≤ 2 ∧ ys.length ≤ 2 := by
  cases h <;> simp
/-! ### The walk -/
/-- A row of one's own beside boxes. -/
structure RBm (base s : St) (x : V) (l : List V) : Prop where
  own : Own 13 s x l
  weak : base.weak s
  lt : s.Lt
  tok : ∀ g k l, x = .sl (.own g k) l → base.sz ≤ g
theorem RBm.app {base s s' : St} {x r : V} {l l' : List V} (h : RBm base s x l) (ho : Own 13 s' r l') (k : AppSt s x s' r) : RBm base s' r l' :=
  ⟨ho, k.keeps h.weak h.tok, h.lt.app k, k.fresh h.weak.sz h.tok⟩
theorem allSz_ms (L : List M9) : allSz 13 (L.map M9.v) := fun d hd => by
  obtain ⟨m, _, rfl⟩ := List.mem_map.1 hd
  rfl
def boolsV (T : List Bool) : List V := T.map fun t => .sc (.bool t)
theorem xs_len (L : List M9) : (L.map M9.v).length = L.length := by simp
theorem boolsV_get (T : List Bool) (i : Nat) : (boolsV T)[i]? = (T[i]?).map fun t => .sc (.bool t) := by simp [boolsV]
section
variable {tk : Tk} {st : St}
set_option maxRecDepth 100000 in
set_option maxHeartbeats 20000000 in
theorem CtrlMeets_v {a b : Int} {T : List Bool} : VCalls Try.prog 6 [.sc (.int .u32 a), .sc (.int .u32 b), .sl tk (boolsV T)] st fun r _ => r = .sc (.bool true) := by
  refine vcalls_enter vc6 (Nat.le_of_ble_eq_true rfl) fun hwf hok => ?_
  show Run _ Vc6.body (.fin (finQ Vc6.res _)) _ _
  unfold Vc6
  have g0 : ∀ s : St, st.weak s → ∃ (r' : V) (st'' : St), Wk (V.sc (.bool true)) r' ∧ st''.weak s ∧ r' = V.sc (.bool true) := fun s hw => ⟨_, st, Wk.refl _, hw, rfl⟩
  have hTl : (boolsV T).length = T.length := by simp [boolsV]
  by_cases hab : a = b
  · simp (config := {maxSteps := 3000000}) only [run_reg, run_seq, run_ret, run_cond, if_true, at_code_n, at_code_r, at_fin_r, ops_nil, ops_grd, grd_tf, ops_mv, ops_pick, ops_bin, ev_t, ev_c, put_get, opv_mk, args0, List.getD_cons_zero, List.getD_cons_succ, vpick, vbin, vbinI, and_true, true_and, Nat.reduceEqDiff, ↓reduceIte, vret, rvAll, rvVal, resv_1, eq_self, reduceCtorEq, decide_eq_true hab]
    exact g0 _ hwf.weak
  by_cases hT : (20 : Int) < T.length
  · simp (config := {maxSteps := 3000000}) only [run_reg, run_seq, run_ret, run_cond, if_true, at_code_n, at_code_r, at_fin_r, ops_nil, ops_grd, grd_ff, ops_mv, ops_pick, ops_bin, ops_len, ev_t, ev_c, put_get, opv_mk, args0, List.getD_cons_zero, List.getD_cons_succ, vpick, vbin, vbinI, vlen, and_true, true_and, Nat.reduceEqDiff, ↓reduceIte, vret, rvAll, rvVal, resv_1, eq_self, reduceCtorEq, Bool.false_eq_true, decide_eq_false hab, hTl, decide_eq_true hT]
    exact g0 _ hwf.weak
  simp (config := {maxSteps := 3000000}) only [run_skip, run_reg, run_seq, run_cond, if_false, at_code_n, ops_nil, ops_grd, grd_ff, ops_mv, ops_pick, ops_bin, ops_len, ops_call, ev_t, ev_c, put_get, opv_mk, args0, List.getD_cons_zero, List.getD_cons_succ, vpick, vbin, vbinI, vlen, List.map_cons, List.map_nil, true_and, Nat.reduceEqDiff, ↓reduceIte, eq_self, reduceCtorEq, Bool.false_eq_true, decide_eq_false hab, hTl, decide_eq_false hT]
  refine Cal.mk (ctlNew_v (by omega)) ?_
  rintro _ _ ⟨x, hx, rfl, rfl⟩ -
  have hx1 := hx
  simp (config := {maxSteps := 3000000}) only [ops_mv, ops_call, ev_t, ev_c, put_get, opv_mk, args0, List.getD_cons_zero, List.getD_cons_succ, ptrV, obsOk, List.map_cons, List.map_nil, true_and, Nat.reduceEqDiff, Int.reduceAdd, ↓reduceIte, eq_self, reduceCtorEq]
  refine Cal.mk (ctlNew_v (by omega)) ?_
  rintro _ _ ⟨y, hy, rfl, rfl⟩ -
  obtain ⟨hy1, hxy⟩ : st.sz ≤ y ∧ x < y := by simp only [put_sz] at hy; omega
  clear hy
  simp (config := {maxSteps := 3000000}) only [run_skip, run_reg, run_seq, run_cond, if_false, at_code_n, ops_nil, ops_grd, grd_ff, ops_mv, ops_pick, ops_pnil, vpnil, ops_call, ev_t, ev_c, put_get, opv_mk, vpick, ptrV, obsOk, List.map_cons, List.map_nil, true_and, Nat.reduceEqDiff, Int.reduceAdd, ↓reduceIte, eq_self, Bool.false_eq_true]
  refine Cal.mk (ctlReach_v (c := ⟨0, a, b, xB, 60, false, 0⟩) (by rw [put_box_ne (Nat.ne_of_lt hxy)]; exact put_box_same) (by omega)) ?_
  rintro _ _ ⟨rfl, rfl⟩ -
  simp (config := {maxSteps := 3000000}) only [ops_mv, ops_call, ev_t, ev_c, put_get, opv_mk, obsOk, List.map_cons, List.map_nil, true_and, Nat.reduceEqDiff, ↓reduceIte, eq_self]
  refine Cal.mk (ctlReach_v (c := ⟨0, b, a, yB, 60, false, 0⟩) (by rw [put_box_ne (Nat.ne_of_gt hxy)]; exact put_box_same) (by omega)) ?_
  rintro _ _ ⟨rfl, rfl⟩ -
  rw [show reachM ⟨0, a, b, xB, 60, false, 0⟩ = [hiM xB] from rfl, show reachM ⟨0, b, a, yB, 60, false, 0⟩ = [hiM yB] from rfl, show reachC ⟨0, a, b, xB, 60, false, 0⟩ 0 = wait0 a b xB from rfl, show reachC ⟨0, b, a, yB, 60, false, 0⟩ 0 = wait0 b a yB from rfl]
  simp (config := {maxSteps := 3000000}) only [run_reg, run_seq, run_blk, at_code_n, ops_nil, ops_mv, ev_t, ev_c, put_get, opv_mk, obsOk, List.map_cons, List.map_nil, true_and, Nat.reduceEqDiff, ↓reduceIte, eq_self]
  refine run_loop [9, 10, 11, 12, 13, 14, 39, 40, 41, 42, 43, 44, 45, 46, 47, 48, 49, 50, 51, 52, 53, 54, 55, 56, 57, 58, 59, 60, 61, 62, 63, 64, 65, 66, 67, 68, 69, 70, 71, 72, 73, 74, 75, 76, 77, 78, 79, 80, 81, 82, 83, 84, 85, 86, 87, 88, 89, 90, 91, 92, 93, 94, 95] (fun B s => ∃ (i : Nat) (xs ys : List M9) (c d : CC), Meet a b i xs ys c d ∧ B 11 = .sc (.int .i64 (i : Int)) ∧ (∃ tk, B 10 = .sl tk (xs.map M9.v)) ∧ (∃ tk, B 9 = .sl tk (ys.map M9.v)) ∧ st.weak s ∧ s.Lt ∧ s.box x = some c.cells ∧ s.box y = some d.cells) (fun B _ => 40 - vnat (B 11)) rfl ?_ ?_
  · simp (config := {maxSteps := 3000000}) only [put_get, put_box_same, Nat.reduceEqDiff, ↓reduceIte, eq_self]
    exact ⟨0, _, _, _, _, .p0, by simp, ⟨_, rfl⟩, ⟨_, rfl⟩, weak_put (weak_put (weak_put (weak_put hwf.weak hx) hy1) hx) hy1, hwf.lt.put.put.put.put, by rw [put_box_ne (Nat.ne_of_lt hxy)]; exact put_box_same, by first | exact put_box_same | rfl⟩
  · rintro B s ⟨i, xs, ys, c, d, hm, h11, ⟨tkx, h10⟩, ⟨tky, h9⟩, hws, hls, hxc, hyc⟩
    obtain ⟨hi3, lx, ly⟩ := hm.small
    have q40 := decide_eq_true (show (i : Int) < 40 by omega)
    by_cases hend : xs = [] ∧ ys = []
    · obtain ⟨rfl, rfl⟩ := hend
      obtain ⟨sc, sd⟩ := hm.fin
      simp (config := {maxSteps := 3000000}) only [run_reg, run_seq, run_exit, run_cond, if_false, at_code_n, at_code_x, at_blk_x, at_rnd_x, ops_nil, ops_grd, grd_tt, ops_mv, ops_pick, ops_bin, ops_len, ops_call, ev_t, ev_c, put_get, opv_mk, over_get, vnat, vpick, vbin, vbinI, norm, vlen, List.map_cons, List.map_nil, List.length_nil, and_true, true_and, Nat.reduceEqDiff, Int.toNat_natCast, Int.reduceLE, Int.reduceAdd, Int.reduceNeg, ↓reduceIte, decide_false, Int.lt_irrefl, eq_self, Bool.false_eq_true, List.contains_cons, List.contains_nil, Nat.reduceBEq, Bool.or_false, Bool.or_true, h11, h10, h9, q40, List.map_nil, show ((0 : Nat) : Int) = 0 from rfl]
      repeat (apply And.intro; focus (first | omega | (simp; done)))
      refine Cal.mk (ctlState_v hxc) ?_
      rintro _ _ ⟨rfl, rfl⟩ -
      simp (config := {maxSteps := 3000000}) only [ops_grd, grd_tt, ops_mv, ops_bin, ops_call, ev_t, ev_c, put_get, opv_mk, over_get, vbin, vbinI, obsOk, List.map_cons, List.map_nil, true_and, Nat.reduceEqDiff, ↓reduceIte, eq_self, Bool.false_eq_true, List.contains_cons, List.contains_nil, Nat.reduceBEq, Bool.or_false, decide_eq_true sc]
      refine Cal.mk (ctlState_v hyc) ?_
      rintro _ _ ⟨rfl, rfl⟩ -
      simp (config := {maxSteps := 3000000}) only [ops_grd, grd_tt, ops_mv, ops_pick, ops_bin, ops_call, ev_t, ev_c, put_get, opv_mk, vpick, vbin, vbinI, obsOk, List.map_nil, true_and, Nat.reduceEqDiff, ↓reduceIte, eq_self, decide_eq_true sd]
      refine Cal.mk alive42_v ?_
      rintro _ _ ⟨rfl, rfl⟩ -
      simp (config := {maxSteps := 3000000}) only [run_ret, at_code_n, at_fin_r, ops_nil, ops_mv, ops_pick, ev_t, put_get, opv_mk, vpick, obsOk, and_true, true_and, Nat.reduceEqDiff, ↓reduceIte, vret, rvAll, rvVal, resv_1, eq_self]
      exact g0 _ hws
    have bx := hls.box _ _ hxc
    have byy := hls.box _ _ hyc
    by_cases tl : i < T.length
    rotate_left
    · have m0 := decide_eq_false (show ¬ (i : Int) < (T.length : Int) by omega)
      cases xs with
      | cons m' xs =>
        cases ys with
        | nil =>
          obtain ⟨mok, hi2, hml, hm2⟩ := hm.stepX hab
          clear hm hend
          generalize hL10 : (m' :: xs).map M9.v = L10 at *
          generalize hL9 : List.map M9.v ([] : List M9) = L9 at *
          have f1 : (0 : Nat) < L10.length := by rw [← hL10]; simp
          have f2 : L10[0]? = some m'.v := by rw [← hL10]; rfl
          have f3 : L10.drop 1 = xs.map M9.v := by rw [← hL10]; rfl
          have f4 : allSz 13 L10 := by rw [← hL10]; exact allSz_ms _
          have f5 : 1 ≤ L10.length := f1
          have f6 : L10.length ≤ 2 := by rw [← hL10, xs_len]; exact lx
          have f7 : L9.length ≤ 2 := by rw [← hL9, xs_len]; exact ly
          have f8 : allSz 13 L9 := by rw [← hL9]; exact allSz_ms _
          have e1 := decide_eq_true (show (0 : Int) < (L10.length : Int) + (L9.length : Int) by omega)
          have e2 := decide_eq_true (show (0 : Int) < (L10.length : Int) by omega)
          have e3 := decide_eq_false (show ¬ (L10.length : Int) = 0 by omega)
          have f9 : L9.length = 0 := by rw [← hL9]; rfl
          have e4 := decide_eq_true (show (L9.length : Int) = 0 by omega)
          have e5 := decide_eq_false (show ¬ (0 : Int) < (L9.length : Int) by omega)
          simp (config := {maxSteps := 3000000}) only [run_skip, run_reg, run_seq, run_blk, run_cond, if_true, at_code_n, ops_nil, ops_grd, grd_tt, grd_ff, grd_ft, ops_mv, ops_pick, ops_bin, ops_ix, ops_len, ev_t, ev_c, put_get, opv_mk, over_get, vnat, args0, List.getD_cons_zero, List.getD_cons_succ, vpick, vbin, vbinI, norm, vlen, vix, V.cells, true_and, Nat.reduceEqDiff, Int.reduceToNat, Int.toNat_natCast, Int.reduceLE, Int.reduceNeg, ↓reduceIte, eq_self, Bool.false_eq_true, List.contains_cons, List.contains_nil, Nat.reduceBEq, Bool.or_false, Bool.or_true, h11, h10, h9, q40, hTl, e1, e2, e4, m0]
          repeat (apply And.intro; focus (first | omega | (simp; done)))
          simp (config := {maxSteps := 3000000}) only [run_reg, run_seq, at_code_n, ops_nil, ops_mv, ops_load, ops_slc, ops_alc, ops_bslo, ops_store, ev_t, ev_c, put_get, put_none, opv_mk, stb_some, sto_ptr, over_get, Stp, put_box_same, put_put, vload, takeV, vslc, splice, V.cells, strip, strip1, ptrV, obsOk, List.map_nil, List.length_cons, List.length_nil, List.take_succ_cons, List.take_zero, List.drop_succ_cons, List.drop_zero, List.nil_append, List.append_nil, List.take_nil, List.drop_nil, Option.map_some, Option.map_none, and_true, true_and, Nat.reduceEqDiff, Nat.reduceAdd, Nat.reduceLT, Nat.reduceLeDiff, Nat.reduceLT, Int.reduceToNat, Int.reduceLE, Nat.zero_add, ↓reduceIte, eq_self, Bool.false_eq_true, List.contains_cons, List.contains_nil, Nat.reduceBEq, Bool.or_false, Bool.or_true, h10, h9, f2, f3, f4, f5, M9.v, M9.cells]
          intro f hf
          have hf1 : st.sz ≤ f := Nat.le_trans hws.sz hf
          have hxf : x < f := by omega
          have hyf : y < f := by omega
          refine Bo.own trivial ?_
          intro g hg
          have hg1 : st.sz ≤ g := by simp only [put_sz] at hg; omega
          simp (config := {maxSteps := 3000000}) only [ops_app, ev_t, put_get, put_box_same, use_box, vload, takeV, obsOk, List.length_cons, List.length_nil, List.take_succ_cons, List.drop_zero, List.take_nil, and_true, true_and, Nat.reduceEqDiff, Nat.reduceAdd, Nat.reduceLeDiff, Nat.zero_add, ↓reduceIte, eq_self]
          have rb0 : RBm st ((s.put f m'.cells).use g 0) (.sl (.own g 13) []) [] := ⟨.inr ⟨g, rfl, by simp [St.use], by simp only [use_sz]; omega⟩, weak_use (weak_put hws hf1) hg1, hls.put.use, fun g' k l h => by cases h; exact hg1⟩
          refine App.mk (l := []) (ys := L9) rb0.own f8 (by simp [maxLen]; omega) (by simp; omega) ?_
          rintro r s1 hown happ
          have rb1 := rb0.app hown happ
          have hfb : s1.box f = some m'.cells := by rw [happ.box, use_box]; exact put_box_same
          simp only [M9.cells] at hfb
          simp (config := {maxSteps := 3000000}) only [ops_call, ev_t, ev_c, put_get, vload, takeV, obsOk, List.map_cons, List.map_nil, List.length_cons, List.length_nil, List.take_succ_cons, List.drop_zero, List.take_nil, and_true, true_and, Nat.reduceEqDiff, Nat.reduceAdd, Nat.reduceLeDiff, Nat.zero_add, ↓reduceIte, eq_self, hfb]
          have hcb : s1.box x = some c.cells := by rw [happ.box, use_box, put_box_ne (Nat.ne_of_lt hxf)]; exact hxc
          have gt := ctlTake_v (st := s1) (c := c) (now := 1) hcb (by omega) mok
          simp only [M9.v, M9.cells] at gt
          refine Cal.mk gt ?_
          rintro _ _ ⟨rfl, rfl⟩ -
          simp (config := {maxSteps := 3000000}) only [ops_app, ev_t, put_get, obsOk, true_and, Nat.reduceEqDiff, ↓reduceIte, eq_self]
          have rb2 : RBm st (s1.put x (ctakeC c 1 m').cells) r ([] ++ L9) := ⟨rb1.own.put, weak_put rb1.weak hx1, rb1.lt.put, rb1.tok⟩
          refine App.mk (l := [] ++ L9) (ys := (ctakeM c 1 m').map M9.v) rb2.own (allSz_ms _) (by simp [maxLen]; omega) (by simp; omega) ?_
          rintro r2 s2 hown2 happ2
          have rb3 := rb2.app hown2 happ2
          obtain ⟨tk2, rfl⟩ := hown2.sl
          simp (config := {maxSteps := 3000000}) only [run_reg, at_code_n, at_blk_n, at_rnd_n, ops_nil, ops_mv, ops_bin, ev_t, ev_c, put_get, opv_mk, over_get, rel_mk, vbin, vbinI, norm, obsOk, List.nil_append, true_and, Nat.reduceEqDiff, Int.reduceNeg, ↓reduceIte, eq_self, List.contains_cons, List.contains_nil, Nat.reduceBEq, Bool.or_false, Bool.or_true, h11, List.nil_append]
          repeat (apply And.intro; focus (first | omega | (simp; done)))
          exact ⟨⟨i + 1, _, _, _, _, hm2, by simp, ⟨_, rfl⟩, ⟨tk2, by rw [List.map_append, hL9]⟩, rb3.weak, rb3.lt, by rw [happ2.box]; exact put_box_same, by rw [happ2.box, put_box_ne (Nat.ne_of_gt hxy), happ.box, use_box, put_box_ne (Nat.ne_of_lt hyf)]; exact hyc⟩, by omega⟩
        | cons m ys =>
          obtain ⟨mok, hi2, hml, hm2⟩ := hm.stepY hab
          clear hm hend
          generalize hL9 : (m :: ys).map M9.v = L9 at *
          generalize hL10 : List.map M9.v (m' :: xs) = L10 at *
          have f1 : (0 : Nat) < L9.length := by rw [← hL9]; simp
          have f2 : L9[0]? = some m.v := by rw [← hL9]; rfl
          have f3 : L9.drop 1 = ys.map M9.v := by rw [← hL9]; rfl
          have f4 : allSz 13 L9 := by rw [← hL9]; exact allSz_ms _
          have f5 : 1 ≤ L9.length := f1
          have f6 : L9.length ≤ 2 := by rw [← hL9, xs_len]; exact ly
          have f7 : L10.length ≤ 2 := by rw [← hL10, xs_len]; exact lx
          have f8 : allSz 13 L10 := by rw [← hL10]; exact allSz_ms _
          have e1 := decide_eq_true (show (0 : Int) < (L10.length : Int) + (L9.length : Int) by omega)
          have e2 := decide_eq_true (show (0 : Int) < (L9.length : Int) by omega)
          have e3 := decide_eq_false (show ¬ (L9.length : Int) = 0 by omega)
          have f9 : 0 < L10.length := by rw [← hL10]; simp
          have e4 := decide_eq_false (show ¬ (L10.length : Int) = 0 by omega)
          have e5 := decide_eq_true (show (0 : Int) < (L10.length : Int) by omega)
          simp (config := {maxSteps := 3000000}) only [run_skip, run_reg, run_seq, run_blk, run_cond, if_true, if_false, at_code_n, ops_nil, ops_grd, grd_tt, grd_ff, grd_ft, ops_mv, ops_pick, ops_bin, ops_ix, ops_len, ev_t, ev_c, put_get, opv_mk, over_get, vnat, args0, List.getD_cons_zero, List.getD_cons_succ, vpick, vbin, vbinI, norm, vlen, vix, V.cells, true_and, Nat.reduceEqDiff, Int.reduceToNat, Int.toNat_natCast, Int.reduceLE, Int.reduceNeg, ↓reduceIte, eq_self, Bool.false_eq_true, List.contains_cons, List.contains_nil, Nat.reduceBEq, Bool.or_false, Bool.or_true, h11, h10, h9, q40, hTl, e1, e3, e5, m0]
          repeat (apply And.intro; focus (first | omega | (simp; done)))
          simp (config := {maxSteps := 3000000}) only [run_reg, run_seq, at_code_n, ops_nil, ops_mv, ops_load, ops_slc, ops_alc, ops_bslo, ops_store, ev_t, ev_c, put_get, put_none, opv_mk, stb_some, sto_ptr, over_get, Stp, put_box_same, put_put, vload, takeV, vslc, splice, V.cells, strip, strip1, ptrV, obsOk, List.map_nil, List.length_cons, List.length_nil, List.take_succ_cons, List.take_zero, List.drop_succ_cons, List.drop_zero, List.nil_append, List.append_nil, List.take_nil, List.drop_nil, Option.map_some, Option.map_none, and_true, true_and, Nat.reduceEqDiff, Nat.reduceAdd, Nat.reduceLT, Nat.reduceLeDiff, Nat.reduceLT, Int.reduceToNat, Int.reduceLE, Nat.zero_add, ↓reduceIte, eq_self, Bool.false_eq_true, List.contains_cons, List.contains_nil, Nat.reduceBEq, Bool.or_false, Bool.or_true, h10, h9, f2, f3, f4, f5, M9.v, M9.cells]
          intro f hf
          have hf1 : st.sz ≤ f := Nat.le_trans hws.sz hf
          have hxf : x < f := by omega
          have hyf : y < f := by omega
          refine Bo.own trivial ?_
          intro g hg
          have hg1 : st.sz ≤ g := by simp only [put_sz] at hg; omega
          simp (config := {maxSteps := 3000000}) only [ops_app, ev_t, put_get, put_box_same, use_box, vload, takeV, obsOk, List.length_cons, List.length_nil, List.take_succ_cons, List.drop_zero, List.take_nil, and_true, true_and, Nat.reduceEqDiff, Nat.reduceAdd, Nat.reduceLeDiff, Nat.zero_add, ↓reduceIte, eq_self]
          have rb0 : RBm st ((s.put f m.cells).use g 0) (.sl (.own g 13) []) [] := ⟨.inr ⟨g, rfl, by simp [St.use], by simp only [use_sz]; omega⟩, weak_use (weak_put hws hf1) hg1, hls.put.use, fun g' k l h => by cases h; exact hg1⟩
          refine App.mk (l := []) (ys := L10) rb0.own f8 (by simp [maxLen]; omega) (by simp; omega) ?_
          rintro r s1 hown happ
          have rb1 := rb0.app hown happ
          have hfb : s1.box f = some m.cells := by rw [happ.box, use_box]; exact put_box_same
          simp only [M9.cells] at hfb
          simp (config := {maxSteps := 3000000}) only [ops_call, ev_t, ev_c, put_get, vload, takeV, obsOk, List.map_cons, List.map_nil, List.length_cons, List.length_nil, List.take_succ_cons, List.drop_zero, List.take_nil, and_true, true_and, Nat.reduceEqDiff, Nat.reduceAdd, Nat.reduceLeDiff, Nat.zero_add, ↓reduceIte, eq_self, hfb]
          have hcb : s1.box y = some d.cells := by rw [happ.box, use_box, put_box_ne (Nat.ne_of_lt hyf)]; exact hyc
          have gt := ctlTake_v (st := s1) (c := d) (now := 1) hcb (by omega) mok
          simp only [M9.v, M9.cells] at gt
          refine Cal.mk gt ?_
          rintro _ _ ⟨rfl, rfl⟩ -
          simp (config := {maxSteps := 3000000}) only [ops_app, ev_t, put_get, obsOk, true_and, Nat.reduceEqDiff, ↓reduceIte, eq_self]
          have rb2 : RBm st (s1.put y (ctakeC d 1 m).cells) r ([] ++ L10) := ⟨rb1.own.put, weak_put rb1.weak hy1, rb1.lt.put, rb1.tok⟩
          refine App.mk (l := [] ++ L10) (ys := (ctakeM d 1 m).map M9.v) rb2.own (allSz_ms _) (by simp [maxLen]; omega) (by simp; omega) ?_
          rintro r2 s2 hown2 happ2
          have rb3 := rb2.app hown2 happ2
          obtain ⟨tk2, rfl⟩ := hown2.sl
          simp (config := {maxSteps := 3000000}) only [run_reg, at_code_n, at_blk_n, at_rnd_n, ops_nil, ops_mv, ops_bin, ev_t, ev_c, put_get, opv_mk, over_get, rel_mk, vbin, vbinI, norm, obsOk, List.nil_append, true_and, Nat.reduceEqDiff, Int.reduceNeg, ↓reduceIte, eq_self, List.contains_cons, List.contains_nil, Nat.reduceBEq, Bool.or_false, Bool.or_true, h11, List.nil_append]
          repeat (apply And.intro; focus (first | omega | (simp; done)))
          exact ⟨⟨i + 1, _, _, _, _, hm2, by simp, ⟨tk2, by rw [List.map_append, hL10]⟩, ⟨_, rfl⟩, rb3.weak, rb3.lt, by rw [happ2.box, put_box_ne (Nat.ne_of_lt hxy), happ.box, use_box, put_box_ne (Nat.ne_of_lt hxf)]; exact hxc, by rw [happ2.box]; exact put_box_same⟩, by omega⟩
      | nil =>
        cases ys with
        | nil => exact absurd ⟨rfl, rfl⟩ hend
        | cons m ys =>
          obtain ⟨mok, hi2, hml, hm2⟩ := hm.stepY hab
          clear hm hend
          generalize hL9 : (m :: ys).map M9.v = L9 at *
          generalize hL10 : List.map M9.v ([] : List M9) = L10 at *
          have f1 : (0 : Nat) < L9.length := by rw [← hL9]; simp
          have f2 : L9[0]? = some m.v := by rw [← hL9]; rfl
          have f3 : L9.drop 1 = ys.map M9.v := by rw [← hL9]; rfl
          have f4 : allSz 13 L9 := by rw [← hL9]; exact allSz_ms _
          have f5 : 1 ≤ L9.length := f1
          have f6 : L9.length ≤ 2 := by rw [← hL9, xs_len]; exact ly
          have f7 : L10.length ≤ 2 := by rw [← hL10, xs_len]; exact lx
          have f8 : allSz 13 L10 := by rw [← hL10]; exact allSz_ms _
          have e1 := decide_eq_true (show (0 : Int) < (L10.length : Int) + (L9.length : Int) by omega)
          have e2 := decide_eq_true (show (0 : Int) < (L9.length : Int) by omega)
          have e3 := decide_eq_false (show ¬ (L9.length : Int) = 0 by omega)
          have f9 : L10.length = 0 := by rw [← hL10]; rfl
          have e4 := decide_eq_true (show (L10.length : Int) = 0 by omega)
          have e5 := decide_eq_false (show ¬ (0 : Int) < (L10.length : Int) by omega)
          simp (config := {maxSteps := 3000000}) only [run_skip, run_reg, run_seq, run_blk, run_cond, if_true, if_false, at_code_n, ops_nil, ops_grd, grd_und, grd_tt, grd_ft, ops_mv, ops_pick, ops_bin, ops_ix, ops_len, ev_t, ev_c, put_get, opv_mk, over_get, vnat, args0, List.getD_cons_zero, List.getD_cons_succ, vpick, vbin, vbinI, norm, vlen, vix, V.cells, true_and, Nat.reduceEqDiff, Int.reduceToNat, Int.toNat_natCast, Int.reduceLE, Int.reduceNeg, ↓reduceIte, eq_self, Bool.false_eq_true, List.contains_cons, List.contains_nil, Nat.reduceBEq, Bool.or_false, Bool.or_true, h11, h10, h9, q40, hTl, e1, e5, m0]
          repeat (apply And.intro; focus (first | omega | (simp; done)))
          simp (config := {maxSteps := 3000000}) only [run_reg, run_seq, at_code_n, ops_nil, ops_mv, ops_load, ops_slc, ops_alc, ops_bslo, ops_store, ev_t, ev_c, put_get, put_none, opv_mk, stb_some, sto_ptr, over_get, Stp, put_box_same, put_put, vload, takeV, vslc, splice, V.cells, strip, strip1, ptrV, obsOk, List.map_nil, List.length_cons, List.length_nil, List.take_succ_cons, List.take_zero, List.drop_succ_cons, List.drop_zero, List.nil_append, List.append_nil, List.take_nil, List.drop_nil, Option.map_some, Option.map_none, and_true, true_and, Nat.reduceEqDiff, Nat.reduceAdd, Nat.reduceLT, Nat.reduceLeDiff, Nat.reduceLT, Int.reduceToNat, Int.reduceLE, Nat.zero_add, ↓reduceIte, eq_self, Bool.false_eq_true, List.contains_cons, List.contains_nil, Nat.reduceBEq, Bool.or_false, Bool.or_true, h10, h9, f2, f3, f4, f5, M9.v, M9.cells]
          intro f hf
          have hf1 : st.sz ≤ f := Nat.le_trans hws.sz hf
          have hxf : x < f := by omega
          have hyf : y < f := by omega
          refine Bo.own trivial ?_
          intro g hg
          have hg1 : st.sz ≤ g := by simp only [put_sz] at hg; omega
          simp (config := {maxSteps := 3000000}) only [ops_app, ev_t, put_get, put_box_same, use_box, vload, takeV, obsOk, List.length_cons, List.length_nil, List.take_succ_cons, List.drop_zero, List.take_nil, and_true, true_and, Nat.reduceEqDiff, Nat.reduceAdd, Nat.reduceLeDiff, Nat.zero_add, ↓reduceIte, eq_self]
          have rb0 : RBm st ((s.put f m.cells).use g 0) (.sl (.own g 13) []) [] := ⟨.inr ⟨g, rfl, by simp [St.use], by simp only [use_sz]; omega⟩, weak_use (weak_put hws hf1) hg1, hls.put.use, fun g' k l h => by cases h; exact hg1⟩
          refine App.mk (l := []) (ys := L10) rb0.own f8 (by simp [maxLen]; omega) (by simp; omega) ?_
          rintro r s1 hown happ
          have rb1 := rb0.app hown happ
          have hfb : s1.box f = some m.cells := by rw [happ.box, use_box]; exact put_box_same
          simp only [M9.cells] at hfb
          simp (config := {maxSteps := 3000000}) only [ops_call, ev_t, ev_c, put_get, vload, takeV, obsOk, List.map_cons, List.map_nil, List.length_cons, List.length_nil, List.take_succ_cons, List.drop_zero, List.take_nil, and_true, true_and, Nat.reduceEqDiff, Nat.reduceAdd, Nat.reduceLeDiff, Nat.zero_add, ↓reduceIte, eq_self, hfb]
          have hcb : s1.box y = some d.cells := by rw [happ.box, use_box, put_box_ne (Nat.ne_of_lt hyf)]; exact hyc
          have gt := ctlTake_v (st := s1) (c := d) (now := 1) hcb (by omega) mok
          simp only [M9.v, M9.cells] at gt
          refine Cal.mk gt ?_
          rintro _ _ ⟨rfl, rfl⟩ -
          simp (config := {maxSteps := 3000000}) only [ops_app, ev_t, put_get, obsOk, true_and, Nat.reduceEqDiff, ↓reduceIte, eq_self]
          have rb2 : RBm st (s1.put y (ctakeC d 1 m).cells) r ([] ++ L10) := ⟨rb1.own.put, weak_put rb1.weak hy1, rb1.lt.put, rb1.tok⟩
          refine App.mk (l := [] ++ L10) (ys := (ctakeM d 1 m).map M9.v) rb2.own (allSz_ms _) (by simp [maxLen]; omega) (by simp; omega) ?_
          rintro r2 s2 hown2 happ2
          have rb3 := rb2.app hown2 happ2
          obtain ⟨tk2, rfl⟩ := hown2.sl
          simp (config := {maxSteps := 3000000}) only [run_reg, at_code_n, at_blk_n, at_rnd_n, ops_nil, ops_mv, ops_bin, ev_t, ev_c, put_get, opv_mk, over_get, rel_mk, vbin, vbinI, norm, obsOk, List.nil_append, true_and, Nat.reduceEqDiff, Int.reduceNeg, ↓reduceIte, eq_self, List.contains_cons, List.contains_nil, Nat.reduceBEq, Bool.or_false, Bool.or_true, h11, List.nil_append]
          repeat (apply And.intro; focus (first | omega | (simp; done)))
          exact ⟨⟨i + 1, _, _, _, _, hm2, by simp, ⟨tk2, by rw [List.map_append, hL10]⟩, ⟨_, rfl⟩, rb3.weak, rb3.lt, by rw [happ2.box, put_box_ne (Nat.ne_of_lt hxy), happ.box, use_box, put_box_ne (Nat.ne_of_lt hxf)]; exact hxc, by rw [happ2.box]; exact put_box_same⟩, by omega⟩
    have m0 := decide_eq_true (show (i : Int) < (T.length : Int) by omega)
    have hTi := boolsV_get T i
    rw [List.getElem?_eq_getElem tl, Option.map_some] at hTi
    generalize T[i] = t at hTi
    cases t
    · cases xs with
      | cons m' xs =>
        cases ys with
        | nil =>
          obtain ⟨mok, hi2, hml, hm2⟩ := hm.stepX hab
          clear hm hend
          generalize hL10 : (m' :: xs).map M9.v = L10 at *
          generalize hL9 : List.map M9.v ([] : List M9) = L9 at *
          have f1 : (0 : Nat) < L10.length := by rw [← hL10]; simp
          have f2 : L10[0]? = some m'.v := by rw [← hL10]; rfl
          have f3 : L10.drop 1 = xs.map M9.v := by rw [← hL10]; rfl
          have f4 : allSz 13 L10 := by rw [← hL10]; exact allSz_ms _
          have f5 : 1 ≤ L10.length := f1
          have f6 : L10.length ≤ 2 := by rw [← hL10, xs_len]; exact lx
          have f7 : L9.length ≤ 2 := by rw [← hL9, xs_len]; exact ly
          have f8 : allSz 13 L9 := by rw [← hL9]; exact allSz_ms _
          have e1 := decide_eq_true (show (0 : Int) < (L10.length : Int) + (L9.length : Int) by omega)
          have e2 := decide_eq_true (show (0 : Int) < (L10.length : Int) by omega)
          have e3 := decide_eq_false (show ¬ (L10.length : Int) = 0 by omega)
          have f9 : L9.length = 0 := by rw [← hL9]; rfl
          have e4 := decide_eq_true (show (L9.length : Int) = 0 by omega)
          have e5 := decide_eq_false (show ¬ (0 : Int) < (L9.length : Int) by omega)
          simp (config := {maxSteps := 3000000}) only [run_skip, run_reg, run_seq, run_blk, run_cond, if_true, at_code_n, ops_nil, ops_grd, grd_tt, grd_ff, ops_mv, ops_pick, ops_bin, ops_ix, ops_load, ops_len, ev_t, ev_c, put_get, opv_mk, over_get, vnat, args0, List.getD_cons_zero, List.getD_cons_succ, vpick, vbin, vbinI, norm, vlen, vix, vload, takeV, V.cells, List.length_cons, List.length_nil, List.getElem?_cons_zero, and_true, true_and, Nat.reduceEqDiff, Int.reduceToNat, Int.toNat_natCast, Int.reduceLE, Int.reduceNeg, Nat.zero_add, ↓reduceIte, eq_self, Bool.false_eq_true, List.contains_cons, List.contains_nil, Nat.reduceBEq, Bool.or_false, Bool.or_true, h11, h10, h9, q40, hTl, e1, e2, e4, m0, hTi]
          repeat (apply And.intro; focus (first | omega | (simp; done)))
          simp (config := {maxSteps := 3000000}) only [run_reg, run_seq, at_code_n, ops_nil, ops_mv, ops_load, ops_slc, ops_alc, ops_bslo, ops_store, ev_t, ev_c, put_get, put_none, opv_mk, stb_some, sto_ptr, over_get, Stp, put_box_same, put_put, vload, takeV, vslc, splice, V.cells, strip, strip1, ptrV, obsOk, List.map_nil, List.length_cons, List.length_nil, List.take_succ_cons, List.take_zero, List.drop_succ_cons, List.drop_zero, List.nil_append, List.append_nil, List.take_nil, List.drop_nil, Option.map_some, Option.map_none, and_true, true_and, Nat.reduceEqDiff, Nat.reduceAdd, Nat.reduceLT, Nat.reduceLeDiff, Nat.reduceLT, Int.reduceToNat, Int.reduceLE, Nat.zero_add, ↓reduceIte, eq_self, Bool.false_eq_true, List.contains_cons, List.contains_nil, Nat.reduceBEq, Bool.or_false, Bool.or_true, h10, h9, f2, f3, f4, f5, M9.v, M9.cells]
          intro f hf
          have hf1 : st.sz ≤ f := Nat.le_trans hws.sz hf
          have hxf : x < f := by omega
          have hyf : y < f := by omega
          refine Bo.own trivial ?_
          intro g hg
          have hg1 : st.sz ≤ g := by simp only [put_sz] at hg; omega
          simp (config := {maxSteps := 3000000}) only [ops_app, ev_t, put_get, put_box_same, use_box, vload, takeV, obsOk, List.length_cons, List.length_nil, List.take_succ_cons, List.drop_zero, List.take_nil, and_true, true_and, Nat.reduceEqDiff, Nat.reduceAdd, Nat.reduceLeDiff, Nat.zero_add, ↓reduceIte, eq_self]
          have rb0 : RBm st ((s.put f m'.cells).use g 0) (.sl (.own g 13) []) [] := ⟨.inr ⟨g, rfl, by simp [St.use], by simp only [use_sz]; omega⟩, weak_use (weak_put hws hf1) hg1, hls.put.use, fun g' k l h => by cases h; exact hg1⟩
          refine App.mk (l := []) (ys := L9) rb0.own f8 (by simp [maxLen]; omega) (by simp; omega) ?_
          rintro r s1 hown happ
          have rb1 := rb0.app hown happ
          have hfb : s1.box f = some m'.cells := by rw [happ.box, use_box]; exact put_box_same
          simp only [M9.cells] at hfb
          simp (config := {maxSteps := 3000000}) only [ops_call, ev_t, ev_c, put_get, vload, takeV, obsOk, List.map_cons, List.map_nil, List.length_cons, List.length_nil, List.take_succ_cons, List.drop_zero, List.take_nil, and_true, true_and, Nat.reduceEqDiff, Nat.reduceAdd, Nat.reduceLeDiff, Nat.zero_add, ↓reduceIte, eq_self, hfb]
          have hcb : s1.box x = some c.cells := by rw [happ.box, use_box, put_box_ne (Nat.ne_of_lt hxf)]; exact hxc
          have gt := ctlTake_v (st := s1) (c := c) (now := 1) hcb (by omega) mok
          simp only [M9.v, M9.cells] at gt
          refine Cal.mk gt ?_
          rintro _ _ ⟨rfl, rfl⟩ -
          simp (config := {maxSteps := 3000000}) only [ops_app, ev_t, put_get, obsOk, true_and, Nat.reduceEqDiff, ↓reduceIte, eq_self]
          have rb2 : RBm st (s1.put x (ctakeC c 1 m').cells) r ([] ++ L9) := ⟨rb1.own.put, weak_put rb1.weak hx1, rb1.lt.put, rb1.tok⟩
          refine App.mk (l := [] ++ L9) (ys := (ctakeM c 1 m').map M9.v) rb2.own (allSz_ms _) (by simp [maxLen]; omega) (by simp; omega) ?_
          rintro r2 s2 hown2 happ2
          have rb3 := rb2.app hown2 happ2
          obtain ⟨tk2, rfl⟩ := hown2.sl
          simp (config := {maxSteps := 3000000}) only [run_reg, at_code_n, at_blk_n, at_rnd_n, ops_nil, ops_mv, ops_bin, ev_t, ev_c, put_get, opv_mk, over_get, rel_mk, vbin, vbinI, norm, obsOk, List.nil_append, true_and, Nat.reduceEqDiff, Int.reduceNeg, ↓reduceIte, eq_self, List.contains_cons, List.contains_nil, Nat.reduceBEq, Bool.or_false, Bool.or_true, h11, List.nil_append]
          repeat (apply And.intro; focus (first | omega | (simp; done)))
          exact ⟨⟨i + 1, _, _, _, _, hm2, by simp, ⟨_, rfl⟩, ⟨tk2, by rw [List.map_append, hL9]⟩, rb3.weak, rb3.lt, by rw [happ2.box]; exact put_box_same, by rw [happ2.box, put_box_ne (Nat.ne_of_gt hxy), happ.box, use_box, put_box_ne (Nat.ne_of_lt hyf)]; exact hyc⟩, by omega⟩
        | cons m ys =>
          obtain ⟨mok, hi2, hml, hm2⟩ := hm.stepY hab
          clear hm hend
          generalize hL9 : (m :: ys).map M9.v = L9 at *
          generalize hL10 : List.map M9.v (m' :: xs) = L10 at *
          have f1 : (0 : Nat) < L9.length := by rw [← hL9]; simp
          have f2 : L9[0]? = some m.v := by rw [← hL9]; rfl
          have f3 : L9.drop 1 = ys.map M9.v := by rw [← hL9]; rfl
          have f4 : allSz 13 L9 := by rw [← hL9]; exact allSz_ms _
          have f5 : 1 ≤ L9.length := f1
          have f6 : L9.length ≤ 2 := by rw [← hL9, xs_len]; exact ly
          have f7 : L10.length ≤ 2 := by rw [← hL10, xs_len]; exact lx
          have f8 : allSz 13 L10 := by rw [← hL10]; exact allSz_ms _
          have e1 := decide_eq_true (show (0 : Int) < (L10.length : Int) + (L9.length : Int) by omega)
          have e2 := decide_eq_true (show (0 : Int) < (L9.length : Int) by omega)
          have e3 := decide_eq_false (show ¬ (L9.length : Int) = 0 by omega)
          have f9 : 0 < L10.length := by rw [← hL10]; simp
          have e4 := decide_eq_false (show ¬ (L10.length : Int) = 0 by omega)
          have e5 := decide_eq_true (show (0 : Int) < (L10.length : Int) by omega)
          simp (config := {maxSteps := 3000000}) only [run_skip, run_reg, run_seq, run_blk, run_cond, if_true, if_false, at_code_n, ops_nil, ops_grd, grd_tt, grd_ff, ops_mv, ops_pick, ops_bin, ops_ix, ops_load, ops_len, ev_t, ev_c, put_get, opv_mk, over_get, vnat, args0, List.getD_cons_zero, List.getD_cons_succ, vpick, vbin, vbinI, norm, vlen, vix, vload, takeV, V.cells, List.length_cons, List.length_nil, List.getElem?_cons_zero, and_true, true_and, Nat.reduceEqDiff, Int.reduceToNat, Int.toNat_natCast, Int.reduceLE, Int.reduceNeg, Nat.zero_add, ↓reduceIte, eq_self, Bool.false_eq_true, List.contains_cons, List.contains_nil, Nat.reduceBEq, Bool.or_false, Bool.or_true, h11, h10, h9, q40, hTl, e1, e3, e5, m0, hTi]
          repeat (apply And.intro; focus (first | omega | (simp; done)))
          simp (config := {maxSteps := 3000000}) only [run_reg, run_seq, at_code_n, ops_nil, ops_mv, ops_load, ops_slc, ops_alc, ops_bslo, ops_store, ev_t, ev_c, put_get, put_none, opv_mk, stb_some, sto_ptr, over_get, Stp, put_box_same, put_put, vload, takeV, vslc, splice, V.cells, strip, strip1, ptrV, obsOk, List.map_nil, List.length_cons, List.length_nil, List.take_succ_cons, List.take_zero, List.drop_succ_cons, List.drop_zero, List.nil_append, List.append_nil, List.take_nil, List.drop_nil, Option.map_some, Option.map_none, and_true, true_and, Nat.reduceEqDiff, Nat.reduceAdd, Nat.reduceLT, Nat.reduceLeDiff, Nat.reduceLT, Int.reduceToNat, Int.reduceLE, Nat.zero_add, ↓reduceIte, eq_self, Bool.false_eq_true, List.contains_cons, List.contains_nil, Nat.reduceBEq, Bool.or_false, Bool.or_true, h10, h9, f2, f3, f4, f5, M9.v, M9.cells]
          intro f hf
          have hf1 : st.sz ≤ f := Nat.le_trans hws.sz hf
          have hxf : x < f := by omega
          have hyf : y < f := by omega
          refine Bo.own trivial ?_
          intro g hg
          have hg1 : st.sz ≤ g := by simp only [put_sz] at hg; omega
          simp (config := {maxSteps := 3000000}) only [ops_app, ev_t, put_get, put_box_same, use_box, vload, takeV, obsOk, List.length_cons, List.length_nil, List.take_succ_cons, List.drop_zero, List.take_nil, and_true, true_and, Nat.reduceEqDiff, Nat.reduceAdd, Nat.reduceLeDiff, Nat.zero_add, ↓reduceIte, eq_self]
          have rb0 : RBm st ((s.put f m.cells).use g 0) (.sl (.own g 13) []) [] := ⟨.inr ⟨g, rfl, by simp [St.use], by simp only [use_sz]; omega⟩, weak_use (weak_put hws hf1) hg1, hls.put.use, fun g' k l h => by cases h; exact hg1⟩
          refine App.mk (l := []) (ys := L10) rb0.own f8 (by simp [maxLen]; omega) (by simp; omega) ?_
          rintro r s1 hown happ
          have rb1 := rb0.app hown happ
          have hfb : s1.box f = some m.cells := by rw [happ.box, use_box]; exact put_box_same
          simp only [M9.cells] at hfb
          simp (config := {maxSteps := 3000000}) only [ops_call, ev_t, ev_c, put_get, vload, takeV, obsOk, List.map_cons, List.map_nil, List.length_cons, List.length_nil, List.take_succ_cons, List.drop_zero, List.take_nil, and_true, true_and, Nat.reduceEqDiff, Nat.reduceAdd, Nat.reduceLeDiff, Nat.zero_add, ↓reduceIte, eq_self, hfb]
          have hcb : s1.box y = some d.cells := by rw [happ.box, use_box, put_box_ne (Nat.ne_of_lt hyf)]; exact hyc
          have gt := ctlTake_v (st := s1) (c := d) (now := 1) hcb (by omega) mok
          simp only [M9.v, M9.cells] at gt
          refine Cal.mk gt ?_
          rintro _ _ ⟨rfl, rfl⟩ -
          simp (config := {maxSteps := 3000000}) only [ops_app, ev_t, put_get, obsOk, true_and, Nat.reduceEqDiff, ↓reduceIte, eq_self]
          have rb2 : RBm st (s1.put y (ctakeC d 1 m).cells) r ([] ++ L10) := ⟨rb1.own.put, weak_put rb1.weak hy1, rb1.lt.put, rb1.tok⟩
          refine App.mk (l := [] ++ L10) (ys := (ctakeM d 1 m).map M9.v) rb2.own (allSz_ms _) (by simp [maxLen]; omega) (by simp; omega) ?_
          rintro r2 s2 hown2 happ2
          have rb3 := rb2.app hown2 happ2
          obtain ⟨tk2, rfl⟩ := hown2.sl
          simp (config := {maxSteps := 3000000}) only [run_reg, at_code_n, at_blk_n, at_rnd_n, ops_nil, ops_mv, ops_bin, ev_t, ev_c, put_get, opv_mk, over_get, rel_mk, vbin, vbinI, norm, obsOk, List.nil_append, true_and, Nat.reduceEqDiff, Int.reduceNeg, ↓reduceIte, eq_self, List.contains_cons, List.contains_nil, Nat.reduceBEq, Bool.or_false, Bool.or_true, h11, List.nil_append]
          repeat (apply And.intro; focus (first | omega | (simp; done)))
          exact ⟨⟨i + 1, _, _, _, _, hm2, by simp, ⟨tk2, by rw [List.map_append, hL10]⟩, ⟨_, rfl⟩, rb3.weak, rb3.lt, by rw [happ2.box, put_box_ne (Nat.ne_of_lt hxy), happ.box, use_box, put_box_ne (Nat.ne_of_lt hxf)]; exact hxc, by rw [happ2.box]; exact put_box_same⟩, by omega⟩
      | nil =>
        cases ys with
        | nil => exact absurd ⟨rfl, rfl⟩ hend
        | cons m ys =>
          obtain ⟨mok, hi2, hml, hm2⟩ := hm.stepY hab
          clear hm hend
          generalize hL9 : (m :: ys).map M9.v = L9 at *
          generalize hL10 : List.map M9.v ([] : List M9) = L10 at *
          have f1 : (0 : Nat) < L9.length := by rw [← hL9]; simp
          have f2 : L9[0]? = some m.v := by rw [← hL9]; rfl
          have f3 : L9.drop 1 = ys.map M9.v := by rw [← hL9]; rfl
          have f4 : allSz 13 L9 := by rw [← hL9]; exact allSz_ms _
          have f5 : 1 ≤ L9.length := f1
          have f6 : L9.length ≤ 2 := by rw [← hL9, xs_len]; exact ly
          have f7 : L10.length ≤ 2 := by rw [← hL10, xs_len]; exact lx
          have f8 : allSz 13 L10 := by rw [← hL10]; exact allSz_ms _
          have e1 := decide_eq_true (show (0 : Int) < (L10.length : Int) + (L9.length : Int) by omega)
          have e2 := decide_eq_true (show (0 : Int) < (L9.length : Int) by omega)
          have e3 := decide_eq_false (show ¬ (L9.length : Int) = 0 by omega)
          have f9 : L10.length = 0 := by rw [← hL10]; rfl
          have e4 := decide_eq_true (show (L10.length : Int) = 0 by omega)
          have e5 := decide_eq_false (show ¬ (0 : Int) < (L10.length : Int) by omega)
          simp (config := {maxSteps := 3000000}) only [run_skip, run_reg, run_seq, run_blk, run_cond, if_true, if_false, at_code_n, ops_nil, ops_grd, grd_und, grd_tt, grd_ft, ops_mv, ops_pick, ops_bin, ops_ix, ops_load, ops_len, ev_t, ev_c, put_get, opv_mk, over_get, vnat, args0, List.getD_cons_zero, List.getD_cons_succ, vpick, vbin, vbinI, norm, vlen, vix, vload, takeV, V.cells, List.length_cons, List.length_nil, List.getElem?_cons_zero, and_true, true_and, Nat.reduceEqDiff, Int.reduceToNat, Int.toNat_natCast, Int.reduceLE, Int.reduceNeg, Nat.zero_add, ↓reduceIte, eq_self, Bool.false_eq_true, List.contains_cons, List.contains_nil, Nat.reduceBEq, Bool.or_false, Bool.or_true, h11, h10, h9, q40, hTl, e1, e5, m0, hTi]
          repeat (apply And.intro; focus (first | omega | (simp; done)))
          simp (config := {maxSteps := 3000000}) only [run_reg, run_seq, at_code_n, ops_nil, ops_mv, ops_load, ops_slc, ops_alc, ops_bslo, ops_store, ev_t, ev_c, put_get, put_none, opv_mk, stb_some, sto_ptr, over_get, Stp, put_box_same, put_put, vload, takeV, vslc, splice, V.cells, strip, strip1, ptrV, obsOk, List.map_nil, List.length_cons, List.length_nil, List.take_succ_cons, List.take_zero, List.drop_succ_cons, List.drop_zero, List.nil_append, List.append_nil, List.take_nil, List.drop_nil, Option.map_some, Option.map_none, and_true, true_and, Nat.reduceEqDiff, Nat.reduceAdd, Nat.reduceLT, Nat.reduceLeDiff, Nat.reduceLT, Int.reduceToNat, Int.reduceLE, Nat.zero_add, ↓reduceIte, eq_self, Bool.false_eq_true, List.contains_cons, List.contains_nil, Nat.reduceBEq, Bool.or_false, Bool.or_true, h10, h9, f2, f3, f4, f5, M9.v, M9.cells]
          intro f hf
          have hf1 : st.sz ≤ f := Nat.le_trans hws.sz hf
          have hxf : x < f := by omega
          have hyf : y < f := by omega
          refine Bo.own trivial ?_
          intro g hg
          have hg1 : st.sz ≤ g := by simp only [put_sz] at hg; omega
          simp (config := {maxSteps := 3000000}) only [ops_app, ev_t, put_get, put_box_same, use_box, vload, takeV, obsOk, List.length_cons, List.length_nil, List.take_succ_cons, List.drop_zero, List.take_nil, and_true, true_and, Nat.reduceEqDiff, Nat.reduceAdd, Nat.reduceLeDiff, Nat.zero_add, ↓reduceIte, eq_self]
          have rb0 : RBm st ((s.put f m.cells).use g 0) (.sl (.own g 13) []) [] := ⟨.inr ⟨g, rfl, by simp [St.use], by simp only [use_sz]; omega⟩, weak_use (weak_put hws hf1) hg1, hls.put.use, fun g' k l h => by cases h; exact hg1⟩
          refine App.mk (l := []) (ys := L10) rb0.own f8 (by simp [maxLen]; omega) (by simp; omega) ?_
          rintro r s1 hown happ
          have rb1 := rb0.app hown happ
          have hfb : s1.box f = some m.cells := by rw [happ.box, use_box]; exact put_box_same
          simp only [M9.cells] at hfb
          simp (config := {maxSteps := 3000000}) only [ops_call, ev_t, ev_c, put_get, vload, takeV, obsOk, List.map_cons, List.map_nil, List.length_cons, List.length_nil, List.take_succ_cons, List.drop_zero, List.take_nil, and_true, true_and, Nat.reduceEqDiff, Nat.reduceAdd, Nat.reduceLeDiff, Nat.zero_add, ↓reduceIte, eq_self, hfb]
          have hcb : s1.box y = some d.cells := by rw [happ.box, use_box, put_box_ne (Nat.ne_of_lt hyf)]; exact hyc
          have gt := ctlTake_v (st := s1) (c := d) (now := 1) hcb (by omega) mok
          simp only [M9.v, M9.cells] at gt
          refine Cal.mk gt ?_
          rintro _ _ ⟨rfl, rfl⟩ -
          simp (config := {maxSteps := 3000000}) only [ops_app, ev_t, put_get, obsOk, true_and, Nat.reduceEqDiff, ↓reduceIte, eq_self]
          have rb2 : RBm st (s1.put y (ctakeC d 1 m).cells) r ([] ++ L10) := ⟨rb1.own.put, weak_put rb1.weak hy1, rb1.lt.put, rb1.tok⟩
          refine App.mk (l := [] ++ L10) (ys := (ctakeM d 1 m).map M9.v) rb2.own (allSz_ms _) (by simp [maxLen]; omega) (by simp; omega) ?_
          rintro r2 s2 hown2 happ2
          have rb3 := rb2.app hown2 happ2
          obtain ⟨tk2, rfl⟩ := hown2.sl
          simp (config := {maxSteps := 3000000}) only [run_reg, at_code_n, at_blk_n, at_rnd_n, ops_nil, ops_mv, ops_bin, ev_t, ev_c, put_get, opv_mk, over_get, rel_mk, vbin, vbinI, norm, obsOk, List.nil_append, true_and, Nat.reduceEqDiff, Int.reduceNeg, ↓reduceIte, eq_self, List.contains_cons, List.contains_nil, Nat.reduceBEq, Bool.or_false, Bool.or_true, h11, List.nil_append]
          repeat (apply And.intro; focus (first | omega | (simp; done)))
          exact ⟨⟨i + 1, _, _, _, _, hm2, by simp, ⟨tk2, by rw [List.map_append, hL10]⟩, ⟨_, rfl⟩, rb3.weak, rb3.lt, by rw [happ2.box, put_box_ne (Nat.ne_of_lt hxy), happ.box, use_box, put_box_ne (Nat.ne_of_lt hxf)]; exact hxc, by rw [happ2.box]; exact put_box_same⟩, by omega⟩
    · cases xs with
      | cons m xs =>
        cases ys with
        | nil =>
          obtain ⟨mok, hi2, hml, hm2⟩ := hm.stepX hab
          clear hm hend
          generalize hL10 : (m :: xs).map M9.v = L10 at *
          generalize hL9 : List.map M9.v ([] : List M9) = L9 at *
          have f1 : (0 : Nat) < L10.length := by rw [← hL10]; simp
          have f2 : L10[0]? = some m.v := by rw [← hL10]; rfl
          have f3 : L10.drop 1 = xs.map M9.v := by rw [← hL10]; rfl
          have f4 : allSz 13 L10 := by rw [← hL10]; exact allSz_ms _
          have f5 : 1 ≤ L10.length := f1
          have f6 : L10.length ≤ 2 := by rw [← hL10, xs_len]; exact lx
          have f7 : L9.length ≤ 2 := by rw [← hL9, xs_len]; exact ly
          have f8 : allSz 13 L9 := by rw [← hL9]; exact allSz_ms _
          have e1 := decide_eq_true (show (0 : Int) < (L10.length : Int) + (L9.length : Int) by omega)
          have e2 := decide_eq_true (show (0 : Int) < (L10.length : Int) by omega)
          have e3 := decide_eq_false (show ¬ (L10.length : Int) = 0 by omega)
          have f9 : L9.length = 0 := by rw [← hL9]; rfl
          have e4 := decide_eq_true (show (L9.length : Int) = 0 by omega)
          have e5 := decide_eq_false (show ¬ (0 : Int) < (L9.length : Int) by omega)
          simp (config := {maxSteps := 3000000}) only [run_skip, run_reg, run_seq, run_blk, run_cond, if_true, at_code_n, ops_nil, ops_grd, grd_tt, grd_tf, ops_mv, ops_pick, ops_bin, ops_ix, ops_load, ops_len, ev_t, ev_c, put_get, opv_mk, over_get, vnat, args0, List.getD_cons_zero, List.getD_cons_succ, vpick, vbin, vbinI, norm, vlen, vix, vload, takeV, V.cells, List.length_cons, List.length_nil, List.getElem?_cons_zero, and_true, true_and, Nat.reduceEqDiff, Int.reduceToNat, Int.toNat_natCast, Int.reduceLE, Int.reduceNeg, Nat.zero_add, ↓reduceIte, eq_self, Bool.false_eq_true, List.contains_cons, List.contains_nil, Nat.reduceBEq, Bool.or_false, Bool.or_true, h11, h10, h9, q40, hTl, e1, e2, m0, hTi]
          repeat (apply And.intro; focus (first | omega | (simp; done)))
          simp (config := {maxSteps := 3000000}) only [run_reg, run_seq, at_code_n, ops_nil, ops_mv, ops_load, ops_slc, ops_alc, ops_bslo, ops_store, ev_t, ev_c, put_get, put_none, opv_mk, stb_some, sto_ptr, over_get, Stp, put_box_same, put_put, vload, takeV, vslc, splice, V.cells, strip, strip1, ptrV, obsOk, List.map_nil, List.length_cons, List.length_nil, List.take_succ_cons, List.take_zero, List.drop_succ_cons, List.drop_zero, List.nil_append, List.append_nil, List.take_nil, List.drop_nil, Option.map_some, Option.map_none, and_true, true_and, Nat.reduceEqDiff, Nat.reduceAdd, Nat.reduceLT, Nat.reduceLeDiff, Nat.reduceLT, Int.reduceToNat, Int.reduceLE, Nat.zero_add, ↓reduceIte, eq_self, Bool.false_eq_true, List.contains_cons, List.contains_nil, Nat.reduceBEq, Bool.or_false, Bool.or_true, h10, h9, f2, f3, f4, f5, M9.v, M9.cells]
          intro f hf
          have hf1 : st.sz ≤ f := Nat.le_trans hws.sz hf
          have hxf : x < f := by omega
          have hyf : y < f := by omega
          refine Bo.own trivial ?_
          intro g hg
          have hg1 : st.sz ≤ g := by simp only [put_sz] at hg; omega
          simp (config := {maxSteps := 3000000}) only [ops_app, ev_t, put_get, put_box_same, use_box, vload, takeV, obsOk, List.length_cons, List.length_nil, List.take_succ_cons, List.drop_zero, List.take_nil, and_true, true_and, Nat.reduceEqDiff, Nat.reduceAdd, Nat.reduceLeDiff, Nat.zero_add, ↓reduceIte, eq_self]
          have rb0 : RBm st ((s.put f m.cells).use g 0) (.sl (.own g 13) []) [] := ⟨.inr ⟨g, rfl, by simp [St.use], by simp only [use_sz]; omega⟩, weak_use (weak_put hws hf1) hg1, hls.put.use, fun g' k l h => by cases h; exact hg1⟩
          refine App.mk (l := []) (ys := L9) rb0.own f8 (by simp [maxLen]; omega) (by simp; omega) ?_
          rintro r s1 hown happ
          have rb1 := rb0.app hown happ
          have hfb : s1.box f = some m.cells := by rw [happ.box, use_box]; exact put_box_same
          simp only [M9.cells] at hfb
          simp (config := {maxSteps := 3000000}) only [ops_call, ev_t, ev_c, put_get, vload, takeV, obsOk, List.map_cons, List.map_nil, List.length_cons, List.length_nil, List.take_succ_cons, List.drop_zero, List.take_nil, and_true, true_and, Nat.reduceEqDiff, Nat.reduceAdd, Nat.reduceLeDiff, Nat.zero_add, ↓reduceIte, eq_self, hfb]
          have hcb : s1.box x = some c.cells := by rw [happ.box, use_box, put_box_ne (Nat.ne_of_lt hxf)]; exact hxc
          have gt := ctlTake_v (st := s1) (c := c) (now := 1) hcb (by omega) mok
          simp only [M9.v, M9.cells] at gt
          refine Cal.mk gt ?_
          rintro _ _ ⟨rfl, rfl⟩ -
          simp (config := {maxSteps := 3000000}) only [ops_app, ev_t, put_get, obsOk, true_and, Nat.reduceEqDiff, ↓reduceIte, eq_self]
          have rb2 : RBm st (s1.put x (ctakeC c 1 m).cells) r ([] ++ L9) := ⟨rb1.own.put, weak_put rb1.weak hx1, rb1.lt.put, rb1.tok⟩
          refine App.mk (l := [] ++ L9) (ys := (ctakeM c 1 m).map M9.v) rb2.own (allSz_ms _) (by simp [maxLen]; omega) (by simp; omega) ?_
          rintro r2 s2 hown2 happ2
          have rb3 := rb2.app hown2 happ2
          obtain ⟨tk2, rfl⟩ := hown2.sl
          simp (config := {maxSteps := 3000000}) only [run_reg, at_code_n, at_blk_n, at_rnd_n, ops_nil, ops_mv, ops_bin, ev_t, ev_c, put_get, opv_mk, over_get, rel_mk, vbin, vbinI, norm, obsOk, List.nil_append, true_and, Nat.reduceEqDiff, Int.reduceNeg, ↓reduceIte, eq_self, List.contains_cons, List.contains_nil, Nat.reduceBEq, Bool.or_false, Bool.or_true, h11, List.nil_append]
          repeat (apply And.intro; focus (first | omega | (simp; done)))
          exact ⟨⟨i + 1, _, _, _, _, hm2, by simp, ⟨_, rfl⟩, ⟨tk2, by rw [List.map_append, hL9]⟩, rb3.weak, rb3.lt, by rw [happ2.box]; exact put_box_same, by rw [happ2.box, put_box_ne (Nat.ne_of_gt hxy), happ.box, use_box, put_box_ne (Nat.ne_of_lt hyf)]; exact hyc⟩, by omega⟩
        | cons z ys =>
          obtain ⟨mok, hi2, hml, hm2⟩ := hm.stepX hab
          clear hm hend
          generalize hL10 : (m :: xs).map M9.v = L10 at *
          generalize hL9 : List.map M9.v (z :: ys) = L9 at *
          have f1 : (0 : Nat) < L10.length := by rw [← hL10]; simp
          have f2 : L10[0]? = some m.v := by rw [← hL10]; rfl
          have f3 : L10.drop 1 = xs.map M9.v := by rw [← hL10]; rfl
          have f4 : allSz 13 L10 := by rw [← hL10]; exact allSz_ms _
          have f5 : 1 ≤ L10.length := f1
          have f6 : L10.length ≤ 2 := by rw [← hL10, xs_len]; exact lx
          have f7 : L9.length ≤ 2 := by rw [← hL9, xs_len]; exact ly
          have f8 : allSz 13 L9 := by rw [← hL9]; exact allSz_ms _
          have e1 := decide_eq_true (show (0 : Int) < (L10.length : Int) + (L9.length : Int) by omega)
          have e2 := decide_eq_true (show (0 : Int) < (L10.length : Int) by omega)
          have e3 := decide_eq_false (show ¬ (L10.length : Int) = 0 by omega)
          have f9 : 0 < L9.length := by rw [← hL9]; simp
          have e4 := decide_eq_false (show ¬ (L9.length : Int) = 0 by omega)
          have e5 := decide_eq_true (show (0 : Int) < (L9.length : Int) by omega)
          simp (config := {maxSteps := 3000000}) only [run_skip, run_reg, run_seq, run_blk, run_cond, if_true, at_code_n, ops_nil, ops_grd, grd_tt, grd_tf, ops_mv, ops_pick, ops_bin, ops_ix, ops_load, ops_len, ev_t, ev_c, put_get, opv_mk, over_get, vnat, args0, List.getD_cons_zero, List.getD_cons_succ, vpick, vbin, vbinI, norm, vlen, vix, vload, takeV, V.cells, List.length_cons, List.length_nil, List.getElem?_cons_zero, and_true, true_and, Nat.reduceEqDiff, Int.reduceToNat, Int.toNat_natCast, Int.reduceLE, Int.reduceNeg, Nat.zero_add, ↓reduceIte, eq_self, Bool.false_eq_true, List.contains_cons, List.contains_nil, Nat.reduceBEq, Bool.or_false, Bool.or_true, h11, h10, h9, q40, hTl, e1, e2, m0, hTi]
          repeat (apply And.intro; focus (first | omega | (simp; done)))
          simp (config := {maxSteps := 3000000}) only [run_reg, run_seq, at_code_n, ops_nil, ops_mv, ops_load, ops_slc, ops_alc, ops_bslo, ops_store, ev_t, ev_c, put_get, put_none, opv_mk, stb_some, sto_ptr, over_get, Stp, put_box_same, put_put, vload, takeV, vslc, splice, V.cells, strip, strip1, ptrV, obsOk, List.map_nil, List.length_cons, List.length_nil, List.take_succ_cons, List.take_zero, List.drop_succ_cons, List.drop_zero, List.nil_append, List.append_nil, List.take_nil, List.drop_nil, Option.map_some, Option.map_none, and_true, true_and, Nat.reduceEqDiff, Nat.reduceAdd, Nat.reduceLT, Nat.reduceLeDiff, Nat.reduceLT, Int.reduceToNat, Int.reduceLE, Nat.zero_add, ↓reduceIte, eq_self, Bool.false_eq_true, List.contains_cons, List.contains_nil, Nat.reduceBEq, Bool.or_false, Bool.or_true, h10, h9, f2, f3, f4, f5, M9.v, M9.cells]
          intro f hf
          have hf1 : st.sz ≤ f := Nat.le_trans hws.sz hf
          have hxf : x < f := by omega
          have hyf : y < f := by omega
          refine Bo.own trivial ?_
          intro g hg
          have hg1 : st.sz ≤ g := by simp only [put_sz] at hg; omega
          simp (config := {maxSteps := 3000000}) only [ops_app, ev_t, put_get, put_box_same, use_box, vload, takeV, obsOk, List.length_cons, List.length_nil, List.take_succ_cons, List.drop_zero, List.take_nil, and_true, true_and, Nat.reduceEqDiff, Nat.reduceAdd, Nat.reduceLeDiff, Nat.zero_add, ↓reduceIte, eq_self]
          have rb0 : RBm st ((s.put f m.cells).use g 0) (.sl (.own g 13) []) [] := ⟨.inr ⟨g, rfl, by simp [St.use], by simp only [use_sz]; omega⟩, weak_use (weak_put hws hf1) hg1, hls.put.use, fun g' k l h => by cases h; exact hg1⟩
          refine App.mk (l := []) (ys := L9) rb0.own f8 (by simp [maxLen]; omega) (by simp; omega) ?_
          rintro r s1 hown happ
          have rb1 := rb0.app hown happ
          have hfb : s1.box f = some m.cells := by rw [happ.box, use_box]; exact put_box_same
          simp only [M9.cells] at hfb
          simp (config := {maxSteps := 3000000}) only [ops_call, ev_t, ev_c, put_get, vload, takeV, obsOk, List.map_cons, List.map_nil, List.length_cons, List.length_nil, List.take_succ_cons, List.drop_zero, List.take_nil, and_true, true_and, Nat.reduceEqDiff, Nat.reduceAdd, Nat.reduceLeDiff, Nat.zero_add, ↓reduceIte, eq_self, hfb]
          have hcb : s1.box x = some c.cells := by rw [happ.box, use_box, put_box_ne (Nat.ne_of_lt hxf)]; exact hxc
          have gt := ctlTake_v (st := s1) (c := c) (now := 1) hcb (by omega) mok
          simp only [M9.v, M9.cells] at gt
          refine Cal.mk gt ?_
          rintro _ _ ⟨rfl, rfl⟩ -
          simp (config := {maxSteps := 3000000}) only [ops_app, ev_t, put_get, obsOk, true_and, Nat.reduceEqDiff, ↓reduceIte, eq_self]
          have rb2 : RBm st (s1.put x (ctakeC c 1 m).cells) r ([] ++ L9) := ⟨rb1.own.put, weak_put rb1.weak hx1, rb1.lt.put, rb1.tok⟩
          refine App.mk (l := [] ++ L9) (ys := (ctakeM c 1 m).map M9.v) rb2.own (allSz_ms _) (by simp [maxLen]; omega) (by simp; omega) ?_
          rintro r2 s2 hown2 happ2
          have rb3 := rb2.app hown2 happ2
          obtain ⟨tk2, rfl⟩ := hown2.sl
          simp (config := {maxSteps := 3000000}) only [run_reg, at_code_n, at_blk_n, at_rnd_n, ops_nil, ops_mv, ops_bin, ev_t, ev_c, put_get, opv_mk, over_get, rel_mk, vbin, vbinI, norm, obsOk, List.nil_append, true_and, Nat.reduceEqDiff, Int.reduceNeg, ↓reduceIte, eq_self, List.contains_cons, List.contains_nil, Nat.reduceBEq, Bool.or_false, Bool.or_true, h11, List.nil_append]
          repeat (apply And.intro; focus (first | omega | (simp; done)))
          exact ⟨⟨i + 1, _, _, _, _, hm2, by simp, ⟨_, rfl⟩, ⟨tk2, by rw [List.map_append, hL9]⟩, rb3.weak, rb3.lt, by rw [happ2.box]; exact put_box_same, by rw [happ2.box, put_box_ne (Nat.ne_of_gt hxy), happ.box, use_box, put_box_ne (Nat.ne_of_lt hyf)]; exact hyc⟩, by omega⟩
      | nil =>
        cases ys with
        | nil => exact absurd ⟨rfl, rfl⟩ hend
        | cons m ys =>
          obtain ⟨mok, hi2, hml, hm2⟩ := hm.stepY hab
          clear hm hend
          generalize hL9 : (m :: ys).map M9.v = L9 at *
          generalize hL10 : List.map M9.v ([] : List M9) = L10 at *
          have f1 : (0 : Nat) < L9.length := by rw [← hL9]; simp
          have f2 : L9[0]? = some m.v := by rw [← hL9]; rfl
          have f3 : L9.drop 1 = ys.map M9.v := by rw [← hL9]; rfl
          have f4 : allSz 13 L9 := by rw [← hL9]; exact allSz_ms _
          have f5 : 1 ≤ L9.length := f1
          have f6 : L9.length ≤ 2 := by rw [← hL9, xs_len]; exact ly
          have f7 : L10.length ≤ 2 := by rw [← hL10, xs_len]; exact lx
          have f8 : allSz 13 L10 := by rw [← hL10]; exact allSz_ms _
          have e1 := decide_eq_true (show (0 : Int) < (L10.length : Int) + (L9.length : Int) by omega)
          have e2 := decide_eq_true (show (0 : Int) < (L9.length : Int) by omega)
          have e3 := decide_eq_false (show ¬ (L9.length : Int) = 0 by omega)
          have f9 : L10.length = 0 := by rw [← hL10]; rfl
          have e4 := decide_eq_true (show (L10.length : Int) = 0 by omega)
          have e5 := decide_eq_false (show ¬ (0 : Int) < (L10.length : Int) by omega)
          simp (config := {maxSteps := 3000000}) only [run_skip, run_reg, run_seq, run_blk, run_cond, if_true, if_false, at_code_n, ops_nil, ops_grd, grd_und, grd_tt, grd_ft, ops_mv, ops_pick, ops_bin, ops_ix, ops_load, ops_len, ev_t, ev_c, put_get, opv_mk, over_get, vnat, args0, List.getD_cons_zero, List.getD_cons_succ, vpick, vbin, vbinI, norm, vlen, vix, vload, takeV, V.cells, List.length_cons, List.length_nil, List.getElem?_cons_zero, and_true, true_and, Nat.reduceEqDiff, Int.reduceToNat, Int.toNat_natCast, Int.reduceLE, Int.reduceNeg, Nat.zero_add, ↓reduceIte, eq_self, Bool.false_eq_true, List.contains_cons, List.contains_nil, Nat.reduceBEq, Bool.or_false, Bool.or_true, h11, h10, h9, q40, hTl, e1, e5, m0, hTi]
          repeat (apply And.intro; focus (first | omega | (simp; done)))
          simp (config := {maxSteps := 3000000}) only [run_reg, run_seq, at_code_n, ops_nil, ops_mv, ops_load, ops_slc, ops_alc, ops_bslo, ops_store, ev_t, ev_c, put_get, put_none, opv_mk, stb_some, sto_ptr, over_get, Stp, put_box_same, put_put, vload, takeV, vslc, splice, V.cells, strip, strip1, ptrV, obsOk, List.map_nil, List.length_cons, List.length_nil, List.take_succ_cons, List.take_zero, List.drop_succ_cons, List.drop_zero, List.nil_append, List.append_nil, List.take_nil, List.drop_nil, Option.map_some, Option.map_none, and_true, true_and, Nat.reduceEqDiff, Nat.reduceAdd, Nat.reduceLT, Nat.reduceLeDiff, Nat.reduceLT, Int.reduceToNat, Int.reduceLE, Nat.zero_add, ↓reduceIte, eq_self, Bool.false_eq_true, List.contains_cons, List.contains_nil, Nat.reduceBEq, Bool.or_false, Bool.or_true, h10, h9, f2, f3, f4, f5, M9.v, M9.cells]
          intro f hf
          have hf1 : st.sz ≤ f := Nat.le_trans hws.sz hf
          have hxf : x < f := by omega
          have hyf : y < f := by omega
          refine Bo.own trivial ?_
          intro g hg
          have hg1 : st.sz ≤ g := by simp only [put_sz] at hg; omega
          simp (config := {maxSteps := 3000000}) only [ops_app, ev_t, put_get, put_box_same, use_box, vload, takeV, obsOk, List.length_cons, List.length_nil, List.take_succ_cons, List.drop_zero, List.take_nil, and_true, true_and, Nat.reduceEqDiff, Nat.reduceAdd, Nat.reduceLeDiff, Nat.zero_add, ↓reduceIte, eq_self]
          have rb0 : RBm st ((s.put f m.cells).use g 0) (.sl (.own g 13) []) [] := ⟨.inr ⟨g, rfl, by simp [St.use], by simp only [use_sz]; omega⟩, weak_use (weak_put hws hf1) hg1, hls.put.use, fun g' k l h => by cases h; exact hg1⟩
          refine App.mk (l := []) (ys := L10) rb0.own f8 (by simp [maxLen]; omega) (by simp; omega) ?_
          rintro r s1 hown happ
          have rb1 := rb0.app hown happ
          have hfb : s1.box f = some m.cells := by rw [happ.box, use_box]; exact put_box_same
          simp only [M9.cells] at hfb
          simp (config := {maxSteps := 3000000}) only [ops_call, ev_t, ev_c, put_get, vload, takeV, obsOk, List.map_cons, List.map_nil, List.length_cons, List.length_nil, List.take_succ_cons, List.drop_zero, List.take_nil, and_true, true_and, Nat.reduceEqDiff, Nat.reduceAdd, Nat.reduceLeDiff, Nat.zero_add, ↓reduceIte, eq_self, hfb]
          have hcb : s1.box y = some d.cells := by rw [happ.box, use_box, put_box_ne (Nat.ne_of_lt hyf)]; exact hyc
          have gt := ctlTake_v (st := s1) (c := d) (now := 1) hcb (by omega) mok
          simp only [M9.v, M9.cells] at gt
          refine Cal.mk gt ?_
          rintro _ _ ⟨rfl, rfl⟩ -
          simp (config := {maxSteps := 3000000}) only [ops_app, ev_t, put_get, obsOk, true_and, Nat.reduceEqDiff, ↓reduceIte, eq_self]
          have rb2 : RBm st (s1.put y (ctakeC d 1 m).cells) r ([] ++ L10) := ⟨rb1.own.put, weak_put rb1.weak hy1, rb1.lt.put, rb1.tok⟩
          refine App.mk (l := [] ++ L10) (ys := (ctakeM d 1 m).map M9.v) rb2.own (allSz_ms _) (by simp [maxLen]; omega) (by simp; omega) ?_
          rintro r2 s2 hown2 happ2
          have rb3 := rb2.app hown2 happ2
          obtain ⟨tk2, rfl⟩ := hown2.sl
          simp (config := {maxSteps := 3000000}) only [run_reg, at_code_n, at_blk_n, at_rnd_n, ops_nil, ops_mv, ops_bin, ev_t, ev_c, put_get, opv_mk, over_get, rel_mk, vbin, vbinI, norm, obsOk, List.nil_append, true_and, Nat.reduceEqDiff, Int.reduceNeg, ↓reduceIte, eq_self, List.contains_cons, List.contains_nil, Nat.reduceBEq, Bool.or_false, Bool.or_true, h11, List.nil_append]
          repeat (apply And.intro; focus (first | omega | (simp; done)))
          exact ⟨⟨i + 1, _, _, _, _, hm2, by simp, ⟨tk2, by rw [List.map_append, hL10]⟩, ⟨_, rfl⟩, rb3.weak, rb3.lt, by rw [happ2.box, put_box_ne (Nat.ne_of_lt hxy), happ.box, use_box, put_box_ne (Nat.ne_of_lt hxf)]; exact hxc, by rw [happ2.box]; exact put_box_same⟩, by omega⟩
end
end Go.Proofs.Ytogkdcbcmhhhcaa
