/- be.Put and msg.Build: contracts. -/
import Derived.Test.YtogkdcbcmhhhcaaVMsg4
namespace Go.Proofs.Ytogkdcbcmhhhcaa
open Go

/-- A box, and a row of the call's own beside it. -/
structure Bx1 (st s : St) (b : Nat) (cs : List V) (r : V) (L : List Int) : Prop where
  box : s.box b = some cs
  own : Own 1 s r (bs L)
  weak : st.weak s
  lt : s.Lt
  tok : ∀ g k l, r = .sl (.own g k) l → st.sz ≤ g
section
variable {st s s' : St} {b : Nat} {cs : List V} {r r' x : V} {L M L' : List Int} {tk : Tk} {P : Program} {k : Kt} {A : Nat → V} {d : Option Nat} {obs : List (Option Nat × X × Nat)} {rest : List VO}
theorem Bx1.start (h : st.Wf) (hb : st.sz ≤ b) : Bx1 st (st.put b cs) b cs (.sl .nil []) [] :=
  ⟨put_box_same, Own.nil, weak_put h.weak hb, h.lt.put, fun g k l e => by cases e⟩
theorem Bx1.app (h : Bx1 st s b cs r L) (ho : Own 1 s' r' (bs L')) (k : AppSt s r s' r') : Bx1 st s' b cs r' L' :=
  ⟨by rw [k.box]; exact h.box, ho, k.keeps h.weak h.tok, h.lt.app k, k.fresh h.weak.sz h.tok⟩
theorem Bx1.step (h : Bx1 st s b cs x L) (hl : L.length + M.length ≤ 1000000000000) (hk : ∀ r s', Bx1 st s' b cs r (L ++ M) → obsOk s' A obs ∧ Ops P rest k (putV A d r) s') : App P 1 1 x (.sl tk (bs M)) d obs rest k A s := by
  refine App.mk h.own (allSz_bs _) (by rw [bs_len, bs_len]; unfold maxLen; omega) (by rw [bs_len, bs_len]; omega) ?_
  intro r1 s1 k1 k2
  rw [bs_append] at k1
  exact hk _ _ (h.app k1 k2)
theorem bs_rep (n : Nat) : List.replicate n (V.sc (.int .u8 0)) = bs (List.replicate n 0) := by simp [bs]
theorem AppSt.refl (h : st.Wf) {x : V} : AppSt st x st x := ⟨rfl, fun k => k, Nat.le_refl _, fun g m hg _ => hg, fun g k l e => .inl ⟨l, e⟩⟩
theorem bePut_v {x : V} {n k : Int} (hown : Own 1 st x (bs L)) (hl : L.length ≤ 1000000000) (h0 : 0 ≤ n) (h1 : n < 4294967296) (k0 : 1 ≤ k) (k1 : k ≤ 4) : VCalls Try.prog 91 [x, .sc (.int .u64 n), .sc (.int .i64 k)] st fun r st' => Own 1 st' r (bs (L ++ beL n k.toNat)) ∧ AppSt st x st' r := by
  obtain ⟨m, rfl⟩ : ∃ m : Nat, k = m := ⟨k.toNat, by omega⟩
  rw [Int.toNat_natCast]
  refine vcalls_enter vc91 (Nat.le_of_ble_eq_true rfl) fun hwf hok => ?_
  show Run _ Vc91.body (.fin (finQ Vc91.res _)) _ _
  unfold Vc91
  simp (config := {maxSteps := 3000000}) only [run_skip, run_reg, run_seq, run_blk, run_cond, if_false, at_code_n, ops_nil, ops_grd, grd_ff, ops_mv, ops_pick, ops_bin, ev_t, ev_c, put_get, opv_mk, args0, List.getD_cons_zero, List.getD_cons_succ, vpick, vbin, vbinI, norm, true_and, Nat.reduceEqDiff, Int.reduceNeg, ↓reduceIte, eq_self, Bool.false_eq_true, decide_eq_false (show ¬ (m : Int) < 1 by omega), decide_eq_false (show ¬ (8 : Int) < (m : Int) by omega)]
  repeat (apply And.intro; focus (first | omega | (simp; done)))
  refine run_loop [0, 7, 17, 18, 19, 20, 21, 22, 23, 24, 25, 26, 27, 28] (fun B s => ∃ (j : Nat) (L' : List Int), j ≤ m ∧ B 7 = .sc (.int .i64 ((j : Int) - 1)) ∧ Own 1 s (B 0) (bs L') ∧ AppSt st x s (B 0) ∧ L' ++ beL n j = L ++ beL n m ∧ L'.length ≤ L.length + 8) (fun B _ => vnat (match B 7 with | .sc (.int k z) => .sc (.int k (z + 1)) | v => v)) rfl ?_ ?_
  · simp (config := {maxSteps := 3000000}) only [put_get, args0, List.getD_cons_zero, ↓reduceIte, eq_self, reduceCtorEq]
    exact ⟨m, L, Nat.le_refl _, rfl, hown, .refl hwf, rfl, by omega⟩
  · rintro B s ⟨j, L', hj, h7, ho, ha, he, hll⟩
    cases j with
    | zero =>
      simp only [beL, List.append_nil] at he
      simp (config := {maxSteps := 3000000}) only [run_reg, run_seq, run_exit, run_ret, run_cond, if_false, at_code_n, at_code_x, at_blk_x, at_rnd_x, at_fin_r, ops_nil, ops_mv, ops_bin, ev_t, ev_c, put_get, opv_mk, over_get, vnat, vbin, vbinI, and_true, true_and, Int.reduceToNat, Int.reduceLE, Int.reduceAdd, Int.reduceSub, Int.reduceNeg, ↓reduceIte, vret, rvAll, rvVal, resv_1, decide_false, eq_self, reduceCtorEq, List.contains_cons, List.contains_nil, Nat.reduceBEq, Bool.or_false, Bool.or_true, h7, nc0]
      exact ⟨_, _, Wk.refl _, ha.weak hwf, by rw [← he]; exact ho, ha⟩
    | succ j =>
      have hj4 : j = 0 ∨ j = 1 ∨ j = 2 ∨ j = 3 := by omega
      have ej : (((j + 1 : Nat) : Int) - 1) = (j : Int) := by omega
      rw [ej] at h7
      have hfin : ∀ r1 s1, Own 1 s1 r1 (bs (L' ++ [n / 256 ^ j % 256])) → AppSt s (B 0) s1 r1 → ∃ (j' : Nat) (L'' : List Int), j' ≤ m ∧ ((j : Int) - 1) = ((j' : Int) - 1) ∧ Own 1 s1 r1 (bs L'') ∧ AppSt st x s1 r1 ∧ L'' ++ beL n j' = L ++ beL n m ∧ L''.length ≤ L.length + 8 := fun r1 s1 q1 q2 => by
        refine ⟨j, _, by omega, rfl, q1, AppSt.trans hwf ha q2, ?_, ?_⟩
        · rw [← he, List.append_assoc]; rfl
        · have := congrArg List.length he
          simp only [List.length_append, beL_len] at this
          simp; omega
      rcases hj4 with rfl | rfl | rfl | rfl
      · have hc0 : ((0 : Nat) : Int) = 0 := rfl
        simp (config := {maxSteps := 3000000}) only [run_skip, run_reg, run_seq, run_blk, run_cond, if_true, at_code_n, ops_nil, ops_mv, ops_bin, ops_conv, ops_bsl, ops_app, ev_t, ev_c, put_get, opv_mk, over_get, vnat, vbsl, args0, List.getD_cons_zero, List.getD_cons_succ, vbin, vbinI, vconv, norm, V.cells, strip, strip1, allLen, shAmt, IntKind.bits, List.map_cons, List.map_nil, List.length_cons, List.length_nil, and_true, true_and, Nat.reduceEqDiff, Nat.reduceLeDiff, Int.reduceToNat, Int.reduceLE, Int.reducePow, Int.reduceMul, Int.reduceAdd, Int.reduceNeg, Nat.min_def, Nat.zero_add, ↓reduceIte, decide_true, eq_self, reduceCtorEq, Bool.false_eq_true, List.contains_cons, List.contains_nil, Nat.reduceBEq, Bool.or_false, Bool.or_true, h7, hc0]
        repeat (apply And.intro; focus (first | omega | (simp; done)))
        refine App.mk ho (ys := bs [n / 1 % 256]) (allSz_bs _) (by rw [bs_len, bs_len]; unfold maxLen; simp; omega) (by rw [bs_len, bs_len]; simp; omega) ?_
        intro r1 s1 q1 q2
        rw [bs_append] at q1
        obtain ⟨j', L'', z1, z2, z3⟩ := hfin r1 s1 q1 q2
        simp (config := {maxSteps := 3000000}) only [run_reg, at_code_n, at_blk_n, at_rnd_n, ops_nil, ops_mv, ops_bin, ev_t, ev_c, put_get, opv_mk, over_get, rel_mk, vbin, vbinI, norm, obsOk, and_true, true_and, Nat.reduceEqDiff, Nat.reduceLT, Nat.reduceLT, Int.reduceToNat, Int.reduceLE, Int.reduceAdd, Int.reduceSub, Int.reduceNeg, ↓reduceIte, eq_self, reduceCtorEq, List.contains_cons, List.contains_nil, Nat.reduceBEq, Bool.or_false, Bool.or_true, h7, hc0]
        first | exact ⟨j', L'', z1, by rw [← z2]; rfl, z3⟩ | exact ⟨⟨j', L'', z1, by rw [← z2]; rfl, z3⟩, by omega⟩
      · have hc1 : ((1 : Nat) : Int) = 1 := rfl
        simp (config := {maxSteps := 3000000}) only [run_skip, run_reg, run_seq, run_blk, run_cond, if_true, at_code_n, ops_nil, ops_mv, ops_bin, ops_conv, ops_bsl, ops_app, ev_t, ev_c, put_get, opv_mk, over_get, vnat, vbsl, args0, List.getD_cons_zero, List.getD_cons_succ, vbin, vbinI, vconv, norm, V.cells, strip, strip1, allLen, shAmt, IntKind.bits, List.map_cons, List.map_nil, List.length_cons, List.length_nil, and_true, true_and, Nat.reduceEqDiff, Nat.reduceLeDiff, Int.reduceToNat, Int.reduceLE, Int.reducePow, Int.reduceMul, Int.reduceAdd, Int.reduceNeg, Nat.min_def, Nat.zero_add, ↓reduceIte, decide_true, eq_self, reduceCtorEq, Bool.false_eq_true, List.contains_cons, List.contains_nil, Nat.reduceBEq, Bool.or_false, Bool.or_true, h7, hc1]
        repeat (apply And.intro; focus (first | omega | (simp; done)))
        refine App.mk ho (ys := bs [n / 256 % 256]) (allSz_bs _) (by rw [bs_len, bs_len]; unfold maxLen; simp; omega) (by rw [bs_len, bs_len]; simp; omega) ?_
        intro r1 s1 q1 q2
        rw [bs_append] at q1
        obtain ⟨j', L'', z1, z2, z3⟩ := hfin r1 s1 q1 q2
        simp (config := {maxSteps := 3000000}) only [run_reg, at_code_n, at_blk_n, at_rnd_n, ops_nil, ops_mv, ops_bin, ev_t, ev_c, put_get, opv_mk, over_get, rel_mk, vbin, vbinI, norm, obsOk, and_true, true_and, Nat.reduceEqDiff, Nat.reduceLT, Nat.reduceLT, Int.reduceToNat, Int.reduceLE, Int.reduceAdd, Int.reduceSub, Int.reduceNeg, ↓reduceIte, eq_self, reduceCtorEq, List.contains_cons, List.contains_nil, Nat.reduceBEq, Bool.or_false, Bool.or_true, h7, hc1]
        first | exact ⟨j', L'', z1, by rw [← z2]; rfl, z3⟩ | exact ⟨⟨j', L'', z1, by rw [← z2]; rfl, z3⟩, by omega⟩
      · have hc2 : ((2 : Nat) : Int) = 2 := rfl
        simp (config := {maxSteps := 3000000}) only [run_skip, run_reg, run_seq, run_blk, run_cond, if_true, at_code_n, ops_nil, ops_mv, ops_bin, ops_conv, ops_bsl, ops_app, ev_t, ev_c, put_get, opv_mk, over_get, vnat, vbsl, args0, List.getD_cons_zero, List.getD_cons_succ, vbin, vbinI, vconv, norm, V.cells, strip, strip1, allLen, shAmt, IntKind.bits, List.map_cons, List.map_nil, List.length_cons, List.length_nil, and_true, true_and, Nat.reduceEqDiff, Nat.reduceLeDiff, Int.reduceToNat, Int.reduceLE, Int.reducePow, Int.reduceMul, Int.reduceAdd, Int.reduceNeg, Nat.min_def, Nat.zero_add, ↓reduceIte, decide_true, eq_self, reduceCtorEq, Bool.false_eq_true, List.contains_cons, List.contains_nil, Nat.reduceBEq, Bool.or_false, Bool.or_true, h7, hc2]
        repeat (apply And.intro; focus (first | omega | (simp; done)))
        refine App.mk ho (ys := bs [n / 65536 % 256]) (allSz_bs _) (by rw [bs_len, bs_len]; unfold maxLen; simp; omega) (by rw [bs_len, bs_len]; simp; omega) ?_
        intro r1 s1 q1 q2
        rw [bs_append] at q1
        obtain ⟨j', L'', z1, z2, z3⟩ := hfin r1 s1 q1 q2
        simp (config := {maxSteps := 3000000}) only [run_reg, at_code_n, at_blk_n, at_rnd_n, ops_nil, ops_mv, ops_bin, ev_t, ev_c, put_get, opv_mk, over_get, rel_mk, vbin, vbinI, norm, obsOk, and_true, true_and, Nat.reduceEqDiff, Nat.reduceLT, Nat.reduceLT, Int.reduceToNat, Int.reduceLE, Int.reduceAdd, Int.reduceSub, Int.reduceNeg, ↓reduceIte, eq_self, reduceCtorEq, List.contains_cons, List.contains_nil, Nat.reduceBEq, Bool.or_false, Bool.or_true, h7, hc2]
        first | exact ⟨j', L'', z1, by rw [← z2]; rfl, z3⟩ | exact ⟨⟨j', L'', z1, by rw [← z2]; rfl, z3⟩, by omega⟩
      · have hc3 : ((3 : Nat) : Int) = 3 := rfl
        simp (config := {maxSteps := 3000000}) only [run_skip, run_reg, run_seq, run_blk, run_cond, if_true, at_code_n, ops_nil, ops_mv, ops_bin, ops_conv, ops_bsl, ops_app, ev_t, ev_c, put_get, opv_mk, over_get, vnat, vbsl, args0, List.getD_cons_zero, List.getD_cons_succ, vbin, vbinI, vconv, norm, V.cells, strip, strip1, allLen, shAmt, IntKind.bits, List.map_cons, List.map_nil, List.length_cons, List.length_nil, and_true, true_and, Nat.reduceEqDiff, Nat.reduceLeDiff, Int.reduceToNat, Int.reduceLE, Int.reducePow, Int.reduceMul, Int.reduceAdd, Int.reduceNeg, Nat.min_def, Nat.zero_add, ↓reduceIte, decide_true, eq_self, reduceCtorEq, Bool.false_eq_true, List.contains_cons, List.contains_nil, Nat.reduceBEq, Bool.or_false, Bool.or_true, h7, hc3]
        repeat (apply And.intro; focus (first | omega | (simp; done)))
        refine App.mk ho (ys := bs [n / 16777216 % 256]) (allSz_bs _) (by rw [bs_len, bs_len]; unfold maxLen; simp; omega) (by rw [bs_len, bs_len]; simp; omega) ?_
        intro r1 s1 q1 q2
        rw [bs_append] at q1
        obtain ⟨j', L'', z1, z2, z3⟩ := hfin r1 s1 q1 q2
        simp (config := {maxSteps := 3000000}) only [run_reg, at_code_n, at_blk_n, at_rnd_n, ops_nil, ops_mv, ops_bin, ev_t, ev_c, put_get, opv_mk, over_get, rel_mk, vbin, vbinI, norm, obsOk, and_true, true_and, Nat.reduceEqDiff, Nat.reduceLT, Nat.reduceLT, Int.reduceToNat, Int.reduceLE, Int.reduceAdd, Int.reduceSub, Int.reduceNeg, ↓reduceIte, eq_self, reduceCtorEq, List.contains_cons, List.contains_nil, Nat.reduceBEq, Bool.or_false, Bool.or_true, h7, hc3]
        first | exact ⟨j', L'', z1, by rw [← z2]; rfl, z3⟩ | exact ⟨⟨j', L'', z1, by rw [← z2]; rfl, z3⟩, by omega⟩
/-- The head of a message. -/
def hdrL (size ty : Int) : List Int := beL size 2 ++ beL 1 2 ++ beL 439041101 4 ++ beL ty 2 ++ beL 0 2
def bytesM (m : MB) : List Int := hdrL (sizeT m.ty) m.ty ++ bK (layoutL m.ty) m.N m.T
def okM (m : MB) : Bool := rK (layoutL m.ty) m.N m.T && decide (0 < sizeT m.ty)
theorem hdrL_len (a b : Int) : (hdrL a b).length = 12 := by simp [hdrL, beL_len]
theorem sizeT_le (t : Int) : 0 ≤ sizeT t ∧ sizeT t ≤ 312 := by
  unfold sizeT
  have := layout_sum t
  split <;> omega
theorem okM_ty {m : MB} (h : okM m = true) : 1 ≤ m.ty ∧ m.ty ≤ 15 := by
  unfold okM at h
  rw [Bool.and_eq_true, decide_eq_true_eq] at h
  have := sizeT_pos.1 h.2
  by_cases c : m.ty < 1 ∨ 15 < m.ty
  · exact absurd (layoutL_none c) this
  · omega
theorem sumN_drop (K : List Int) (i : Nat) : sumN (K.take i) + sumN (K.drop i) = sumN K := by
  induction K generalizing i with
  | nil => simp [sumN]
  | cons k K ih =>
    cases i with
    | zero => simp [sumN]
    | succ i => simp only [List.take_succ_cons, List.drop_succ_cons, sumN]; have := ih i; omega
theorem build_v {m : MB} (hm : m.Ok) : VCalls Try.prog 51 [m.v] st fun r st' => r = .sl .no (bs (if okM m then bytesM m else [])) ∧ st = st' := by
  refine vcalls_enter vc51 (Nat.le_of_ble_eq_true rfl) fun hwf hok => ?_
  show Run _ Vc51.body (.fin (finQ Vc51.res _)) _ _
  unfold Vc51
  have hK4 := layout_kOk m.ty
  have hl := layout_len m.ty
  have hcn := layout_cnt m.ty
  have hct := layout_txt m.ty
  have hsm := layout_sum m.ty
  have hL := fun st : St => layout_v (st := st) m.ty
  have hS := fun st : St => msgSize_v (st := st) m.ty
  have hR := fun st : St => right_v (st := st) hm
  have hsz := sizeT_le m.ty
  have hty := okM_ty (m := m)
  change ∀ st : St, VCalls Try.prog _ [m.v] st fun r st' => r = .sc (.bool (okM m)) ∧ st = st' at hR
  obtain ⟨W, hW⟩ : ∃ W, bytesM m = W := ⟨_, rfl⟩
  have hWd := hW
  unfold bytesM at hWd
  rw [hW]
  have hrk : okM m = true → rK (layoutL m.ty) m.N m.T = true := fun h => by unfold okM at h; rw [Bool.and_eq_true] at h; exact h.1
  generalize layoutL m.ty = K at *
  generalize sizeT m.ty = Z at *
  obtain ⟨C, hC⟩ : ∃ C, C = m.cells := ⟨_, rfl⟩
  have hC13 : C.length = 13 := by rw [hC]; exact MB.len hm.n9 hm.t3
  have g0 : C[0]? = some (.sc (.int .i64 m.ty)) := by rw [hC]; rfl
  have gN : ∀ {n : Nat} {x : Int}, m.N[n]? = some x → C[1 + n]? = some (.sc (.int .u32 x)) := fun h => by rw [hC]; exact MB.getN h
  have gT : ∀ {s : Nat} {t : List Int}, m.T[s]? = some t → C[10 + s]? = some (.sc (.string (strOf t))) := fun h => by rw [hC]; exact MB.getT hm.n9 h
  have hv : m.v = .agg C := by rw [hC]; rfl
  have n9 := hm.n9
  have t3 := hm.t3
  have htk : C.take 13 = C := List.take_of_length_le (by omega)
  rw [hv] at hR ⊢
  clear hok
  simp (config := {maxSteps := 3000000}) only [run_reg, run_seq, at_code_n, ops_nil, ops_mv, ops_load, ops_box, ops_call, ev_t, ev_c, put_get, opv_mk, Bx, put_box_same, args0, List.getD_cons_zero, vload, takeV, V.cells, ptrV, obsOk, List.map_cons, List.map_nil, List.drop_zero, true_and, Nat.reduceEqDiff, Nat.reduceLeDiff, Nat.zero_add, ↓reduceIte, ne_eq, not_false_eq_true, eq_self, reduceCtorEq, hC13, htk]
  intro b hb
  refine Cal.mk (hR _) ?_
  rintro _ _ ⟨rfl, rfl⟩ -
  cases hok : okM m
  · simp (config := {maxSteps := 3000000}) only [run_reg, run_seq, run_ret, run_cond, if_true, at_code_n, at_code_r, at_fin_r, ops_nil, ops_mv, ops_un, ev_t, ev_c, put_get, opv_mk, vun, obsOk, and_true, true_and, ↓reduceIte, vret, rvAll, rvVal, resv_1, Bool.not_false, eq_self, Bool.false_eq_true]
    exact ⟨_, _, Wk.no, weak_put hwf.weak hb, rfl, rfl⟩
  have hty := hty hok
  have hrk := hrk hok
  have e1 : Z % 65536 = Z := by omega
  have e2 : m.ty % 65536 = m.ty := by omega
  simp (config := {maxSteps := 3000000}) only [run_skip, run_reg, run_seq, run_cond, if_false, at_code_n, ops_nil, ops_un, ops_fld, ops_load, ops_call, ev_t, put_get, opv_mk, put_box_same, vun, vfld, vload, takeV, V.cells, obsOk, List.map_cons, List.map_nil, List.length_cons, List.length_nil, true_and, Nat.reduceEqDiff, Nat.zero_add, Nat.add_zero, ↓reduceIte, Bool.not_true, eq_self, g0]
  refine Cal.mk (hS _) ?_
  rintro _ _ ⟨rfl, rfl⟩ -
  simp (config := {maxSteps := 3000000}) only [ops_conv, ops_call, ev_t, ev_c, put_get, opv_mk, vconv, norm, obsOk, List.map_cons, List.map_nil, true_and, ↓reduceIte, eq_self, e1]
  refine Cal.mk (Put16_v (L := []) Own.nil (by simp) (by omega) (by omega)) ?_
  rintro r1 s1 ⟨k1, k2⟩ -
  have B1 := (Bx1.start (cs := C) hwf hb).app k1 k2
  simp (config := {maxSteps := 3000000}) only [ops_call, ev_t, ev_c, put_get, obsOk, List.map_cons, List.map_nil, true_and, ↓reduceIte, eq_self]
  refine Cal.mk (Put16_v B1.own (by simp [beL_len]) (by omega) (by omega)) ?_
  rintro r2 s2 ⟨k1, k2⟩ -
  have B2 := B1.app k1 k2
  simp (config := {maxSteps := 3000000}) only [run_reg, run_seq, at_code_n, ops_nil, ops_mv, ops_conv, ops_fld, ops_load, ops_call, ev_t, ev_c, put_get, opv_mk, vconv, norm, vfld, vload, takeV, V.cells, obsOk, List.map_cons, List.map_nil, List.length_cons, List.length_nil, true_and, Nat.reduceEqDiff, Nat.zero_add, Nat.add_zero, ↓reduceIte, eq_self, B2.box, g0, e2]
  refine Cal.mk (Put32_v B2.own (by simp [beL_len]) (by omega) (by omega)) ?_
  rintro r3 s3 ⟨k1, k2⟩ -
  have B3 := B2.app k1 k2
  simp (config := {maxSteps := 3000000}) only [ops_call, ev_t, put_get, vload, takeV, V.cells, obsOk, List.map_cons, List.map_nil, List.length_cons, List.length_nil, and_true, true_and, Nat.reduceEqDiff, Nat.zero_add, ↓reduceIte, eq_self, B3.box, g0]
  refine Cal.mk (Put16_v B3.own (by simp [beL_len]) (by omega) (by omega)) ?_
  rintro r4 s4 ⟨k1, k2⟩ -
  have B4 := B3.app k1 k2
  simp (config := {maxSteps := 3000000}) only [ops_call, ev_t, ev_c, put_get, obsOk, List.map_cons, List.map_nil, true_and, ↓reduceIte, eq_self]
  refine Cal.mk (Put16_v B4.own (by simp [beL_len]) (by omega) (by omega)) ?_
  rintro r5 s5 ⟨k1, k2⟩ -
  have B5 := B4.app k1 k2
  clear k1 k2 B1 B2 B3 B4
  have eh : ([] ++ beL Z 2 ++ beL 1 2 ++ beL 439041101 4 ++ beL m.ty 2 ++ beL 0 2 : List Int) = hdrL Z m.ty := rfl
  rw [eh] at B5
  simp (config := {maxSteps := 3000000}) only [run_reg, run_seq, at_code_n, ops_nil, ops_mv, ops_fld, ops_load, ops_call, ev_t, ev_c, put_get, opv_mk, vfld, vload, takeV, V.cells, obsOk, List.map_cons, List.map_nil, List.length_cons, List.length_nil, true_and, Nat.reduceEqDiff, Nat.zero_add, Nat.add_zero, ↓reduceIte, eq_self, B5.box, g0]
  refine Cal.mk (hL _) ?_
  rintro _ _ ⟨rfl, rfl⟩ -
  simp (config := {maxSteps := 3000000}) only [run_blk, at_code_n, ops_nil, ops_mv, ops_len, ev_t, ev_c, put_get, opv_mk, vlen, obsOk, true_and, ↓reduceIte, eq_self, is_len]
  refine run_loop [3, 4, 5, 7, 28, 29, 30, 31, 32, 33, 34, 35, 36, 37, 38, 39, 40, 41, 42, 43, 44, 45, 46, 47, 48, 49, 50, 51, 52, 53, 54, 55, 56, 57, 58, 59, 60, 61, 62, 63, 64, 65, 66, 67, 68] (fun B s => ∃ (i n q : Nat) (L' : List Int), i ≤ K.length ∧ B 28 = .sc (.int .i64 i) ∧ B 4 = .sc (.int .i64 n) ∧ B 5 = .sc (.int .i64 q) ∧ Bx1 st s b C (B 3) L' ∧ L' ++ bK (K.drop i) (m.N.drop n) (m.T.drop q) = W ∧ rK (K.drop i) (m.N.drop n) (m.T.drop q) = true ∧
    n + (K.drop i).countP isNum ≤ 9 ∧ q + (K.drop i).countP isTxt ≤ 3 ∧ L'.length + sumN (K.drop i) ≤ 400) (fun B _ => K.length - vnat (B 28)) rfl ?_ ?_
  · simp (config := {maxSteps := 3000000}) only [put_get, Nat.reduceEqDiff, ↓reduceIte, eq_self]
    exact ⟨0, 0, 0, _, by omega, by simp, by simp, by simp, B5, hWd, hrk, by simpa using hcn, by simpa using hct, by rw [hdrL_len]; simp; omega⟩
  · rintro B s ⟨i, n, q, L', hi, h28, h4, h5, hB, he, hr, hn, hq, hll⟩
    by_cases hlt : i < K.length
    · obtain ⟨k, hk⟩ := get_ex hlt
      have hkk := hK4 k (List.mem_of_getElem? hk)
      unfold kOk at hkk
      have hlt' := decide_eq_true (show (i : Int) < (K.length : Int) by omega)
      have hsd : K.drop i = k :: K.drop (i + 1) := drop_cons hk
      rw [hsd, List.countP_cons] at hn hq
      rw [hsd] at he hr hll
      simp only [sumN] at hll
      by_cases c1 : k < 0
      · have e1 : isTxt k = false := by simp [isTxt]; omega
        have e2 : isNum k = false := by simp [isNum]; omega
        rw [e2] at hn; rw [e1] at hq
        rw [bK_neg c1, ← List.append_assoc] at he
        rw [rK_neg c1] at hr
        simp (config := {maxSteps := 3000000}) only [run_skip, run_reg, run_seq, run_blk, run_cond, if_true, at_code_n, ops_nil, ops_mv, ops_bin, ops_un, srcX, ops_appx, apx_mk, ops_ix, ops_load, ev_t, ev_c, put_get, opv_mk, over_get, vnat, vbin, vbinI, vun, norm, vix, vload, takeV, V.cells, List.length_cons, List.length_nil, List.getElem?_cons_zero, Option.map_some, and_true, true_and, Nat.reduceEqDiff, Int.toNat_natCast, Int.reduceNeg, Nat.zero_add, ↓reduceIte, eq_self, Bool.false_eq_true, List.contains_cons, List.contains_nil, Nat.reduceBEq, Bool.or_false, Bool.or_true, h28, is_get, hk, hlt', decide_eq_true c1, Int.zero_sub]
        repeat (apply And.intro; focus (first | omega | (simp; done)))
        rw [bs_rep]
        refine hB.step (by first | omega | (simp; omega)) ?_
        intro r6 s6 hB6
        simp (config := {maxSteps := 3000000}) only [run_reg, at_code_n, at_blk_n, at_rnd_n, ops_nil, ops_mv, ops_bin, ev_t, ev_c, put_get, opv_mk, over_get, rel_mk, vbin, vbinI, norm, obsOk, true_and, Nat.reduceEqDiff, Int.reduceNeg, ↓reduceIte, eq_self, List.contains_cons, List.contains_nil, Nat.reduceBEq, Bool.or_false, Bool.or_true, h28, h4, h5]
        repeat (apply And.intro; focus (first | omega | (simp; done)))
        exact ⟨⟨i + 1, n, q, _, by omega, by simp, by first | exact h4 | simp, by first | exact h5 | simp, hB6, he, hr, by simpa using hn, by simpa using hq, by simp; omega⟩, by omega⟩
      have c1' := decide_eq_false c1
      by_cases c2 : 4 < k
      · have e1 : isTxt k = true := by simp [isTxt, c2]
        have e2 : isNum k = false := by simp [isNum]; omega
        rw [e2] at hn; rw [e1] at hq
        simp only [↓reduceIte] at hq
        obtain ⟨t, ht⟩ := get_ex (L := m.T) (i := q) (by omega)
        have tB := hm.tb t (List.mem_of_getElem? ht)
        have gt := gT ht
        have hbl : byL (strOf t) = bs t := byL_strOf tB
        rw [bK_txt c2, headD_drop ht, tail_drop', padT, List.append_assoc, ← List.append_assoc, ← List.append_assoc] at he
        rw [rK_txt c2, headD_drop ht, tail_drop', Bool.and_eq_true] at hr
        obtain ⟨ht1, hr⟩ := hr
        simp only [tOk, Bool.and_eq_true, decide_eq_true_eq] at ht1
        have etn : (k - (t.length : Int)).toNat = k.toNat - t.length := by omega
        simp (config := {maxSteps := 3000000}) only [run_skip, run_reg, run_seq, run_blk, run_cond, if_true, if_false, at_code_n, ops_nil, ops_mv, ops_bin, srcX, ops_appx, apx_mk, ops_fld, ops_ix, ops_ixa, ops_load, ops_slen, ev_t, ev_c, put_get, opv_mk, over_get, vnat, vbin, vbinI, norm, vfld, vslen, vix, vixa, vload, takeV, V.cells, List.length_cons, List.length_nil, List.getElem?_cons_zero, Option.map_some, and_true, true_and, Nat.reduceEqDiff, Int.toNat_natCast, Int.reduceNeg, Nat.zero_add, Nat.mul_one, ↓reduceIte, eq_self, Bool.false_eq_true, List.contains_cons, List.contains_nil, Nat.reduceBEq, Bool.or_false, Bool.or_true, h28, h5, is_get, hk, hlt', c1', decide_eq_true c2, hB.box, gt, hbl, strOf_size]
        repeat (apply And.intro; focus (first | omega | (simp; done)))
        refine hB.step (by first | omega | (simp; omega)) ?_
        intro r6 s6 hB6
        simp (config := {maxSteps := 3000000}) only [srcX, ops_appx, apx_mk, ev_t, put_get, vload, takeV, V.cells, obsOk, List.length_cons, List.length_nil, and_true, true_and, Nat.reduceEqDiff, Nat.zero_add, ↓reduceIte, eq_self, hB6.box, gt, etn]
        repeat (apply And.intro; focus (first | omega | (simp; done)))
        rw [bs_rep]
        refine hB6.step (by first | omega | (simp; omega)) ?_
        intro r7 s7 hB7
        simp (config := {maxSteps := 3000000}) only [run_reg, at_code_n, at_blk_n, at_rnd_n, ops_nil, ops_mv, ops_bin, ev_t, ev_c, put_get, opv_mk, over_get, rel_mk, vbin, vbinI, norm, obsOk, true_and, Nat.reduceEqDiff, Int.reduceNeg, ↓reduceIte, eq_self, List.contains_cons, List.contains_nil, Nat.reduceBEq, Bool.or_false, Bool.or_true, h28, h4, h5]
        repeat (apply And.intro; focus (first | omega | (simp; done)))
        exact ⟨⟨i + 1, n, q + 1, _, by omega, by simp, by first | exact h4 | simp, by simp, hB7, he, hr, by simpa using hn, by omega, by simp; omega⟩, by omega⟩
      · have e1 : isTxt k = false := by simp [isTxt]; omega
        have e2 : isNum k = true := by simp [isNum]; omega
        rw [e2] at hn; rw [e1] at hq
        simp only [↓reduceIte] at hn
        obtain ⟨x, hx⟩ := get_ex (L := m.N) (i := n) (by omega)
        have xr := hm.nr x (List.mem_of_getElem? hx)
        have gx := gN hx
        have ex : x % 18446744073709551616 = x := by omega
        rw [bK_num (by omega) (by omega), headD_drop hx, tail_drop', ← List.append_assoc] at he
        rw [rK_num (by omega) (by omega), headD_drop hx, tail_drop', Bool.and_eq_true] at hr
        simp (config := {maxSteps := 3000000}) only [run_skip, run_reg, run_seq, run_blk, run_cond, if_true, if_false, at_code_n, ops_nil, ops_mv, ops_bin, ops_conv, ops_fld, ops_ix, ops_ixa, ops_load, ops_call, ev_t, ev_c, put_get, opv_mk, over_get, vnat, vbin, vbinI, vconv, norm, vfld, vix, vixa, vload, takeV, V.cells, List.map_cons, List.map_nil, List.length_cons, List.length_nil, List.getElem?_cons_zero, Option.map_some, and_true, true_and, Nat.reduceEqDiff, Int.toNat_natCast, Nat.zero_add, Nat.mul_one, ↓reduceIte, eq_self, Bool.false_eq_true, List.contains_cons, List.contains_nil, Nat.reduceBEq, Bool.or_false, Bool.or_true, h28, h4, is_get, hk, hlt', c1', decide_eq_false c2, hB.box, gx, ex]
        repeat (apply And.intro; focus (first | omega | (simp; done)))
        refine Cal.mk (bePut_v hB.own (by omega) (by omega) (by omega) (by omega) (by omega)) ?_
        rintro r6 s6 ⟨q1, q2⟩ -
        have hB6 := hB.app q1 q2
        simp (config := {maxSteps := 3000000}) only [run_reg, at_code_n, at_blk_n, at_rnd_n, ops_nil, ops_mv, ops_bin, ev_t, ev_c, put_get, opv_mk, over_get, rel_mk, vbin, vbinI, norm, obsOk, true_and, Nat.reduceEqDiff, Int.reduceNeg, ↓reduceIte, eq_self, List.contains_cons, List.contains_nil, Nat.reduceBEq, Bool.or_false, Bool.or_true, h28, h4, h5]
        repeat (apply And.intro; focus (first | omega | (simp; done)))
        exact ⟨⟨i + 1, n + 1, q, _, by omega, by simp, by simp, by first | exact h5 | simp, hB6, he, hr.2, by omega, by simpa using hq, by simp [beL_len]; omega⟩, by omega⟩
    · obtain rfl : i = K.length := by omega
      rw [List.drop_of_length_le (Nat.le_refl _), bK_nil, List.append_nil] at he
      subst he
      obtain ⟨tk2, h3⟩ := hB.own.sl
      simp (config := {maxSteps := 3000000}) only [run_reg, run_seq, run_exit, run_ret, run_cond, if_false, at_code_n, at_code_x, at_blk_x, at_rnd_x, at_fin_r, ops_nil, ops_mv, ops_bin, ev_t, put_get, opv_mk, over_get, vnat, vbin, vbinI, and_true, true_and, Nat.reduceEqDiff, Int.toNat_natCast, ↓reduceIte, vret, rvAll, rvVal, resv_1, decide_false, Int.lt_irrefl, eq_self, Bool.false_eq_true, List.contains_cons, List.contains_nil, Nat.reduceBEq, Bool.or_false, Bool.or_true, h28, h3]
      exact ⟨_, _, Wk.no, hB.weak, rfl, rfl⟩
end
end Go.Proofs.Ytogkdcbcmhhhcaa
