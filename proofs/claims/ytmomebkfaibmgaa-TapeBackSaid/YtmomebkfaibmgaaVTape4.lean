/- Records as bytes: contracts. -/
import Derived.Test.YtmomebkfaibmgaaVTape3
namespace Go.Proofs.Ytmomebkfaibmgaa
open Go

theorem AppSt.transL {a b c : St} {x y z : V} (hw : a.Lt) (h : AppSt a x b y) (k : AppSt b y c z) : AppSt a x c z :=
  ⟨k.box.trans h.box, fun hh => k.lt (h.lt hh), Nat.le_trans h.sz k.sz, fun g m hg hne => k.own g m (h.own g m hg hne) (fun l q e => by
    rcases h.tok g q l e with ⟨l', h2⟩ | h2
    · exact hne l' q h2
    · exact absurd (hw.own g m hg) (by omega)), fun g q l e => by
    rcases k.tok g q l e with ⟨l', h2⟩ | h2
    · rcases h.tok g q l' h2 with h3 | h3
      · exact .inl h3
      · exact .inr h3
    · exact .inr (Nat.le_trans h.sz h2)⟩
/-- The caller's row, grown beside a box. -/
structure Px (st s : St) (b : Nat) (cs : List V) (x r : V) (L : List Int) : Prop where
  own : Own 1 s r (bs L)
  app : AppSt (st.put b cs) x s r
  lt : (st.put b cs).Lt
theorem Px.box {st s : St} {b : Nat} {cs : List V} {x r : V} {L : List Int} (h : Px st s b cs x r L) : s.box b = some cs := by rw [h.app.box]; exact put_box_same
theorem Px.start {st : St} (hwf : st.Wf) {b : Nat} {cs : List V} {x : V} {L : List Int} (ho : Own 1 st x (bs L)) : Px st (st.put b cs) b cs x x L := ⟨ho.put, .same, hwf.lt.put⟩
theorem Px.step {st s s' : St} {b : Nat} {cs : List V} {x r r' : V} {L L' : List Int} (h : Px st s b cs x r L) (ho : Own 1 s' r' (bs L')) (k : AppSt s r s' r') : Px st s' b cs x r' L' := ⟨ho, h.app.transL h.lt k, h.lt⟩
section
variable {P : Program} {st s : St} {b : Nat} {cs : List V} {x y : V} {L M : List Int} {obs : List (Option Nat × X × Nat)} {d : Option Nat} {rest : List VO} {k : Kt} {A : Nat → V} {tk : Tk}
theorem Px.app1 (h : Px st s b cs x y L) (hl : L.length + M.length ≤ 1000000000000) (hk : ∀ r s', Px st s' b cs x r (L ++ M) → obsOk s' A obs ∧ Ops P rest k (putV A d r) s') : App P 1 1 y (.sl tk (bs M)) d obs rest k A s :=
  App.mk h.own (allSz_bs _) (by simp only [bs_len, maxLen]; omega) (by simp only [bs_len]; omega) fun r s' k1 k2 => hk r s' (h.step (by rw [← bs_append]; exact k1) k2)
end
def b3 (a b c : Int) : List V := [.sc (.int .u8 a), .sc (.int .u8 b), .sc (.int .u8 c)]
theorem b3_bs (a b c : Int) : [V.sc (.int .u8 a), V.sc (.int .u8 b), V.sc (.int .u8 c)] = bs [a, b, c] := rfl
/-- A new row beside a box. -/
structure Bn (st s : St) (b : Nat) (cs : List V) (r : V) (L : List Int) : Prop where
  box : s.box b = some cs
  own : Own 1 s r (bs L)
  weak : st.weak s
  lt : s.Lt
  tok : ∀ g k l, r = .sl (.own g k) l → st.sz ≤ g
theorem Bn.first {st s s' : St} {b : Nat} {cs : List V} {r' : V} {L' : List Int} (hb : s.box b = some cs) (hw : st.weak s) (ho : Own 1 s' r' (bs L')) (k : New s s' r') : Bn st s' b cs r' L' :=
  ⟨(k.weak.box b cs hb).1, ho, hw.trans k.weak, k.lt, fun g x l e => by have := k.tok g x l e; have := hw.sz; omega⟩
theorem Bn.app {st s s' : St} {b : Nat} {cs : List V} {r r' : V} {L L' : List Int} (h : Bn st s b cs r L) (ho : Own 1 s' r' (bs L')) (k : AppSt s r s' r') : Bn st s' b cs r' L' :=
  ⟨by rw [k.box]; exact h.box, ho, k.keeps h.weak h.tok, h.lt.app k, k.fresh h.weak.sz h.tok⟩
theorem Bn.new {st s s' : St} {b : Nat} {cs : List V} {r r' : V} {L L' : List Int} (h : Bn st s b cs r L) (ho : Own 1 s' r' (bs L')) (k : New s s' r') : Bn st s' b cs r' L' := .first h.box h.weak ho k
theorem isB3 {a b c : Int} (h0 : 0 ≤ a ∧ a < 256) (h1 : 0 ≤ b ∧ b < 256) (h2 : 0 ≤ c ∧ c < 256) : IsB [a, b, c] := by
  intro x hx
  simp only [List.mem_cons, List.not_mem_nil, or_false] at hx
  rcases hx with rfl | rfl | rfl
  · exact h0
  · exact h1
  · exact h2
theorem al3 (a b c : Int) : allLen 1 (bs [a, b, c]) = True := eq_true (by simp [bs, allLen, V.cells])
theorem fitsB_is {k c n : Int} {z : Nat} (h : fitsB k c n z = true) : 0 ≤ k ∧ k ≤ 255 ∧ 0 ≤ c ∧ c ≤ 255 ∧ 0 ≤ n ∧ n ≤ 4294967295 ∧ (z : Int) ≤ 65535 := by
  rw [fitsB_dec, decide_eq_true_eq] at h
  exact h
section
variable {st : St} {t1 t2 : Tk} {x : V} {L : List Int}
set_option maxRecDepth 100000 in
set_option maxHeartbeats 4000000 in
theorem tPut_v {r : TR} (h : r.right = true) (ha : 0 ≤ r.oa ∧ r.oa ≤ 4294967295) (hx : Own 1 st x (bs L)) (hl : L.length ≤ 100000000) : VCalls Try.prog 27 [x, r.v t1 t2] st fun y st' => Own 1 st' y (bs (L ++ r.out)) ∧ AppSt st x st' y := by
  have ho : r.out = recL r.k r.ek r.ec r.en r.EL r.ok r.oc r.on r.oa r.OL := if_pos h
  have hR := fun st : St => tRight_v (st := st) (t1 := t1) (t2 := t2) h
  rw [ho]
  obtain ⟨k, ek, ec, en, EL, ok, oc, on, oa, OL⟩ := r
  simp only at ha ⊢
  refine vcalls_enter vc27 (Nat.le_of_ble_eq_true rfl) fun hwf hok => ?_
  show Run _ Vc27.body (.fin (finQ Vc27.res _)) _ _
  unfold Vc27
  simp only [TR.v] at hR
  simp (config := {maxSteps := 3000000}) only [run_reg, run_seq, at_code_n, ops_nil, ops_mv, ops_load, ops_box, ops_call, ev_t, ev_c, put_get, opv_mk, Bx, put_box_same, args0, List.getD_cons_zero, List.getD_cons_succ, vload, takeV, V.cells, ptrV, obsOk, List.map_cons, List.map_nil, List.length_cons, List.length_nil, List.take_succ_cons, List.drop_zero, List.take_nil, true_and, Nat.reduceEqDiff, Nat.reduceAdd, Nat.reduceLeDiff, Nat.zero_add, ↓reduceIte, ne_eq, not_false_eq_true, eq_self, reduceCtorEq, TR.v]
  intro b hb
  have P0 := Px.start hwf (b := b) (cs := [.sc (.int .i64 k), .sc (.int .i64 ek), .sc (.int .i64 ec), .sc (.int .i64 en), .sl t1 (bs EL), .sc (.int .i64 ok), .sc (.int .i64 oc), .sc (.int .i64 on), .sc (.int .u32 oa), .sl t2 (bs OL)]) hx
  generalize hs0 : st.put b _ = s0 at P0 ⊢
  refine Cal.mk (hR _) ?_
  rintro _ _ ⟨rfl, rfl⟩ -
  rcases TR.right1 h with ⟨rfl, rfl, rfl, rfl, rfl, h6, h7⟩ | ⟨rfl, rfl, rfl, rfl, h5, h7⟩
  · obtain ⟨g0, g1, g2, g3, g4, g5, g6⟩ := fitsB_is h7
    have m1 : ek % 256 = ek := by omega
    have m2 : ec % 256 = ec := by omega
    have m3 : en % 4294967296 = en := by omega
    have m4 : (EL.length : Int) % 65536 = EL.length := by omega
    simp (config := {maxSteps := 3000000}) only [run_skip, run_reg, run_seq, run_cond, if_true, if_false, at_code_n, ops_nil, ops_mv, ops_bin, ops_un, ops_conv, ops_fld, ops_load, ops_bsl, ops_app, ev_t, ev_c, put_get, opv_mk, vbsl, args0, List.getD_cons_zero, vbin, vbinI, vun, vconv, norm, vfld, vload, takeV, V.cells, strip, strip1, obsOk, List.map_cons, List.map_nil, List.length_cons, List.length_nil, List.getElem?_cons_zero, List.getElem?_cons_succ, true_and, Nat.reduceEqDiff, Nat.reduceAdd, Nat.zero_add, Nat.add_zero, ↓reduceIte, decide_true, Bool.not_true, eq_self, reduceCtorEq, P0.box, m1, m2, b3_bs, al3]
    refine P0.app1 (M := [1, ek, ec]) (by simp only [List.length_cons, List.length_nil]; omega) ?_
    intro r1 s1 P1
    simp (config := {maxSteps := 3000000}) only [run_reg, run_seq, at_code_n, ops_nil, ops_mv, ops_conv, ops_fld, ops_load, ops_len, ops_call, ev_t, put_get, opv_mk, vconv, norm, vfld, vlen, vload, takeV, V.cells, obsOk, List.map_cons, List.map_nil, List.length_cons, List.length_nil, List.getElem?_cons_zero, List.getElem?_cons_succ, true_and, Nat.reduceEqDiff, Nat.reduceAdd, Nat.zero_add, ↓reduceIte, eq_self, reduceCtorEq, P1.box, m3, m4, bs_len]
    refine Cal.mk (Put32_v P1.own (by simp only [List.length_append, List.length_cons, List.length_nil]; omega) (by omega) (by omega)) ?_
    rintro r2 s2 ⟨k1, k2⟩ -
    have P2 := P1.step k1 k2
    simp (config := {maxSteps := 3000000}) only [ops_call, ev_t, put_get, vload, takeV, V.cells, obsOk, List.map_cons, List.map_nil, List.length_cons, List.length_nil, List.getElem?_cons_zero, List.getElem?_cons_succ, and_true, true_and, Nat.reduceEqDiff, Nat.zero_add, ↓reduceIte, eq_self, P2.box]
    refine Cal.mk (Put16_v P2.own (by simp only [List.length_append, List.length_cons, List.length_nil, beL_len]; omega) (by omega) (by omega)) ?_
    rintro r3 s3 ⟨k3, k4⟩ -
    have P3 := P2.step k3 k4
    simp (config := {maxSteps := 3000000}) only [run_reg, run_seq, at_code_n, ops_nil, ops_mv, ops_fld, ops_load, ops_app, ev_t, put_get, opv_mk, vfld, vload, takeV, V.cells, obsOk, List.length_cons, List.length_nil, List.getElem?_cons_zero, List.getElem?_cons_succ, true_and, Nat.reduceEqDiff, Nat.reduceAdd, Nat.zero_add, ↓reduceIte, eq_self, reduceCtorEq, P3.box]
    refine P3.app1 (M := EL) (by simp only [List.length_append, List.length_cons, List.length_nil, beL_len]; omega) ?_
    intro r4 s4 P4
    simp (config := {maxSteps := 3000000}) only [run_ret, at_code_n, at_code_r, at_fin_r, ops_nil, ops_mv, ev_t, put_get, opv_mk, obsOk, and_true, true_and, ↓reduceIte, vret, rvAll, rvVal, resv_1, eq_self]
    obtain ⟨q1, q2⟩ := P4.app.drop hwf hb
    exact ⟨_, _, Wk.refl _, q2, by have o : Own 1 (s4.drop b) _ _ := P4.own; simpa [recL] using o, q1⟩
  · obtain ⟨g0, g1, g2, g3, g4, g5, g6⟩ := fitsB_is h7
    have m1 : ok % 256 = ok := by omega
    have m2 : oc % 256 = oc := by omega
    have m3 : on % 4294967296 = on := by omega
    have m4 : (OL.length : Int) % 65536 = OL.length := by omega
    simp (config := {maxSteps := 3000000}) only [run_skip, run_reg, run_seq, run_cond, if_false, at_code_n, ops_nil, ops_mv, ops_bin, ops_un, ops_conv, ops_fld, ops_load, ops_bsl, ops_app, ev_t, ev_c, put_get, opv_mk, vbsl, args0, List.getD_cons_zero, vbin, vbinI, vun, vconv, norm, vfld, vload, takeV, V.cells, strip, strip1, obsOk, List.map_cons, List.map_nil, List.length_cons, List.length_nil, List.getElem?_cons_zero, List.getElem?_cons_succ, true_and, Nat.reduceEqDiff, Nat.reduceAdd, Int.reduceEq, Nat.zero_add, Nat.add_zero, ↓reduceIte, decide_false, Bool.not_true, eq_self, reduceCtorEq, P0.box, m1, m2, b3_bs, al3]
    refine P0.app1 (M := [2, ok, oc]) (by simp only [List.length_cons, List.length_nil]; omega) ?_
    intro r1 s1 P1
    simp (config := {maxSteps := 3000000}) only [run_reg, run_seq, at_code_n, ops_nil, ops_mv, ops_conv, ops_fld, ops_load, ops_call, ev_t, put_get, opv_mk, vconv, norm, vfld, vload, takeV, V.cells, obsOk, List.map_cons, List.map_nil, List.length_cons, List.length_nil, List.getElem?_cons_zero, List.getElem?_cons_succ, true_and, Nat.reduceEqDiff, Nat.reduceAdd, Nat.zero_add, ↓reduceIte, eq_self, reduceCtorEq, P1.box, m3]
    refine Cal.mk (Put32_v P1.own (by simp only [List.length_append, List.length_cons, List.length_nil]; omega) (by omega) (by omega)) ?_
    rintro r2 s2 ⟨k1, k2⟩ -
    have P2 := P1.step k1 k2
    simp (config := {maxSteps := 3000000}) only [ops_call, ev_t, put_get, vload, takeV, V.cells, obsOk, List.map_cons, List.map_nil, List.length_cons, List.length_nil, List.getElem?_cons_zero, List.getElem?_cons_succ, and_true, true_and, Nat.reduceEqDiff, Nat.zero_add, ↓reduceIte, eq_self, P2.box]
    refine Cal.mk (Put32_v P2.own (by simp only [List.length_append, List.length_cons, List.length_nil, beL_len]; omega) (by omega) (by omega)) ?_
    rintro r3 s3 ⟨k3, k4⟩ -
    have P3 := P2.step k3 k4
    simp (config := {maxSteps := 3000000}) only [run_reg, run_seq, at_code_n, ops_nil, ops_mv, ops_conv, ops_fld, ops_load, ops_len, ops_call, ev_t, put_get, opv_mk, vconv, norm, vfld, vlen, vload, takeV, V.cells, obsOk, List.map_cons, List.map_nil, List.length_cons, List.length_nil, List.getElem?_cons_zero, List.getElem?_cons_succ, true_and, Nat.reduceEqDiff, Nat.reduceAdd, Nat.zero_add, ↓reduceIte, eq_self, reduceCtorEq, P3.box, m4, bs_len]
    refine Cal.mk (Put16_v P3.own (by simp only [List.length_append, List.length_cons, List.length_nil, beL_len]; omega) (by omega) (by omega)) ?_
    rintro r4 s4 ⟨k5, k6⟩ -
    have P4 := P3.step k5 k6
    simp (config := {maxSteps := 3000000}) only [ops_app, ev_t, put_get, vload, takeV, V.cells, obsOk, List.length_cons, List.length_nil, List.getElem?_cons_zero, List.getElem?_cons_succ, and_true, true_and, Nat.reduceEqDiff, Nat.zero_add, ↓reduceIte, eq_self, P4.box]
    refine P4.app1 (M := OL) (by simp only [List.length_append, List.length_cons, List.length_nil, beL_len]; omega) ?_
    intro r5 s5 P5
    simp (config := {maxSteps := 3000000}) only [run_ret, at_code_n, at_fin_r, ops_nil, ops_mv, ev_t, put_get, opv_mk, obsOk, and_true, true_and, ↓reduceIte, vret, rvAll, rvVal, resv_1, eq_self]
    obtain ⟨q1, q2⟩ := P5.app.drop hwf hb
    exact ⟨_, _, Wk.refl _, q2, by have o : Own 1 (s5.drop b) _ _ := P5.own; simpa [recL] using o, q1⟩
set_option maxRecDepth 100000 in
set_option maxHeartbeats 4000000 in
theorem rPut57_v {r : TR} (h : r.right = true) (ha : 0 ≤ r.oa ∧ r.oa ≤ 4294967295) : VCalls Try.prog 16 [r.v t1 t2] st fun y st' => y = .sl .no (bs r.out) ∧ st = st' := by
  have ho : r.out = recL r.k r.ek r.ec r.en r.EL r.ok r.oc r.on r.oa r.OL := if_pos h
  have hR := fun st : St => rRight57_v (st := st) (t1 := t1) (t2 := t2) (r := r)
  rw [h] at hR
  rw [ho]
  obtain ⟨k, ek, ec, en, EL, ok, oc, on, oa, OL⟩ := r
  simp only at ha ⊢
  refine vcalls_enter vc16 (Nat.le_of_ble_eq_true rfl) fun hwf hok => ?_
  show Run _ Vc16.body (.fin (finQ Vc16.res _)) _ _
  unfold Vc16
  simp only [TR.v] at hR
  simp (config := {maxSteps := 3000000}) only [run_reg, run_seq, at_code_n, ops_nil, ops_mv, ops_load, ops_box, ops_call, ev_t, ev_c, put_get, opv_mk, Bx, put_box_same, args0, List.getD_cons_zero, vload, takeV, V.cells, ptrV, obsOk, List.map_cons, List.map_nil, List.length_cons, List.length_nil, List.take_succ_cons, List.drop_zero, List.take_nil, true_and, Nat.reduceEqDiff, Nat.reduceAdd, Nat.reduceLeDiff, Nat.zero_add, ↓reduceIte, ne_eq, not_false_eq_true, eq_self, reduceCtorEq, TR.v]
  intro b hb
  have hw0 := weak_put (cs := [.sc (.int .i64 k), .sc (.int .i64 ek), .sc (.int .i64 ec), .sc (.int .i64 en), .sl t1 (bs EL), .sc (.int .i64 ok), .sc (.int .i64 oc), .sc (.int .i64 on), .sc (.int .u32 oa), .sl t2 (bs OL)]) hwf.weak hb
  have hb0 : (st.put b [.sc (.int .i64 k), .sc (.int .i64 ek), .sc (.int .i64 ec), .sc (.int .i64 en), .sl t1 (bs EL), .sc (.int .i64 ok), .sc (.int .i64 oc), .sc (.int .i64 on), .sc (.int .u32 oa), .sl t2 (bs OL)]).box b = some _ := put_box_same
  generalize hs0 : st.put b _ = s0 at hw0 hb0 ⊢
  refine Cal.mk (hR _) ?_
  rintro _ _ ⟨rfl, rfl⟩ -
  rcases TR.right1 h with ⟨rfl, rfl, rfl, rfl, rfl, h6, h7⟩ | ⟨rfl, rfl, rfl, rfl, h5, h7⟩
  · obtain ⟨g0, g1, g2, g3, g4, g5, g6⟩ := fitsB_is h7
    have m1 : ek % 256 = ek := by omega
    have m2 : ec % 256 = ec := by omega
    have m3 : en % 18446744073709551616 = en := by omega
    have m4 : (EL.length : Int) % 18446744073709551616 = EL.length := by omega
    simp (config := {maxSteps := 3000000}) only [run_skip, run_reg, run_seq, run_cond, if_true, if_false, at_code_n, ops_nil, ops_bin, ops_un, ops_conv, ops_fld, ops_load, ops_bslo, ev_t, ev_c, put_get, opv_mk, vbin, vbinI, vun, vconv, norm, vfld, vload, takeV, V.cells, strip, strip1, obsOk, List.map_cons, List.map_nil, List.length_cons, List.length_nil, List.getElem?_cons_zero, List.getElem?_cons_succ, true_and, Nat.reduceEqDiff, Nat.reduceAdd, Nat.zero_add, Nat.add_zero, ↓reduceIte, decide_true, Bool.not_true, eq_self, hb0, m1, m2, b3_bs]
    refine Bo.own (by simp [bs, allLen, V.cells]) ?_
    intro g hg
    simp (config := {maxSteps := 3000000}) only [ops_conv, ops_fld, ops_load, ops_call, ev_t, ev_c, put_get, opv_mk, use_box, vconv, norm, vfld, vload, takeV, V.cells, obsOk, List.map_cons, List.map_nil, List.length_cons, List.length_nil, List.getElem?_cons_zero, List.getElem?_cons_succ, true_and, Nat.reduceEqDiff, Nat.reduceAdd, Nat.zero_add, ↓reduceIte, eq_self, hb0, m3]
    refine Cal.mk (rPut_v (L := [1, ek, ec]) (size := 4) (isB3 (by omega) (by omega) (by omega)) (by simp) (by omega) (by omega)) ?_
    rintro r1 s1 ⟨k1, k2⟩ -
    rw [if_neg (by omega)] at k1
    have k1 : Own 1 s1 r1 (bs ([1, ek, ec] ++ beL en 4)) := k1
    have I1 : IsB ([1, ek, ec] ++ beL en 4) := (isB3 (by omega) (by omega) (by omega)).append (beL_isB _ _)
    have P1 := Bn.first (by rw [use_box]; exact hb0) (weak_use hw0 (by have := hw0.sz; omega)) k1 k2
    simp (config := {maxSteps := 3000000}) only [run_reg, run_seq, at_code_n, ops_nil, ops_mv, ops_conv, ops_fld, ops_load, ops_len, ops_call, ev_t, ev_c, put_get, opv_mk, vconv, norm, vfld, vlen, vload, takeV, V.cells, obsOk, List.map_cons, List.map_nil, List.length_cons, List.length_nil, List.getElem?_cons_zero, List.getElem?_cons_succ, true_and, Nat.reduceEqDiff, Nat.reduceAdd, Nat.zero_add, ↓reduceIte, eq_self, P1.box, m4, bs_len]
    obtain ⟨tk2, rfl⟩ := k1.sl
    refine Cal.mk (rPut_v (size := 2) I1 (by simp only [List.length_append, List.length_cons, List.length_nil, beL_len]; omega) (by omega) (by omega)) ?_
    rintro r3 s3 ⟨k5, k6⟩ -
    rw [if_neg (by omega)] at k5
    have k5 : Own 1 s3 r3 (bs ([1, ek, ec] ++ beL en 4 ++ beL EL.length 2)) := k5
    have P3 := P1.new k5 k6
    simp (config := {maxSteps := 3000000}) only [ops_app, ev_t, put_get, vload, takeV, V.cells, obsOk, List.length_cons, List.length_nil, List.getElem?_cons_zero, List.getElem?_cons_succ, List.cons_append, List.nil_append, and_true, true_and, Nat.reduceEqDiff, Nat.zero_add, ↓reduceIte, eq_self, P3.box]
    refine App.mk P3.own (allSz_bs _) (by simp only [bs_len, maxLen, List.length_append, List.length_cons, List.length_nil, beL_len]; omega) (by simp only [bs_len, List.length_append, List.length_cons, List.length_nil, beL_len]; omega) ?_
    intro r4 s4 k7 k8
    rw [bs_append] at k7
    have P4 := P3.app k7 k8
    simp (config := {maxSteps := 3000000}) only [run_ret, at_code_n, at_code_r, at_fin_r, ops_nil, ops_mv, ev_t, put_get, opv_mk, obsOk, and_true, true_and, ↓reduceIte, vret, rvAll, rvVal, resv_1, eq_self]
    obtain ⟨tk4, rfl⟩ := k7.sl
    exact ⟨_, _, Wk.no, P4.weak, by simp [recL], rfl⟩
  · obtain ⟨g0, g1, g2, g3, g4, g5, g6⟩ := fitsB_is h7
    have m1 : ok % 256 = ok := by omega
    have m2 : oc % 256 = oc := by omega
    have m3 : on % 18446744073709551616 = on := by omega
    have m4 : (OL.length : Int) % 18446744073709551616 = OL.length := by omega
    have m5 : oa % 18446744073709551616 = oa := by omega
    simp (config := {maxSteps := 3000000}) only [run_skip, run_reg, run_seq, run_cond, if_false, at_code_n, ops_nil, ops_bin, ops_un, ops_conv, ops_fld, ops_load, ops_bslo, ev_t, ev_c, put_get, opv_mk, vbin, vbinI, vun, vconv, norm, vfld, vload, takeV, V.cells, strip, strip1, obsOk, List.map_cons, List.map_nil, List.length_cons, List.length_nil, List.getElem?_cons_zero, List.getElem?_cons_succ, true_and, Nat.reduceEqDiff, Nat.reduceAdd, Int.reduceEq, Nat.zero_add, Nat.add_zero, ↓reduceIte, decide_false, Bool.not_true, eq_self, hb0, m1, m2, b3_bs]
    refine Bo.own (by simp [bs, allLen, V.cells]) ?_
    intro g hg
    simp (config := {maxSteps := 3000000}) only [ops_conv, ops_fld, ops_load, ops_call, ev_t, ev_c, put_get, opv_mk, use_box, vconv, norm, vfld, vload, takeV, V.cells, obsOk, List.map_cons, List.map_nil, List.length_cons, List.length_nil, List.getElem?_cons_zero, List.getElem?_cons_succ, true_and, Nat.reduceEqDiff, Nat.reduceAdd, Nat.zero_add, ↓reduceIte, eq_self, hb0, m3]
    refine Cal.mk (rPut_v (L := [2, ok, oc]) (size := 4) (isB3 (by omega) (by omega) (by omega)) (by simp) (by omega) (by omega)) ?_
    rintro r1 s1 ⟨k1, k2⟩ -
    rw [if_neg (by omega)] at k1
    have k1 : Own 1 s1 r1 (bs ([2, ok, oc] ++ beL on 4)) := k1
    have I1 : IsB ([2, ok, oc] ++ beL on 4) := (isB3 (by omega) (by omega) (by omega)).append (beL_isB _ _)
    have P1 := Bn.first (by rw [use_box]; exact hb0) (weak_use hw0 (by have := hw0.sz; omega)) k1 k2
    obtain ⟨tk1, rfl⟩ := k1.sl
    simp (config := {maxSteps := 3000000}) only [run_reg, run_seq, at_code_n, ops_nil, ops_mv, ops_conv, ops_fld, ops_load, ops_call, ev_t, ev_c, put_get, opv_mk, vconv, norm, vfld, vload, takeV, V.cells, obsOk, List.map_cons, List.map_nil, List.length_cons, List.length_nil, List.getElem?_cons_zero, List.getElem?_cons_succ, List.cons_append, List.nil_append, true_and, Nat.reduceEqDiff, Nat.reduceAdd, Nat.zero_add, ↓reduceIte, eq_self, P1.box, m5]
    refine Cal.mk (rPut_v (size := 4) I1 (by simp only [List.length_cons, beL_len]; omega) (by omega) (by omega)) ?_
    rintro r2 s2 ⟨k3, k4⟩ -
    rw [if_neg (by omega)] at k3
    have k3 : Own 1 s2 r2 (bs ([2, ok, oc] ++ beL on 4 ++ beL oa 4)) := k3
    have I2 : IsB ([2, ok, oc] ++ beL on 4 ++ beL oa 4) := I1.append (beL_isB _ _)
    have P2 := P1.new k3 k4
    clear k1 k2
    have k1 := k3
    simp (config := {maxSteps := 3000000}) only [run_reg, run_seq, at_code_n, ops_nil, ops_mv, ops_conv, ops_fld, ops_load, ops_len, ops_call, ev_t, ev_c, put_get, opv_mk, vconv, norm, vfld, vlen, vload, takeV, V.cells, obsOk, List.map_cons, List.map_nil, List.length_cons, List.length_nil, List.getElem?_cons_zero, List.getElem?_cons_succ, true_and, Nat.reduceEqDiff, Nat.reduceAdd, Nat.zero_add, ↓reduceIte, eq_self, P2.box, m4, bs_len]
    obtain ⟨tk2, rfl⟩ := k1.sl
    refine Cal.mk (rPut_v (size := 2) I2 (by simp only [List.length_append, List.length_cons, List.length_nil, beL_len]; omega) (by omega) (by omega)) ?_
    rintro r3 s3 ⟨k5, k6⟩ -
    rw [if_neg (by omega)] at k5
    have k5 : Own 1 s3 r3 (bs ([2, ok, oc] ++ beL on 4 ++ beL oa 4 ++ beL OL.length 2)) := k5
    have P3 := P2.new k5 k6
    simp (config := {maxSteps := 3000000}) only [ops_app, ev_t, put_get, vload, takeV, V.cells, obsOk, List.length_cons, List.length_nil, List.getElem?_cons_zero, List.getElem?_cons_succ, List.cons_append, List.nil_append, and_true, true_and, Nat.reduceEqDiff, Nat.zero_add, ↓reduceIte, eq_self, P3.box]
    refine App.mk P3.own (allSz_bs _) (by simp only [bs_len, maxLen, List.length_append, List.length_cons, List.length_nil, beL_len]; omega) (by simp only [bs_len, List.length_append, List.length_cons, List.length_nil, beL_len]; omega) ?_
    intro r4 s4 k7 k8
    rw [bs_append] at k7
    have P4 := P3.app k7 k8
    simp (config := {maxSteps := 3000000}) only [run_ret, at_code_n, at_fin_r, ops_nil, ops_mv, ev_t, put_get, opv_mk, obsOk, and_true, true_and, ↓reduceIte, vret, rvAll, rvVal, resv_1, eq_self]
    obtain ⟨tk4, rfl⟩ := k7.sl
    exact ⟨_, _, Wk.no, P4.weak, by simp [recL], rfl⟩
end
end Go.Proofs.Ytmomebkfaibmgaa
