/- The laws of streams: contracts. -/
import Derived.Test.YtogkdcbcmhhhcaaVStrm3
namespace Go.Proofs.Ytogkdcbcmhhhcaa
open Go

section
variable {st s s' : St} {c : Nat} {x x' y : V} {l : List V} {size : Nat}
theorem Fed.keeps (h : Fed s s' c x x') (hw : st.weak s) (hc : st.sz ≤ c) (hx : ∀ g k l, x = .sl (.own g k) l → st.sz ≤ g) : st.weak s' :=
  ⟨fun b cs hb => by
      obtain ⟨h1, h2⟩ := hw.box b cs hb
      exact ⟨h.box b cs (by omega) h1, h2⟩, fun g m hg => by
      obtain ⟨h1, h2⟩ := hw.own g m hg
      exact ⟨h.own g m h1 (fun k l e => by have := hx g k l e; omega), h2⟩, Nat.le_trans hw.sz h.sz⟩
theorem Fed.beside (h : Fed s s' c x x') (ho : Own size s y l) (hd : Dj x y) : Own size s' y l := by
  rcases ho with ho | ⟨g, rfl, h1, h2⟩
  · exact .inl ho
  · exact .inr ⟨g, rfl, h.own g _ h1 (fun k l' e => hd g k l' size l e rfl), by have := h.sz; omega⟩
theorem Fed.dj (h : Fed s s' c x x') (ho : Own size s y l) (hd : Dj x y) : Dj x' y := fun g k1 l1 k2 l2 e e' => by
  rcases h.tok g k1 l1 e with ⟨l', e2⟩ | h2
  · exact hd g k1 l' k2 l2 e2 e'
  · have := (ho.tlt g k2 l2 e').1; omega
theorem Fed.fr (h : Fed s s' c x x') (hw : st.sz ≤ s.sz) (hx : ∀ g k l, x = .sl (.own g k) l → st.sz ≤ g) : ∀ g k l, x' = .sl (.own g k) l → st.sz ≤ g := fun g k l e => by
  rcases h.tok g k l e with ⟨l', e'⟩ | h2
  · exact hx g k l' e'
  · omega
end
section
variable {tk : Tk} {st : St} {c : Nat} {x : V} {P : List Int} {why many : Int}
theorem sLeft_v (hbox : st.box c = some [.sl tk (bs P), .sc (.int .i64 why), .sc (.int .i64 many)]) : VCalls Try.prog 44 [ptrV c] st fun r st' => r = .sc (.int .i64 P.length) ∧ st = st' := by
  refine vcalls_enter vc44 (Nat.le_of_ble_eq_true rfl) fun hwf hok => ?_
  show Run _ Vc44.body (.fin (finQ Vc44.res _)) _ _
  unfold Vc44
  simp (config := {maxSteps := 3000000}) only [run_reg, run_seq, run_ret, at_code_n, at_fin_r, ops_nil, ops_mv, ops_fld, ops_load, ops_nilck, ops_len, ev_t, ev_c, put_get, opv_mk, args0, List.getD_cons_zero, vfld, vnil, vlen, vload, takeV, V.cells, ptrV, List.length_cons, List.length_nil, List.getElem?_cons_zero, and_true, true_and, Nat.zero_add, Nat.add_zero, ↓reduceIte, vret, rvAll, rvVal, resv_1, eq_self, reduceCtorEq, hbox, bs_len]
  exact ⟨_, _, Wk.refl _, hwf.weak, rfl, rfl⟩
theorem sWhy_v (hbox : st.box c = some [x, .sc (.int .i64 why), .sc (.int .i64 many)]) : VCalls Try.prog 47 [ptrV c] st fun r st' => r = .sc (.int .i64 why) ∧ st = st' := by
  refine vcalls_enter vc47 (Nat.le_of_ble_eq_true rfl) fun hwf hok => ?_
  show Run _ Vc47.body (.fin (finQ Vc47.res _)) _ _
  unfold Vc47
  simp (config := {maxSteps := 3000000}) only [run_reg, run_seq, run_ret, at_code_n, at_fin_r, ops_nil, ops_mv, ops_fld, ops_load, ops_nilck, ev_t, ev_c, put_get, opv_mk, args0, List.getD_cons_zero, vfld, vnil, vload, takeV, V.cells, ptrV, List.length_cons, List.length_nil, List.getElem?_cons_zero, List.getElem?_cons_succ, and_true, true_and, Nat.zero_add, ↓reduceIte, vret, rvAll, rvVal, resv_1, eq_self, reduceCtorEq, hbox]
  exact ⟨_, _, Wk.refl _, hwf.weak, rfl, rfl⟩
theorem sMany_v (hbox : st.box c = some [x, .sc (.int .i64 why), .sc (.int .i64 many)]) : VCalls Try.prog 48 [ptrV c] st fun r st' => r = .sc (.int .i64 many) ∧ st = st' := by
  refine vcalls_enter vc48 (Nat.le_of_ble_eq_true rfl) fun hwf hok => ?_
  show Run _ Vc48.body (.fin (finQ Vc48.res _)) _ _
  unfold Vc48
  simp (config := {maxSteps := 3000000}) only [run_reg, run_seq, run_ret, at_code_n, at_fin_r, ops_nil, ops_mv, ops_fld, ops_load, ops_nilck, ev_t, ev_c, put_get, opv_mk, args0, List.getD_cons_zero, vfld, vnil, vload, takeV, V.cells, ptrV, List.length_cons, List.length_nil, List.getElem?_cons_zero, List.getElem?_cons_succ, and_true, true_and, Nat.zero_add, ↓reduceIte, vret, rvAll, rvVal, resv_1, eq_self, reduceCtorEq, hbox]
  exact ⟨_, _, Wk.refl _, hwf.weak, rfl, rfl⟩
end
def echo0 : MB := ⟨5, List.replicate 9 0, [[], [], []]⟩
theorem echo0_ok : echo0.Ok0 := ⟨rfl, rfl, by decide, by intro t ht; simp [echo0] at ht; subst ht; exact isB_nil⟩
theorem echo0_okM : okM echo0 = true := by decide
def echoB : List Int := [0, 16, 0, 1, 26, 43, 60, 77, 0, 5, 0, 0, 0, 0, 0, 0]
theorem echo0_bytes : bytesM echo0 = echoB := by decide
theorem echoB_isB : IsB echoB := by
  show ∀ x ∈ echoB, 0 ≤ x ∧ x < 256
  decide
theorem nc1' : ((1 : Nat) : Int) = 1 := rfl
theorem echo_scan1 : scan (echoB.take 8) = ([], echoB.take 8, 0) := scan_short (by decide) (by decide)
theorem echo_scan2 : scan echoB = ([echo0], [], 0) := by
  have := scan_built [echo0] (by intro m hm; simp at hm; subst hm; exact ⟨rfl, rfl, by decide, echo0_okM⟩)
  have e : catM [echo0] = echoB := by simp [catM, echo0_bytes]
  rwa [e] at this
section
variable {st : St}
theorem alive27_v : VCalls Try.prog 45 [] st fun r st' => r = .sc (.bool true) ∧ st = st' := by
  refine vcalls_enter vc45 (Nat.le_of_ble_eq_true rfl) fun hwf hok => ?_
  show Run _ Vc45.body (.fin (finQ Vc45.res _)) _ _
  unfold Vc45
  have hb := fun st : St => refBuild_v (st := st) echo0_ok
  rw [echo0_okM, echo0_bytes] at hb
  simp (config := {maxSteps := 3000000}) only [run_reg, run_seq, at_code_n, ops_nil, ops_mv, ops_bld, ops_call, ev_t, ev_c, put_get, opv_mk, vbld, fillV, splice, V.cells, List.map_cons, List.map_nil, List.length_cons, List.length_nil, List.take_zero, List.drop_succ_cons, List.drop_zero, List.cons_append, List.nil_append, and_true, true_and, Nat.reduceAdd, Nat.reduceLT, Nat.reduceLeDiff, Nat.reduceLT, Nat.zero_add, ↓reduceIte, eq_self]
  refine Cal.mk (hb _) ?_
  rintro _ _ ⟨rfl, rfl⟩ -
  simp (config := {maxSteps := 3000000}) only [run_reg, run_seq, at_code_n, ops_nil, ops_mv, ops_ext, ops_bld, ops_slc, ops_box, ops_call, ev_t, ev_c, put_get, opv_mk, Bx, vbld, vext, vslc, fillV, V.cells, ptrV, obsOk, List.map_cons, List.map_nil, List.length_cons, List.length_nil, List.getElem?_cons_zero, List.getElem?_cons_succ, Option.map_some, Option.map_none, true_and, Nat.reduceEqDiff, Nat.reduceAdd, Int.reduceToNat, Int.reduceLE, Nat.zero_add, ↓reduceIte, ne_eq, not_false_eq_true, eq_self, reduceCtorEq]
  intro c hc
  have hF := fun (s : St) (x : V) (P : List Int) (h1 : s.box c = some [x, .sc (.int .i64 0), .sc (.int .i64 0)]) (h2 : Own 1 s x (bs P)) (h3 : IsB P) (h4 : P.length ≤ 100) => feed_v (tk := .no) (L := echoB.take 8) h1 h2 h3 (echoB_isB.take 8) (by simp; omega) (by omega)
  have hl16 : echoB.length = 16 := rfl
  simp (config := {maxSteps := 3000000}) only [and_true, true_and, Nat.reduceLeDiff, bs_len, bs_take, allSz_bs', hl16]
  repeat (apply And.intro; focus (first | omega | (simp; done)))
  refine Cal.mk (hF _ _ [] put_box_same (.inl ⟨rfl, rfl⟩) isB_nil (by simp)) ?_
  rintro _ s1 ⟨x1, hb1, ho1, hf1, rfl⟩ -
  rw [List.nil_append, echo_scan1] at hb1 ho1 ⊢
  have t1 := hf1.fr (st := st) (by simp only [put_sz]; omega) (by intro g k l e; cases e)
  have w1 : st.weak s1 := hf1.keeps (weak_put hwf.weak hc) hc (by intro g k l e; cases e)
  have hE2 : echoB.take 8 ++ echoB.drop 8 = echoB := List.take_append_drop _ _
  have hF2 := feed_v (st := s1) (tk := .no) (L := echoB.drop 8) hb1 ho1 (echoB_isB.take 8) (echoB_isB.drop 8) (by simp [hl16]) (by simp)
  rw [hE2, echo_scan2] at hF2
  simp (config := {maxSteps := 3000000}) only [run_reg, run_seq, at_code_n, ops_nil, ops_mv, ops_ext, ops_slc, ops_call, ev_t, ev_c, put_get, opv_mk, vext, vslc, obsOk, List.map_cons, List.map_nil, List.getElem?_cons_zero, List.getElem?_cons_succ, Option.map_some, Option.map_none, and_true, true_and, Nat.reduceEqDiff, Nat.reduceLeDiff, Int.reduceToNat, Int.reduceLE, ↓reduceIte, eq_self, bs_len, bs_drop, allSz_bs', hl16]
  repeat (apply And.intro; focus (first | omega | (simp; done)))
  refine Cal.mk hF2 ?_
  rintro _ s2 ⟨x2, hb2, ho2, hf2, rfl⟩ -
  obtain ⟨tk2, hx2⟩ := ho2.sl
  subst hx2
  have w2 : st.weak s2 := hf2.keeps w1 hc t1
  have hm0 : (mv ([] : List MB)) = [] := rfl
  have hm1 : (mv [echo0]).length = 1 := rfl
  simp (config := {maxSteps := 3000000}) only [run_reg, run_seq, at_code_n, ops_nil, ops_grd, grd_tt, ops_mv, ops_pick, ops_bin, ops_ext, ops_len, ops_call, ev_t, ev_c, put_get, opv_mk, vpick, vbin, vbinI, vlen, vext, obsOk, List.map_cons, List.map_nil, List.length_nil, List.getElem?_cons_zero, List.getElem?_cons_succ, true_and, Nat.reduceEqDiff, ↓reduceIte, decide_true, eq_self, hm0, hm1, nc0, nc1']
  refine Cal.mk (sMany_v hb2) ?_
  rintro _ _ ⟨rfl, rfl⟩ -
  simp (config := {maxSteps := 3000000}) only [ops_grd, grd_tt, ops_mv, ops_pick, ops_bin, ops_call, ev_t, ev_c, put_get, opv_mk, vpick, vbin, vbinI, obsOk, List.map_cons, List.map_nil, List.length_cons, List.length_nil, true_and, Nat.reduceEqDiff, Nat.zero_add, ↓reduceIte, decide_true, eq_self, nc0, nc1', List.length_cons, List.length_nil, Int.zero_add]
  refine Cal.mk (sLeft_v hb2) ?_
  rintro _ _ ⟨rfl, rfl⟩ -
  simp (config := {maxSteps := 3000000}) only [run_ret, at_code_n, at_fin_r, ops_nil, ops_grd, grd_tt, ops_mv, ops_pick, ops_bin, ev_t, ev_c, put_get, opv_mk, vpick, vbin, vbinI, obsOk, List.length_nil, and_true, true_and, Nat.reduceEqDiff, ↓reduceIte, vret, rvAll, rvVal, resv_1, decide_true, eq_self, nc0]
  exact ⟨_, _, Wk.refl _, w2, rfl, rfl⟩
/-- Rows of rows of bytes. -/
def bls (LL : List (List Int)) : List V := LL.map fun L => .sl .no (bs L)
theorem bls_len (LL : List (List Int)) : (bls LL).length = LL.length := by simp [bls]
theorem bls_get (LL : List (List Int)) (i : Nat) : (bls LL)[i]? = (LL[i]?).map fun L => .sl .no (bs L) := by simp [bls]
theorem not_ne (n : Int) : decide (¬ n = n) = false := decide_eq_false fun h => h rfl
set_option maxRecDepth 100000 in
set_option maxHeartbeats 4000000 in
theorem streamFeeds_v {tk : Tk} {LL : List (List Int)} (hLL : ∀ L ∈ LL, IsB L) : VCalls Try.prog 10 [.sl tk (bls LL)] st fun r st' => r = .sc (.bool true) ∧ st = st' := by
  refine vcalls_enter vc10 (Nat.le_of_ble_eq_true rfl) fun hwf hok => ?_
  show Run _ Vc10.body (.fin (finQ Vc10.res _)) _ _
  unfold Vc10
  by_cases h40 : 40 < LL.length
  · simp (config := {maxSteps := 3000000}) only [run_reg, run_seq, run_ret, run_cond, if_true, at_code_n, at_code_r, at_fin_r, ops_nil, ops_mv, ops_bin, ops_len, ev_t, ev_c, put_get, opv_mk, args0, List.getD_cons_zero, vbin, vbinI, vlen, and_true, true_and, ↓reduceIte, vret, rvAll, rvVal, resv_1, eq_self, reduceCtorEq, bls_len, decide_eq_true (show (40 : Int) < (LL.length : Int) by omega)]
    exact ⟨_, _, Wk.refl _, hwf.weak, rfl, rfl⟩
  simp (config := {maxSteps := 3000000}) only [run_skip, run_reg, run_seq, run_blk, run_cond, if_false, at_code_n, ops_nil, ops_mv, ops_bin, ops_len, ops_bld, ops_box, ev_t, ev_c, put_get, opv_mk, Bx, vbld, args0, List.getD_cons_zero, vbin, vbinI, vlen, fillV, V.cells, ptrV, obsOk, List.map_nil, List.length_cons, List.length_nil, true_and, Nat.reduceAdd, Nat.zero_add, ↓reduceIte, ne_eq, not_false_eq_true, eq_self, reduceCtorEq, bls_len, decide_eq_false (show ¬ (40 : Int) < (LL.length : Int) by omega)]
  intro c hc
  refine run_loop [2, 4, 5, 6, 7, 8, 9, 10, 11, 12, 18, 19, 20, 21, 22, 23, 24, 25, 26, 27, 28, 29, 30, 31, 32, 33, 34, 35, 36, 37, 38, 39, 40, 41, 42, 43, 44, 45, 46, 47, 48, 49, 50, 51, 52, 53, 54, 55, 56, 57, 58, 59, 60, 61, 62, 63, 64, 65, 66, 67, 68, 69, 70, 71, 72, 73, 74, 75, 76, 77, 78, 79, 80, 81, 82, 83, 84, 85, 86, 87, 88, 89, 90, 91, 92] (fun B s => ∃ (i : Nat) (A R : List Int) (told : List MB) (w : Int) (xc : V), i ≤ LL.length ∧ B 7 = .sc (.int .i64 i) ∧ B 6 = .sc (.int .i64 w) ∧ s.box c = some [xc, .sc (.int .i64 w), .sc (.int .i64 told.length)] ∧
    Own 1 s xc (bs R) ∧ Own 1 s (B 4) (bs A) ∧ Own 13 s (B 5) (mv told) ∧ Dj xc (B 4) ∧ Dj xc (B 5) ∧ Dj (B 4) (B 5) ∧ scan A = (told, R, w) ∧ st.weak s ∧ s.Lt ∧ (∀ g k l, xc = .sl (.own g k) l → st.sz ≤ g) ∧ (∀ g k l, B 4 = .sl (.own g k) l → st.sz ≤ g) ∧ (∀ g k l, B 5 = .sl (.own g k) l → st.sz ≤ g) ∧
    A.length ≤ 400 * i ∧ IsB A) (fun B _ => LL.length - vnat (B 7)) rfl ?_ ?_
  · simp (config := {maxSteps := 3000000}) only [put_get, put_box_same, Nat.reduceEqDiff, ↓reduceIte, eq_self]
    exact ⟨0, [], [], [], 0, _, by omega, rfl, rfl, rfl, .inl ⟨rfl, rfl⟩, .inl ⟨rfl, rfl⟩, .inl ⟨rfl, rfl⟩, .nil _, .nil _, .nil _, rfl, weak_put hwf.weak hc, hwf.lt.put, (by intro g k l e; cases e), (by intro g k l e; cases e), (by intro g k l e; cases e), by simp, isB_nil⟩
  · rintro B s ⟨i, A, R, told, w, xc, hi, h7, h6, hbx, ox, oa, ot, dxa, dxt, dat, hs, hw, hlt2, tx, ta, tt, hAl, hBA⟩
    by_cases hlt : i < LL.length
    · obtain ⟨L, hL⟩ := get_ex hlt
      have hBL := hLL L (List.mem_of_getElem? hL)
      have hlt' := decide_eq_true (show (i : Int) < (LL.length : Int) by omega)
      obtain ⟨tka, ha⟩ := oa.sl
      obtain ⟨tkt, ht⟩ := ot.sl
      rw [ha] at oa dxa dat ta
      rw [ht] at ot dxt dat tt
      have hsl := scan_left A.length A (Nat.le_refl _)
      have hsB := scan_isB A.length A (Nat.le_refl _) hBA
      rw [hs] at hsl hsB
      simp only at hsl hsB
      by_cases h400 : 400 < L.length
      · simp (config := {maxSteps := 3000000}) only [run_skip, run_reg, run_seq, run_blk, run_ret, run_cond, if_true, at_code_n, at_code_r, at_blk_r, at_rnd_r, at_fin_r, ops_nil, ops_mv, ops_bin, ops_ix, ops_load, ops_len, ev_t, ev_c, put_get, opv_mk, over_get, vnat, args0, List.getD_cons_zero, vbin, vbinI, vlen, vix, vload, takeV, V.cells, List.length_cons, List.length_nil, List.getElem?_cons_zero, Option.map_some, and_true, true_and, Nat.reduceEqDiff, Int.toNat_natCast, Nat.zero_add, ↓reduceIte, vret, rvAll, rvVal, resv_1, eq_self, reduceCtorEq, Bool.false_eq_true, List.contains_cons, List.contains_nil, Nat.reduceBEq, Bool.or_false, Bool.or_true, h7, bls_len, bls_get, hL, hlt', bs_len, decide_eq_true (show (400 : Int) < (L.length : Int) by omega)]
        repeat (apply And.intro; focus (first | omega | (simp; done)))
        exact ⟨_, _, Wk.refl _, hw, rfl, rfl⟩
      by_cases hw0 : w = 0
      case neg =>
        have hm0 : (mv ([] : List MB)).length = 0 := rfl
        simp (config := {maxSteps := 3000000}) only [run_skip, run_reg, run_seq, run_blk, run_cond, if_true, if_false, at_code_n, ops_nil, ops_mv, ops_bin, ops_ix, ops_load, ops_len, ops_call, ev_t, ev_c, put_get, opv_mk, over_get, vnat, args0, List.getD_cons_zero, vbin, vbinI, vlen, vix, vload, takeV, V.cells, List.map_cons, List.map_nil, List.length_cons, List.length_nil, List.getElem?_cons_zero, Option.map_some, and_true, true_and, Nat.reduceEqDiff, Int.toNat_natCast, Nat.zero_add, ↓reduceIte, eq_self, reduceCtorEq, Bool.false_eq_true, List.contains_cons, List.contains_nil, Nat.reduceBEq, Bool.or_false, Bool.or_true, h7, bls_len, bls_get, hL, hlt', bs_len, decide_eq_false (show ¬ (400 : Int) < (L.length : Int) by omega)]
        repeat (apply And.intro; focus (first | omega | (simp; done)))
        refine Cal.mk (feedEnd_v hbx hw0) ?_
        rintro _ _ ⟨rfl, rfl⟩ -
        simp (config := {maxSteps := 3000000}) only [run_skip, run_reg, run_seq, run_exit, run_cond, if_true, if_false, at_code_n, at_code_x, at_blk_x, at_rnd_n, ops_nil, ops_grd, grd_ff, ops_mv, ops_pick, ops_bin, ops_ext, ops_len, ev_t, ev_c, put_get, opv_mk, over_get, rel_mk, vpick, vbin, vbinI, norm, vlen, vext, obsOk, List.length_nil, List.getElem?_cons_zero, List.getElem?_cons_succ, true_and, Nat.reduceEqDiff, Int.reduceNeg, ↓reduceIte, decide_false, ne_eq, not_true_eq_false, eq_self, Bool.false_eq_true, List.contains_cons, List.contains_nil, Nat.reduceBEq, Bool.or_false, Bool.or_true, h6, h7, decide_eq_true hw0, nc0, List.length_nil]
        repeat (apply And.intro; focus (first | omega | (simp; done)))
        exact ⟨⟨i + 1, A, R, told, w, xc, by omega, by simp, by first | exact h6 | simp, hbx, ox, by rw [ha]; exact oa, by rw [ht]; exact ot, by rw [ha]; exact dxa, by rw [ht]; exact dxt, by rw [ha, ht]; exact dat, hs, hw, hlt2, tx, by rw [ha]; exact ta, by rw [ht]; exact tt, by omega, hBA⟩, by omega⟩
      subst hw0
      have hsc := scan_app A.length A L (Nat.le_refl _) told R hs
      have hszR := scan_sz (R ++ L).length (R ++ L) (Nat.le_refl _) (hsB.append hBL)
      have hszA := scan_sz A.length A (Nat.le_refl _) hBA
      rw [hs] at hszA
      have hlR := scan_left (R ++ L).length (R ++ L) (Nat.le_refl _)
      rw [List.length_append] at hlR
      have hfd := feed_v (tk := .no) (L := L) hbx ox hsB hBL (by omega) (by omega)
      generalize hq : scan (R ++ L) = q at *
      obtain ⟨ms, R', w'⟩ := q
      simp only at hfd hsc hszR hlR hszA
      simp (config := {maxSteps := 3000000}) only [run_skip, run_reg, run_seq, run_blk, run_cond, if_true, if_false, at_code_n, ops_nil, ops_mv, ops_bin, ops_ix, ops_load, ops_len, ops_call, ev_t, ev_c, put_get, opv_mk, over_get, vnat, args0, List.getD_cons_zero, vbin, vbinI, vlen, vix, vload, takeV, V.cells, List.map_cons, List.map_nil, List.length_cons, List.length_nil, List.getElem?_cons_zero, Option.map_some, and_true, true_and, Nat.reduceEqDiff, Int.toNat_natCast, Nat.zero_add, ↓reduceIte, eq_self, reduceCtorEq, Bool.false_eq_true, List.contains_cons, List.contains_nil, Nat.reduceBEq, Bool.or_false, Bool.or_true, h7, bls_len, bls_get, hL, hlt', bs_len, decide_eq_false (show ¬ (400 : Int) < (L.length : Int) by omega)]
      repeat (apply And.intro; focus (first | omega | (simp; done)))
      refine Cal.mk hfd ?_
      rintro _ s1 ⟨x1, hb1, ho1, hf1, rfl⟩ -
      have w1 := hf1.keeps hw hc tx
      have tx1 := hf1.fr hw.sz tx
      have oa1 := hf1.beside oa dxa
      have ot1 := hf1.beside ot dxt
      have dxa1 := hf1.dj oa dxa
      have dxt1 := hf1.dj ot dxt
      have hlt1 := hf1.lt
      simp (config := {maxSteps := 3000000}) only [run_skip, run_reg, run_seq, run_cond, if_false, at_code_n, ops_nil, ops_mv, ops_bin, ops_ix, ops_load, ops_ext, ops_app, ev_t, ev_c, put_get, opv_mk, over_get, args0, List.getD_cons_zero, vbin, vbinI, vext, vix, vload, takeV, V.cells, obsOk, List.length_cons, List.length_nil, List.getElem?_cons_zero, List.getElem?_cons_succ, Option.map_some, and_true, true_and, Nat.reduceEqDiff, Int.toNat_natCast, Nat.zero_add, ↓reduceIte, decide_false, ne_eq, not_true_eq_false, eq_self, reduceCtorEq, Bool.false_eq_true, List.contains_cons, List.contains_nil, Nat.reduceBEq, Bool.or_false, Bool.or_true, h6, h7, ha, bls_get, hL]
      repeat (apply And.intro; focus (first | omega | (simp; done)))
      refine App.mk oa1 (allSz_bs L) (by rw [bs_len, bs_len]; unfold maxLen; omega) (by rw [bs_len, bs_len]; omega) ?_
      intro r2 s2 k1 k2
      rw [bs_append] at k1
      have w2 : st.weak s2 := k2.keeps w1 ta
      have ta2 := k2.fresh w1.sz ta
      have hb2 := (congrFun k2.box c).trans hb1
      have ox2 := ho1.beside k2 dxa1.symm
      have ot2 := ot1.beside k2 dat
      have dxa2 : Dj x1 r2 := (dxa1.symm.app ho1 k2).symm
      have dat2 : Dj r2 (.sl tkt (mv told)) := dat.app ot1 k2
      have hlt3 := hlt1.app k2
      obtain ⟨tk2, hr2⟩ := k1.sl
      subst hr2
      simp (config := {maxSteps := 3000000}) only [run_reg, run_seq, at_code_n, ops_nil, ops_mv, ops_call, ev_t, put_get, opv_mk, obsOk, List.map_cons, List.map_nil, true_and, ↓reduceIte, eq_self]
      refine Cal.mk (rAll_v (hBA.append hBL) (by simp; omega)) ?_
      rintro _ _ ⟨rfl, rfl⟩ -
      rw [hsc]
      simp (config := {maxSteps := 3000000}) only [run_reg, run_seq, at_code_n, ops_nil, ops_mv, ops_ext, ops_app, ev_t, put_get, opv_mk, over_get, vext, obsOk, List.getElem?_cons_zero, List.getElem?_cons_succ, true_and, Nat.reduceEqDiff, ↓reduceIte, eq_self, List.contains_cons, List.contains_nil, Nat.reduceBEq, Bool.or_false, Bool.or_true, ht]
      refine App.mk ot2 (allSz_mv hszR) (by rw [mv_len, mv_len]; unfold maxLen; omega) (by rw [mv_len, mv_len]; omega) ?_
      intro r3 s3 k3 k4
      rw [mv_append] at k3
      have w3 : st.weak s3 := k4.keeps w2 tt
      have tt3 := k4.fresh w2.sz tt
      have hb3 := (congrFun k4.box c).trans hb2
      have ox3 := ox2.beside k4 dxt1.symm
      have oa3 := k1.beside k4 dat2.symm
      have dxt3 : Dj x1 r3 := (dxt1.symm.app ox2 k4).symm
      have dat3 : Dj (.sl tk2 (bs (A ++ L))) r3 := (dat2.symm.app k1 k4).symm
      have hlt4 := hlt3.app k4
      obtain ⟨tk3, hr3⟩ := k3.sl
      subst hr3
      obtain ⟨tkx, hx1⟩ := ho1.sl
      subst hx1
      simp (config := {maxSteps := 3000000}) only [run_reg, run_seq, at_code_n, ops_nil, ops_mv, ops_call, ev_t, put_get, opv_mk, obsOk, List.map_cons, List.map_nil, true_and, Nat.reduceEqDiff, ↓reduceIte, eq_self]
      refine Cal.mk (eqMs_v (fun m hm => ?_)) ?_
      · rcases List.mem_append.1 hm with hm | hm
        · exact hszA m hm
        · exact hszR m hm
      rintro _ _ ⟨rfl, rfl⟩ -
      simp (config := {maxSteps := 3000000}) only [ops_grd, grd_ff, ops_mv, ops_pick, ops_bin, ops_un, ops_call, ev_t, put_get, opv_mk, over_get, vpick, vbin, vbinI, vun, obsOk, List.map_cons, List.map_nil, true_and, Nat.reduceEqDiff, ↓reduceIte, decide_false, Bool.not_true, ne_eq, not_true_eq_false, eq_self, Bool.false_eq_true, List.contains_cons, List.contains_nil, Nat.reduceBEq, Bool.or_false]
      refine Cal.mk (sLeft_v hb3) ?_
      rintro _ _ ⟨rfl, rfl⟩ -
      simp (config := {maxSteps := 3000000}) only [ops_grd, grd_ff, ops_mv, ops_pick, ops_bin, ops_call, ev_t, put_get, opv_mk, over_get, vpick, vbin, vbinI, obsOk, List.map_cons, List.map_nil, true_and, Nat.reduceEqDiff, ↓reduceIte, decide_false, ne_eq, not_true_eq_false, eq_self, Bool.false_eq_true, List.contains_cons, List.contains_nil, Nat.reduceBEq, Bool.or_false]
      refine Cal.mk (sWhy_v hb3) ?_
      rintro _ _ ⟨rfl, rfl⟩ -
      simp (config := {maxSteps := 3000000}) only [ops_grd, grd_ff, ops_mv, ops_pick, ops_bin, ops_call, ev_t, put_get, opv_mk, over_get, vpick, vbin, vbinI, obsOk, List.map_cons, List.map_nil, true_and, Nat.reduceEqDiff, ↓reduceIte, decide_false, ne_eq, not_true_eq_false, eq_self, Bool.false_eq_true, List.contains_cons, List.contains_nil, Nat.reduceBEq, Bool.or_false]
      refine Cal.mk (sMany_v hb3) ?_
      rintro _ _ ⟨rfl, rfl⟩ -
      have hcnt : (told.length : Int) + (ms.length : Int) = ((told ++ ms).length : Int) := by simp
      rw [hcnt] at hb3 ⊢
      simp (config := {maxSteps := 3000000}) only [run_skip, run_reg, run_cond, if_false, at_code_n, at_blk_n, at_rnd_n, ops_nil, ops_grd, grd_ff, ops_mv, ops_pick, ops_bin, ops_len, ev_t, ev_c, put_get, opv_mk, over_get, rel_mk, vpick, vbin, vbinI, norm, vlen, obsOk, true_and, Nat.reduceEqDiff, Int.reduceNeg, ↓reduceIte, decide_false, ne_eq, not_true_eq_false, eq_self, Bool.false_eq_true, List.contains_cons, List.contains_nil, Nat.reduceBEq, Bool.or_false, Bool.or_true, h7, mv_len]
      repeat (apply And.intro; focus (first | omega | (simp; done)))
      exact ⟨⟨i + 1, A ++ L, R', told ++ ms, w', _, by omega, by simp, by simp, hb3, ox3, oa3, k3, dxa2, dxt3, dat3, hsc, w3, hlt4, tx1, ta2, tt3, by simp; omega, hBA.append hBL⟩, by omega⟩
    · obtain rfl : i = LL.length := by omega
      simp (config := {maxSteps := 3000000}) only [run_reg, run_seq, run_exit, run_cond, if_false, at_code_n, at_code_x, at_blk_x, at_rnd_x, ops_nil, ops_mv, ops_bin, ops_len, ops_call, ev_t, put_get, opv_mk, over_get, vnat, args0, List.getD_cons_zero, vbin, vbinI, vlen, List.map_nil, true_and, Nat.reduceEqDiff, Int.toNat_natCast, ↓reduceIte, decide_false, Int.lt_irrefl, eq_self, reduceCtorEq, Bool.false_eq_true, List.contains_cons, List.contains_nil, Nat.reduceBEq, Bool.or_false, Bool.or_true, h7, bls_len]
      refine Cal.mk alive27_v ?_
      rintro _ _ ⟨rfl, rfl⟩ -
      simp (config := {maxSteps := 3000000}) only [run_ret, at_code_n, at_fin_r, ops_nil, ops_mv, ev_t, put_get, opv_mk, obsOk, and_true, true_and, ↓reduceIte, vret, rvAll, rvVal, resv_1, eq_self]
      exact ⟨_, _, Wk.refl _, hw, rfl, rfl⟩
end
end Go.Proofs.Ytogkdcbcmhhhcaa
