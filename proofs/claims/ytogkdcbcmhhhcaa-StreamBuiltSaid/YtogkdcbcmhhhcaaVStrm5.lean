/- StreamBuilt: contract. -/
import Derived.Test.YtogkdcbcmhhhcaaVStrm4
namespace Go.Proofs.Ytogkdcbcmhhhcaa
open Go

theorem catM_snoc : ∀ (l : List MB) (m : MB), catM (l ++ [m]) = catM l ++ bytesM m
  | [], m => by simp [catM]
  | x :: l, m => by rw [List.cons_append, catM, catM_snoc l m, catM, List.append_assoc]
theorem bytesM_le {m : MB} (h : okM m = true) : (bytesM m).length ≤ 400 := by
  have := bytesM_len h
  have := sizeT_le m.ty
  omega
theorem catM_isB : ∀ (l : List MB), (∀ m ∈ l, m.Ok0) → IsB (catM l)
  | [], _ => isB_nil
  | m :: l, h => (bytesM_isB (h m (by simp)).tb).append (catM_isB l fun x hx => h x (by simp [hx]))
section
variable {tk tk' : Tk} {st : St}
set_option maxRecDepth 100000 in
set_option maxHeartbeats 4000000 in
theorem streamBuilt_v {l : List MB} (hl0 : ∀ m ∈ l, m.Ok0) {cuts : List Int} (hcr : ∀ x ∈ cuts, -9223372036854775808 ≤ x ∧ x ≤ 9223372036854775807) : VCalls Try.prog 9 [.sl tk (mv l), .sl tk' (is cuts)] st fun r st' => r = .sc (.bool true) ∧ st = st' := by
  refine vcalls_enter vc9 (Nat.le_of_ble_eq_true rfl) fun hwf hok => ?_
  show Run _ Vc9.body (.fin (finQ Vc9.res _)) _ _
  unfold Vc9
  by_cases h20 : 20 < l.length
  · simp (config := {maxSteps := 3000000}) only [run_reg, run_seq, run_ret, run_cond, if_true, at_code_n, at_code_r, at_fin_r, ops_nil, ops_grd, grd_tf, ops_mv, ops_pick, ops_bin, ops_len, ev_t, ev_c, put_get, opv_mk, args0, List.getD_cons_zero, vpick, vbin, vbinI, vlen, and_true, true_and, Nat.reduceEqDiff, ↓reduceIte, vret, rvAll, rvVal, resv_1, eq_self, reduceCtorEq, mv_len, decide_eq_true (show (20 : Int) < (l.length : Int) by omega)]
    exact ⟨_, _, Wk.refl _, hwf.weak, rfl, rfl⟩
  have h20' := decide_eq_false (show ¬ (20 : Int) < (l.length : Int) by omega)
  by_cases h50 : 50 < cuts.length
  · simp (config := {maxSteps := 3000000}) only [run_reg, run_seq, run_ret, run_cond, if_true, at_code_n, at_code_r, at_fin_r, ops_nil, ops_grd, grd_ff, ops_mv, ops_pick, ops_bin, ops_len, ev_t, ev_c, put_get, opv_mk, args0, List.getD_cons_zero, List.getD_cons_succ, vpick, vbin, vbinI, vlen, and_true, true_and, Nat.reduceEqDiff, ↓reduceIte, vret, rvAll, rvVal, resv_1, eq_self, reduceCtorEq, Bool.false_eq_true, mv_len, is_len, h20', decide_eq_true (show (50 : Int) < (cuts.length : Int) by omega)]
    exact ⟨_, _, Wk.refl _, hwf.weak, rfl, rfl⟩
  simp (config := {maxSteps := 3000000}) only [run_skip, run_reg, run_seq, run_blk, run_cond, if_false, at_code_n, ops_nil, ops_grd, grd_ff, ops_mv, ops_pick, ops_bin, ops_len, ev_t, ev_c, put_get, opv_mk, args0, List.getD_cons_zero, List.getD_cons_succ, vpick, vbin, vbinI, vlen, true_and, Nat.reduceEqDiff, ↓reduceIte, eq_self, reduceCtorEq, Bool.false_eq_true, mv_len, is_len, h20', decide_eq_false (show ¬ (50 : Int) < (cuts.length : Int) by omega)]
  refine run_loop [4, 5, 6, 7, 8, 23, 24, 25, 26, 27, 28, 29, 30, 31, 32, 33, 34, 35, 36, 37, 38, 39, 40, 41] (fun B s => ∃ i : Nat, i ≤ l.length ∧ B 6 = .sc (.int .i64 i) ∧ Own 1 s (B 5) (bs (catM (l.take i))) ∧ New st s (B 5) ∧ (∀ m ∈ l.take i, okM m = true) ∧ (catM (l.take i)).length ≤ 400 * i) (fun B _ => l.length - vnat (B 6)) rfl ?_ ?_
  · simp (config := {maxSteps := 3000000}) only [put_get, Nat.reduceEqDiff, ↓reduceIte, eq_self]
    exact ⟨0, by omega, rfl, .inl ⟨rfl, rfl⟩, .nil hwf.weak hwf.lt, (by intro m hm; simp at hm), by simp [catM]⟩
  · rintro B s ⟨i, hi, h6, ho, hn, hall, hlen⟩
    by_cases hlt : i < l.length
    · obtain ⟨m, hm⟩ := get_ex hlt
      have hm0 := hl0 m (List.mem_of_getElem? hm)
      have hC13 : m.cells.length = 13 := MB.len hm0.n9 hm0.t3
      have htk : m.cells.take 13 = m.cells := List.take_of_length_le (by omega)
      have hv : m.v = .agg m.cells := rfl
      have hRB := fun st : St => refBuild_v (st := st) hm0
      have hsn : l.take (i + 1) = l.take i ++ [m] := by rw [List.take_add_one, hm]; rfl
      rw [hv] at hRB
      simp (config := {maxSteps := 3000000}) only [run_skip, run_reg, run_seq, run_blk, run_cond, if_true, at_code_n, ops_nil, ops_mv, ops_bin, ops_ix, ops_load, ops_len, ops_call, ev_t, put_get, opv_mk, over_get, vnat, args0, List.getD_cons_zero, vbin, vbinI, vlen, vix, vload, takeV, V.cells, List.map_cons, List.map_nil, List.drop_zero, Option.map_some, and_true, true_and, Nat.reduceEqDiff, Nat.reduceLeDiff, Int.toNat_natCast, Nat.zero_add, ↓reduceIte, eq_self, reduceCtorEq, Bool.false_eq_true, List.contains_cons, List.contains_nil, Nat.reduceBEq, Bool.or_false, Bool.or_true, h6, mv_len, mv_get, hm, hv, hC13, htk, decide_eq_true (show (i : Int) < (l.length : Int) by omega)]
      repeat (apply And.intro; focus (first | omega | (simp; done)))
      refine Cal.mk (hRB _) ?_
      rintro _ _ ⟨rfl, rfl⟩ -
      cases hok : okM m
      · simp (config := {maxSteps := 3000000}) only [run_reg, run_seq, run_ret, run_cond, if_true, at_code_n, at_code_r, at_blk_r, at_rnd_r, at_fin_r, ops_nil, ops_mv, ops_un, ops_ext, ev_t, ev_c, put_get, opv_mk, vun, vext, obsOk, List.getElem?_cons_zero, List.getElem?_cons_succ, and_true, true_and, Nat.reduceEqDiff, ↓reduceIte, vret, rvAll, rvVal, resv_1, Bool.not_false, eq_self, Bool.false_eq_true]
        exact ⟨_, _, Wk.refl _, hn.weak, rfl, rfl⟩
      · have hbl := bytesM_le hok
        simp (config := {maxSteps := 3000000}) only [run_skip, run_reg, run_seq, run_cond, if_false, at_code_n, ops_nil, ops_mv, ops_un, ops_ext, ops_app, ev_t, put_get, opv_mk, over_get, vun, vext, obsOk, List.getElem?_cons_zero, List.getElem?_cons_succ, true_and, Nat.reduceEqDiff, ↓reduceIte, Bool.not_true, eq_self, List.contains_cons, List.contains_nil, Nat.reduceBEq, Bool.or_false, Bool.or_true]
        refine App.mk ho (allSz_bs _) (by rw [bs_len, bs_len]; unfold maxLen; omega) (by rw [bs_len, bs_len]; omega) ?_
        intro r1 s1 k1 k2
        rw [bs_append] at k1
        rw [← catM_snoc, ← hsn] at k1
        simp (config := {maxSteps := 3000000}) only [run_reg, at_code_n, at_blk_n, at_rnd_n, ops_nil, ops_mv, ops_bin, ev_t, ev_c, put_get, opv_mk, over_get, rel_mk, vbin, vbinI, norm, obsOk, true_and, Nat.reduceEqDiff, Int.reduceNeg, ↓reduceIte, eq_self, List.contains_cons, List.contains_nil, Nat.reduceBEq, Bool.or_false, Bool.or_true, h6]
        repeat (apply And.intro; focus (first | omega | (simp; done)))
        refine ⟨⟨i + 1, by omega, by simp, k1, hn.app k2, ?_, by rw [hsn, catM_snoc, List.length_append]; omega⟩, by omega⟩
        intro x hx
        rw [hsn] at hx
        rcases List.mem_append.1 hx with hx | hx
        · exact hall x hx
        · simp at hx; subst hx; exact hok
    · obtain rfl : i = l.length := by omega
      rw [List.take_of_length_le (Nat.le_refl _)] at ho hall hlen
      have hscan := scan_built l fun m hm => ⟨(hl0 m hm).n9, (hl0 m hm).t3, fun x hx => ((hl0 m hm).nr x hx).1, hall m hm⟩
      have hBD := catM_isB l hl0
      have hsz : ∀ m ∈ l, Sz m := fun m hm => ⟨(hl0 m hm).n9, (hl0 m hm).t3⟩
      generalize catM l = D at *
      obtain ⟨tkd, hd⟩ := ho.sl
      have hw0 := hn.weak
      have hlt0 := hn.lt
      simp (config := {maxSteps := 3000000}) only [run_reg, run_seq, run_blk, run_exit, run_cond, if_false, at_code_n, at_code_x, at_blk_x, at_rnd_x, ops_nil, ops_mv, ops_bin, ops_len, ops_bld, ops_box, ev_t, ev_c, put_get, opv_mk, over_get, vnat, Bx, vbld, args0, List.getD_cons_zero, vbin, vbinI, vlen, fillV, V.cells, ptrV, obsOk, List.map_nil, List.length_cons, List.length_nil, true_and, Nat.reduceEqDiff, Nat.reduceAdd, Int.toNat_natCast, Nat.zero_add, ↓reduceIte, decide_false, Int.lt_irrefl, ne_eq, not_false_eq_true, eq_self, reduceCtorEq, Bool.false_eq_true, List.contains_cons, List.contains_nil, Nat.reduceBEq, Bool.or_false, Bool.or_true, h6, mv_len]
      intro c hc
      have hc1 : st.sz ≤ c := by have := hw0.sz; omega
      refine run_loop [4, 5, 10, 11, 12, 13, 14, 44, 45, 46, 47, 48, 49, 50, 51, 52, 53, 54, 55, 56, 57, 58, 59, 60, 61, 62, 63, 64, 65, 66, 67, 68, 69, 70, 71, 72, 73, 74, 75, 76, 77, 78] (fun B s => ∃ (i : Nat) (F G R : List Int) (told : List MB) (xc : V) (tkg : Tk), B 11 = .sc (.int .i64 i) ∧ B 5 = .sl tkg (bs G) ∧ F ++ G = D ∧ scan F = (told, R, 0) ∧ (i ≤ cuts.length ∨ G = []) ∧ i ≤ cuts.length + 1 ∧
        s.box c = some [xc, .sc (.int .i64 0), .sc (.int .i64 told.length)] ∧ Own 1 s xc (bs R) ∧ Own 13 s (B 10) (mv told) ∧ Dj xc (B 10) ∧ st.weak s ∧ s.Lt ∧ (∀ g k l, xc = .sl (.own g k) l → st.sz ≤ g) ∧ (∀ g k l, B 10 = .sl (.own g k) l → st.sz ≤ g)) (fun B _ => cuts.length + 2 - vnat (B 11)) rfl ?_ ?_
      · simp (config := {maxSteps := 3000000}) only [put_get, over_get, put_box_same, Nat.reduceEqDiff, ↓reduceIte, eq_self, List.contains_cons, List.contains_nil, Nat.reduceBEq, Bool.or_false, Bool.or_true, hd]
        exact ⟨0, [], D, [], [], _, tkd, rfl, rfl, rfl, rfl, by omega, by omega, rfl, .inl ⟨rfl, rfl⟩, .inl ⟨rfl, rfl⟩, .nil _, weak_put hw0 hc1, hlt0.put, (by intro g k l e; cases e), (by intro g k l e; cases e)⟩
      · rintro B2 s2 ⟨i, F, G, R, told, xc, tkg, h11, h5, hFG, hs, hi1, hi2, hbx, ox, ot, dxt, hw, hl2, tx, tt⟩
        obtain ⟨tkt, ht⟩ := ot.sl
        rw [ht] at ot dxt tt
        have hBF : IsB F := by have := hBD.take F.length; rw [← hFG, List.take_append_of_le_length (Nat.le_refl _), List.take_of_length_le (Nat.le_refl _)] at this; exact this
        have hBG : IsB G := by have := hBD.drop F.length; rw [← hFG, List.drop_append_of_le_length (Nat.le_refl _), List.drop_of_length_le (Nat.le_refl _), List.nil_append] at this; exact this
        have hFl : F.length + G.length ≤ 8000 := by have := congrArg List.length hFG; rw [List.length_append] at this; omega
        by_cases hG : G.length = 0
        · have hG0 : G = [] := List.eq_nil_of_length_eq_zero hG
          subst hG0
          rw [List.append_nil] at hFG
          subst hFG
          rw [hscan] at hs
          simp only [Prod.mk.injEq, and_true] at hs
          obtain ⟨rfl, rfl⟩ := hs
          obtain ⟨tkx, hx1⟩ := ox.sl
          subst hx1
          simp (config := {maxSteps := 3000000}) only [run_reg, run_seq, run_exit, run_cond, if_false, at_code_n, at_code_x, at_blk_x, at_rnd_x, ops_nil, ops_mv, ops_bin, ops_len, ops_call, ev_t, ev_c, put_get, opv_mk, over_get, vnat, args0, List.getD_cons_zero, vbin, vbinI, vlen, List.map_cons, List.map_nil, List.length_nil, true_and, Nat.reduceEqDiff, Int.toNat_natCast, ↓reduceIte, decide_false, Int.lt_irrefl, eq_self, reduceCtorEq, Bool.false_eq_true, List.contains_cons, List.contains_nil, Nat.reduceBEq, Bool.or_false, Bool.or_true, h11, h5, ht, bs_len, List.length_nil, nc0]
          refine Cal.mk (eqMs_v hsz) ?_
          rintro _ _ ⟨rfl, rfl⟩ -
          simp (config := {maxSteps := 3000000}) only [ops_grd, grd_tt, ops_mv, ops_call, ev_t, put_get, opv_mk, over_get, obsOk, List.map_cons, List.map_nil, true_and, Nat.reduceEqDiff, ↓reduceIte, eq_self, Bool.false_eq_true, List.contains_cons, List.contains_nil, Nat.reduceBEq, Bool.or_false]
          refine Cal.mk (sLeft_v hbx) ?_
          rintro _ _ ⟨rfl, rfl⟩ -
          simp (config := {maxSteps := 3000000}) only [ops_grd, grd_tt, ops_mv, ops_pick, ops_bin, ops_call, ev_t, ev_c, put_get, opv_mk, vpick, vbin, vbinI, obsOk, List.map_nil, List.length_nil, true_and, Nat.reduceEqDiff, ↓reduceIte, decide_true, eq_self, List.length_nil, nc0]
          refine Cal.mk alive27_v ?_
          rintro _ _ ⟨rfl, rfl⟩ -
          simp (config := {maxSteps := 3000000}) only [run_ret, at_code_n, at_fin_r, ops_nil, ops_mv, ops_pick, ev_t, put_get, opv_mk, vpick, obsOk, and_true, true_and, Nat.reduceEqDiff, ↓reduceIte, vret, rvAll, rvVal, resv_1, eq_self]
          exact ⟨_, _, Wk.refl _, hw, rfl, rfl⟩
        have hgp := decide_eq_true (show (0 : Int) < (G.length : Int) by omega)
        have hi3 : i ≤ cuts.length := by
          rcases hi1 with h | h
          · exact h
          · rw [h] at hG; exact absurd rfl hG
        have hsl := scan_left F.length F (Nat.le_refl _)
        have hsB := scan_isB F.length F (Nat.le_refl _) hBF
        rw [hs] at hsl hsB
        simp only at hsl hsB
        have main : ∀ n : Nat, n ≤ G.length → ∃ ms R', scan (R ++ G.take n) = (ms, R', 0) ∧ scan (F ++ G.take n) = (told ++ ms, R', 0) ∧ (∀ m ∈ ms, Sz m) ∧ ms.length ≤ 1000 := fun n hn => by
          have h1 := scan_app F.length F (G.take n) (Nat.le_refl _) told R hs
          have h2 := scan_part (F ++ G.take n).length (F ++ G.take n) (G.drop n) l [] (Nat.le_refl _) (by rw [List.append_assoc, List.take_append_drop, hFG]; exact hscan)
          have h3 := scan_sz (R ++ G.take n).length (R ++ G.take n) (Nat.le_refl _) (hsB.append (hBG.take n))
          have h4 := scan_left (R ++ G.take n).length (R ++ G.take n) (Nat.le_refl _)
          rw [List.length_append, List.length_take] at h4
          rw [h1] at h2
          simp only at h2
          refine ⟨(scan (R ++ G.take n)).1, (scan (R ++ G.take n)).2.1, ?_, ?_, h3, by omega⟩
          · exact Prod.ext rfl (Prod.ext rfl h2)
          · rw [h1]; exact Prod.ext rfl (Prod.ext rfl h2)
        by_cases hcu : i < cuts.length
        · obtain ⟨x, hx⟩ := get_ex (L := cuts) (i := i) hcu
          have hxr := hcr x (List.mem_of_getElem? hx)
          obtain ⟨n, hmn⟩ : ∃ n : Nat, min (max x 0) (G.length : Int) = n := ⟨(min (max x 0) (G.length : Int)).toNat, by omega⟩
          have hn : n ≤ G.length := by omega
          obtain ⟨ms, R', m1, m2, m3, m4⟩ := main n hn
          have hfd := feed_v (tk := .no) (L := G.take n) hbx ox hsB (hBG.take n) (by simp; omega) (by omega)
          rw [m1] at hfd
          simp only at hfd
          simp (config := {maxSteps := 3000000}) only [run_skip, run_reg, run_seq, run_blk, run_cond, if_true, at_code_n, ops_nil, ops_mv, ops_bin, ops_ix, ops_load, ops_len, ops_mn, ops_mx, ops_slc, ops_call, ev_t, ev_c, put_get, opv_mk, over_get, vnat, args0, List.getD_cons_zero, List.getD_cons_succ, vbin, vbinI, vlen, vmm, vix, vload, takeV, vslc, V.cells, List.map_cons, List.map_nil, List.length_cons, List.length_nil, List.getElem?_cons_zero, Option.map_some, Option.map_none, and_true, true_and, Nat.reduceEqDiff, Int.toNat_natCast, Nat.zero_add, ↓reduceIte, eq_self, Bool.false_eq_true, List.contains_cons, List.contains_nil, Nat.reduceBEq, Bool.or_false, Bool.or_true, h11, h5, bs_len, hgp, is_len, is_get, hx, hmn, decide_eq_true (show (i : Int) < (cuts.length : Int) by omega), bs_take, allSz_bs', Int.toNat_natCast]
          repeat (apply And.intro; focus (first | omega | (simp; done)))
          refine Cal.mk hfd ?_
          rintro _ s3 ⟨x1, hb1, ho1, hf1, rfl⟩ -
          have w1 := hf1.keeps hw hc1 tx
          have tx1 := hf1.fr hw.sz tx
          have ot1 := hf1.beside ot dxt
          have dxt1 := hf1.dj ot dxt
          have hlt1 := hf1.lt
          simp (config := {maxSteps := 3000000}) only [run_skip, run_reg, run_seq, run_cond, if_false, at_code_n, ops_nil, ops_mv, ops_bin, ops_ext, ops_app, ev_t, ev_c, put_get, opv_mk, over_get, vbin, vbinI, vext, obsOk, List.getElem?_cons_zero, List.getElem?_cons_succ, true_and, Nat.reduceEqDiff, ↓reduceIte, decide_false, ne_eq, not_true_eq_false, eq_self, List.contains_cons, List.contains_nil, Nat.reduceBEq, Bool.or_false, Bool.or_true, ht]
          refine App.mk ot1 (allSz_mv m3) (by rw [mv_len, mv_len]; unfold maxLen; omega) (by rw [mv_len, mv_len]; omega) ?_
          intro r3 s4 k3 k4
          rw [mv_append] at k3
          have w3 : st.weak s4 := k4.keeps w1 tt
          have tt3 := k4.fresh w1.sz tt
          have hb3 := (congrFun k4.box c).trans hb1
          have ox3 := ho1.beside k4 dxt1.symm
          have dxt3 : Dj x1 r3 := (dxt1.symm.app ho1 k4).symm
          have hlt4 := hlt1.app k4
          have hcnt : (told.length : Int) + (ms.length : Int) = ((told ++ ms).length : Int) := by simp
          rw [hcnt] at hb3
          simp (config := {maxSteps := 3000000}) only [run_reg, at_code_n, at_blk_n, at_rnd_n, ops_nil, ops_mv, ops_bin, ops_slc, ev_t, ev_c, put_get, opv_mk, over_get, rel_mk, vbin, vbinI, norm, vslc, obsOk, Option.map_some, Option.map_none, true_and, Nat.reduceEqDiff, Int.toNat_natCast, Int.reduceNeg, ↓reduceIte, eq_self, List.contains_cons, List.contains_nil, Nat.reduceBEq, Bool.or_false, Bool.or_true, h11, h5, bs_len, bs_drop, allSz_bs', Int.toNat_natCast]
          repeat (apply And.intro; focus (first | omega | (simp; done)))
          exact ⟨⟨i + 1, F ++ G.take n, G.drop n, R', told ++ ms, x1, .no, by simp, rfl, by rw [List.append_assoc, List.take_append_drop]; exact hFG, m2, by omega, by omega, hb3, ox3, k3, dxt3, w3, hlt4, tx1, tt3⟩, by omega⟩
        · obtain ⟨n, hmn⟩ : ∃ n : Nat, n = G.length := ⟨_, rfl⟩
          have hn : n ≤ G.length := by omega
          subst hmn
          have hgd : G.drop G.length = [] := List.drop_of_length_le (by omega)
          obtain ⟨ms, R', m1, m2, m3, m4⟩ := main G.length hn
          have hfd := feed_v (tk := .no) (L := G.take G.length) hbx ox hsB (hBG.take G.length) (by simp; omega) (by omega)
          rw [m1] at hfd
          simp only at hfd
          simp (config := {maxSteps := 3000000}) only [run_skip, run_reg, run_seq, run_blk, run_cond, if_true, if_false, at_code_n, ops_nil, ops_mv, ops_bin, ops_len, ops_slc, ops_call, ev_t, ev_c, put_get, opv_mk, over_get, vnat, args0, List.getD_cons_zero, List.getD_cons_succ, vbin, vbinI, vlen, vslc, List.map_cons, List.map_nil, Option.map_some, Option.map_none, true_and, Nat.reduceEqDiff, Int.toNat_natCast, ↓reduceIte, eq_self, Bool.false_eq_true, List.contains_cons, List.contains_nil, Nat.reduceBEq, Bool.or_false, Bool.or_true, h11, h5, bs_len, hgp, is_len, decide_eq_false (show ¬ (i : Int) < (cuts.length : Int) by omega), bs_take, allSz_bs', Int.toNat_natCast]
          repeat (apply And.intro; focus (first | omega | (simp; done)))
          refine Cal.mk hfd ?_
          rintro _ s3 ⟨x1, hb1, ho1, hf1, rfl⟩ -
          have w1 := hf1.keeps hw hc1 tx
          have tx1 := hf1.fr hw.sz tx
          have ot1 := hf1.beside ot dxt
          have dxt1 := hf1.dj ot dxt
          have hlt1 := hf1.lt
          simp (config := {maxSteps := 3000000}) only [run_skip, run_reg, run_seq, run_cond, if_false, at_code_n, ops_nil, ops_mv, ops_bin, ops_ext, ops_app, ev_t, ev_c, put_get, opv_mk, over_get, vbin, vbinI, vext, obsOk, List.getElem?_cons_zero, List.getElem?_cons_succ, true_and, Nat.reduceEqDiff, ↓reduceIte, decide_false, ne_eq, not_true_eq_false, eq_self, List.contains_cons, List.contains_nil, Nat.reduceBEq, Bool.or_false, Bool.or_true, ht]
          refine App.mk ot1 (allSz_mv m3) (by rw [mv_len, mv_len]; unfold maxLen; omega) (by rw [mv_len, mv_len]; omega) ?_
          intro r3 s4 k3 k4
          rw [mv_append] at k3
          have w3 : st.weak s4 := k4.keeps w1 tt
          have tt3 := k4.fresh w1.sz tt
          have hb3 := (congrFun k4.box c).trans hb1
          have ox3 := ho1.beside k4 dxt1.symm
          have dxt3 : Dj x1 r3 := (dxt1.symm.app ho1 k4).symm
          have hlt4 := hlt1.app k4
          have hcnt : (told.length : Int) + (ms.length : Int) = ((told ++ ms).length : Int) := by simp
          rw [hcnt] at hb3
          simp (config := {maxSteps := 3000000}) only [run_reg, at_code_n, at_blk_n, at_rnd_n, ops_nil, ops_mv, ops_bin, ops_slc, ev_t, ev_c, put_get, opv_mk, over_get, rel_mk, vbin, vbinI, norm, vslc, obsOk, Option.map_some, Option.map_none, true_and, Nat.reduceEqDiff, Int.toNat_natCast, Int.reduceNeg, ↓reduceIte, eq_self, List.contains_cons, List.contains_nil, Nat.reduceBEq, Bool.or_false, Bool.or_true, h11, h5, bs_len, bs_drop, allSz_bs', Int.toNat_natCast]
          repeat (apply And.intro; focus (first | omega | (simp; done)))
          exact ⟨⟨i + 1, F ++ G.take G.length, G.drop G.length, R', told ++ ms, x1, .no, by simp, rfl, by rw [List.append_assoc, List.take_append_drop]; exact hFG, m2, .inr hgd, by omega, hb3, ox3, k3, dxt3, w3, hlt4, tx1, tt3⟩, by omega⟩
end
end Go.Proofs.Ytogkdcbcmhhhcaa
