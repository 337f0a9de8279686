/- FragCuts: any bytes as pieces, or why there are none, walked. -/
import Derived.Test.YtbmkohmhiafphaaVFrag2
namespace Go.Proofs.Ytbmkohmhiafphaa
open Go Go.RowKit

/-- A datagram of 24 zeros. -/
def dg24 : DG := ⟨0, 0, 0, 0, 0, 0, 0, [], List.replicate 24 0⟩
theorem dg24_ok : dg24.Ok := ⟨by decide, by decide, by decide, by decide, by decide, by decide, by decide, (fun _ hx => nomatch hx), fun x hx => by rw [List.eq_of_mem_replicate hx]; decide⟩
theorem fits24 : ipFits dg24 := by decide
theorem cut24 : (fragR (ipB dg24) 44).length = 1 ∧ fragE (ipB dg24) 44 = 0 ∧ (fragR (ipB dg24) 28).length = 3 ∧ fragE (ipB dg24) 28 = 0 := by decide
theorem Sld.bytes {b : Nat} {L : List Int} {spare : List V} {n cap : Nat} (hn : n = L.length) (hc : L.length ≤ cap) (hm : cap ≤ maxLen) : Sld b (bs L ++ spare) (.sc (.slice (some ⟨b, 0, none⟩) n cap)) (.sl .no (bs L)) := by
  subst hn
  have := Sld.box (b := b) (cs := bs L ++ spare) 0 cap 1 (bs L) (fun i d hd => allSz_bs L d (List.mem_of_getElem? hd)) (fun i d j x hd hj => by
    have hi := (List.getElem?_eq_some_iff.1 hd).1
    have : d.cells = [d] := by
      obtain ⟨n, _, rfl⟩ := List.mem_map.1 (List.mem_of_getElem? hd); rfl
    rw [this] at hj
    have hj0 : j = 0 := by
      rcases Nat.eq_zero_or_pos j with h | h
      · exact h
      · rw [List.getElem?_eq_none (by simp; omega)] at hj; cases hj
    subst hj0
    simp at hj; subst hj
    rw [List.getElem?_append, if_pos (by omega)]
    simpa using hd) (by rw [bs_len]; omega) hm
  rwa [bs_len] at this
/-- Arguments, one by one. -/
def SldL (b : Nat) (cs xs ys : List V) : Prop := xs.length = ys.length ∧ ∀ (i : Nat) (x y : V), xs[i]? = some x → ys[i]? = some y → Sld b cs x y
theorem SldL.nil {b : Nat} {cs : List V} : SldL b cs [] [] := ⟨rfl, fun i x y hx => by simp at hx⟩
theorem SldL.cons {b : Nat} {cs xs ys : List V} {x y : V} (h : Sld b cs x y) (k : SldL b cs xs ys) : SldL b cs (x :: xs) (y :: ys) :=
  ⟨by simp [k.1], fun i u v hu hv => by
    cases i with
    | zero => simp at hu hv; subst hu hv; exact h
    | succ i => exact k.2 i u v (by simpa using hu) (by simpa using hv)⟩
theorem SldL.same {b : Nat} {cs : List V} (xs : List V) : SldL b cs xs xs := ⟨rfl, fun i x y hx hy => by rw [hx] at hy; cases hy; exact .same x⟩
theorem SldL.agg {b : Nat} {cs xs ys : List V} (k : SldL b cs xs ys) : Sld b cs (.agg xs) (.agg ys) := .agg xs ys k.1 k.2
section
variable {tk tk' : Tk} {st : St} {L : List Int}
theorem rows_v {R : List (List Int)} : VCalls Try.prog 40 [.sl tk (rws R), .sl tk' (rws R)] st fun r st' => r = .sc (.bool true) ∧ st = st' := by
  refine vcalls_enter vc40 (Nat.le_of_ble_eq_true rfl) fun hwf hok => ?_
  show Run _ Vc40.body (.fin (finQ Vc40.res _)) _ _
  unfold Vc40
  have hm := vlen_max (hok _ (List.mem_cons_self ..))
  rw [rws_len] at hm
  simp (config := {maxSteps := 3000000}) only [run_skip, run_reg, run_seq, run_blk, run_cond, if_false, at_code_n, ops_nil, ops_mv, ops_bin, ops_len, ev_t, ev_c, put_get, opv_mk, args0, List.getD_cons_zero, List.getD_cons_succ, vbin, vbinI, vlen, true_and, Nat.reduceEqDiff, ↓reduceIte, decide_false, ne_eq, not_true_eq_false, eq_self, reduceCtorEq, rws_len]
  refine run_loop [4, 5, 11, 12, 13, 14, 15, 16, 17, 18, 19, 20, 21, 22, 23, 24, 25, 26] (fun B s => st = s ∧ ∃ i : Nat, i ≤ R.length ∧ B 5 = .sc (.int .i64 i)) (fun B _ => R.length - vnat (B 5)) rfl ?_ ?_
  · simp (config := {maxSteps := 3000000}) only [put_get, true_and, ↓reduceIte, eq_self]
    exact ⟨0, by omega, by simp⟩
  · rintro B s ⟨rfl, i, hi, h5⟩
    by_cases hlt : i < R.length
    · have hx := List.getElem?_eq_getElem hlt
      simp (config := {maxSteps := 3000000}) only [run_skip, run_reg, run_seq, run_blk, run_cond, if_true, at_code_n, ops_nil, ops_mv, ops_bin, ops_ix, ops_load, ops_len, ops_call, ev_t, put_get, opv_mk, over_get, vnat, args0, List.getD_cons_zero, List.getD_cons_succ, vbin, vbinI, vlen, vix, vload, takeV, V.cells, List.map_cons, List.map_nil, List.length_cons, List.length_nil, List.getElem?_cons_zero, Option.map_some, and_true, true_and, Nat.reduceEqDiff, Int.toNat_natCast, Nat.zero_add, ↓reduceIte, eq_self, reduceCtorEq, Bool.false_eq_true, List.contains_cons, List.contains_nil, Nat.reduceBEq, Bool.or_false, Bool.or_true, h5, rws_len, decide_eq_true (show (i : Int) < (R.length : Int) by omega), rws_get, hx]
      repeat (apply And.intro; focus (first | omega | (simp; done)))
      refine Cal.mk (eqB_v (L := R[i]) (M := R[i])) ?_
      rintro _ _ ⟨rfl, rfl⟩ -
      simp (config := {maxSteps := 3000000}) only [run_skip, run_reg, run_cond, if_false, at_code_n, at_blk_n, at_rnd_n, ops_nil, ops_mv, ops_bin, ops_un, ev_t, ev_c, put_get, opv_mk, over_get, rel_mk, vbin, vbinI, vun, norm, obsOk, true_and, Nat.reduceEqDiff, Int.reduceNeg, ↓reduceIte, decide_true, Bool.not_true, eq_self, List.contains_cons, List.contains_nil, Nat.reduceBEq, Bool.or_false, Bool.or_true, h5]
      repeat (apply And.intro; focus (first | omega | (simp; done)))
      exact ⟨⟨i + 1, by omega, by simp⟩, by omega⟩
    · obtain rfl : i = R.length := by omega
      simp (config := {maxSteps := 3000000}) only [run_reg, run_seq, run_exit, run_ret, run_cond, if_false, at_code_n, at_code_x, at_blk_x, at_rnd_x, at_fin_r, ops_nil, ops_mv, ops_bin, ops_len, ev_t, ev_c, put_get, opv_mk, over_get, vnat, args0, List.getD_cons_zero, vbin, vbinI, vlen, and_true, true_and, Nat.reduceEqDiff, Int.toNat_natCast, ↓reduceIte, vret, rvAll, rvVal, resv_1, decide_false, Int.lt_irrefl, eq_self, reduceCtorEq, Bool.false_eq_true, List.contains_cons, List.contains_nil, Nat.reduceBEq, Bool.or_false, Bool.or_true, h5, rws_len]
      exact ⟨_, _, Wk.refl _, hwf.weak, rfl, rfl⟩
theorem alive54_v : VCalls Try.prog 41 [] st fun r st' => r = .sc (.bool true) ∧ st = st' := by
  refine vcalls_enter vc41 (Nat.le_of_ble_eq_true rfl) fun hwf hok => ?_
  show Run _ Vc41.body (.fin (finQ Vc41.res _)) _ _
  unfold Vc41
  simp (config := {maxSteps := 3000000}) only [run_reg, run_seq, at_code_n, ops_nil, ops_mv, ops_mks, mks_int, ops_bld, ops_call, ev_t, ev_c, put_get, opv_mk, vbld, fillV, splice, V.cells, obsOk, List.map_cons, List.map_nil, List.length_cons, List.length_nil, List.take_succ_cons, List.take_zero, List.drop_succ_cons, List.cons_append, List.nil_append, List.append_nil, List.drop_nil, and_true, true_and, Nat.reduceAdd, Nat.reduceLT, Nat.reduceLeDiff, Nat.reduceLT, Int.reduceToNat, Int.reduceLE, Nat.zero_add, ↓reduceIte, eq_self]
  repeat (apply And.intro; focus (first | omega | (simp; done)))
  intro b hb
  rw [show (List.replicate 24 [V.sc (.int .u8 0)]).flatten = bs (List.replicate 24 0) from rfl]
  have h := refBuild13_v (tk := .nil) (tk' := .no) (st := (st.put b (bs (List.replicate 24 0))).drop b) dg24 dg24_ok (by decide) (by decide)
  rw [if_pos fits24] at h
  have hc := VCalls.seal (args := [V.agg [.sc (.int .u8 0), .sc (.int .u8 0), .sc (.int .u8 0), .sc (.int .u16 0), .sc (.int .u16 0), .sc (.int .u32 0), .sc (.int .u32 0), .sl .nil [], .sc (.slice (some ⟨b, 0, none⟩) 24 24)]]) (st := st.put b (bs (List.replicate 24 0))) put_box_same h rfl
    (SldL.cons (SldL.agg (.cons (.same _) (.cons (.same _) (.cons (.same _) (.cons (.same _) (.cons (.same _) (.cons (.same _) (.cons (.same _) (.cons (.same _) (.cons (by
      have := Sld.bytes (b := b) (L := List.replicate 24 0) (spare := []) (n := 24) (cap := 24) rfl (by decide) (by decide)
      rwa [List.append_nil] at this) .nil)))))))))) .nil).2
  refine Cal.mk hc ?_
  rintro _ _ ⟨rfl, rfl⟩ -
  have hB24 : IsB (ipB dg24) := by
    have hr := ckS_range (ipPre_isB dg24_ok (c := 0) (by omega) (by omega) fits24)
    exact (ipPre_isB dg24_ok hr.1 (by omega) fits24).append dg24_ok.D
  have hl24 : (ipB dg24).length ≤ 2000 := by decide
  have c1 := fun st : St => fragCut_v (tk := .no) (st := st) hB24 hl24 44
  have c2 := fun st : St => fragCut_v (tk := .no) (st := st) hB24 hl24 28
  obtain ⟨q1, q2, q3, q4⟩ := cut24
  rw [q2] at c1
  rw [q4] at c2
  generalize ipB dg24 = B at *
  generalize fragR B 44 = R1 at *
  generalize fragR B 28 = R2 at *
  simp (config := {maxSteps := 3000000}) only [run_reg, run_seq, at_code_n, ops_nil, ops_mv, ops_call, ev_t, ev_c, put_get, opv_mk, obsOk, List.map_cons, List.map_nil, true_and, ↓reduceIte, eq_self]
  refine Cal.mk (c1 _) ?_
  rintro _ _ ⟨rfl, rfl⟩ -
  simp (config := {maxSteps := 3000000}) only [run_reg, run_seq, at_code_n, ops_nil, ops_mv, ops_ext, ops_call, ev_t, ev_c, put_get, opv_mk, vext, obsOk, List.map_cons, List.map_nil, List.getElem?_cons_zero, List.getElem?_cons_succ, true_and, Nat.reduceEqDiff, ↓reduceIte, eq_self]
  refine Cal.mk (c2 _) ?_
  rintro _ _ ⟨rfl, rfl⟩ -
  simp (config := {maxSteps := 3000000}) only [run_reg, run_seq, run_ret, at_code_n, at_fin_r, ops_nil, ops_grd, grd_tt, ops_mv, ops_pick, ops_bin, ops_ext, ops_len, ev_t, ev_c, put_get, opv_mk, vpick, vbin, vbinI, vlen, vext, obsOk, List.getElem?_cons_zero, List.getElem?_cons_succ, and_true, true_and, Nat.reduceEqDiff, ↓reduceIte, vret, rvAll, rvVal, resv_1, decide_true, eq_self, rws_len, q1, q3, show decide (((1 : Nat) : Int) = 1) = true from rfl, show decide (((3 : Nat) : Int) = 3) = true from rfl]
  exact ⟨_, _, Wk.refl _, weak_drop (weak_put hwf.weak hb) hb, rfl, rfl⟩
theorem FragCuts_v (hB : IsB L) (most : Int) : VCalls Try.prog 10 [.sl tk (bs L), .sc (.int .i64 most)] st fun r _ => r = .sc (.bool true) := by
  refine vcalls_enter vc10 (Nat.le_of_ble_eq_true rfl) fun hwf hok => ?_
  show Run _ Vc10.body (.fin (finQ Vc10.res _)) _ _
  unfold Vc10
  have g0 : ∀ s : St, st.weak s → ∃ (r' : V) (st'' : St), Wk (V.sc (.bool true)) r' ∧ st''.weak s ∧ r' = V.sc (.bool true) := fun s hw => ⟨_, st, Wk.refl _, hw, rfl⟩
  by_cases hl : 1000 < (L.length : Int)
  · simp (config := {maxSteps := 3000000}) only [run_reg, run_seq, run_ret, run_cond, if_true, at_code_n, at_code_r, at_fin_r, ops_nil, ops_mv, ops_bin, ops_len, ev_t, ev_c, put_get, opv_mk, args0, List.getD_cons_zero, vbin, vbinI, vlen, and_true, true_and, ↓reduceIte, vret, rvAll, rvVal, resv_1, eq_self, reduceCtorEq, bs_len, decide_eq_true hl]
    exact g0 _ hwf.weak
  simp (config := {maxSteps := 3000000}) only [run_skip, run_reg, run_seq, run_cond, if_false, at_code_n, ops_nil, ops_mv, ops_bin, ops_len, ops_call, ev_t, ev_c, put_get, opv_mk, args0, List.getD_cons_zero, List.getD_cons_succ, vbin, vbinI, vlen, List.map_cons, List.map_nil, true_and, Nat.reduceEqDiff, ↓reduceIte, eq_self, reduceCtorEq, bs_len, decide_eq_false hl]
  refine Cal.mk (fragCut_v hB (by omega) most) ?_
  rintro _ _ ⟨rfl, rfl⟩ -
  simp (config := {maxSteps := 3000000}) only [run_reg, run_seq, at_code_n, ops_nil, ops_mv, ops_ext, ops_call, ev_t, put_get, opv_mk, args0, List.getD_cons_zero, List.getD_cons_succ, vext, obsOk, List.map_cons, List.map_nil, List.getElem?_cons_zero, List.getElem?_cons_succ, true_and, Nat.reduceEqDiff, ↓reduceIte, eq_self, reduceCtorEq]
  refine Cal.mk (refCut_v hB (by omega) most) ?_
  rintro _ _ ⟨rfl, rfl⟩ -
  simp (config := {maxSteps := 3000000}) only [run_reg, run_seq, at_code_n, ops_nil, ops_mv, ops_ext, ops_call, ev_t, put_get, opv_mk, vext, obsOk, List.map_cons, List.map_nil, List.getElem?_cons_zero, List.getElem?_cons_succ, true_and, Nat.reduceEqDiff, ↓reduceIte, eq_self]
  refine Cal.mk rows_v ?_
  rintro _ _ ⟨rfl, rfl⟩ -
  simp (config := {maxSteps := 3000000}) only [ops_grd, grd_tt, ops_mv, ops_pick, ops_bin, ops_call, ev_t, put_get, opv_mk, vpick, vbin, vbinI, obsOk, List.map_nil, true_and, Nat.reduceEqDiff, ↓reduceIte, decide_true, eq_self]
  refine Cal.mk alive54_v ?_
  rintro _ _ ⟨rfl, rfl⟩ -
  simp (config := {maxSteps := 3000000}) only [run_ret, at_code_n, at_fin_r, ops_nil, ops_mv, ops_pick, ev_t, put_get, opv_mk, vpick, obsOk, and_true, true_and, Nat.reduceEqDiff, ↓reduceIte, vret, rvAll, rvVal, resv_1, eq_self]
  exact g0 _ hwf.weak
end
end Go.Proofs.Ytbmkohmhiafphaa
