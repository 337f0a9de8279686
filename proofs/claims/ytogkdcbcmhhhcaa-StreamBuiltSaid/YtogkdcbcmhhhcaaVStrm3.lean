/- stream.Feed: contract. -/
import Derived.Test.YtogkdcbcmhhhcaaVStrm2
namespace Go.Proofs.Ytogkdcbcmhhhcaa
open Go

/-- Two rows that may be appended to lie apart. -/
def Dj (x y : V) : Prop := ∀ g k l k' l', x = .sl (.own g k) l → y = .sl (.own g k') l' → False
theorem Dj.symm {x y : V} (h : Dj x y) : Dj y x := fun g k l k' l' e e' => h g k' l' k l e' e
theorem Dj.nil (y : V) : Dj (.sl .nil []) y := fun g k l k' l' e _ => by cases e
theorem Own.tlt {size : Nat} {st : St} {y : V} {l : List V} (h : Own size st y l) : ∀ g k l', y = .sl (.own g k) l' → g < st.sz ∧ ∃ m, st.own g = some m := fun g k l' e => by
  rcases h with ⟨rfl, _⟩ | ⟨g', rfl, h1, h2⟩
  · cases e
  · cases e; exact ⟨h2, _, h1⟩
/-- Another row stands beside an append. -/
theorem Own.beside {size : Nat} {st st' : St} {x r y : V} {l : List V} (h : Own size st y l) (k : AppSt st x st' r) (hd : Dj x y) : Own size st' y l := by
  rcases h with h | ⟨g, rfl, h1, h2⟩
  · exact .inl h
  · exact .inr ⟨g, rfl, k.own g _ h1 (fun l' k' e => hd g k' l' size l e rfl), by have := k.sz; omega⟩
theorem Dj.app {size : Nat} {st st' : St} {x r y : V} {l : List V} (h : Dj x y) (ho : Own size st y l) (k : AppSt st x st' r) : Dj r y := fun g k1 l1 k2 l2 e e' => by
  rcases k.tok g k1 l1 e with ⟨l', e2⟩ | h2
  · exact h g k1 l' k2 l2 e2 e'
  · have := (ho.tlt g k2 l2 e').1; omega
/-- What a call leaves that turns one box, and appends to one row. -/
structure Fed (st st' : St) (c : Nat) (x x' : V) : Prop where
  box : ∀ b cs, b ≠ c → st.box b = some cs → st'.box b = some cs
  own : ∀ g m, st.own g = some m → (∀ k l, x ≠ .sl (.own g k) l) → st'.own g = some m
  sz : st.sz ≤ st'.sz
  lt : st'.Lt
  tok : ∀ g k l, x' = .sl (.own g k) l → (∃ l', x = .sl (.own g k) l') ∨ st.sz ≤ g
section
variable {st s s' : St} {c d : Nat} {x x' y r : V} {cs : List V}
theorem Fed.put (h : Fed st s c x x') : Fed st (s.put c cs) c x x' :=
  ⟨fun b ds hb hx => by rw [put_box_ne hb]; exact h.box b ds hb hx, h.own, by have := h.sz; simp only [put_sz]; omega, h.lt.put, h.tok⟩
theorem Fed.putN (h : Fed st s c x x') (hst : st.Lt) (hd : s.sz ≤ d) : Fed st (s.put d cs) c x x' :=
  ⟨fun b ds hb hx => by rw [put_box_ne (by have := hst.box b ds hx; have := h.sz; omega)]; exact h.box b ds hb hx, h.own, by have := h.sz; simp only [put_sz]; omega, h.lt.put, h.tok⟩
/-- Something is appended to a row that is new. -/
theorem Fed.other (h : Fed st s c x x') (hst : st.Lt) (k : AppSt s y s' r) (hy : ∀ g k l, y = .sl (.own g k) l → st.sz ≤ g) : Fed st s' c x x' :=
  ⟨fun b ds hb hx => by rw [k.box]; exact h.box b ds hb hx, fun g m hg hx => k.own g m (h.own g m hg hx) (fun l q e => by have := hy g q l e; have := hst.own g m hg; omega), by have := h.sz; have := k.sz; omega, h.lt.app k, h.tok⟩
/-- The row itself. -/
theorem Fed.self (h : Fed st s c x x') (hst : st.Lt) (k : AppSt s x' s' r) : Fed st s' c x r := by
  refine ⟨fun b ds hb hx => by rw [k.box]; exact h.box b ds hb hx, fun g m hg hx => k.own g m (h.own g m hg hx) (fun l q e => ?_), by have := h.sz; have := k.sz; omega, h.lt.app k, fun g q l e => ?_⟩
  · rcases h.tok g q l e with ⟨l', e'⟩ | h2
    · exact hx q l' e'
    · have := hst.own g m hg; omega
  · rcases k.tok g q l e with ⟨l', e'⟩ | h2
    · exact h.tok g q l' e'
    · exact .inr (by have := h.sz; omega)
/-- The row gives way to a new one. -/
theorem Fed.fresh (h : Fed st s c x x') (hst : st.Lt) (k : AppSt s (.sl .nil []) s' r) : Fed st s' c x r :=
  ⟨fun b ds hb hx => by rw [k.box]; exact h.box b ds hb hx, fun g m hg hx => k.own g m (h.own g m hg hx) (fun l q e => by cases e), by have := h.sz; have := k.sz; omega, h.lt.app k, fun g q l e => by
    rcases k.tok g q l e with ⟨l', e'⟩ | h2
    · cases e'
    · exact .inr (by have := h.sz; omega)⟩
theorem Fed.start (h : st.Lt) : Fed st st c x x := ⟨fun _ _ _ h => h, fun _ _ h _ => h, Nat.le_refl _, h, fun g k l e => .inl ⟨l, e⟩⟩
end
def bxlen (c : Nat) (s : St) : Nat := match s.box c with
  | some (v :: _) => slen v
  | _ => 0
theorem bxlen_put {c : Nat} {s : St} {tk : Tk} {L : List Int} {cs : List V} (h : s.box c = some (.sl tk (bs L) :: cs)) : bxlen c s = L.length := by
  unfold bxlen
  rw [h]
  exact slen_bs L
section
variable {tk : Tk} {st : St} {P L : List Int} {x : V} {c : Nat} {why many : Int}
theorem feedEnd_v (hbox : st.box c = some [x, .sc (.int .i64 why), .sc (.int .i64 many)]) (hwhy : why ≠ 0) : VCalls Try.prog 42 [ptrV c, .sl tk (bs L)] st fun r st' => r = .tup [.sl .no [], .sc (.int .i64 why)] ∧ st = st' := by
  refine vcalls_enter vc42 (Nat.le_of_ble_eq_true rfl) fun hwf hok => ?_
  show Run _ Vc42.body (.fin (finQ Vc42.res _)) _ _
  unfold Vc42
  simp (config := {maxSteps := 3000000}) only [run_reg, run_seq, run_ret, run_cond, if_true, at_code_n, at_code_r, at_fin_r, ops_nil, ops_mv, ops_bin, ops_fld, ops_load, ops_nilck, ev_t, ev_c, put_get, opv_mk, args0, List.getD_cons_zero, vbin, vbinI, vfld, vnil, vload, takeV, V.cells, ptrV, List.map_cons, List.map_nil, List.length_cons, List.length_nil, List.getElem?_cons_zero, List.getElem?_cons_succ, and_true, true_and, Nat.reduceEqDiff, Nat.zero_add, ↓reduceIte, vret, rvAll, rvVal, resv_2, ne_eq, eq_self, reduceCtorEq, hbox, decide_eq_true hwhy]
  exact ⟨_, _, Wk.tup2' Wk.no, hwf.weak, rfl, rfl⟩
set_option maxRecDepth 100000 in
set_option maxHeartbeats 4000000 in
theorem feed_v (hbox : st.box c = some [x, .sc (.int .i64 0), .sc (.int .i64 many)]) (hown : Own 1 st x (bs P)) (hBP : IsB P) (hBL : IsB L) (hl : P.length + L.length ≤ 1000000) (hm : 0 ≤ many ∧ many ≤ 1000000000) :
    VCalls Try.prog 42 [ptrV c, .sl tk (bs L)] st fun r st' => ∃ x', st'.box c = some [x', .sc (.int .i64 (scan (P ++ L)).2.2), .sc (.int .i64 (many + (scan (P ++ L)).1.length))] ∧ Own 1 st' x' (bs (scan (P ++ L)).2.1) ∧ Fed st st' c x x' ∧
      r = .tup [.sl .no (mv (scan (P ++ L)).1), .sc (.int .i64 (scan (P ++ L)).2.2)] := by
  refine vcalls_enter vc42 (Nat.le_of_ble_eq_true rfl) fun hwf hok => ?_
  show Run _ Vc42.body (.fin (finQ Vc42.res _)) _ _
  unfold Vc42
  obtain ⟨S, hS⟩ : ∃ S, scan (P ++ L) = S := ⟨_, rfl⟩
  rw [hS]
  obtain ⟨tk0, hx0⟩ := hown.sl
  have hst := hwf.lt
  have hcst := hst.box c _ hbox
  subst hx0
  simp (config := {maxSteps := 3000000}) only [run_skip, run_reg, run_seq, run_cond, if_false, at_code_n, ops_nil, ops_mv, ops_bin, ops_fld, ops_load, ops_nilck, ops_app, ev_t, ev_c, put_get, opv_mk, args0, List.getD_cons_zero, List.getD_cons_succ, vbin, vbinI, vfld, vnil, vload, takeV, V.cells, ptrV, List.length_cons, List.length_nil, List.getElem?_cons_zero, List.getElem?_cons_succ, true_and, Nat.reduceEqDiff, Nat.zero_add, Nat.add_zero, ↓reduceIte, decide_false, ne_eq, not_true_eq_false, eq_self, reduceCtorEq, hbox]
  refine App.mk hown (allSz_bs _) (by rw [bs_len, bs_len]; unfold maxLen; omega) (by rw [bs_len, bs_len]; omega) ?_
  intro r1 s1 k1 k2
  rw [bs_append] at k1
  have F1 := (Fed.start (c := c) (x := .sl tk0 (bs P)) hst).self hst k2
  have hb1 : s1.box c = some [.sl tk0 (bs P), .sc (.int .i64 0), .sc (.int .i64 many)] := by rw [k2.box]; exact hbox
  have o1 := k1.put (b := c) (cs := [r1, .sc (.int .i64 0), .sc (.int .i64 many)])
  have F2 := F1.put (cs := [r1, .sc (.int .i64 0), .sc (.int .i64 many)])
  obtain ⟨tk1, hx1⟩ := k1.sl
  subst hx1
  simp (config := {maxSteps := 3000000}) only [run_reg, run_seq, run_blk, at_code_n, ops_nil, ops_mv, ops_fld, ops_nilck, ops_store, ev_t, ev_c, put_get, put_none, opv_mk, stb_some, sto_ptr, Stp, vfld, vnil, splice, V.cells, obsOk, List.length_cons, List.length_nil, List.take_zero, List.drop_succ_cons, List.drop_zero, List.cons_append, List.nil_append, true_and, Nat.reduceEqDiff, Nat.reduceAdd, Nat.reduceLT, Nat.reduceLeDiff, Nat.reduceLT, Nat.zero_add, Nat.add_zero, ↓reduceIte, eq_self, hb1]
  refine run_loop [4, 5, 6, 7, 8, 9, 28, 29, 30, 31, 32, 33, 34, 35, 36, 37, 38, 39, 40, 41, 42, 43, 44, 45, 46, 47, 48, 49, 50, 51, 52, 53, 54, 55, 56, 57, 58, 59, 60, 61, 62, 63, 64, 65, 66, 67, 68, 69, 70, 71, 72, 73, 74, 75, 76, 77, 78, 79, 80, 81, 82, 83, 84, 85, 86, 87, 88, 89, 90, 91, 92, 93, 94, 95, 96, 97, 98, 99, 100, 101, 102, 103, 104, 105, 106] (fun B s => ∃ (P' : List Int) (ms : List MB) (xc : V), s.box c = some [xc, .sc (.int .i64 0), .sc (.int .i64 (many + ms.length))] ∧ Own 1 s xc (bs P') ∧ Own 13 s (B 6) (mv ms) ∧ Fed st s c (.sl tk0 (bs P)) xc ∧ (∀ g k l, B 6 = .sl (.own g k) l → st.sz ≤ g) ∧ Dj xc (B 6) ∧
    IsB P' ∧ P'.length + 12 * ms.length ≤ P.length + L.length ∧ (∀ m ∈ ms, Sz m) ∧ S = (ms ++ (scan P').1, (scan P').2)) (fun B s => bxlen c s) rfl ?_ ?_
  · simp (config := {maxSteps := 3000000}) only [put_get, put_box_same, ↓reduceIte, eq_self]
    exact ⟨P ++ L, [], _, by simp, o1, .inl ⟨rfl, rfl⟩, F2, (by intro g k l e; cases e), (Dj.nil _).symm, hBP.append hBL, by simp, (by intro m hm; cases hm), by rw [← hS]; rfl⟩
  · rintro B s ⟨P', ms, xc, hbx, ho, h6o, hF, h6t, hdj, hB', hlen, hms, hs⟩
    obtain ⟨tk', hx'⟩ := ho.sl
    subst hx'
    obtain ⟨tk6, h6⟩ := h6o.sl
    rw [h6] at h6o h6t hdj
    have hsc : c < s.sz := hF.lt.box c _ hbx
    have hbl := bxlen_put hbx
    simp (config := {maxSteps := 3000000}) only [run_reg, run_seq, run_blk, ops_mv, ops_fld, ops_load, ops_nilck, ops_call, ev_t, put_get, opv_mk, over_get, args0, List.getD_cons_zero, vfld, vnil, vload, takeV, V.cells, List.map_cons, List.map_nil, List.length_cons, List.length_nil, List.getElem?_cons_zero, true_and, Nat.zero_add, Nat.add_zero, ↓reduceIte, eq_self, reduceCtorEq, Bool.false_eq_true, List.contains_cons, List.contains_nil, Nat.reduceBEq, Bool.or_false, hbx]
    refine Cal.mk (sEarly_v hB' (by omega)) ?_
    rintro _ _ ⟨rfl, rfl⟩ -
    by_cases c1 : earlyL P' = 0
    case neg =>
      rw [scan_err c1, List.append_nil] at hs
      rw [hs]
      simp (config := {maxSteps := 3000000}) only [run_reg, run_seq, run_ret, run_cond, if_true, at_code_n, at_code_r, at_blk_r, at_rnd_r, at_fin_r, ops_nil, ops_mv, ops_bin, ops_fld, ops_load, ops_nilck, ops_store, ev_t, ev_c, put_get, put_none, opv_mk, stb_some, sto_ptr, over_get, Stp, put_box_same, args0, List.getD_cons_zero, vbin, vbinI, vfld, vnil, vload, takeV, splice, V.cells, obsOk, List.map_cons, List.map_nil, List.length_cons, List.length_nil, List.getElem?_cons_zero, List.getElem?_cons_succ, List.take_succ_cons, List.take_zero, List.drop_succ_cons, List.drop_zero, List.cons_append, List.nil_append, and_true, true_and, Nat.reduceEqDiff, Nat.reduceAdd, Nat.reduceLT, Nat.reduceLeDiff, Nat.reduceLT, Nat.zero_add, ↓reduceIte, vret, rvAll, rvVal, resv_2, ne_eq, eq_self, reduceCtorEq, Bool.false_eq_true, List.contains_cons, List.contains_nil, Nat.reduceBEq, Bool.or_false, Bool.or_true, hbx, h6, decide_eq_true c1]
      exact ⟨_, _, Wk.tup2' Wk.no, hF.lt.put.weak, _, put_box_same, ho.put, hF.put, rfl⟩
    have c1' := decide_eq_false (show ¬ ¬ earlyL P' = 0 from fun h => h c1)
    rw [c1]
    have r0 := num2_rng0 hB'
    simp (config := {maxSteps := 3000000}) only [run_skip, run_reg, run_seq, run_cond, if_false, at_code_n, ops_nil, ops_mv, ops_bin, ops_fld, ops_load, ops_nilck, ops_store, ops_call, ev_t, ev_c, put_get, put_none, opv_mk, stb_some, sto_ptr, over_get, Stp, put_box_same, args0, List.getD_cons_zero, vbin, vbinI, vfld, vnil, vload, takeV, splice, V.cells, obsOk, List.map_cons, List.map_nil, List.length_cons, List.length_nil, List.getElem?_cons_zero, List.getElem?_cons_succ, List.take_succ_cons, List.take_zero, List.drop_succ_cons, List.drop_zero, List.cons_append, List.nil_append, true_and, Nat.reduceEqDiff, Nat.reduceAdd, Nat.reduceLT, Nat.reduceLeDiff, Nat.reduceLT, Nat.zero_add, Nat.add_zero, ↓reduceIte, decide_false, ne_eq, not_true_eq_false, eq_self, reduceCtorEq, Bool.false_eq_true, List.contains_cons, List.contains_nil, Nat.reduceBEq, Bool.or_false, hbx]
    refine Cal.mk (Get16_v hB') ?_
    rintro _ _ ⟨rfl, rfl⟩ -
    obtain ⟨g, hg⟩ : ∃ g, (if P'.length < 2 then (0 : Int) else numL (P'.take 2)) = g := ⟨_, rfl⟩
    rw [hg]
    have hgr : 0 ≤ g ∧ g < 65536 := by rw [← hg]; split <;> omega
    have hg2 : ¬ P'.length < 2 → g = numL (P'.take 2) := fun h => by rw [← hg, if_neg h]
    clear hg
    by_cases c2 : P'.length < 12
    · rw [scan_short c1 (.inl c2), List.append_nil] at hs
      rw [hs]
      simp (config := {maxSteps := 3000000}) only [run_reg, run_seq, run_ret, run_cond, if_true, at_code_n, at_code_r, at_blk_r, at_rnd_r, at_fin_r, ops_nil, ops_grd, grd_tf, ops_mv, ops_pick, ops_bin, ops_conv, ops_fld, ops_load, ops_nilck, ops_len, ev_t, ev_c, put_get, opv_mk, over_get, put_box_same, args0, List.getD_cons_zero, vpick, vbin, vbinI, vconv, norm, vfld, vnil, vlen, vload, takeV, V.cells, obsOk, List.map_cons, List.map_nil, List.length_cons, List.length_nil, List.getElem?_cons_zero, and_true, true_and, Nat.reduceEqDiff, Int.reduceNeg, Nat.zero_add, Nat.add_zero, ↓reduceIte, vret, rvAll, rvVal, resv_2, eq_self, reduceCtorEq, Bool.false_eq_true, List.contains_cons, List.contains_nil, Nat.reduceBEq, Bool.or_false, Bool.or_true, h6, bs_len, decide_eq_true (show (P'.length : Int) < 12 by omega)]
      repeat (apply And.intro; focus (first | omega | (simp; done)))
      exact ⟨_, _, Wk.tup2' Wk.no, hF.lt.put.weak, _, put_box_same, ho.put, hF.put, rfl⟩
    have hg3 := hg2 (by omega)
    subst hg3
    have c2' := decide_eq_false (show ¬ (P'.length : Int) < 12 by omega)
    by_cases c3 : (P'.length : Int) < numL (P'.take 2)
    · rw [scan_short c1 (.inr c3), List.append_nil] at hs
      rw [hs]
      simp (config := {maxSteps := 3000000}) only [run_reg, run_seq, run_ret, run_cond, if_true, at_code_n, at_code_r, at_blk_r, at_rnd_r, at_fin_r, ops_nil, ops_grd, grd_ff, ops_mv, ops_pick, ops_bin, ops_conv, ops_fld, ops_load, ops_nilck, ops_len, ev_t, ev_c, put_get, opv_mk, over_get, put_box_same, args0, List.getD_cons_zero, vpick, vbin, vbinI, vconv, norm, vfld, vnil, vlen, vload, takeV, V.cells, obsOk, List.map_cons, List.map_nil, List.length_cons, List.length_nil, List.getElem?_cons_zero, and_true, true_and, Nat.reduceEqDiff, Int.reduceNeg, Nat.zero_add, Nat.add_zero, ↓reduceIte, vret, rvAll, rvVal, resv_2, eq_self, reduceCtorEq, Bool.false_eq_true, List.contains_cons, List.contains_nil, Nat.reduceBEq, Bool.or_false, Bool.or_true, h6, bs_len, c2', decide_eq_true c3]
      repeat (apply And.intro; focus (first | omega | (simp; done)))
      exact ⟨_, _, Wk.tup2' Wk.no, hF.lt.put.weak, _, put_box_same, ho.put, hF.put, rfl⟩
    have hnot : ¬ (P'.length < 12 ∨ (P'.length : Int) < numL (P'.take 2)) := by omega
    obtain ⟨b1, b2, b3⟩ := size_bound c1 hnot
    have hnz : numL (P'.take 2) = (sizeP P' : Int) := by unfold sizeP; omega
    have hszm := parseM_sz (hB'.take (sizeP P')) (by simp; omega)
    have hC13 : (parseM (P'.take (sizeP P'))).1.cells.length = 13 := MB.len hszm.1 hszm.2
    have htk : (parseM (P'.take (sizeP P'))).1.cells.take 13 = (parseM (P'.take (sizeP P'))).1.cells := List.take_of_length_le (by omega)
    have hstr := MB.strip (parseM (P'.take (sizeP P'))).1
    have hv : (parseM (P'.take (sizeP P'))).1.v = .agg (parseM (P'.take (sizeP P'))).1.cells := rfl
    have hpp := fun st : St => parse_v (tk := .no) (st := st) (hB'.take (sizeP P')) (by simp; omega)
    rw [hnz] at c3 ⊢
    have hcons := scan_cons c1 hnot
    have hbad := scan_bad c1 hnot
    generalize hM : (parseM (P'.take (sizeP P'))).1 = M at *
    generalize hE : (parseM (P'.take (sizeP P'))).2 = E at *
    rw [hv] at hpp
    generalize hC : M.cells = C at *
    have hdr : C.drop 13 = [] := List.drop_of_length_le (by omega)
    simp (config := {maxSteps := 3000000}) only [run_skip, run_reg, run_seq, run_cond, if_false, at_code_n, ops_nil, ops_grd, grd_ff, ops_mv, ops_pick, ops_bin, ops_conv, ops_fld, ops_load, ops_nilck, ops_len, ops_slc, ops_call, ev_t, ev_c, put_get, opv_mk, over_get, put_box_same, args0, List.getD_cons_zero, vpick, vbin, vbinI, vconv, norm, vfld, vnil, vlen, vload, takeV, vslc, V.cells, obsOk, List.map_cons, List.map_nil, List.length_cons, List.length_nil, List.getElem?_cons_zero, Option.map_some, Option.map_none, true_and, Nat.reduceEqDiff, Int.toNat_natCast, Int.reduceNeg, Nat.zero_add, Nat.add_zero, ↓reduceIte, eq_self, reduceCtorEq, Bool.false_eq_true, List.contains_cons, List.contains_nil, Nat.reduceBEq, Bool.or_false, bs_len, c2', decide_eq_false c3, bs_take, allSz_bs']
    repeat (apply And.intro; focus (first | omega | (simp; done)))
    refine Cal.mk (hpp _) ?_
    rintro _ _ ⟨rfl, rfl⟩ -
    simp (config := {maxSteps := 3000000}) only [run_reg, run_seq, run_cond, at_code_n, ops_nil, ops_mv, ops_bin, ops_ext, ops_alc, ops_store, ev_t, ev_c, put_get, put_none, opv_mk, stb_some, sto_ptr, Stp, put_box_same, put_sz, put_put, vbin, vbinI, vext, splice, V.cells, ptrV, obsOk, List.length_cons, List.length_nil, List.getElem?_cons_zero, List.getElem?_cons_succ, List.take_zero, List.nil_append, true_and, Nat.reduceEqDiff, Nat.reduceAdd, Nat.reduceLT, Nat.reduceLeDiff, Nat.reduceLT, Nat.zero_add, ↓reduceIte, ne_eq, eq_self]
    intro d hd
    obtain ⟨hd1, hcd⟩ : s.sz ≤ d ∧ c < d := by first | omega | (simp only [put_sz] at hd; omega)
    clear hd
    by_cases c4 : E = 0
    case neg =>
      have hb2 := hbad c4
      rw [hb2, List.append_nil] at hs
      rw [hs]
      simp (config := {maxSteps := 3000000}) only [run_reg, run_seq, run_ret, if_true, at_code_n, at_code_r, at_blk_r, at_rnd_r, at_fin_r, ops_nil, ops_mv, ops_fld, ops_nilck, ops_store, ev_t, put_get, put_none, opv_mk, stb_some, sto_ptr, over_get, Stp, put_box_same, args0, List.getD_cons_zero, vfld, vnil, vload, takeV, splice, V.cells, obsOk, List.map_cons, List.map_nil, List.length_cons, List.length_nil, List.take_succ_cons, List.take_zero, List.drop_succ_cons, List.drop_zero, List.cons_append, List.nil_append, List.append_nil, List.drop_nil, and_true, true_and, Nat.reduceEqDiff, Nat.reduceAdd, Nat.reduceLT, Nat.reduceLeDiff, Nat.reduceLT, Nat.zero_add, ↓reduceIte, vret, rvAll, rvVal, resv_2, eq_self, reduceCtorEq, Bool.false_eq_true, List.contains_cons, List.contains_nil, Nat.reduceBEq, Bool.or_false, Bool.or_true, h6, hC13, decide_eq_true c4, put_box_ne (Nat.ne_of_lt hcd)]
      exact ⟨_, _, Wk.tup2' Wk.no, ((hF.put.putN hst (by simp only [put_sz]; omega)).put).lt.weak, _, put_box_same, ho.put.put.put, (hF.put.putN hst (by simp only [put_sz]; omega)).put, rfl⟩
    have F3 := (hF.put (cs := [.sl tk' (bs P'), .sc (.int .i64 0), .sc (.int .i64 (many + ms.length))])).putN (d := d) (cs := C) hst (by simp only [put_sz]; omega)
    have o3 := (ho.put (b := c) (cs := [.sl tk' (bs P'), .sc (.int .i64 0), .sc (.int .i64 (many + ms.length))])).put (b := d) (cs := C)
    have p3 : Own 13 ((s.put c [.sl tk' (bs P'), .sc (.int .i64 0), .sc (.int .i64 (many + ms.length))]).put d C) (.sl tk6 (mv ms)) (mv ms) := h6o.put.put
    simp (config := {maxSteps := 3000000}) only [run_skip, run_reg, run_seq, if_false, at_code_n, ops_mv, ops_load, ops_bsl, ops_app, ev_t, put_get, opv_mk, over_get, vbsl, put_box_same, vload, takeV, V.cells, strip, strip1, allLen, List.map_cons, List.map_nil, List.drop_succ_cons, List.drop_zero, List.append_nil, List.drop_nil, and_true, true_and, Nat.reduceEqDiff, Nat.reduceLeDiff, Nat.zero_add, ↓reduceIte, eq_self, List.contains_cons, List.contains_nil, Nat.reduceBEq, Bool.or_false, Bool.or_true, h6, hC13, htk, hstr, decide_eq_false (show ¬ ¬ E = 0 from fun h => h c4)]
    repeat (apply And.intro; focus (first | omega | (simp; done)))
    refine App.mk (l := mv ms) p3 (ys := [V.agg C]) (by intro x hx; simp at hx; subst hx; exact hC13) (by rw [mv_len]; simp [maxLen]; omega) (by rw [mv_len]; simp; omega) ?_
    intro r6 s6 k1 k2
    have k1' : Own 13 s6 r6 (mv (ms ++ [M])) := by
      rw [← mv_append]
      have : mv [M] = [V.agg C] := by rw [← hC]; rfl
      rw [this]; exact k1
    have F4 := F3.other hst k2 h6t
    have o4 := o3.beside k2 hdj.symm
    have hb4 : s6.box c = some [.sl tk' (bs P'), .sc (.int .i64 0), .sc (.int .i64 (many + ms.length))] := by rw [k2.box, put_box_ne (Nat.ne_of_lt hcd)]; exact put_box_same
    have d4 : Dj r6 (.sl tk' (bs P')) := hdj.symm.app o3 k2
    have t4 : ∀ g k l, r6 = .sl (.own g k) l → st.sz ≤ g := k2.fresh (by have := F3.sz; omega) h6t
    rw [hcons c4] at hs
    have o5 := o4.put (b := c) (cs := [.sl tk' (bs P'), .sc (.int .i64 0), .sc (.int .i64 (many + ms.length + 1))])
    have p5 := k1'.put (b := c) (cs := [.sl tk' (bs P'), .sc (.int .i64 0), .sc (.int .i64 (many + ms.length + 1))])
    have F5 := F4.put (cs := [.sl tk' (bs P'), .sc (.int .i64 0), .sc (.int .i64 (many + ms.length + 1))])
    simp (config := {maxSteps := 3000000}) only [run_reg, run_seq, at_code_n, ops_nil, ops_mv, ops_bin, ops_fld, ops_load, ops_nilck, ops_slc, ops_store, ops_app, ev_t, ev_c, put_get, put_none, opv_mk, stb_some, sto_ptr, over_get, Stp, put_box_same, args0, List.getD_cons_zero, vbin, vbinI, norm, vfld, vnil, vload, takeV, vslc, splice, V.cells, obsOk, List.length_cons, List.length_nil, List.getElem?_cons_zero, List.getElem?_cons_succ, List.take_succ_cons, List.take_zero, List.drop_succ_cons, List.cons_append, List.nil_append, List.append_nil, List.drop_nil, Option.map_some, Option.map_none, true_and, Nat.reduceEqDiff, Nat.reduceAdd, Nat.reduceLT, Nat.reduceLeDiff, Nat.reduceLT, Int.toNat_natCast, Int.reduceNeg, Nat.zero_add, Nat.add_zero, ↓reduceIte, eq_self, reduceCtorEq, Bool.false_eq_true, List.contains_cons, List.contains_nil, Nat.reduceBEq, Bool.or_false, hb4, bs_len, bs_drop, allSz_bs']
    repeat (apply And.intro; focus (first | omega | (simp; done)))
    refine App.mk (l := []) Own.nil (ys := bs (P'.drop (sizeP P'))) (allSz_bs _) (by simp [bs_len, maxLen]; omega) (by simp [bs_len]; omega) ?_
    intro r7 s7 k3 k4
    rw [List.nil_append] at k3
    have F6 := F5.fresh hst k4
    have p7 : Own 13 s7 r6 (mv (ms ++ [M])) := p5.beside k4 (Dj.nil _)
    have hb7 : s7.box c = some [.sl tk' (bs P'), .sc (.int .i64 0), .sc (.int .i64 (many + ms.length + 1))] := by rw [k4.box]; exact put_box_same
    have d7 : Dj r7 r6 := (Dj.nil r6).app p5 k4
    obtain ⟨tk7, h7⟩ := k3.sl
    subst h7
    have hbl7 : bxlen c (s7.put c [.sl tk7 (bs (P'.drop (sizeP P'))), .sc (.int .i64 0), .sc (.int .i64 (many + ms.length + 1))]) = (P'.drop (sizeP P')).length := bxlen_put put_box_same
    simp (config := {maxSteps := 3000000}) only [at_blk_n, at_rnd_n, ops_nil, ops_fld, ops_nilck, ops_store, ev_t, put_get, put_none, opv_mk, stb_some, sto_ptr, rel_mk, Stp, put_box_same, vfld, vnil, splice, V.cells, obsOk, List.length_cons, List.length_nil, List.take_zero, List.drop_succ_cons, List.drop_zero, List.cons_append, List.nil_append, true_and, Nat.reduceEqDiff, Nat.reduceAdd, Nat.reduceLT, Nat.reduceLeDiff, Nat.reduceLT, Nat.zero_add, Nat.add_zero, ↓reduceIte, eq_self, hb7, hbl7, hbl]
    repeat (apply And.intro; focus (first | omega | (simp; done)))
    refine ⟨⟨P'.drop (sizeP P'), ms ++ [M], _, ?_, k3.put, p7.put, F6.put, t4, d7, hB'.drop _, by simp; omega, ?_, by rw [hs]; simp⟩, ?_⟩
    · simp [Int.add_assoc]
    · intro m hm
      rcases List.mem_append.1 hm with hm | hm
      · exact hms m hm
      · simp at hm; subst hm; exact hszm
    · simp; omega
end
end Go.Proofs.Ytogkdcbcmhhhcaa
