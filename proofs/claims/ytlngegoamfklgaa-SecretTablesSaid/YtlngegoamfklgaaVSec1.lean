/- Secrets: which may be, a new table: contracts. -/
import Derived.Test.YtlngegoamfklgaaVPool1
import Derived.Test.YtlngegoamfklgaaVRowB
namespace Go.Proofs.Ytlngegoamfklgaa
open Go

/-- A secret: a name, a key. -/
abbrev Sec := ByteArray × ByteArray
def secV (s : Sec) : V := .agg [.sc (.string s.1), .sc (.string s.2)]
def secs (S : List Sec) : List V := S.map secV
theorem secs_len (S : List Sec) : (secs S).length = S.length := by simp [secs]
theorem secs_get {S : List Sec} {i : Nat} {s : Sec} (h : S[i]? = some s) : (secs S)[i]? = some (.agg [.sc (.string s.1), .sc (.string s.2)]) := by simp [secs, h, secV]
def rightS (s : Sec) : Bool := decide (1 ≤ s.1.size ∧ s.1.size ≤ 40 ∧ 1 ≤ s.2.size ∧ s.2.size ≤ 40)
theorem nil_size {s : ByteArray} : s = ⟨#[]⟩ ↔ s.size = 0 := by
  constructor
  · rintro rfl; rfl
  · intro h
    cases s with
    | mk d => simp only [ByteArray.size, Array.size_eq_zero_iff] at h; rw [h]
section
variable {st : St} {S : List Sec} {tk : Tk}
set_option maxRecDepth 100000 in
theorem secRight_v {n k : ByteArray} : VCalls Try.prog 18 [.agg [.sc (.string n), .sc (.string k)]] st fun r s => r = .sc (.bool (rightS (n, k))) ∧ st = s := by
  refine vcalls_enter vc18 (Nat.le_of_ble_eq_true rfl) fun hwf hok => ?_
  show Run _ Vc18.body (.fin (finQ Vc18.res _)) _ _
  unfold Vc18
  simp (config := {maxSteps := 3000000}) only [run_reg, run_seq, at_code_n, ops_nil, ops_grd, ops_mv, ops_bin, ops_fld, ops_load, ops_slen, ops_box, ev_t, ev_c, put_get, opv_mk, Bx, put_box_same, args0, List.getD_cons_zero, vbin, vbinI, vfld, vslen, vload, takeV, takeB, V.cells, ptrV, obsOk, List.length_cons, List.length_nil, List.getElem?_cons_zero, true_and, Nat.reduceEqDiff, Nat.reduceAdd, Nat.zero_add, Nat.add_zero, ↓reduceIte, ne_eq, not_false_eq_true, eq_self, reduceCtorEq]
  intro b hb
  by_cases c1 : 1 ≤ n.size
  · by_cases c2 : n.size ≤ 40
    · by_cases c3 : 1 ≤ k.size
      · simp (config := {maxSteps := 3000000}) only [run_ret, at_code_n, at_fin_r, ops_nil, ops_grd, grd_tt, ops_mv, ops_pick, ops_bin, ops_fld, ops_load, ops_slen, ev_t, ev_c, put_get, opv_mk, put_box_same, vpick, vbin, vbinI, vfld, vslen, vload, takeV, takeB, V.cells, List.length_cons, List.length_nil, List.getElem?_cons_zero, List.getElem?_cons_succ, and_true, true_and, Nat.reduceEqDiff, Nat.zero_add, Nat.add_zero, ↓reduceIte, vret, rvAll, rvVal, resv_1, eq_self, decide_eq_true (show (1 : Int) ≤ (n.size : Int) by omega), decide_eq_true (show (n.size : Int) ≤ 40 by omega), decide_eq_true (show (1 : Int) ≤ (k.size : Int) by omega)]
        exact ⟨_, _, Wk.refl _, weak_put hwf.weak hb, by simp [rightS, c1, c2, c3]; omega, rfl⟩
      · simp (config := {maxSteps := 3000000}) only [run_ret, at_code_n, at_fin_r, ops_nil, ops_grd, grd_tt, grd_ft, ops_mv, ops_pick, ops_bin, ops_fld, ops_load, ops_slen, ev_t, ev_c, put_get, opv_mk, put_box_same, vpick, vbin, vbinI, vfld, vslen, vload, takeV, takeB, V.cells, List.length_cons, List.length_nil, List.getElem?_cons_zero, List.getElem?_cons_succ, and_true, true_and, Nat.reduceEqDiff, Nat.zero_add, Nat.add_zero, ↓reduceIte, vret, rvAll, rvVal, resv_1, eq_self, Bool.false_eq_true, decide_eq_true (show (1 : Int) ≤ (n.size : Int) by omega), decide_eq_true (show (n.size : Int) ≤ 40 by omega), decide_eq_false (show ¬ (1 : Int) ≤ (k.size : Int) by omega)]
        exact ⟨_, _, Wk.refl _, weak_put hwf.weak hb, by simp [rightS, c3], rfl⟩
    · simp (config := {maxSteps := 3000000}) only [run_ret, at_code_n, at_fin_r, ops_nil, ops_grd, grd_tt, grd_ft, ops_mv, ops_pick, ops_bin, ops_fld, ops_load, ops_slen, ev_t, ev_c, put_get, opv_mk, put_box_same, vpick, vbin, vbinI, vfld, vslen, vload, takeV, takeB, V.cells, List.length_cons, List.length_nil, List.getElem?_cons_zero, and_true, true_and, Nat.reduceEqDiff, Nat.zero_add, Nat.add_zero, ↓reduceIte, vret, rvAll, rvVal, resv_1, eq_self, Bool.false_eq_true, decide_eq_true (show (1 : Int) ≤ (n.size : Int) by omega), decide_eq_false (show ¬ (n.size : Int) ≤ 40 by omega)]
      exact ⟨_, _, Wk.refl _, weak_put hwf.weak hb, by simp [rightS, c2], rfl⟩
  · simp (config := {maxSteps := 3000000}) only [run_ret, at_code_n, at_fin_r, ops_nil, ops_grd, grd_ft, ops_mv, ops_pick, ev_t, ev_c, put_get, opv_mk, vpick, and_true, true_and, Nat.reduceEqDiff, ↓reduceIte, vret, rvAll, rvVal, resv_1, eq_self, Bool.false_eq_true, decide_eq_false (show ¬ (1 : Int) ≤ (n.size : Int) by omega)]
    exact ⟨_, _, Wk.refl _, weak_put hwf.weak hb, by simp [rightS, c1], rfl⟩
set_option maxRecDepth 100000 in
theorem lRight14_v {n k : ByteArray} : VCalls Try.prog 19 [.agg [.sc (.string n), .sc (.string k)]] st fun r s => r = .sc (.bool (rightS (n, k))) ∧ st = s := by
  refine vcalls_enter vc19 (Nat.le_of_ble_eq_true rfl) fun hwf hok => ?_
  show Run _ Vc19.body (.fin (finQ Vc19.res _)) _ _
  unfold Vc19
  simp (config := {maxSteps := 3000000}) only [run_reg, run_seq, at_code_n, ops_nil, ops_grd, ops_mv, ops_bin, ops_fld, ops_load, ops_box, ev_t, ev_c, put_get, opv_mk, Bx, put_box_same, args0, List.getD_cons_zero, vbin, vbinS, vfld, vload, takeV, takeB, V.cells, ptrV, obsOk, List.length_cons, List.length_nil, List.getElem?_cons_zero, true_and, Nat.reduceEqDiff, Nat.reduceAdd, Nat.zero_add, Nat.add_zero, ↓reduceIte, ne_eq, not_false_eq_true, eq_self, reduceCtorEq]
  intro b hb
  by_cases c1 : n = ⟨#[]⟩
  · have := nil_size.1 c1
    simp (config := {maxSteps := 3000000}) only [run_ret, at_code_n, at_fin_r, ops_nil, ops_grd, grd_ft, ops_mv, ops_pick, ev_t, ev_c, put_get, opv_mk, vpick, and_true, true_and, Nat.reduceEqDiff, ↓reduceIte, vret, rvAll, rvVal, resv_1, eq_self, Bool.false_eq_true, decide_eq_false (show ¬ n ≠ ⟨#[]⟩ from fun h => h c1)]
    exact ⟨_, _, Wk.refl _, weak_put hwf.weak hb, by simp [rightS, this], rfl⟩
  have d1 : 1 ≤ n.size := by
    rcases Nat.eq_zero_or_pos n.size with h | h
    · exact absurd (nil_size.2 h) c1
    · exact h
  by_cases c2 : k = ⟨#[]⟩
  · have := nil_size.1 c2
    simp (config := {maxSteps := 3000000}) only [run_ret, at_code_n, at_fin_r, ops_nil, ops_grd, grd_tt, grd_ft, ops_mv, ops_pick, ops_bin, ops_fld, ops_load, ev_t, ev_c, put_get, opv_mk, put_box_same, vpick, vbin, vbinS, vfld, vload, takeV, takeB, V.cells, List.length_cons, List.length_nil, List.getElem?_cons_zero, List.getElem?_cons_succ, and_true, true_and, Nat.reduceEqDiff, Nat.zero_add, ↓reduceIte, vret, rvAll, rvVal, resv_1, ne_eq, eq_self, Bool.false_eq_true, decide_eq_true (show n ≠ ⟨#[]⟩ from c1), decide_eq_false (show ¬ k ≠ ⟨#[]⟩ from fun h => h c2)]
    exact ⟨_, _, Wk.refl _, weak_put hwf.weak hb, by simp [rightS, this], rfl⟩
  have d2 : 1 ≤ k.size := by
    rcases Nat.eq_zero_or_pos k.size with h | h
    · exact absurd (nil_size.2 h) c2
    · exact h
  by_cases c3 : n.size ≤ 40
  · simp (config := {maxSteps := 3000000}) only [run_ret, at_code_n, at_fin_r, ops_nil, ops_grd, grd_tt, ops_mv, ops_pick, ops_bin, ops_fld, ops_load, ops_slen, ev_t, ev_c, put_get, opv_mk, put_box_same, vpick, vbin, vbinI, vbinS, vfld, vslen, vload, takeV, takeB, V.cells, List.length_cons, List.length_nil, List.getElem?_cons_zero, List.getElem?_cons_succ, and_true, true_and, Nat.reduceEqDiff, Nat.zero_add, Nat.add_zero, ↓reduceIte, vret, rvAll, rvVal, resv_1, ne_eq, eq_self, decide_eq_true (show n ≠ ⟨#[]⟩ from c1), decide_eq_true (show k ≠ ⟨#[]⟩ from c2), decide_eq_true (show (n.size : Int) ≤ 40 by omega)]
    exact ⟨_, _, Wk.refl _, weak_put hwf.weak hb, by simp [rightS, d1, d2, c3]; omega, rfl⟩
  · simp (config := {maxSteps := 3000000}) only [run_ret, at_code_n, at_fin_r, ops_nil, ops_grd, grd_tt, grd_ft, ops_mv, ops_pick, ops_bin, ops_fld, ops_load, ops_slen, ev_t, ev_c, put_get, opv_mk, put_box_same, vpick, vbin, vbinI, vbinS, vfld, vslen, vload, takeV, takeB, V.cells, List.length_cons, List.length_nil, List.getElem?_cons_zero, List.getElem?_cons_succ, and_true, true_and, Nat.reduceEqDiff, Nat.zero_add, Nat.add_zero, ↓reduceIte, vret, rvAll, rvVal, resv_1, ne_eq, eq_self, Bool.false_eq_true, decide_eq_true (show n ≠ ⟨#[]⟩ from c1), decide_eq_true (show k ≠ ⟨#[]⟩ from c2), decide_eq_false (show ¬ (n.size : Int) ≤ 40 by omega)]
    exact ⟨_, _, Wk.refl _, weak_put hwf.weak hb, by simp [rightS, c3], rfl⟩
/-- Why there is no table. -/
def whyS (kept : List Sec) : List Sec → Int
  | [] => 0
  | s :: r => if rightS s = false then 13 else if (aget s.1 kept).isSome = true then 72 else whyS (kept ++ [s]) r
def newS (S : List Sec) : Int := if 8 < S.length then 12 else whyS [] S
/-- Midway: the result, the table, its map. -/
structure SecI (st s : St) (rb tb mb : Nat) (kept : List Sec) (es : List (V × V × Nat)) (c : Nat) : Prop where
  rbox : s.box rb = some [.sc (.map none)]
  tbox : s.box tb = some [.sc (.map (some mb))]
  mbox : s.box mb = some [.mp false [.str] es c]
  mp : Mp vstr vstr es c kept
  weak : st.weak s
  lt : s.Lt
  rt : rb ≠ tb
  rm : rb ≠ mb
  tm : tb ≠ mb
  fr : st.sz ≤ rb
  ft : st.sz ≤ tb
  fm : st.sz ≤ mb
theorem SecI.var {s : St} {rb tb mb c : Nat} {kept : List Sec} {es : List (V × V × Nat)} (h : SecI st s rb tb mb kept es c) {v : Nat} (hv : s.sz ≤ v) (cs : List V) : SecI st (s.put v cs) rb tb mb kept es c := by
  have q1 := h.lt.box rb _ h.rbox
  have q2 := h.lt.box tb _ h.tbox
  have q3 := h.lt.box mb _ h.mbox
  exact ⟨by rw [put_box_ne (by omega)]; exact h.rbox, by rw [put_box_ne (by omega)]; exact h.tbox, by rw [put_box_ne (by omega)]; exact h.mbox, h.mp, weak_put h.weak (by have := h.weak.sz; omega), h.lt.put, h.rt, h.rm, h.tm, h.fr, h.ft, h.fm⟩
theorem SecI.add {s : St} {rb tb mb c : Nat} {kept : List Sec} {es : List (V × V × Nat)} (h : SecI st s rb tb mb kept es c) {n k : ByteArray} (ha : aget n kept = none) :
    SecI st (s.put mb [.mp false [.str] (mset (vstr n) (vstr k) c es) (mclk es (vstr n) c)]) rb tb mb (kept ++ [(n, k)]) (mset (vstr n) (vstr k) c es) (mclk es (vstr n) c) := by
  have m1 := Mp.set vstr_eq h.mp n k
  rw [aset_new ha] at m1
  exact ⟨by rw [put_box_ne h.rm]; exact h.rbox, by rw [put_box_ne h.tm]; exact h.tbox, put_box_same, m1, weak_put h.weak h.fm, h.lt.put, h.rt, h.rm, h.tm, h.fr, h.ft, h.fm⟩
/-- A table of these secrets. -/
structure TabS (s : St) (mb : Nat) (S : List Sec) (es : List (V × V × Nat)) (c : Nat) : Prop where
  box : s.box mb = some [.mp false [.str] es c]
  mp : Mp vstr vstr es c S
theorem TabS.find {s : St} {mb c : Nat} {es : List (V × V × Nat)} (h : TabS s mb S es c) (n : ByteArray) : mfind (.sc (.string n)) es = (aget n S).map vstr := Mp.find vstr_eq h.mp n
theorem TabS.put {s : St} {mb c b : Nat} {es : List (V × V × Nat)} {cs : List V} (h : TabS s mb S es c) (hb : mb ≠ b) : TabS (s.put b cs) mb S es c := ⟨by rw [put_box_ne hb]; exact h.box, h.mp⟩
def NewSQ (st : St) (S : List Sec) (r : V) (s : St) : Prop :=
  (newS S ≠ 0 ∧ r = .tup [.agg [.sc (.map none)], .sc (.int .i64 (newS S))] ∧ s = st) ∨
  (newS S = 0 ∧ ∃ mb es c, r = .tup [.agg [.sc (.map (some mb))], .sc (.int .i64 0)] ∧ TabS s mb S es c ∧ st.weak s ∧ s.Lt ∧ st.sz ≤ mb)
set_option maxRecDepth 100000 in
set_option maxHeartbeats 4000000 in
theorem secNew_v : VCalls Try.prog 17 [.sl tk (secs S)] st (NewSQ st S) := by
  refine vcalls_enter vc17 (Nat.le_of_ble_eq_true rfl) fun hwf hok => ?_
  show Run _ Vc17.body (.fin (finQ Vc17.res _)) _ _
  unfold Vc17
  have hsm := vlen_max (hok (.sl tk (secs S)) (by simp))
  rw [secs_len] at hsm
  simp (config := {maxSteps := 3000000}) only [run_reg, run_seq, run_cond, at_code_n, ops_nil, ops_mv, ops_bin, ops_len, ops_alc, ev_t, ev_c, put_get, opv_mk, args0, List.getD_cons_zero, vbin, vbinI, vlen, ptrV, obsOk, true_and, ↓reduceIte, eq_self, reduceCtorEq]
  intro rb hrb
  by_cases c1 : 8 < S.length
  · have e : newS S = 12 := by simp [newS, c1]
    simp (config := {maxSteps := 3000000}) only [run_reg, run_seq, run_ret, if_true, at_code_n, at_code_r, at_fin_r, ops_nil, ops_mv, ops_bld, ops_store, ev_t, ev_c, put_get, put_none, opv_mk, stb_some, sto_ptr, Stp, vbld, put_box_same, put_put, args0, vload, takeV, takeB, mono_sc, fillV, splice, V.cells, obsOk, List.map_cons, List.map_nil, List.length_cons, List.length_nil, List.take_succ_cons, List.take_zero, List.drop_succ_cons, List.drop_zero, List.nil_append, List.append_nil, List.take_nil, List.drop_nil, and_true, true_and, Nat.reduceEqDiff, Nat.reduceLT, Nat.reduceLeDiff, Nat.reduceLT, Nat.zero_add, ↓reduceIte, vret, rvAll, rvVal, resv_2, eq_self, secs_len, decide_eq_true (show (8 : Int) < (S.length : Int) by omega)]
    exact ⟨_, _, Wk.refl _, weak_put hwf.weak hrb, .inl ⟨by rw [e]; simp, by rw [e], rfl⟩⟩
  have e0 : newS S = whyS [] S := by simp [newS, c1]
  simp (config := {maxSteps := 3000000}) only [run_skip, run_reg, run_seq, run_blk, if_false, at_code_n, ops_nil, ops_mv, ops_len, ops_bld, ops_alc, ops_store, ev_t, ev_c, put_get, put_none, opv_mk, stb_some, sto_ptr, Stp, vbld, put_box_same, put_sz, put_put, args0, List.getD_cons_zero, vlen, mono_sc, ops_mkm, fillV, splice, V.cells, ptrV, obsOk, List.map_cons, List.map_nil, List.length_cons, List.length_nil, List.take_zero, List.drop_succ_cons, List.nil_append, List.append_nil, List.drop_nil, and_true, true_and, Nat.reduceEqDiff, Nat.reduceLT, Nat.reduceLeDiff, Nat.reduceLT, Nat.zero_add, ↓reduceIte, eq_self, reduceCtorEq, secs_len, decide_eq_false (show ¬ (8 : Int) < (S.length : Int) by omega)]
  intro mb hmb tb htb
  have hlt := hwf.lt
  have q1 : rb < mb := by omega
  have q2 : mb < tb := by omega
  have q3 : st.sz ≤ mb := by omega
  have q4 : st.sz ≤ tb := by omega
  clear htb hmb
  have I0 : SecI st (((st.put rb [.sc (.map none)]).put mb [.mp false [.str] [] 0]).put tb [.sc (.map (some mb))]) rb tb mb [] [] 0 :=
    ⟨by rw [put_box_ne (by omega), put_box_ne (by omega), put_box_same], put_box_same, by rw [put_box_ne (by omega), put_box_same], .nil, weak_put (weak_put (weak_put hwf.weak hrb) q3) q4, hlt.put.put.put, by omega, by omega, by omega, hrb, q4, q3⟩
  refine run_loop [3, 6, 7, 8, 17, 18, 19, 20, 21, 22, 23, 24, 25, 26, 27, 28, 29, 30, 31, 32, 33, 34, 35, 36, 37, 38, 39, 40, 41] (fun C s' => ∃ (i : Nat) (es : List (V × V × Nat)) (c : Nat), i ≤ S.length ∧ C 17 = .sc (.int .i64 i) ∧ SecI st s' rb tb mb (S.take i) es c ∧ whyS [] S = whyS (S.take i) (S.drop i)) (fun C _ => S.length - vnat (C 17)) rfl ?_ ?_
  · simp (config := {maxSteps := 3000000}) only [put_get, ↓reduceIte, eq_self]
    exact ⟨0, [], 0, by omega, rfl, I0, rfl⟩
  · rintro C s' ⟨i, es, c, hi, h17, I, hE⟩
    by_cases hlt' : i < S.length
    · obtain ⟨x, hx⟩ := get_ex hlt'
      have hdr : S.drop i = x :: S.drop (i + 1) := by
        rw [List.drop_eq_getElem_cons hlt']
        have := (List.getElem?_eq_some_iff.1 hx).2
        rw [this]
      have htk : S.take (i + 1) = S.take i ++ [x] := by rw [List.take_add_one, hx]; rfl
      rw [hdr] at hE
      simp only [whyS] at hE
      simp (config := {maxSteps := 3000000}) only [run_skip, run_reg, run_seq, run_blk, run_cond, if_true, at_code_n, ops_nil, ops_bin, ops_ix, ops_load, ops_alc, ops_store, ops_call, ev_t, put_get, put_none, opv_mk, stb_some, sto_ptr, over_get, vnat, Stp, put_box_same, put_put, vbin, vbinI, vix, vload, takeV, takeB, mono_two, splice, V.cells, ptrV, obsOk, List.map_cons, List.map_nil, List.length_cons, List.length_nil, List.take_succ_cons, List.take_zero, List.drop_succ_cons, List.drop_zero, List.nil_append, List.append_nil, List.take_nil, List.drop_nil, and_true, true_and, Nat.reduceEqDiff, Nat.reduceAdd, Nat.reduceLT, Nat.reduceLeDiff, Nat.reduceLT, Int.toNat_natCast, Nat.zero_add, ↓reduceIte, eq_self, Bool.false_eq_true, List.contains_cons, List.contains_nil, Nat.reduceBEq, Bool.or_false, Bool.or_true, h17, secs_get hx, decide_eq_true (show (i : Int) < (S.length : Int) by omega)]
      repeat (apply And.intro; focus (first | omega | (simp; done)))
      intro v hv
      have I1 := I.var hv [.sc (.string x.1), .sc (.string x.2)]
      refine Cal.mk secRight_v ?_
      rintro _ _ ⟨rfl, rfl⟩ -
      have nv1 : rb ≠ v := by have := I.lt.box rb _ I.rbox; omega
      have nv2 : tb ≠ v := by have := I.lt.box tb _ I.tbox; omega
      have nv3 : mb ≠ v := by have := I.lt.box mb _ I.mbox; omega
      cases c7 : rightS (x.1, x.2)
      · rw [if_pos c7] at hE
        simp (config := {maxSteps := 3000000}) only [run_reg, run_seq, run_ret, run_cond, if_true, at_code_n, at_code_r, at_blk_r, at_rnd_r, at_fin_r, ops_nil, ops_mv, ops_un, ops_bld, ops_store, ev_t, ev_c, put_get, put_none, opv_mk, stb_some, sto_ptr, over_get, Stp, vbld, put_box_same, args0, vun, vload, takeV, takeB, mono_sc, fillV, splice, V.cells, obsOk, List.map_cons, List.map_nil, List.length_cons, List.length_nil, List.take_succ_cons, List.take_zero, List.drop_succ_cons, List.drop_zero, List.nil_append, List.append_nil, List.take_nil, List.drop_nil, and_true, true_and, Nat.reduceEqDiff, Nat.reduceLT, Nat.reduceLeDiff, Nat.reduceLT, Nat.zero_add, ↓reduceIte, vret, rvAll, rvVal, resv_2, Bool.not_false, eq_self, Bool.false_eq_true, List.contains_cons, List.contains_nil, Nat.reduceBEq, Bool.or_false, put_box_ne nv1, I.rbox]
        exact ⟨_, _, Wk.refl _, weak_put I1.weak hrb, .inl ⟨by rw [e0, hE]; simp, by rw [e0, hE], rfl⟩⟩
      rw [if_neg (by rw [c7]; simp)] at hE
      have hfd : mfind (.sc (.string x.1)) es = (aget x.1 (S.take i)).map vstr := Mp.find vstr_eq I.mp x.1
      cases c8 : aget x.1 (S.take i) with
      | some y =>
        rw [if_pos (by rw [c8]; rfl)] at hE
        simp (config := {maxSteps := 3000000}) only [run_skip, run_reg, run_seq, run_ret, run_cond, if_true, if_false, at_code_n, at_code_r, at_blk_r, at_rnd_r, at_fin_r, ops_nil, ops_mv, ops_un, ops_fld, ops_load, ops_ext, ops_bld, ops_store, ev_t, ev_c, put_get, put_none, opv_mk, stb_some, sto_ptr, over_get, Stp, vbld, put_box_same, args0, vun, vfld, vext, vload, takeV, takeB, mono_sc, vmlk, kOk, fitsV, ops_mlk, fillV, splice, V.cells, obsOk, List.map_cons, List.map_nil, List.length_cons, List.length_nil, List.getElem?_cons_zero, List.getElem?_cons_succ, List.take_succ_cons, List.take_zero, List.drop_succ_cons, List.drop_zero, List.nil_append, List.append_nil, List.take_nil, List.drop_nil, Option.map_some, and_true, true_and, Nat.reduceEqDiff, Nat.reduceLT, Nat.reduceLeDiff, Nat.reduceLT, Nat.zero_add, Nat.add_zero, ↓reduceIte, vret, rvAll, rvVal, resv_2, Bool.not_true, eq_self, Bool.false_eq_true, List.contains_cons, List.contains_nil, Nat.reduceBEq, Bool.or_false, put_box_ne nv1, put_box_ne nv2, put_box_ne nv3, I.rbox, I.tbox, I.mbox, hfd, c8, Option.isSome_some, Option.getD_some, Option.map_some]
        exact ⟨_, _, Wk.refl _, weak_put I1.weak hrb, .inl ⟨by rw [e0, hE]; simp, by rw [e0, hE], rfl⟩⟩
      | none =>
        rw [if_neg (by rw [c8]; simp)] at hE
        have hA := I1.add (n := x.1) (k := x.2) c8
        simp only [vstr] at hA
        simp (config := {maxSteps := 3000000}) only [run_skip, run_reg, run_seq, run_cond, if_false, at_code_n, at_blk_n, at_rnd_n, ops_nil, ops_mv, ops_bin, ops_un, ops_fld, ops_load, ops_ext, ev_t, ev_c, put_get, put_none, opv_mk, over_get, rel_mk, Stp, put_box_same, vbin, vbinI, vun, norm, vfld, vext, vload, takeV, takeB, vmlk, kOk, fitsV, ops_mlk, ops_mup, mup_map, mub_some, V.cells, obsOk, List.length_cons, List.length_nil, List.getElem?_cons_zero, List.getElem?_cons_succ, Option.map_none, and_true, true_and, Nat.reduceEqDiff, Int.reduceNeg, Nat.zero_add, Nat.add_zero, ↓reduceIte, Bool.not_true, eq_self, Bool.false_eq_true, List.contains_cons, List.contains_nil, Nat.reduceBEq, Bool.or_false, Bool.or_true, put_box_ne nv2, put_box_ne nv3, I.tbox, I.mbox, hfd, c8, Option.isSome_none, Option.getD_none, h17]
        repeat (apply And.intro; focus (first | omega | (simp; done)))
        exact ⟨⟨i + 1, _, _, by omega, by simp, by rw [htk]; exact hA, by rw [htk]; exact hE⟩, by omega⟩
    · obtain rfl : i = S.length := by omega
      rw [List.drop_length, List.take_length] at hE
      rw [List.take_length] at I
      have rt := I.rt
      have rm := I.rm
      simp (config := {maxSteps := 3000000}) only [run_reg, run_seq, run_exit, run_ret, run_cond, if_false, at_code_n, at_code_x, at_blk_x, at_rnd_x, at_fin_r, ops_nil, ops_mv, ops_bin, ops_load, ops_store, ev_t, ev_c, put_get, put_none, opv_mk, stb_some, sto_ptr, over_get, vnat, Stp, put_box_same, args0, vbin, vbinI, vload, takeV, takeB, mono_sc, splice, V.cells, obsOk, List.map_cons, List.map_nil, List.length_cons, List.length_nil, List.take_succ_cons, List.take_zero, List.drop_succ_cons, List.drop_zero, List.nil_append, List.append_nil, List.take_nil, List.drop_nil, and_true, true_and, Nat.reduceEqDiff, Nat.reduceLT, Nat.reduceLeDiff, Nat.reduceLT, Int.toNat_natCast, Nat.zero_add, ↓reduceIte, vret, rvAll, rvVal, resv_2, decide_false, Int.lt_irrefl, eq_self, Bool.false_eq_true, List.contains_cons, List.contains_nil, Nat.reduceBEq, Bool.or_false, Bool.or_true, h17, I.tbox, I.rbox]
      exact ⟨_, _, Wk.refl _, I.lt.put.weak, .inr ⟨by rw [e0, hE]; rfl, mb, es, c, rfl, ⟨by rw [put_box_ne rm.symm]; exact I.mbox, I.mp⟩, weak_put I.weak hrb, I.lt.put, I.fm⟩⟩
end
end Go.Proofs.Ytlngegoamfklgaa
