/- icmp.About and the document's: contracts; IcmpAbout, walked. -/
import Derived.Test.YtbmkohmhiafphaaVIcmp2
import Derived.Test.YtbmkohmhiafphaaVFragLaw
namespace Go.Proofs.Ytbmkohmhiafphaa
open Go Go.RowKit

def aboutN (L : List Int) : Nat := 20 + (ipD L).O.length + min (ipD L).D.length 8
def aboutD (me : Int) (L : List Int) (m : MS) : DG := ⟨0, 64, 1, 0, 0, me, (ipD L).src, [], msB ⟨m.t, m.c, m.w, L.take (aboutN L)⟩⟩
def abouts (L : List Int) : Prop := ipE L = 0 ∧ ¬ quietB (ipD L)
instance (L : List Int) : Decidable (abouts L) := by unfold abouts; infer_instance
def aboutB (me : Int) (L : List Int) (m : MS) : List Int := if abouts L then ipB (aboutD me L m) else []
theorem aboutM_ok {L : List Int} (hB : IsB L) {m : MS} (hm : m.Ok) : (MS.mk m.t m.c m.w (L.take (aboutN L))).Ok := ⟨hm.t, hm.c, hm.w, hB.take _⟩
theorem aboutD_ok {me : Int} (h0 : 0 ≤ me) (h1 : me < 4294967296) {L : List Int} (hB : IsB L) (h : ipE L = 0) {m : MS} (hm : m.Ok) : (aboutD me L m).Ok :=
  ⟨by simp [aboutD], by simp [aboutD], by simp [aboutD], by simp [aboutD], by simp [aboutD], ⟨h0, h1⟩, (ipD_lim hB h).ok.src, (fun _ hx => nomatch hx), msB_isB (aboutM_ok hB hm)⟩
theorem aboutD_fits {me : Int} {L : List Int} (hL : L.length ≤ 2000) {m : MS} : ipFits (aboutD me L m) := by
  refine ⟨by simp [aboutD], by simp [aboutD], ?_⟩
  simp only [aboutD, msB_len, List.length_take, List.length_nil]; omega
/-- Of what says an error nothing is said. -/
theorem about_again {me : Int} (h0 : 0 ≤ me) (h1 : me < 4294967296) {L : List Int} (hB : IsB L) (hL : L.length ≤ 2000) {m : MS} (hm : m.Ok) (ht0 : m.t ≠ 0) (ht8 : m.t ≠ 8) : aboutB me (aboutB me L m) m = [] := by
  have e0 : ∀ m, aboutB me [] m = [] := fun m => if_neg (fun h => by have := h.1; revert this; decide)
  by_cases ha : abouts L
  · rw [show aboutB me L m = ipB (aboutD me L m) from if_pos ha]
    have hb := ip_back (aboutD_ok h0 h1 hB ha.1 hm) (aboutD_fits (me := me) (m := m) hL) []
    rw [List.append_nil] at hb
    refine if_neg fun h => h.2 ?_
    rw [hb.2]
    refine .inr (.inr (.inr ⟨rfl, .inr ?_⟩))
    have : (aboutD me L m).D.getD 0 0 = m.t := by simp [aboutD, msB, msPre]
    rw [this]
    exact ⟨ht8, ht0⟩
  · rw [show aboutB me L m = [] from if_neg ha]; exact e0 m
theorem aboutB_isB {me : Int} (h0 : 0 ≤ me) (h1 : me < 4294967296) {L : List Int} (hB : IsB L) (hL : L.length ≤ 2000) {m : MS} (hm : m.Ok) : IsB (aboutB me L m) ∧ (aboutB me L m).length ≤ 2000 := by
  unfold aboutB
  split
  · rename_i h
    have hd := aboutD_ok h0 h1 hB h.1 hm
    have hf := aboutD_fits (me := me) (m := m) hL
    have hr := ckS_range (ipPre_isB hd (c := 0) (by omega) (by omega) hf)
    refine ⟨(ipPre_isB hd hr.1 (by omega) hf).append hd.D, ?_⟩
    have := ipPre_len (aboutD me L m) (ckS (ipPre (aboutD me L m) 0))
    have hl := ipD_lim hB h.1
    have := hl.O40
    simp only [ipB, List.length_append, ipPre_len]
    simp only [aboutD, msB_len, List.length_take, List.length_nil, aboutN]; omega
  · exact ⟨(fun _ hx => nomatch hx), by simp⟩
section
variable {tk tk' tk1 tk2 : Tk} {st : St} {L : List Int}
theorem About_v {me : Int} (h0 : 0 ≤ me) (h1 : me < 4294967296) (hB : IsB L) (hL : L.length ≤ 2000) (m : MS) (hm : m.Ok) : VCalls Try.prog 36 [.sc (.int .u32 me), .sl tk (bs L), .sc (.int .u8 m.t), .sc (.int .u8 m.c), .sc (.int .u32 m.w)] st fun r st' => r = .sl .no (bs (aboutB me L m)) ∧ st = st' := by
  refine vcalls_enter vc36 (Nat.le_of_ble_eq_true rfl) fun hwf hok => ?_
  show Run _ Vc36.body (.fin (finQ Vc36.res _)) _ _
  unfold Vc36
  simp (config := {maxSteps := 3000000}) only [run_reg, run_seq, at_code_n, ops_nil, ops_mv, ops_call, ev_t, ev_c, put_get, opv_mk, args0, List.getD_cons_zero, List.getD_cons_succ, List.map_cons, List.map_nil, true_and, Nat.reduceEqDiff, ↓reduceIte, eq_self]
  refine Cal.mk (ip4Parse_v hB (by omega)) ?_
  rintro _ _ ⟨⟨tk1, tk2, rfl⟩, rfl⟩ -
  have hN : ipE L = 0 → aboutN L ≤ L.length := fun h => by have := (ipD_lim hB h).len; unfold aboutN; omega
  have hA : abouts L ↔ ipE L = 0 ∧ ¬ quietB (ipD L) := Iff.rfl
  have hR1 : abouts L → aboutB me L m = ipB (aboutD me L m) := fun h => if_pos h
  have hR2 : ¬ abouts L → aboutB me L m = [] := fun h => if_neg h
  have gq := fun (h : ipE L = 0) (tk tk' : Tk) (st : St) => quiet_v (tk := tk) (tk' := tk') (st := st) (ipD L) (ipD_lim hB h).ok
  have gm := fun (tk : Tk) (st : St) => icmpBuild_v (tk := tk) (st := st) ⟨m.t, m.c, m.w, L.take (aboutN L)⟩ (aboutM_ok hB hm) (by simp; omega)
  have gb := fun (h : ipE L = 0) (tk tk' : Tk) (st : St) => ipBuild_v (tk := tk) (tk' := tk') (st := st) (aboutD me L m) (aboutD_ok h0 h1 hB h hm) (by simp [aboutD]) (by simp only [aboutD, msB_len, List.length_take]; omega)
  have hf := aboutD_fits (me := me) (m := m) hL
  rw [if_pos hf] at gb
  have hNd : aboutN L = 20 + (ipD L).O.length + min (ipD L).D.length 8 := rfl
  have hD : aboutD me L m = ⟨0, 64, 1, 0, 0, me, (ipD L).src, [], msB ⟨m.t, m.c, m.w, L.take (aboutN L)⟩⟩ := rfl
  generalize aboutB me L m = R at *
  generalize abouts L = A at *
  generalize quietB (ipD L) = Q at *
  clear hf
  generalize ipB (aboutD me L m) = IB at *
  rw [hD] at gb
  clear hD
  generalize aboutN L = n at *
  generalize ipD L = d at *
  generalize ipE L = e at *
  generalize msB ⟨m.t, m.c, m.w, L.take n⟩ = MB at *
  obtain ⟨tos, ttl, proto, id, frag, src, dst, O, D⟩ := d
  obtain ⟨t, c, w, MD⟩ := m
  simp only [DG.v, MS.v] at gq gm gb
  simp only at hNd
  simp (config := {maxSteps := 3000000}) only [run_reg, run_seq, at_code_n, ops_nil, ops_grd, ops_mv, ops_bin, ops_ext, ops_alc, ops_store, ev_t, ev_c, put_get, put_none, opv_mk, stb_some, sto_ptr, Stp, put_box_same, put_put, vbin, vbinI, vext, splice, V.cells, ptrV, obsOk, List.length_cons, List.length_nil, List.getElem?_cons_zero, List.getElem?_cons_succ, List.take_zero, List.drop_succ_cons, List.nil_append, List.append_nil, List.drop_nil, true_and, Nat.reduceEqDiff, Nat.reduceAdd, Nat.reduceLT, Nat.reduceLeDiff, Nat.reduceLT, Nat.zero_add, ↓reduceIte, ne_eq, eq_self, DG.v]
  intro b hb
  by_cases he : e = 0
  rotate_left
  · simp (config := {maxSteps := 3000000}) only [run_reg, run_seq, run_ret, run_cond, if_true, at_code_n, at_code_r, at_fin_r, ops_nil, ops_grd, grd_tf, ops_mv, ops_pick, ev_t, ev_c, put_get, opv_mk, vpick, and_true, true_and, Nat.reduceEqDiff, ↓reduceIte, vret, rvAll, rvVal, resv_1, eq_self, decide_eq_true he]
    rw [hR2 (fun h => he (hA.1 h).1)]
    exact ⟨_, _, Wk.no, weak_put hwf.weak hb, rfl, rfl⟩
  simp (config := {maxSteps := 3000000}) only [ops_grd, grd_ff, ops_load, ops_call, ev_t, put_get, opv_mk, put_box_same, vload, takeV, List.map_cons, List.map_nil, List.length_cons, List.length_nil, List.take_succ_cons, List.drop_zero, List.take_nil, true_and, Nat.reduceEqDiff, Nat.reduceAdd, Nat.reduceLeDiff, Nat.zero_add, ↓reduceIte, eq_self, decide_eq_false (show ¬ ¬ e = 0 by omega)]
  refine Cal.mk (gq he _ _ _) ?_
  rintro _ _ ⟨⟨q, rfl, hq⟩, rfl⟩ -
  cases q
  rotate_left
  · simp (config := {maxSteps := 3000000}) only [run_reg, run_seq, run_ret, run_cond, if_true, at_code_n, at_code_r, at_fin_r, ops_nil, ops_mv, ops_pick, ev_t, ev_c, put_get, opv_mk, vpick, obsOk, and_true, true_and, Nat.reduceEqDiff, ↓reduceIte, vret, rvAll, rvVal, resv_1, eq_self, Bool.false_eq_true]
    rw [hR2 (fun h => (hA.1 h).2 (hq.1 rfl))]
    exact ⟨_, _, Wk.no, weak_put hwf.weak hb, rfl, rfl⟩
  have hA1 : A := hA.2 ⟨he, fun h => by have := hq.2 h; cases this⟩
  rw [hR1 hA1]
  obtain ⟨k, hk⟩ : ∃ k : Nat, min (D.length : Int) 8 = (k : Int) := ⟨min D.length 8, by omega⟩
  have hn : (20 + (O.length : Int) + (k : Int)).toNat = n := by omega
  have hN := hN he
  simp (config := {maxSteps := 3000000}) only [run_skip, run_reg, run_seq, run_cond, if_false, at_code_n, ops_nil, ops_mv, ops_pick, ops_bin, ops_fld, ops_load, ops_len, ops_mn, ops_bld, ops_slc, ops_call, ev_t, ev_c, put_get, opv_mk, vbld, put_box_same, args0, List.getD_cons_zero, List.getD_cons_succ, vpick, vbin, vbinI, norm, vfld, vlen, vmm, vload, takeV, vslc, fillV, splice, V.cells, obsOk, List.map_cons, List.map_nil, List.length_cons, List.length_nil, List.getElem?_cons_zero, List.getElem?_cons_succ, List.take_succ_cons, List.take_zero, List.drop_succ_cons, List.drop_zero, List.cons_append, List.nil_append, List.append_nil, List.drop_nil, Option.map_some, Option.map_none, and_true, true_and, Nat.reduceEqDiff, Nat.reduceAdd, Nat.reduceLT, Nat.reduceLeDiff, Nat.reduceLT, Int.reduceNeg, Nat.zero_add, ↓reduceIte, eq_self, reduceCtorEq, Bool.false_eq_true, bs_len, hk, hn, bs_take, allSz_bs']
  repeat (apply And.intro; focus (first | omega | (simp; done)))
  refine Cal.mk (gm _ _) ?_
  rintro _ _ ⟨rfl, rfl⟩ -
  simp (config := {maxSteps := 3000000}) only [ops_bld, ops_call, ev_t, ev_c, put_get, opv_mk, vbld, put_box_same, vload, takeV, fillV, splice, V.cells, obsOk, List.map_cons, List.map_nil, List.length_cons, List.length_nil, List.getElem?_cons_zero, List.getElem?_cons_succ, List.take_succ_cons, List.take_zero, List.drop_succ_cons, List.drop_zero, List.cons_append, List.nil_append, List.append_nil, List.drop_nil, and_true, true_and, Nat.reduceEqDiff, Nat.reduceAdd, Nat.reduceLT, Nat.reduceLeDiff, Nat.reduceLT, Nat.zero_add, ↓reduceIte, eq_self]
  refine Cal.mk (gb he _ _ _) ?_
  rintro _ _ ⟨rfl, rfl⟩ -
  simp (config := {maxSteps := 3000000}) only [run_reg, run_seq, run_ret, at_code_n, at_fin_r, ops_nil, ops_mv, ops_ext, ev_t, put_get, opv_mk, vext, obsOk, List.getElem?_cons_zero, List.getElem?_cons_succ, and_true, true_and, Nat.reduceEqDiff, ↓reduceIte, vret, rvAll, rvVal, resv_1, eq_self]
  exact ⟨_, _, Wk.no, weak_put hwf.weak hb, rfl, rfl⟩
theorem refAbout_v {me : Int} (h0 : 0 ≤ me) (h1 : me < 4294967296) (hB : IsB L) (hL : L.length ≤ 2000) (m : MS) (hm : m.Ok) : VCalls Try.prog 37 [.sc (.int .u32 me), .sl tk (bs L), m.v tk'] st fun r st' => r = .sl .no (bs (aboutB me L m)) ∧ st = st' := by
  refine vcalls_enter vc37 (Nat.le_of_ble_eq_true rfl) fun hwf hok => ?_
  show Run _ Vc37.body (.fin (finQ Vc37.res _)) _ _
  unfold Vc37
  simp (config := {maxSteps := 3000000}) only [run_reg, run_seq, at_code_n, ops_nil, ops_mv, ops_box, ops_call, ev_t, ev_c, put_get, opv_mk, Bx, args0, List.getD_cons_zero, List.getD_cons_succ, V.cells, ptrV, obsOk, List.map_cons, List.map_nil, List.length_cons, List.length_nil, true_and, Nat.reduceEqDiff, Nat.reduceAdd, Nat.zero_add, ↓reduceIte, ne_eq, not_false_eq_true, eq_self, reduceCtorEq, MS.v]
  intro a ha
  refine Cal.mk (ref13Parse_v hB (by omega)) ?_
  rintro _ _ ⟨⟨tk1, tk2, rfl⟩, rfl⟩ -
  have hlim := ipD_lim hB
  have hq : quietB (ipD L) ↔ (ipD L).frag % 8192 ≠ 0 ∨ (ipD L).src < 16777216 ∨ 3758096384 ≤ (ipD L).src ∨ ((ipD L).proto = 1 ∧ ((ipD L).D = [] ∨ ((ipD L).D.getD 0 0 ≠ 8 ∧ (ipD L).D.getD 0 0 ≠ 0))) := Iff.rfl
  have hN : ipE L = 0 → aboutN L ≤ L.length := fun h => by have := (ipD_lim hB h).len; unfold aboutN; omega
  have hA : abouts L ↔ ipE L = 0 ∧ ¬ quietB (ipD L) := Iff.rfl
  have hR1 : abouts L → aboutB me L m = ipB (aboutD me L m) := fun h => if_pos h
  have hR2 : ¬ abouts L → aboutB me L m = [] := fun h => if_neg h
  have gm := fun (tk : Tk) (st : St) => refBuild55_v (tk := tk) (st := st) ⟨m.t, m.c, m.w, L.take (aboutN L)⟩ (aboutM_ok hB hm) (by simp; omega)
  have gb := fun (h : ipE L = 0) (tk tk' : Tk) (st : St) => refBuild13_v (tk := tk) (tk' := tk') (st := st) (aboutD me L m) (aboutD_ok h0 h1 hB h hm) (by simp [aboutD]) (by simp only [aboutD, msB_len, List.length_take]; omega)
  have hf := aboutD_fits (me := me) (m := m) hL
  rw [if_pos hf] at gb
  have hNd : aboutN L = 20 + (ipD L).O.length + min (ipD L).D.length 8 := rfl
  have hD : aboutD me L m = ⟨0, 64, 1, 0, 0, me, (ipD L).src, [], msB ⟨m.t, m.c, m.w, L.take (aboutN L)⟩⟩ := rfl
  generalize aboutB me L m = R at *
  generalize abouts L = A at *
  generalize quietB (ipD L) = Q at *
  clear hf
  generalize ipB (aboutD me L m) = IB at *
  rw [hD] at gb
  clear hD
  generalize aboutN L = n at *
  generalize ipD L = d at *
  generalize ipE L = e at *
  generalize msB ⟨m.t, m.c, m.w, L.take n⟩ = MB at *
  obtain ⟨tos, ttl, proto, id, frag, src, dst, O, D⟩ := d
  obtain ⟨t, c, w, MD⟩ := m
  simp only [DG.v, MS.v] at gm gb
  simp only at hNd hq
  simp (config := {maxSteps := 3000000}) only [run_reg, run_seq, at_code_n, ops_nil, ops_grd, ops_mv, ops_bin, ops_ext, ops_alc, ops_store, ev_t, ev_c, put_get, put_none, opv_mk, stb_some, sto_ptr, Stp, put_box_same, put_sz, put_put, vbin, vbinI, vext, splice, V.cells, ptrV, obsOk, List.length_cons, List.length_nil, List.getElem?_cons_zero, List.getElem?_cons_succ, List.take_zero, List.drop_succ_cons, List.nil_append, List.append_nil, List.drop_nil, true_and, Nat.reduceEqDiff, Nat.reduceAdd, Nat.reduceLT, Nat.reduceLeDiff, Nat.reduceLT, Nat.zero_add, ↓reduceIte, ne_eq, eq_self, DG.v]
  intro b hb
  obtain ⟨hb1, hab⟩ : st.sz ≤ b ∧ a < b := by omega
  clear hb
  have hf := fun h => (hlim h).ok.frag
  have hs := fun h => (hlim h).ok.src
  simp only at hf hs
  by_cases he : e = 0
  rotate_left
  · simp (config := {maxSteps := 3000000}) only [run_reg, run_seq, run_ret, run_cond, if_true, at_code_n, at_code_r, at_fin_r, ops_nil, ops_grd, grd_tf, ops_mv, ops_pick, ev_t, ev_c, put_get, opv_mk, vpick, and_true, true_and, Nat.reduceEqDiff, ↓reduceIte, vret, rvAll, rvVal, resv_1, eq_self, decide_eq_true he]
    rw [hR2 (fun h => he (hA.1 h).1)]
    exact ⟨_, _, Wk.no, weak_put (weak_put hwf.weak ha) hb1, rfl, rfl⟩
  have hf := hf he
  have hs := hs he
  have d0 := decide_eq_false (show ¬ ¬ e = 0 by omega)
  obtain ⟨k, hk⟩ : ∃ k : Nat, min (D.length : Int) 8 = (k : Int) := ⟨min D.length 8, by omega⟩
  have hn : (20 + (O.length : Int) + (k : Int)).toNat = n := by omega
  have hN := hN he
  have hl := (hlim he).len
  simp only at hl
  by_cases c1 : frag % 8192 = 0
  rotate_left
  · have d1 := decide_eq_true (p := ¬ frag % 8192 = 0) c1
    simp (config := {maxSteps := 3000000}) only [run_reg, run_seq, run_ret, run_cond, if_true, at_code_n, at_code_r, at_fin_r, ops_nil, ops_grd, grd_ff, grd_tf, ops_mv, ops_pick, ops_bin, ops_fld, ops_load, ev_t, ev_c, put_get, opv_mk, put_box_same, vpick, vbin, vbinI, vfld, vload, takeV, V.cells, List.length_cons, List.length_nil, List.getElem?_cons_zero, List.getElem?_cons_succ, and_true, true_and, Nat.reduceEqDiff, Int.reduceLT, Nat.zero_add, ↓reduceIte, vret, rvAll, rvVal, resv_1, ne_eq, eq_self, Bool.false_eq_true, d0, d1]
    repeat (apply And.intro; focus (first | omega | (simp; done)))
    rw [hR2 (fun h => (hA.1 h).2 (hq.2 (.inl c1)))]
    exact ⟨_, _, Wk.no, weak_put (weak_put hwf.weak ha) hb1, rfl, rfl⟩
  have d1 := decide_eq_false (p := ¬ frag % 8192 = 0) (by omega)
  by_cases c2 : src < 16777216
  · have d2 := decide_eq_true c2
    simp (config := {maxSteps := 3000000}) only [run_reg, run_seq, run_ret, run_cond, if_true, at_code_n, at_code_r, at_fin_r, ops_nil, ops_grd, grd_ff, grd_tf, ops_mv, ops_pick, ops_bin, ops_fld, ops_load, ev_t, ev_c, put_get, opv_mk, put_box_same, vpick, vbin, vbinI, vfld, vload, takeV, V.cells, List.length_cons, List.length_nil, List.getElem?_cons_zero, List.getElem?_cons_succ, and_true, true_and, Nat.reduceEqDiff, Int.reduceLT, Nat.zero_add, ↓reduceIte, vret, rvAll, rvVal, resv_1, ne_eq, eq_self, Bool.false_eq_true, d0, d1, d2]
    repeat (apply And.intro; focus (first | omega | (simp; done)))
    rw [hR2 (fun h => (hA.1 h).2 (hq.2 (.inr (.inl c2))))]
    exact ⟨_, _, Wk.no, weak_put (weak_put hwf.weak ha) hb1, rfl, rfl⟩
  have d2 := decide_eq_false c2
  by_cases c3 : 3758096384 ≤ src
  · have d3 := decide_eq_true c3
    simp (config := {maxSteps := 3000000}) only [run_reg, run_seq, run_ret, run_cond, if_true, at_code_n, at_code_r, at_fin_r, ops_nil, ops_grd, grd_ff, ops_mv, ops_pick, ops_bin, ops_fld, ops_load, ev_t, ev_c, put_get, opv_mk, put_box_same, vpick, vbin, vbinI, vfld, vload, takeV, V.cells, List.length_cons, List.length_nil, List.getElem?_cons_zero, List.getElem?_cons_succ, and_true, true_and, Nat.reduceEqDiff, Int.reduceLT, Nat.zero_add, ↓reduceIte, vret, rvAll, rvVal, resv_1, ne_eq, eq_self, Bool.false_eq_true, d0, d1, d2, d3]
    repeat (apply And.intro; focus (first | omega | (simp; done)))
    rw [hR2 (fun h => (hA.1 h).2 (hq.2 (.inr (.inr (.inl c3)))))]
    exact ⟨_, _, Wk.no, weak_put (weak_put hwf.weak ha) hb1, rfl, rfl⟩
  have d3 := decide_eq_false c3
  by_cases c4 : proto = 1
  rotate_left
  · have d4 := decide_eq_false c4
    have hA1 : A := hA.2 ⟨he, fun h => by rcases hq.1 h with h | h | h | h <;> first | exact absurd h (by omega) | exact c4 h.1⟩
    simp (config := {maxSteps := 3000000}) only [run_skip, run_reg, run_seq, run_cond, if_false, at_code_n, ops_nil, ops_grd, grd_und, grd_ff, grd_ft, ops_mv, ops_pick, ops_bin, ops_fld, ops_load, ops_len, ops_mn, ops_slc, ops_store, ops_call, ev_t, ev_c, put_get, put_none, opv_mk, stb_some, sto_ptr, Stp, put_box_same, args0, List.getD_cons_zero, List.getD_cons_succ, vpick, vbin, vbinI, norm, vfld, vlen, vmm, vload, takeV, vslc, splice, V.cells, obsOk, List.map_cons, List.map_nil, List.length_cons, List.length_nil, List.getElem?_cons_zero, List.getElem?_cons_succ, List.take_succ_cons, List.take_zero, List.drop_succ_cons, List.drop_zero, List.cons_append, List.nil_append, List.append_nil, List.take_nil, List.drop_nil, Option.map_some, Option.map_none, and_true, true_and, Nat.reduceEqDiff, Nat.reduceAdd, Nat.reduceLT, Nat.reduceLeDiff, Nat.reduceLT, Int.reduceLT, Int.reduceNeg, Nat.zero_add, ↓reduceIte, ne_eq, eq_self, reduceCtorEq, Bool.false_eq_true, put_box_ne (Nat.ne_of_lt hab), put_box_ne (Nat.ne_of_gt hab), d0, d1, d2, d3, d4]
    repeat (apply And.intro; focus (first | omega | (simp; done)))
    rw [hR1 hA1]
    simp (config := {maxSteps := 3000000}) only [true_and, Int.reduceNeg, bs_len, hk, hn, bs_take, allSz_bs']
    repeat (apply And.intro; focus (first | omega | (simp; done)))
    refine Cal.mk (gm _ _) ?_
    rintro _ _ ⟨rfl, rfl⟩ -
    simp (config := {maxSteps := 3000000}) only [ops_bld, ops_call, ev_t, ev_c, put_get, opv_mk, vbld, put_box_same, vload, takeV, fillV, splice, V.cells, obsOk, List.map_cons, List.map_nil, List.length_cons, List.length_nil, List.getElem?_cons_zero, List.getElem?_cons_succ, List.take_succ_cons, List.take_zero, List.drop_succ_cons, List.drop_zero, List.cons_append, List.nil_append, List.append_nil, List.drop_nil, and_true, true_and, Nat.reduceEqDiff, Nat.reduceAdd, Nat.reduceLT, Nat.reduceLeDiff, Nat.reduceLT, Nat.zero_add, ↓reduceIte, eq_self, put_box_ne (Nat.ne_of_gt hab)]
    refine Cal.mk (gb he _ _ _) ?_
    rintro _ _ ⟨rfl, rfl⟩ -
    simp (config := {maxSteps := 3000000}) only [run_ret, at_code_n, at_fin_r, ops_nil, ops_mv, ev_t, put_get, opv_mk, obsOk, and_true, true_and, ↓reduceIte, vret, rvAll, rvVal, resv_1, eq_self]
    exact ⟨_, _, Wk.no, weak_put (weak_put (weak_put hwf.weak ha) hb1) ha, rfl, rfl⟩
  have d4 := decide_eq_true c4
  by_cases c0 : D.length = 0
  · have hnil : D = [] := List.eq_nil_of_length_eq_zero c0
    have d5 := decide_eq_true (show (D.length : Int) = 0 by omega)
    simp (config := {maxSteps := 3000000}) only [run_skip, run_reg, run_seq, run_ret, run_cond, if_true, if_false, at_code_n, at_code_r, at_fin_r, ops_nil, ops_grd, grd_und, grd_tt, grd_ff, grd_tf, ops_mv, ops_pick, ops_bin, ops_fld, ops_load, ops_len, ev_t, ev_c, put_get, opv_mk, put_box_same, vpick, vbin, vbinI, vfld, vlen, vload, takeV, V.cells, List.length_cons, List.length_nil, List.getElem?_cons_zero, List.getElem?_cons_succ, and_true, true_and, Nat.reduceEqDiff, Int.reduceLT, Nat.zero_add, ↓reduceIte, vret, rvAll, rvVal, resv_1, ne_eq, eq_self, Bool.false_eq_true, d0, d1, d2, d3, d4, bs_len, d5]
    repeat (apply And.intro; focus (first | omega | (simp; done)))
    rw [hR2 (fun h => (hA.1 h).2 (hq.2 (.inr (.inr (.inr ⟨c4, .inl hnil⟩)))))]
    exact ⟨_, _, Wk.no, weak_put (weak_put hwf.weak ha) hb1, rfl, rfl⟩
  have hne : D ≠ [] := fun h => c0 (by rw [h]; rfl)
  obtain ⟨x, hx⟩ := get_ex (L := D) (i := 0) (by omega)
  have hg : D.getD 0 0 = x := by simp [List.getD, hx]
  rw [hg] at hq
  have d5 := decide_eq_false (show ¬ (D.length : Int) = 0 by omega)
  by_cases c5 : x = 0
  · have d6 := decide_eq_false (show ¬ ¬ x = 0 by omega)
    have hA1 : A := hA.2 ⟨he, fun h => by rcases hq.1 h with h | h | h | ⟨_, h | h⟩ <;> first | exact absurd h (by omega) | exact hne h | exact h.2 c5⟩
    simp (config := {maxSteps := 3000000}) only [run_skip, run_reg, run_seq, run_cond, if_false, at_code_n, ops_nil, ops_grd, grd_tt, grd_ff, grd_ft, ops_mv, ops_pick, ops_bin, ops_fld, ops_ix, ops_load, ops_len, ops_mn, ops_slc, ops_store, ops_call, ev_t, ev_c, put_get, put_none, opv_mk, stb_some, sto_ptr, Stp, put_box_same, args0, List.getD_cons_zero, List.getD_cons_succ, vpick, vbin, vbinI, norm, vfld, vlen, vmm, vix, vload, takeV, vslc, splice, V.cells, obsOk, List.map_cons, List.map_nil, List.length_cons, List.length_nil, List.getElem?_cons_zero, List.getElem?_cons_succ, List.take_succ_cons, List.take_zero, List.drop_succ_cons, List.drop_zero, List.cons_append, List.nil_append, List.append_nil, List.take_nil, List.drop_nil, Option.map_some, Option.map_none, and_true, true_and, Nat.reduceEqDiff, Nat.reduceAdd, Nat.reduceLT, Nat.reduceLeDiff, Nat.reduceLT, Int.reduceToNat, Int.reduceLE, Int.reduceLT, Int.reduceNeg, Nat.zero_add, ↓reduceIte, ne_eq, eq_self, reduceCtorEq, Bool.false_eq_true, put_box_ne (Nat.ne_of_lt hab), put_box_ne (Nat.ne_of_gt hab), d0, d1, d2, d3, d4, bs_len, d5, bs_get, hx, d6]
    repeat (apply And.intro; focus (first | omega | (simp; done)))
    rw [hR1 hA1]
    simp (config := {maxSteps := 3000000}) only [true_and, hk, hn, bs_take, allSz_bs']
    repeat (apply And.intro; focus (first | omega | (simp; done)))
    refine Cal.mk (gm _ _) ?_
    rintro _ _ ⟨rfl, rfl⟩ -
    simp (config := {maxSteps := 3000000}) only [ops_bld, ops_call, ev_t, ev_c, put_get, opv_mk, vbld, put_box_same, vload, takeV, fillV, splice, V.cells, obsOk, List.map_cons, List.map_nil, List.length_cons, List.length_nil, List.getElem?_cons_zero, List.getElem?_cons_succ, List.take_succ_cons, List.take_zero, List.drop_succ_cons, List.drop_zero, List.cons_append, List.nil_append, List.append_nil, List.drop_nil, and_true, true_and, Nat.reduceEqDiff, Nat.reduceAdd, Nat.reduceLT, Nat.reduceLeDiff, Nat.reduceLT, Nat.zero_add, ↓reduceIte, eq_self, put_box_ne (Nat.ne_of_gt hab)]
    refine Cal.mk (gb he _ _ _) ?_
    rintro _ _ ⟨rfl, rfl⟩ -
    simp (config := {maxSteps := 3000000}) only [run_ret, at_code_n, at_fin_r, ops_nil, ops_mv, ev_t, put_get, opv_mk, obsOk, and_true, true_and, ↓reduceIte, vret, rvAll, rvVal, resv_1, eq_self]
    exact ⟨_, _, Wk.no, weak_put (weak_put (weak_put hwf.weak ha) hb1) ha, rfl, rfl⟩
  have d6 := decide_eq_true (p := ¬ x = 0) c5
  by_cases c6 : x = 8
  · have d7 := decide_eq_false (show ¬ ¬ x = 8 by omega)
    have hA1 : A := hA.2 ⟨he, fun h => by rcases hq.1 h with h | h | h | ⟨_, h | h⟩ <;> first | exact absurd h (by omega) | exact hne h | exact h.1 c6⟩
    simp (config := {maxSteps := 3000000}) only [run_skip, run_reg, run_seq, run_cond, if_false, at_code_n, ops_nil, ops_grd, grd_tt, grd_ff, ops_mv, ops_pick, ops_bin, ops_fld, ops_ix, ops_load, ops_len, ops_mn, ops_slc, ops_store, ops_call, ev_t, ev_c, put_get, put_none, opv_mk, stb_some, sto_ptr, Stp, put_box_same, args0, List.getD_cons_zero, List.getD_cons_succ, vpick, vbin, vbinI, norm, vfld, vlen, vmm, vix, vload, takeV, vslc, splice, V.cells, obsOk, List.map_cons, List.map_nil, List.length_cons, List.length_nil, List.getElem?_cons_zero, List.getElem?_cons_succ, List.take_succ_cons, List.take_zero, List.drop_succ_cons, List.drop_zero, List.cons_append, List.nil_append, List.append_nil, List.take_nil, List.drop_nil, Option.map_some, Option.map_none, and_true, true_and, Nat.reduceEqDiff, Nat.reduceAdd, Nat.reduceLT, Nat.reduceLeDiff, Nat.reduceLT, Int.reduceToNat, Int.reduceLE, Int.reduceLT, Int.reduceNeg, Nat.zero_add, ↓reduceIte, ne_eq, eq_self, reduceCtorEq, Bool.false_eq_true, put_box_ne (Nat.ne_of_lt hab), put_box_ne (Nat.ne_of_gt hab), d0, d1, d2, d3, d4, bs_len, d5, bs_get, hx, d6, d7]
    repeat (apply And.intro; focus (first | omega | (simp; done)))
    rw [hR1 hA1]
    simp (config := {maxSteps := 3000000}) only [true_and, hk, hn, bs_take, allSz_bs']
    repeat (apply And.intro; focus (first | omega | (simp; done)))
    refine Cal.mk (gm _ _) ?_
    rintro _ _ ⟨rfl, rfl⟩ -
    simp (config := {maxSteps := 3000000}) only [ops_bld, ops_call, ev_t, ev_c, put_get, opv_mk, vbld, put_box_same, vload, takeV, fillV, splice, V.cells, obsOk, List.map_cons, List.map_nil, List.length_cons, List.length_nil, List.getElem?_cons_zero, List.getElem?_cons_succ, List.take_succ_cons, List.take_zero, List.drop_succ_cons, List.drop_zero, List.cons_append, List.nil_append, List.append_nil, List.drop_nil, and_true, true_and, Nat.reduceEqDiff, Nat.reduceAdd, Nat.reduceLT, Nat.reduceLeDiff, Nat.reduceLT, Nat.zero_add, ↓reduceIte, eq_self, put_box_ne (Nat.ne_of_gt hab)]
    refine Cal.mk (gb he _ _ _) ?_
    rintro _ _ ⟨rfl, rfl⟩ -
    simp (config := {maxSteps := 3000000}) only [run_ret, at_code_n, at_fin_r, ops_nil, ops_mv, ev_t, put_get, opv_mk, obsOk, and_true, true_and, ↓reduceIte, vret, rvAll, rvVal, resv_1, eq_self]
    exact ⟨_, _, Wk.no, weak_put (weak_put (weak_put hwf.weak ha) hb1) ha, rfl, rfl⟩
  have d7 := decide_eq_true (p := ¬ x = 8) c6
  simp (config := {maxSteps := 3000000}) only [run_skip, run_reg, run_seq, run_ret, run_cond, if_true, if_false, at_code_n, at_code_r, at_fin_r, ops_nil, ops_grd, grd_tt, grd_ff, ops_mv, ops_pick, ops_bin, ops_fld, ops_ix, ops_load, ops_len, ev_t, ev_c, put_get, opv_mk, put_box_same, vpick, vbin, vbinI, vfld, vlen, vix, vload, takeV, V.cells, List.length_cons, List.length_nil, List.getElem?_cons_zero, List.getElem?_cons_succ, Option.map_some, and_true, true_and, Nat.reduceEqDiff, Int.reduceToNat, Int.reduceLE, Int.reduceLT, Nat.zero_add, ↓reduceIte, vret, rvAll, rvVal, resv_1, ne_eq, eq_self, Bool.false_eq_true, d0, d1, d2, d3, d4, bs_len, d5, bs_get, hx, d6, d7]
  repeat (apply And.intro; focus (first | omega | (simp; done)))
  rw [hR2 (fun h => (hA.1 h).2 (hq.2 (.inr (.inr (.inr ⟨c4, .inr ⟨c6, c5⟩⟩)))))]
  exact ⟨_, _, Wk.no, weak_put (weak_put hwf.weak ha) hb1, rfl, rfl⟩
end
end Go.Proofs.Ytbmkohmhiafphaa
