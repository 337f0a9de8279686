/- Steps of the proof, joined: VNeg4, VNeg5, VNeg6, VLcp1, VLcp2, VLcpLaw2, VRef1, VR15, VLcp3, Base, Open, VEnter, VSeat, VOpenB. -/
import Derived.Test.YtmmapbojjgpggaaZwa
import Derived.Test.YtmmapbojjgpggaaPc
import Derived.Test.YtmmapbojjgpggaaProg
import Derived.WalkKit
import Derived.WalkSpells
import Derived.WalkLawsBesides
import Derived.Deep.RegionHeld3
import Derived.Deep.DrawnRows
import Derived.BigQuiet
import Derived.Lib.Hide
import Derived.ProofKit
import Derived.OpenShut
import Derived.Deep.Slices
import Derived.Test.YtmmapbojjgpggaaZec
import Derived.Test.YtmmapbojjgpggaaVc
namespace Go.Proofs.Ytmmapbojjgpggaa
open Go
attribute [local go_sem] run_skip run_reg run_seq run_blk run_exit run_ret run_cond if_true if_false at_code_n at_code_x at_code_r at_blk_n at_blk_x at_blk_r at_rnd_n at_rnd_x at_rnd_r at_fin_n at_fin_r ops_nil ops_grd grd_und grd_tt grd_ff grd_tf grd_ft ops_mv ops_pick ops_bin ops_un ops_binb ops_eqs ops_isnil ops_pnil ops_b2s ops_s2b ops_b2sB ops_s2a ops_slcA ops_aidx vaidx vb2sB vs2a vslcA ops_sidx vs2b vsidx srcX ops_appx apx_mk ops_mks ops_mko mks_int mko_int vbinb veqs visnil vpnil vb2s ops_conv ops_fld ops_ix ops_ixa ops_load ops_nilck ops_ext ops_len ops_slen ops_mn ops_mx ops_bld ops_bsl ops_slc ops_sslc ops_box ops_alc ops_alcX ops_boxX ops_bslo ops_store ops_app ops_call ev_t ev_c put_get put_none opv_mk stb_some sto_ptr over_get rel_mk vnat Bx Stp vbld vbsl put_box_same put_box_ne put_sz put_own use_box use_sz put_put args0 List.getD_cons_zero List.getD_cons_succ List.getD_nil vpick vbin vbinI vbinS vun vconv norm vfld vnil vlen vslen vext vmm vix vixa vload takeV takeB mono_nil mono_two mono_sc mono_any mono_und mono_sl mono_agg mono_ep vmlk vmlen vmnil vent vmfn allSc vslc3 kOk fitsV ops_mlk ops_mlen ops_mnil ops_ent ops_mfn ops_slc3 ops_mkm ops_mup mup_map mub_some ops_mdel mdl_nil mdl_map mdb_some ops_rng rng_none rng_map rgb_some ops_nxt ops_ment met_map meb_some ops_est est_map esb_some ops_clr clr_nil clr_box clb_some ops_calv clv_func vslc vsslc fillV splice V.cells strip strip1 allLen ptrV obsOk shAmt IntKind.bits List.map_cons List.map_nil List.length_cons List.length_nil List.getElem?_cons_zero List.getElem?_cons_succ List.take_succ_cons List.take_zero List.drop_succ_cons List.drop_zero List.cons_append List.nil_append List.append_nil List.take_nil List.drop_nil Option.map_some Option.map_none and_true true_and Int.toNat_natCast Nat.min_def Nat.zero_add Nat.add_zero Nat.zero_mul Nat.mul_one Nat.one_mul vret rvAll rvVal resv_1 resv_2 decide_true decide_false Int.lt_irrefl Bool.not_true Bool.not_false ne_eq not_true_eq_false not_false_eq_true eq_self Bool.true_eq_false Bool.false_eq_true List.contains_cons List.contains_nil Bool.false_or Bool.true_or Bool.or_false Bool.or_true List.mem_cons List.not_mem_nil or_false or_true true_or false_or mono_bs ops_aidxn vaidxn ops_fv vfv ops_mki vmki ops_inv ops_cpy cpy_box cpb_some at_finp_n at_finp_r vretp rpAll rpVal vpv resp_0 resp_1 resp_2
section
open Go

theorem theirsO_snoc {l like : List Opt} {i : Nat} {o : Opt} (h : l[i]? = some o) : theirsO (l.take (i + 1)) like = theirsO (l.take i) like ++ if (findO like o.1).isSome = true then [o] else [] := by
  rw [take_snoc h]
  simp only [theirsO, List.filter_append]
  congr 1
  cases e : (findO like o.1).isSome <;> simp [e]
theorem theirsO_len (l like : List Opt) : (theirsO l like).length ≤ l.length := List.length_filter_le _ _
theorem theirsO_good {l like : List Opt} (h : GoodO l) : GoodO (theirsO l like) := fun o ho => h o (List.mem_filter.1 ho).1
section
variable {st : St} {l like : List Opt} {tk tk2 : Tk}
set_option maxRecDepth 100000 in
set_option maxHeartbeats 4000000 in
theorem negTheirs_v (hl : l.length ≤ 1000000) (hm : like.length ≤ 1000000) (hG : GoodO like) (hGl : GoodO l) : VCalls Try.prog 85 [.sl tk (opts l), .sl tk2 (opts like)] st fun r s => r = .sl .no (opts (theirsO l like)) ∧ st = s := by
  refine vcalls_enter vc85 (Nat.le_of_ble_eq_true rfl) fun hwf hok => ?_
  show Run _ Vc85.body (.fin (finQ Vc85.res _)) _ _
  unfold Vc85
  simp (config := {maxSteps := 3000000}) only [go_sem, ↓reduceIte, reduceCtorEq]
  refine run_loop [5, 7, 8, 9, 12, 13, 14, 15, 16, 17, 18, 19, 20, 21, 22, 23, 24, 25, 26, 27, 28] (fun B s => ∃ (i : Nat) (v : V), i ≤ l.length ∧ B 12 = .sc (.int .i64 i) ∧ B 5 = v ∧ RO 2 st s v (opts (theirsO (l.take i) like))) (fun B _ => l.length - vnat (B 12)) rfl ?_ ?_
  · exact ⟨0, .sl .nil [], by omega, rfl, rfl, RO.nil hwf.weak hwf.lt⟩
  · rintro B s ⟨i, v, hi, h12, h5, R⟩
    obtain ⟨tv, hv⟩ := R.sl
    rw [hv] at h5 R
    by_cases c1 : i < l.length
    · obtain ⟨o, ho⟩ := get_ex c1
      have hsn := theirsO_snoc (like := like) ho
      have htl := theirsO_len (l.take i) like
      have htl2 : (l.take i).length ≤ l.length := by simp only [List.length_take]; omega
      simp (config := {maxSteps := 3000000}) only [go_sem, Nat.reduceEqDiff, Nat.reduceAdd, Nat.reduceLT, Nat.reduceLeDiff, ↓reduceIte, Nat.reduceBEq, h12, opts_len, opts_at ho, decide_eq_true (show (i : Int) < (l.length : Int) by omega)]
      repeat (apply And.intro; focus (first | omega | (simp; done)))
      intro a ha
      have sa : st.sz ≤ a := by have := R.weak.sz; omega
      have R1 := R.put (c := a) (cs := [.sc (.int .u8 o.1), .sl .no (bs o.2)]) sa
      have Ba : (s.put a [.sc (.int .u8 o.1), .sl .no (bs o.2)]).box a = some [.sc (.int .u8 o.1), .sl .no (bs o.2)] := put_box_same
      generalize s.put a [.sc (.int .u8 o.1), .sl .no (bs o.2)] = s1 at R1 Ba ⊢
      refine Cal.mk (optFind_v hm hG) ?_
      rintro _ _ ⟨rfl, rfl⟩ -
      cases hf : (findO like o.1).isSome
      · rw [hf] at hsn
        simp only [Bool.false_eq_true, ↓reduceIte, List.append_nil] at hsn
        simp (config := {maxSteps := 3000000}) only [go_sem, Nat.reduceEqDiff, Nat.reduceAdd, Nat.reduceLT, Nat.reduceLeDiff, Int.reduceNeg, ↓reduceIte, Nat.reduceBEq, Bool.false_eq_true]
        intro c hc
        have sc : st.sz ≤ c := by have := R1.weak.sz; omega
        simp (config := {maxSteps := 3000000}) only [go_sem, Nat.reduceEqDiff, Int.reduceNeg, ↓reduceIte, Nat.reduceBEq, h12]
        repeat (apply And.intro; focus (first | omega | (simp; done)))
        exact ⟨⟨i + 1, _, by omega, by simp, h5, by rw [hsn]; exact R1.put sc⟩, by omega⟩
      · rw [hf] at hsn
        simp only [↓reduceIte] at hsn
        simp (config := {maxSteps := 3000000}) only [go_sem, Nat.reduceEqDiff, Nat.reduceAdd, Nat.reduceLT, Nat.reduceLeDiff, ↓reduceIte, Nat.reduceBEq]
        intro c hc
        have sc : st.sz ≤ c := by have := R1.weak.sz; omega
        have ac : a ≠ c := by have := R1.lt.box a _ Ba; omega
        simp (config := {maxSteps := 3000000}) only [go_sem, Nat.reduceEqDiff, Nat.reduceAdd, Nat.reduceLeDiff, ↓reduceIte, put_box_ne ac, Ba, h5]
        refine App.mk (bytes := 32) (l := opts (theirsO (l.take i) like)) (ys := opts [o]) (R1.put sc).own (allSz_opts _) (by simp only [opts_len, List.length_cons, List.length_nil]; unfold maxLen; omega) (by simp only [opts_len, List.length_cons, List.length_nil]; omega) ?_
        intro r2 s2 k1 k2
        have R2 := (R1.put sc).app k1 k2
        rw [opts_append, ← hsn] at R2
        simp (config := {maxSteps := 3000000}) only [go_sem, Nat.reduceEqDiff, Int.reduceNeg, ↓reduceIte, Nat.reduceBEq, h12]
        repeat (apply And.intro; focus (first | omega | (simp; done)))
        exact ⟨⟨i + 1, _, by omega, by simp, rfl, R2⟩, by omega⟩
    · obtain rfl : i = l.length := by omega
      rw [List.take_length] at R h5
      simp (config := {maxSteps := 3000000}) only [go_sem, Nat.reduceEqDiff, ↓reduceIte, Nat.reduceBEq, h12, h5, opts_len]
      exact ⟨_, _, Wk.no, R.weak, rfl, rfl⟩
end
section
variable {R : Type} {U : Rul R} {t : TypeId} {pv : Value} {SI : Nat → St → R → Prop} {bx : List Nat} {codes : Int} {n k m : Nat} {st s s2 base : St} {N N' : Neg R}
/-- The rules turned. -/
theorem NegI.rules {iv : V} {r : R} {k' : Nat} (h : NegI iv codes SI bx n k st N) (T : Tn bx st s) (hs : SI k' s r) (hk : k ≤ k') : NegI iv codes SI bx n k' s { N with r := r } :=
  ⟨by obtain ⟨tk, hb⟩ := h.box; exact ⟨tk, T.box n _ hb h.nn⟩, hs, h.nn, h.l0, h.l1, h.i0, h.i1, h.a0, by have := h.a1; simp only; omega, h.rb⟩
set_option maxRecDepth 100000 in
set_option maxHeartbeats 4000000 in
theorem negJudge_v (hU : RulC U t pv SI bx) (h : NegI (.sc (.iface t pv)) codes SI bx n k st N) (hk : k ≤ 1000000000) {p : Ctl} (hp : p.Good) {tp tk : Tk} {l : List Opt} (hG : GoodO l) (hl : l.length ≤ 1000000) :
    VCalls Try.prog 77 [ptrV n, p.v tp, .sl tk (opts l)] st fun r s => r = .tup [(N.judge U p l).2.1.v, .sc (.bool (N.judge U p l).2.2)] ∧ NegI (.sc (.iface t pv)) codes SI bx n (k + 1) s (N.judge U p l).1 ∧ Tn (n :: bx) st s := by
  obtain ⟨fj, hm, hc, hj⟩ := hU.judge
  obtain ⟨c, i, D⟩ := p
  show VCalls Try.prog 77 [ptrV n, .agg [.sc (.int .u8 c), .sc (.int .u8 i), .sl tp (bs D)], .sl tk (opts l)] st _
  refine vcalls_enter vc77 (Nat.le_of_ble_eq_true rfl) fun hwf hok => ?_
  show Run _ Vc77.body (.fin (finQ Vc77.res _)) _ _
  unfold Vc77
  have hlt := hwf.lt
  simp (config := {maxSteps := 3000000}) only [go_sem, Nat.reduceAdd, ↓reduceIte, reduceCtorEq]
  intro a ha q hq
  have aq : a ≠ q := by omega
  have sq : st.sz ≤ q := by omega
  have had : a ∉ n :: bx := fun hm => by have := h.lt hU hlt a hm; omega
  have hqd : q ∉ n :: bx := fun hm => by have := h.lt hU hlt q hm; omega
  have T0 : Tn [] st ((st.put a [.sc (.int .u8 c), .sc (.int .u8 i), .sl tp (bs D)]).put q [.sc (.int .u8 0), .sc (.int .u8 0), .sl .nil []]) := (tn_new hlt ha).put (.inr sq) hlt
  have h0 := h.tn hU T0
  have Ba : ((st.put a [.sc (.int .u8 c), .sc (.int .u8 i), .sl tp (bs D)]).put q [.sc (.int .u8 0), .sc (.int .u8 0), .sl .nil []]).box a = some [.sc (.int .u8 c), .sc (.int .u8 i), .sl tp (bs D)] := by rw [put_box_ne aq, put_box_same]
  have Bq : ((st.put a [.sc (.int .u8 c), .sc (.int .u8 i), .sl tp (bs D)]).put q [.sc (.int .u8 0), .sc (.int .u8 0), .sl .nil []]).box q = some [.sc (.int .u8 0), .sc (.int .u8 0), .sl .nil []] := put_box_same
  generalize (st.put a _).put q _ = s0 at T0 h0 Ba Bq ⊢
  obtain ⟨tn, hbn⟩ := h0.box
  unfold negC at hbn
  simp (config := {maxSteps := 3000000}) only [go_sem, Nat.reduceEqDiff, ↓reduceIte, hbn]
  refine Ivk.mk hm hc hU.one ?_
  refine Cal.mk (hj k s0 N.r l tk h0.si hk hG hl) ?_
  rintro _ s1 ⟨⟨t2, rfl⟩, hsi, T1⟩ -
  obtain ⟨g1, g2, g3, g4⟩ := hU.judgeG k s0 N.r l h0.si hG hl
  have h1 := h0.rules (k' := k + 1) T1 hsi (by omega)
  have hbn1 := T1.box n _ hbn h.nn
  have Ba1 := T1.box a _ Ba (fun hm => had (by simp [hm]))
  have Bq1 := T1.box q _ Bq (fun hm => hqd (by simp [hm]))
  have T01 : Tn (n :: bx) st s1 := (T0.wide (by simp)).trans (T1.wide (fun b hb => List.mem_cons_of_mem _ hb))
  obtain ⟨J, hJ⟩ : ∃ J, J = N.judge U ⟨c, i, D⟩ l := ⟨_, rfl⟩
  rw [← hJ]
  unfold Neg.judge at hJ
  simp only at hJ
  generalize U.judge N.r l = j at hsi g1 g2 g3 g4 h1 hJ ⊢
  obtain ⟨rr, code, out⟩ := j
  simp only at hsi g1 g2 g3 g4 h1 hJ ⊢
  have fin : ∀ (N2 : Neg R) (s2 : St) (c2 : Int) (o2 : List Opt) (cs : List V), J = (N2, ⟨c2, i, buildO o2⟩, decide (c2 = 2)) → NegI (.sc (.iface t pv)) codes SI bx n (k + 1) s2 N2 → Tn (n :: bx) st s2 →
      ∃ (r : V) (st' : St), Wk (.tup [.agg [.sc (.int .u8 c2), .sc (.int .u8 i), .sl .no (bs (buildO o2))], .sc (.bool (decide (c2 = 2)))]) r ∧ st'.weak (s2.put q cs) ∧ r = .tup [J.2.1.v, .sc (.bool J.2.2)] ∧ NegI (.sc (.iface t pv)) codes SI bx n (k + 1) st' J.1 ∧ Tn (n :: bx) st st' := fun N2 s2 c2 o2 cs e hn hT => by
    rw [e]
    have T9 := hT.put (b := q) (cs := cs) (.inr sq) hlt
    refine ⟨_, _, Wk.refl _, T9.lt.weak, rfl, hn.tnx hU ((Tn.refl (bx := [q]) hT.lt).put (.inl (by simp)) hT.lt) (fun b hb hm => ?_), T9⟩
    simp only [List.mem_singleton] at hm
    subst hm
    exact hqd hb
  have a0 := h.a0
  have a1 := h.a1
  have hnq : n ≠ q := fun e => hqd (by simp [e])
  have hna : n ≠ a := fun e => had (by simp [e])
  by_cases c3 : code = 3
  · subst c3
    have d33 : decide ((3 : Int) = 3) = true := rfl
    have d32 : decide ((3 : Int) = 2) = false := rfl
    have d42 : decide ((4 : Int) = 2) = false := rfl
    have h2 := h1.write hU (N' := { N with r := rr, naks := N.naks + 1 }) (tk := tn) rfl h.l0 h.l1 h.i0 h.i1 (by simp only; omega) (by simp only; omega) h.rb
    unfold negC at h2
    simp only at h2
    have T2 := T01.put (b := n) (cs := [.sc (.int .i64 N.s), .sc (.int .i64 N.left), .sc (.int .i64 N.at_), .sc (.iface t pv), .sc (.int .u8 codes), .sc (.int .u8 N.id), .sl tn (bs N.req), .sc (.int .i64 (N.naks + 1))]) (.inl (by simp)) hlt
    have Ba2 : (s1.put n [.sc (.int .i64 N.s), .sc (.int .i64 N.left), .sc (.int .i64 N.at_), .sc (.iface t pv), .sc (.int .u8 codes), .sc (.int .u8 N.id), .sl tn (bs N.req), .sc (.int .i64 (N.naks + 1))]).box a = _ := (put_box_ne hna.symm).trans Ba1
    have Bq2 : (s1.put n [.sc (.int .i64 N.s), .sc (.int .i64 N.left), .sc (.int .i64 N.at_), .sc (.iface t pv), .sc (.int .u8 codes), .sc (.int .u8 N.id), .sl tn (bs N.req), .sc (.int .i64 (N.naks + 1))]).box q = _ := (put_box_ne hnq.symm).trans Bq1
    by_cases c5 : 5 < N.naks + 1
    · simp (config := {maxSteps := 3000000}) only [go_sem, Nat.reduceEqDiff, Nat.reduceAdd, Nat.reduceLT, Nat.reduceLeDiff, Int.reduceNeg, ↓reduceIte, reduceCtorEq, hbn1, decide_eq_true c5]
      repeat (apply And.intro; focus (first | omega | (simp; done)))
      generalize s1.put n _ = s2 at T2 h2 Ba2 Bq2 ⊢
      refine Cal.mk (negTheirs_v hl g4 g3 hG) ?_
      rintro _ _ ⟨rfl, rfl⟩ -
      have htl := theirsO_len l out
      simp (config := {maxSteps := 3000000}) only [go_sem, Nat.reduceEqDiff, Int.reduceEq, ↓reduceIte, Ba2]
      refine Cal.mk (optBuild_v (theirsO_good hG) (by omega)) ?_
      rintro _ _ ⟨rfl, rfl⟩ -
      simp (config := {maxSteps := 3000000}) only [go_sem, Nat.reduceEqDiff, Nat.reduceAdd, Nat.reduceLT, Nat.reduceLeDiff, ↓reduceIte, Ba2, Bq2]
      exact fin _ s2 4 (theirsO l out) _ (by rw [hJ]; simp [c5]) h2 T2
    · simp (config := {maxSteps := 3000000}) only [go_sem, Nat.reduceEqDiff, Nat.reduceAdd, Nat.reduceLT, Nat.reduceLeDiff, Int.reduceNeg, Int.reduceEq, ↓reduceIte, reduceCtorEq, hbn1, decide_eq_false c5, Ba2]
      repeat (apply And.intro; focus (first | omega | (simp; done)))
      generalize s1.put n _ = s2 at T2 h2 Ba2 Bq2 ⊢
      refine Cal.mk (optBuild_v g3 (by omega)) ?_
      rintro _ _ ⟨rfl, rfl⟩ -
      simp (config := {maxSteps := 3000000}) only [go_sem, Nat.reduceEqDiff, Nat.reduceAdd, Nat.reduceLT, Nat.reduceLeDiff, ↓reduceIte, Ba2, Bq2]
      exact fin _ s2 3 out _ (by rw [hJ]; simp [c5]) h2 T2
  · by_cases c2 : code = 2
    · subst c2
      have d22 : decide ((2 : Int) = 2) = true := rfl
      have d23 : decide ((2 : Int) = 3) = false := rfl
      have h2 := h1.write hU (N' := { N with r := rr, naks := 0 }) (tk := tn) rfl h.l0 h.l1 h.i0 h.i1 (Int.le_refl 0) (by simp only; omega) h.rb
      unfold negC at h2
      simp only at h2
      have T2 := T01.put (b := n) (cs := [.sc (.int .i64 N.s), .sc (.int .i64 N.left), .sc (.int .i64 N.at_), .sc (.iface t pv), .sc (.int .u8 codes), .sc (.int .u8 N.id), .sl tn (bs N.req), .sc (.int .i64 0)]) (.inl (by simp)) hlt
      have Ba2 : (s1.put n [.sc (.int .i64 N.s), .sc (.int .i64 N.left), .sc (.int .i64 N.at_), .sc (.iface t pv), .sc (.int .u8 codes), .sc (.int .u8 N.id), .sl tn (bs N.req), .sc (.int .i64 0)]).box a = _ := (put_box_ne hna.symm).trans Ba1
      have Bq2 : (s1.put n [.sc (.int .i64 N.s), .sc (.int .i64 N.left), .sc (.int .i64 N.at_), .sc (.iface t pv), .sc (.int .u8 codes), .sc (.int .u8 N.id), .sl tn (bs N.req), .sc (.int .i64 0)]).box q = _ := (put_box_ne hnq.symm).trans Bq1
      simp (config := {maxSteps := 3000000}) only [go_sem, Nat.reduceEqDiff, Nat.reduceAdd, Nat.reduceLT, Nat.reduceLeDiff, Int.reduceEq, ↓reduceIte, reduceCtorEq, hbn1, Ba2]
      generalize s1.put n _ = s2 at T2 h2 Ba2 Bq2 ⊢
      refine Cal.mk (optBuild_v g3 (by omega)) ?_
      rintro _ _ ⟨rfl, rfl⟩ -
      simp (config := {maxSteps := 3000000}) only [go_sem, Nat.reduceEqDiff, Nat.reduceAdd, Nat.reduceLT, Nat.reduceLeDiff, ↓reduceIte, Ba2, Bq2]
      exact fin _ s2 2 out _ (by rw [hJ]; simp) h2 T2
    · have h2 : NegI (.sc (.iface t pv)) codes SI bx n (k + 1) s1 { N with r := rr, naks := N.naks } := h1
      simp (config := {maxSteps := 3000000}) only [go_sem, Nat.reduceEqDiff, ↓reduceIte, decide_eq_false c3, decide_eq_false c2, Ba1]
      refine Cal.mk (optBuild_v g3 (by omega)) ?_
      rintro _ _ ⟨rfl, rfl⟩ -
      simp (config := {maxSteps := 3000000}) only [go_sem, Nat.reduceEqDiff, Nat.reduceAdd, Nat.reduceLT, Nat.reduceLeDiff, ↓reduceIte, Ba1, Bq1]
      have hd : decide (code = 2) = false := decide_eq_false c2
      have := fin _ s1 code out [.sc (.int .u8 code), .sc (.int .u8 i), .sl .no (bs (buildO out))] (by rw [hJ]; simp [c3, c2]) h2 T01
      rw [hd] at this
      exact this
end
end
section
open Go

def zeros : List V := [.sl .nil [], .sc (.bool false), .sc (.bool false), .sc (.bool false)]
section
variable {R : Type} {U : Rul R} {t : TypeId} {pv : Value} {SI : Nat → St → R → Prop} {bx : List Nat} {codes : Int} {n k m : Nat} {st s s2 base : St} {N N' : Neg R}
/-- A call beside boxes of one's own: the packet's, the result's. -/
structure TkI (st : St) (iv : V) (codes : Int) (SI : Nat → St → R → Prop) (bx : List Nat) (n k a q : Nat) (w : List V) (s : St) (N : Neg R) : Prop where
  neg : NegI iv codes SI bx n k s N
  tn : Tn (n :: bx) st s
  ba : s.box a = some w
  bq : s.box q = some [.sl .nil [], .sc (.bool false), .sc (.bool false), .sc (.bool false)]
  sa : st.sz ≤ a
  sq : st.sz ≤ q
  aq : a ≠ q
  ha : a ∉ n :: bx
  hq : q ∉ n :: bx
variable {iv : V} {a q : Nat} {w : List V}
theorem TkI.step (I : TkI st iv codes SI bx n k a q w s N) {k' : Nat} (h : NegI iv codes SI bx n k' s2 N') (T : Tn (n :: bx) s s2) : TkI st iv codes SI bx n k' a q w s2 N' :=
  ⟨h, I.tn.trans T, T.box a _ I.ba I.ha, T.box q _ I.bq I.hq, I.sa, I.sq, I.aq, I.ha, I.hq⟩
/-- The call's end, where the result was laid by done. -/
theorem TkI.fin (hU : RulC U t pv SI bx) {iv : V} (hlt : st.Lt) {s1 : St} {N1 : Neg R} {X Y : Neg R × Nout} {r : V} {k0 : Nat} (I : TkI st iv codes SI bx n k0 a q w s1 N1) (O : NOut s1 iv codes SI bx n k m X r s2) (e : X = Y) :
    ∃ tv, r = outV tv Y.2 ∧ s2.box q = some [.sl .nil [], .sc (.bool false), .sc (.bool false), .sc (.bool false)] ∧ ∀ cs, NOut st iv codes SI bx n k m Y (outV tv Y.2) (s2.put q cs) := by
  subst e
  obtain ⟨tv, rfl, R2, h2, T2, L2⟩ := O
  exact ⟨tv, rfl, T2.box q _ I.bq I.hq, fun cs => NOut.put hU hlt I.sq I.hq I.tn.sz R2 h2 (I.tn.trans T2) L2⟩
theorem TkI.none (hU : RulC U t pv SI bx) {iv : V} (hlt : st.Lt) (I : TkI st iv codes SI bx n k a q w s N) {cs : List V} : NOut st iv codes SI bx n k 5 (N, .no) (outV .nil .no) (s.put q cs) :=
  NOut.put (X := (N, .no)) (s1 := st) hU hlt I.sq I.hq (Nat.le_refl _) (RO.nil I.tn.bare I.tn.lt) I.neg I.tn (by simp [Nout.no])
theorem NOut.up (hU : RulC U t pv SI bx) {iv : V} {X : Neg R × Nout} {r : V} (O : NOut st iv codes SI bx n k m X r s) {m' : Nat} (hm : m ≤ m') : NOut st iv codes SI bx n (k + 1) m' X r s := by
  obtain ⟨tv, h1, h2, h3, h4, h5⟩ := O
  exact ⟨tv, h1, h2, h3.more hU, h4, by omega⟩
theorem TkI.start (hU : RulC U t pv SI bx) (h : NegI iv codes SI bx n k st N) (hlt : st.Lt) (ha : st.sz ≤ a) (hq : st.sz ≤ q) (aq : a ≠ q) : TkI st iv codes SI bx n k a q w ((st.put a w).put q [.sl .nil [], .sc (.bool false), .sc (.bool false), .sc (.bool false)]) N := by
  have T0 : Tn [] st ((st.put a w).put q [.sl .nil [], .sc (.bool false), .sc (.bool false), .sc (.bool false)]) := (tn_new hlt ha).put (.inr hq) hlt
  refine ⟨h.tn hU T0, T0.wide (by simp), ?_, put_box_same, ha, hq, aq, fun hm => ?_, fun hm => ?_⟩
  · rw [put_box_ne aq, put_box_same]
  · have := h.lt hU hlt a hm; omega
  · have := h.lt hU hlt q hm; omega
set_option maxRecDepth 100000 in
set_option maxHeartbeats 16000000 in
theorem negRequest_v (hU : RulC U t pv SI bx) (h : NegI (.sc (.iface t pv)) codes SI bx n k st N) (hk : k + 1 ≤ 1000000000) {now : Int} (hn : 0 ≤ now) (hn2 : now ≤ 1000000000) {p : Ctl} (hp : p.Good) {tp : Tk} :
    VCalls Try.prog 52 [ptrV n, .sc (.int .i64 now), p.v tp] st (NOut st (.sc (.iface t pv)) codes SI bx n (k + 1) 5 (N.request U now p)) := by
  obtain ⟨fa, hma, hca, hag⟩ := hU.agreed
  obtain ⟨X, hX⟩ : ∃ X, X = N.request U now p := ⟨_, rfl⟩
  rw [← hX]
  show VCalls Try.prog 52 [ptrV n, .sc (.int .i64 now), .agg [.sc (.int .u8 p.code), .sc (.int .u8 p.id), .sl tp (bs p.data)]] st _
  refine vcalls_enter vc52 (Nat.le_of_ble_eq_true rfl) fun hwf hok => ?_
  show Run _ Vc52.body (.fin (finQ Vc52.res _)) _ _
  unfold Vc52
  have hlt := hwf.lt
  have hpb := hp.b
  have hpl := hp.l
  simp (config := {maxSteps := 3000000}) only [go_sem, Nat.reduceEqDiff, Nat.reduceAdd, ↓reduceIte, reduceCtorEq]
  intro a ha q hq
  have I0 : TkI st (.sc (.iface t pv)) codes SI bx n k a q [.sc (.int .u8 p.code), .sc (.int .u8 p.id), .sl tp (bs p.data)] ((st.put a [.sc (.int .u8 p.code), .sc (.int .u8 p.id), .sl tp (bs p.data)]).put q [.sl .nil [], .sc (.bool false), .sc (.bool false), .sc (.bool false)]) N := TkI.start hU h hlt ha (by omega) (by omega)
  generalize (st.put a _).put q _ = s0 at I0 ⊢
  clear ha hq
  have ba := I0.ba
  have bq := I0.bq
  simp (config := {maxSteps := 3000000}) only [go_sem, ↓reduceIte, ba]
  refine Cal.mk (optParse_v hpb hpl) ?_
  rintro _ _ ⟨rfl, rfl⟩ -
  obtain ⟨L, hL⟩ : ∃ L, L = parseO p.data := ⟨_, rfl⟩
  have hLg : GoodO L.1 := by rw [hL]; exact parseO_good hpb
  have hLl : L.1.length ≤ 1000000 := by rw [hL]; have := parseO_len (L := p.data); omega
  unfold Neg.request at hX
  simp only at hX
  rw [← hL] at hX ⊢
  by_cases c1 : L.2 = 0
  rotate_left
  · rw [if_pos c1] at hX
    subst hX
    simp (config := {maxSteps := 3000000}) only [go_sem, Nat.reduceEqDiff, Nat.reduceAdd, Nat.reduceLT, Nat.reduceLeDiff, ↓reduceIte, decide_eq_true c1, bq]
    have O := (I0.none hU hlt (cs := [.sl .nil [], .sc (.bool false), .sc (.bool false), .sc (.bool false)])).up hU (Nat.le_refl _)
    exact ⟨_, _, Wk.refl _, O.lt.weak, O⟩
  rw [if_neg (show ¬ L.2 ≠ 0 from fun e => e c1)] at hX
  simp (config := {maxSteps := 3000000}) only [go_sem, Nat.reduceEqDiff, ↓reduceIte, reduceCtorEq, decide_eq_false (show ¬ L.2 ≠ 0 from fun e => e c1)]
  refine Cal.mk (negState_v I0.neg) ?_
  rintro _ _ ⟨rfl, rfl⟩ -
  by_cases c2 : N.s = 4 ∨ N.s = 5 ∨ N.s < 3
  · rw [if_pos c2] at hX
    by_cases e4 : N.s = 4
    · simp (config := {maxSteps := 3000000}) only [go_sem, Nat.reduceEqDiff, Nat.reduceAdd, Nat.reduceLT, Nat.reduceLeDiff, ↓reduceIte, reduceCtorEq, decide_eq_true e4, ba]
      refine Cal.mk (negDo_v hU I0.neg hn hn2) ?_
      rintro _ s8 ⟨rfl, h8, T8⟩ -
      have I8 := I0.step h8 T8
      have ba8 := I8.ba
      simp (config := {maxSteps := 3000000}) only [go_sem, Nat.reduceEqDiff, Nat.reduceAdd, Nat.reduceLeDiff, ↓reduceIte, ba8]
      refine Cal.mk (negDone_v hU h8 (p := p) (back := zeroC) (tp := tp) (tb := .nil) hp) ?_
      rintro _ s9 O -
      obtain ⟨tv, rfl, bq9, O9⟩ := I8.fin hU hlt O hX.symm
      simp (config := {maxSteps := 3000000}) only [go_sem, Nat.reduceEqDiff, Nat.reduceAdd, Nat.reduceLT, Nat.reduceLeDiff, ↓reduceIte, bq9, outV]
      exact ⟨_, _, Wk.refl _, (O9 _).lt.weak, (O9 _).up hU (Nat.le_refl _)⟩
    by_cases e5 : N.s = 5
    · simp (config := {maxSteps := 3000000}) only [go_sem, Nat.reduceEqDiff, Nat.reduceAdd, Nat.reduceLT, Nat.reduceLeDiff, ↓reduceIte, reduceCtorEq, decide_eq_false e4, decide_eq_true e5, ba]
      refine Cal.mk (negDo_v hU I0.neg hn hn2) ?_
      rintro _ s8 ⟨rfl, h8, T8⟩ -
      have I8 := I0.step h8 T8
      have ba8 := I8.ba
      simp (config := {maxSteps := 3000000}) only [go_sem, Nat.reduceEqDiff, Nat.reduceAdd, Nat.reduceLeDiff, ↓reduceIte, ba8]
      refine Cal.mk (negDone_v hU h8 (p := p) (back := zeroC) (tp := tp) (tb := .nil) hp) ?_
      rintro _ s9 O -
      obtain ⟨tv, rfl, bq9, O9⟩ := I8.fin hU hlt O hX.symm
      simp (config := {maxSteps := 3000000}) only [go_sem, Nat.reduceEqDiff, Nat.reduceAdd, Nat.reduceLT, Nat.reduceLeDiff, ↓reduceIte, bq9, outV]
      exact ⟨_, _, Wk.refl _, (O9 _).lt.weak, (O9 _).up hU (Nat.le_refl _)⟩
    · have e3 : N.s < 3 := by omega
      simp (config := {maxSteps := 3000000}) only [go_sem, Nat.reduceEqDiff, Nat.reduceAdd, Nat.reduceLT, Nat.reduceLeDiff, ↓reduceIte, reduceCtorEq, decide_eq_false e4, decide_eq_false e5, decide_eq_true e3, ba]
      refine Cal.mk (negDo_v hU I0.neg hn hn2) ?_
      rintro _ s8 ⟨rfl, h8, T8⟩ -
      have I8 := I0.step h8 T8
      have ba8 := I8.ba
      simp (config := {maxSteps := 3000000}) only [go_sem, Nat.reduceEqDiff, Nat.reduceAdd, Nat.reduceLeDiff, ↓reduceIte, ba8]
      refine Cal.mk (negDone_v hU h8 (p := p) (back := zeroC) (tp := tp) (tb := .nil) hp) ?_
      rintro _ s9 O -
      obtain ⟨tv, rfl, bq9, O9⟩ := I8.fin hU hlt O hX.symm
      simp (config := {maxSteps := 3000000}) only [go_sem, Nat.reduceEqDiff, Nat.reduceAdd, Nat.reduceLT, Nat.reduceLeDiff, ↓reduceIte, bq9, outV]
      exact ⟨_, _, Wk.refl _, (O9 _).lt.weak, (O9 _).up hU (Nat.le_refl _)⟩
  · rw [if_neg c2] at hX
    have e4 : ¬ N.s = 4 := fun e => c2 (.inl e)
    have e5 : ¬ N.s = 5 := fun e => c2 (.inr (.inl e))
    have e3 : ¬ N.s < 3 := fun e => c2 (.inr (.inr e))
    simp (config := {maxSteps := 3000000}) only [go_sem, Nat.reduceEqDiff, Nat.reduceAdd, Nat.reduceLeDiff, ↓reduceIte, reduceCtorEq, decide_eq_false e4, decide_eq_false e5, decide_eq_false e3, ba]
    refine Cal.mk (negJudge_v hU I0.neg (by omega) hp hLg hLl) ?_
    rintro _ s1 ⟨rfl, h1, T1⟩ -
    have I1 := I0.step h1 T1
    obtain ⟨J, hJ⟩ : ∃ J, J = N.judge U p L.1 := ⟨_, rfl⟩
    rw [← hJ] at hX h1 I1 ⊢
    have ba1 := I1.ba
    have bq1 := I1.bq
    have hsz1 := I1.tn.sz
    cases e1 : J.2.2
    · rw [if_pos e1] at hX
      simp (config := {maxSteps := 3000000}) only [go_sem, Nat.reduceEqDiff, Nat.reduceAdd, Nat.reduceLT, Nat.reduceLeDiff, ↓reduceIte, reduceCtorEq, Ctl.v]
      intro c hc
      have T2 : Tn [] s1 (s1.put c [.sc (.int .u8 J.2.1.code), .sc (.int .u8 J.2.1.id), .sl .no (bs J.2.1.data)]) := tn_new T1.lt hc
      have I2 := I1.step (h1.tn hU T2) (T2.wide (by simp))
      have bc2 : (s1.put c [.sc (.int .u8 J.2.1.code), .sc (.int .u8 J.2.1.id), .sl .no (bs J.2.1.data)]).box c = some [.sc (.int .u8 J.2.1.code), .sc (.int .u8 J.2.1.id), .sl .no (bs J.2.1.data)] := put_box_same
      generalize s1.put c _ = s2 at T2 I2 bc2 ⊢
      have hcn : c ∉ n :: bx := fun hm => by have := h.lt hU hlt c hm; omega
      have ba2 := I2.ba
      simp (config := {maxSteps := 3000000}) only [go_sem, Nat.reduceEqDiff, Nat.reduceAdd, Nat.reduceLT, Nat.reduceLeDiff, ↓reduceIte, ba2, bc2]
      refine Cal.mk (negDo_v hU I2.neg hn hn2) ?_
      rintro _ s8 ⟨rfl, h8, T8⟩ -
      have I8 := I2.step h8 T8
      have ba8 := I8.ba
      have bc8 := T8.box c _ bc2 hcn
      simp (config := {maxSteps := 3000000}) only [go_sem, Nat.reduceEqDiff, Nat.reduceAdd, Nat.reduceLeDiff, ↓reduceIte, ba8, bc8]
      refine Cal.mk (negDone_v hU h8 (p := p) (back := J.2.1) (tp := tp) (tb := .no) hp) ?_
      rintro _ s9 O -
      obtain ⟨tv, rfl, bq9, O9⟩ := I8.fin hU hlt O hX.symm
      simp (config := {maxSteps := 3000000}) only [go_sem, Nat.reduceEqDiff, Nat.reduceAdd, Nat.reduceLT, Nat.reduceLeDiff, ↓reduceIte, bq9, outV]
      exact ⟨_, _, Wk.refl _, (O9 _).lt.weak, O9 _⟩
    · rw [if_neg (show ¬ J.2.2 = false by rw [e1]; simp)] at hX
      simp (config := {maxSteps := 3000000}) only [go_sem, Nat.reduceEqDiff, Nat.reduceAdd, Nat.reduceLT, Nat.reduceLeDiff, ↓reduceIte, reduceCtorEq, Ctl.v]
      intro c hc
      have T2 : Tn [] s1 (s1.put c [.sc (.int .u8 J.2.1.code), .sc (.int .u8 J.2.1.id), .sl .no (bs J.2.1.data)]) := tn_new T1.lt hc
      have I2 := I1.step (h1.tn hU T2) (T2.wide (by simp))
      have bc2 : (s1.put c [.sc (.int .u8 J.2.1.code), .sc (.int .u8 J.2.1.id), .sl .no (bs J.2.1.data)]).box c = some [.sc (.int .u8 J.2.1.code), .sc (.int .u8 J.2.1.id), .sl .no (bs J.2.1.data)] := put_box_same
      generalize s1.put c _ = s2 at T2 I2 bc2 ⊢
      have hcn : c ∉ n :: bx := fun hm => by have := h.lt hU hlt c hm; omega
      obtain ⟨tn, hbn⟩ := I2.neg.box
      unfold negC at hbn
      simp (config := {maxSteps := 3000000}) only [go_sem, Nat.reduceEqDiff, ↓reduceIte, hbn]
      refine Ivk.mk hma hca hU.one ?_
      refine Cal.mk (hag (k + 1) s2 J.1.r L.1 .no I2.neg.si (by omega) hLg hLl) ?_
      rintro _ s3 ⟨rfl, si3, T3⟩ -
      have T3' : Tn (n :: bx) s2 s3 := T3.wide (fun b hb => List.mem_cons_of_mem _ hb)
      have I3 := I2.step (I2.neg.rules T3 si3 (Nat.le_refl _)) T3'
      have ba3 := I3.ba
      have bc3 := T3'.box c _ bc2 hcn
      simp (config := {maxSteps := 3000000}) only [go_sem, Nat.reduceEqDiff, Nat.reduceAdd, Nat.reduceLT, Nat.reduceLeDiff, ↓reduceIte, reduceCtorEq, ba3, bc3]
      refine Cal.mk (negDo_v hU I3.neg hn hn2) ?_
      rintro _ s8 ⟨rfl, h8, T8⟩ -
      have I8 := I3.step h8 T8
      have ba8 := I8.ba
      have bc8 := T8.box c _ bc3 hcn
      simp (config := {maxSteps := 3000000}) only [go_sem, Nat.reduceEqDiff, Nat.reduceAdd, Nat.reduceLeDiff, ↓reduceIte, ba8, bc8]
      refine Cal.mk (negDone_v hU h8 (p := p) (back := J.2.1) (tp := tp) (tb := .no) hp) ?_
      rintro _ s9 O -
      obtain ⟨tv, rfl, bq9, O9⟩ := I8.fin hU hlt O hX.symm
      simp (config := {maxSteps := 3000000}) only [go_sem, Nat.reduceEqDiff, Nat.reduceAdd, Nat.reduceLT, Nat.reduceLeDiff, ↓reduceIte, bq9, outV]
      exact ⟨_, _, Wk.refl _, (O9 _).lt.weak, O9 _⟩
end
end
section
open Go

section
variable {R : Type} {U : Rul R} {t : TypeId} {pv : Value} {SI : Nat → St → R → Prop} {bx : List Nat} {codes : Int} {n k m : Nat} {st s s2 base : St} {N N' : Neg R}
set_option maxRecDepth 100000 in
set_option maxHeartbeats 16000000 in
theorem negAnswered_v (hU : RulC U t pv SI bx) (h : NegI (.sc (.iface t pv)) codes SI bx n k st N) (hk : k + 1 ≤ 1000000000) {now : Int} (hn : 0 ≤ now) (hn2 : now ≤ 1000000000) {p : Ctl} (hp : p.Good) {tp : Tk} :
    VCalls Try.prog 53 [ptrV n, .sc (.int .i64 now), p.v tp] st (NOut st (.sc (.iface t pv)) codes SI bx n (k + 1) 5 (N.answered U now p)) := by
  obtain ⟨fn, hmn, hcn, hna⟩ := hU.naked
  obtain ⟨fr, hmr, hcr, hre⟩ := hU.rejected
  obtain ⟨X, hX⟩ : ∃ X, X = N.answered U now p := ⟨_, rfl⟩
  rw [← hX]
  show VCalls Try.prog 53 [ptrV n, .sc (.int .i64 now), .agg [.sc (.int .u8 p.code), .sc (.int .u8 p.id), .sl tp (bs p.data)]] st _
  refine vcalls_enter vc53 (Nat.le_of_ble_eq_true rfl) fun hwf hok => ?_
  show Run _ Vc53.body (.fin (finQ Vc53.res _)) _ _
  unfold Vc53
  have hlt := hwf.lt
  have hpb := hp.b
  have hpl := hp.l
  simp (config := {maxSteps := 3000000}) only [go_sem, Nat.reduceEqDiff, Nat.reduceAdd, ↓reduceIte, reduceCtorEq]
  intro a ha q hq
  have I0 : TkI st (.sc (.iface t pv)) codes SI bx n k a q [.sc (.int .u8 p.code), .sc (.int .u8 p.id), .sl tp (bs p.data)] ((st.put a [.sc (.int .u8 p.code), .sc (.int .u8 p.id), .sl tp (bs p.data)]).put q [.sl .nil [], .sc (.bool false), .sc (.bool false), .sc (.bool false)]) N := TkI.start hU h hlt ha (by omega) (by omega)
  generalize (st.put a _).put q _ = s0 at I0 ⊢
  clear ha hq
  have ba := I0.ba
  have bq := I0.bq
  simp (config := {maxSteps := 3000000}) only [go_sem, ↓reduceIte, ba]
  refine Cal.mk (optParse_v hpb hpl) ?_
  rintro _ _ ⟨rfl, rfl⟩ -
  obtain ⟨L, hL⟩ : ∃ L, L = parseO p.data := ⟨_, rfl⟩
  have hLg : GoodO L.1 := by rw [hL]; exact parseO_good hpb
  have hLl : L.1.length ≤ 1000000 := by rw [hL]; have := parseO_len (L := p.data); omega
  unfold Neg.answered at hX
  simp only at hX
  rw [← hL] at hX ⊢
  obtain ⟨tn, hbn⟩ := I0.neg.box
  unfold negC at hbn
  have hinj := strOf_inj hpb h.rb
  by_cases c1 : L.2 = 0
  rotate_left
  · rw [if_pos (.inl c1)] at hX
    subst hX
    simp (config := {maxSteps := 3000000}) only [go_sem, Nat.reduceEqDiff, Nat.reduceAdd, Nat.reduceLT, Nat.reduceLeDiff, ↓reduceIte, decide_eq_true c1, bq]
    have O := (I0.none hU hlt (cs := [.sl .nil [], .sc (.bool false), .sc (.bool false), .sc (.bool false)])).up hU (Nat.le_refl _)
    exact ⟨_, _, Wk.refl _, O.lt.weak, O⟩
  have c1' : ¬ L.2 ≠ 0 := fun e => e c1
  by_cases c2 : p.id = N.id
  rotate_left
  · rw [if_pos (.inr (.inl c2))] at hX
    subst hX
    simp (config := {maxSteps := 3000000}) only [go_sem, Nat.reduceEqDiff, Nat.reduceAdd, Nat.reduceLT, Nat.reduceLeDiff, ↓reduceIte, reduceCtorEq, decide_eq_false c1', decide_eq_true c2, bq, ba, hbn]
    have O := (I0.none hU hlt (cs := [.sl .nil [], .sc (.bool false), .sc (.bool false), .sc (.bool false)])).up hU (Nat.le_refl _)
    exact ⟨_, _, Wk.refl _, O.lt.weak, O⟩
  have c2' : ¬ p.id ≠ N.id := fun e => e c2
  by_cases c3 : p.code = 2
  · by_cases c4 : p.data = N.req
    rotate_left
    · rw [if_pos (.inr (.inr ⟨c3, c4⟩))] at hX
      subst hX
      simp (config := {maxSteps := 3000000}) only [go_sem, Nat.reduceEqDiff, Nat.reduceAdd, Nat.reduceLT, Nat.reduceLeDiff, ↓reduceIte, reduceCtorEq, decide_eq_false c1', decide_eq_false c2', decide_eq_true c3, decide_eq_true (show ¬ strOf p.data = strOf N.req from fun e => c4 (hinj.1 e)), u8sOf_bsN, bq, ba, hbn]
      have O := (I0.none hU hlt (cs := [.sl .nil [], .sc (.bool false), .sc (.bool false), .sc (.bool false)])).up hU (Nat.le_refl _)
      exact ⟨_, _, Wk.refl _, O.lt.weak, O⟩
    have e4 : ¬ strOf p.data ≠ strOf N.req := fun e => e (by rw [c4])
    rw [if_neg (fun e => e.elim c1' (fun e => e.elim c2' (fun e => e.2 c4))), if_pos c3] at hX
    simp (config := {maxSteps := 3000000}) only [go_sem, Nat.reduceEqDiff, Nat.reduceAdd, Nat.reduceLT, Nat.reduceLeDiff, ↓reduceIte, reduceCtorEq, decide_eq_false c1', decide_eq_false c2', decide_eq_true c3, decide_eq_false e4, u8sOf_bsN, ba, hbn]
    refine Cal.mk (negDo_v hU I0.neg hn hn2) ?_
    rintro _ s8 ⟨rfl, h8, T8⟩ -
    have I8 := I0.step h8 T8
    have ba8 := I8.ba
    simp (config := {maxSteps := 3000000}) only [go_sem, Nat.reduceEqDiff, Nat.reduceAdd, Nat.reduceLeDiff, ↓reduceIte, ba8]
    refine Cal.mk (negDone_v hU h8 (p := p) (back := zeroC) (tp := tp) (tb := .nil) hp) ?_
    rintro _ s9 O -
    obtain ⟨tv, rfl, bq9, O9⟩ := I8.fin hU hlt O hX.symm
    simp (config := {maxSteps := 3000000}) only [go_sem, Nat.reduceEqDiff, Nat.reduceAdd, Nat.reduceLT, Nat.reduceLeDiff, ↓reduceIte, bq9, outV]
    exact ⟨_, _, Wk.refl _, (O9 _).lt.weak, (O9 _).up hU (Nat.le_refl _)⟩
  rw [if_neg (fun e => e.elim c1' (fun e => e.elim c2' (fun e => c3 e.1))), if_neg c3] at hX
  by_cases c5 : p.code = 3
  · rw [if_pos c5] at hX
    simp (config := {maxSteps := 3000000}) only [go_sem, Nat.reduceEqDiff, ↓reduceIte, reduceCtorEq, decide_eq_false c1', decide_eq_false c2', decide_eq_false c3, decide_eq_true c5, ba, hbn]
    refine Ivk.mk hmn hcn hU.one ?_
    refine Cal.mk (hna k s0 N.r L.1 .no I0.neg.si (by omega) hLg hLl) ?_
    rintro _ s3 ⟨rfl, si3, T3⟩ -
    have T3' : Tn (n :: bx) s0 s3 := T3.wide (fun b hb => List.mem_cons_of_mem _ hb)
    have I3 := I0.step (I0.neg.rules T3 si3 (Nat.le_succ _)) T3'
    have ba3 := I3.ba
    simp (config := {maxSteps := 3000000}) only [go_sem, Nat.reduceEqDiff, Nat.reduceAdd, Nat.reduceLT, Nat.reduceLeDiff, ↓reduceIte, reduceCtorEq, ba3]
    refine Cal.mk (negDo_v hU I3.neg hn hn2) ?_
    rintro _ s8 ⟨rfl, h8, T8⟩ -
    have I8 := I3.step h8 T8
    have ba8 := I8.ba
    simp (config := {maxSteps := 3000000}) only [go_sem, Nat.reduceEqDiff, Nat.reduceAdd, Nat.reduceLeDiff, ↓reduceIte, ba8]
    refine Cal.mk (negDone_v hU h8 (p := p) (back := zeroC) (tp := tp) (tb := .nil) hp) ?_
    rintro _ s9 O -
    obtain ⟨tv, rfl, bq9, O9⟩ := I8.fin hU hlt O hX.symm
    simp (config := {maxSteps := 3000000}) only [go_sem, Nat.reduceEqDiff, Nat.reduceAdd, Nat.reduceLT, Nat.reduceLeDiff, ↓reduceIte, bq9, outV]
    exact ⟨_, _, Wk.refl _, (O9 _).lt.weak, O9 _⟩
  · rw [if_neg c5] at hX
    simp (config := {maxSteps := 3000000}) only [go_sem, Nat.reduceEqDiff, ↓reduceIte, reduceCtorEq, decide_eq_false c1', decide_eq_false c2', decide_eq_false c3, decide_eq_false c5, ba, hbn]
    refine Ivk.mk hmr hcr hU.one ?_
    refine Cal.mk (hre k s0 N.r L.1 .no I0.neg.si (by omega) hLg hLl) ?_
    rintro _ s3 ⟨rfl, si3, T3⟩ -
    have T3' : Tn (n :: bx) s0 s3 := T3.wide (fun b hb => List.mem_cons_of_mem _ hb)
    have I3 := I0.step (I0.neg.rules T3 si3 (Nat.le_refl _)) T3'
    have ba3 := I3.ba
    cases e6 : (U.rejected N.r L.1).2
    · rw [if_pos e6] at hX
      simp (config := {maxSteps := 3000000}) only [go_sem, Nat.reduceEqDiff, ↓reduceIte, reduceCtorEq, Bool.not_false]
      refine Cal.mk (negClose_v hU I3.neg hn hn2) ?_
      rintro _ s9 O -
      obtain ⟨tv, rfl, bq9, O9⟩ := I3.fin hU hlt O hX.symm
      simp (config := {maxSteps := 3000000}) only [go_sem, Nat.reduceEqDiff, Nat.reduceAdd, Nat.reduceLT, Nat.reduceLeDiff, ↓reduceIte, bq9, outV]
      exact ⟨_, _, Wk.refl _, (O9 _).lt.weak, (O9 _).up hU (Nat.le_refl _)⟩
    · rw [if_neg (show ¬ (U.rejected N.r L.1).2 = false by rw [e6]; simp)] at hX
      simp (config := {maxSteps := 3000000}) only [go_sem, Nat.reduceEqDiff, Nat.reduceAdd, Nat.reduceLT, Nat.reduceLeDiff, ↓reduceIte, reduceCtorEq, Bool.not_true, ba3]
      refine Cal.mk (negDo_v hU I3.neg hn hn2) ?_
      rintro _ s8 ⟨rfl, h8, T8⟩ -
      have I8 := I3.step h8 T8
      have ba8 := I8.ba
      simp (config := {maxSteps := 3000000}) only [go_sem, Nat.reduceEqDiff, Nat.reduceAdd, Nat.reduceLeDiff, ↓reduceIte, ba8]
      refine Cal.mk (negDone_v hU h8 (p := p) (back := zeroC) (tp := tp) (tb := .nil) hp) ?_
      rintro _ s9 O -
      obtain ⟨tv, rfl, bq9, O9⟩ := I8.fin hU hlt O hX.symm
      simp (config := {maxSteps := 3000000}) only [go_sem, Nat.reduceEqDiff, Nat.reduceAdd, Nat.reduceLT, Nat.reduceLeDiff, ↓reduceIte, bq9, outV]
      exact ⟨_, _, Wk.refl _, (O9 _).lt.weak, (O9 _).up hU (Nat.le_refl _)⟩
set_option maxRecDepth 100000 in
set_option maxHeartbeats 16000000 in
theorem negTake_v (hU : RulC U t pv SI bx) (h : NegI (.sc (.iface t pv)) codes SI bx n k st N) (hk : k + 1 ≤ 1000000000) {now : Int} (hn : 0 ≤ now) (hn2 : now ≤ 1000000000) {p : Ctl} (hp : p.Good) {tp : Tk} :
    VCalls Try.prog 29 [ptrV n, .sc (.int .i64 now), p.v tp] st (NOut st (.sc (.iface t pv)) codes SI bx n (k + 1) 5 (N.take U codes now p)) := by
  obtain ⟨X, hX⟩ : ∃ X, X = N.take U codes now p := ⟨_, rfl⟩
  rw [← hX]
  show VCalls Try.prog 29 [ptrV n, .sc (.int .i64 now), .agg [.sc (.int .u8 p.code), .sc (.int .u8 p.id), .sl tp (bs p.data)]] st _
  refine vcalls_enter vc29 (Nat.le_of_ble_eq_true rfl) fun hwf hok => ?_
  show Run _ Vc29.body (.fin (finQ Vc29.res _)) _ _
  unfold Vc29
  have hlt := hwf.lt
  have hpb := hp.b
  have hpl := hp.l
  simp (config := {maxSteps := 3000000}) only [go_sem, Nat.reduceEqDiff, Nat.reduceAdd, ↓reduceIte, reduceCtorEq]
  intro a ha q hq
  have I0 : TkI st (.sc (.iface t pv)) codes SI bx n k a q [.sc (.int .u8 p.code), .sc (.int .u8 p.id), .sl tp (bs p.data)] ((st.put a [.sc (.int .u8 p.code), .sc (.int .u8 p.id), .sl tp (bs p.data)]).put q [.sl .nil [], .sc (.bool false), .sc (.bool false), .sc (.bool false)]) N := TkI.start hU h hlt ha (by omega) (by omega)
  generalize (st.put a _).put q _ = s0 at I0 ⊢
  clear ha hq
  have ba := I0.ba
  have bq := I0.bq
  obtain ⟨tn, hbn⟩ := I0.neg.box
  unfold negC at hbn
  unfold Neg.take at hX
  simp (config := {maxSteps := 3000000}) only [go_sem, Nat.reduceEqDiff, ↓reduceIte, reduceCtorEq, ba, hbn]
  refine Cal.mk cpKnown_v ?_
  rintro _ _ ⟨rfl, rfl⟩ -
  by_cases c0 : 1 ≤ p.code ∧ p.code ≤ codes
  rotate_left
  · rw [if_pos (by omega)] at hX
    have d0 := decide_eq_false c0
    simp (config := {maxSteps := 3000000}) only [go_sem, Nat.reduceEqDiff, Nat.reduceAdd, Nat.reduceLT, Nat.reduceLeDiff, ↓reduceIte, reduceCtorEq, d0, Bool.not_false, ba]
    refine Cal.mk (negDo_v hU I0.neg hn hn2) ?_
    rintro _ s8 ⟨rfl, h8, T8⟩ -
    have I8 := I0.step h8 T8
    have ba8 := I8.ba
    simp (config := {maxSteps := 3000000}) only [go_sem, Nat.reduceEqDiff, Nat.reduceAdd, Nat.reduceLeDiff, ↓reduceIte, ba8]
    refine Cal.mk (negDone_v hU h8 (p := p) (back := zeroC) (tp := tp) (tb := .nil) hp) ?_
    rintro _ s9 O -
    obtain ⟨tv, rfl, bq9, O9⟩ := I8.fin hU hlt O hX.symm
    simp (config := {maxSteps := 3000000}) only [go_sem, Nat.reduceEqDiff, Nat.reduceAdd, Nat.reduceLT, Nat.reduceLeDiff, ↓reduceIte, bq9, outV]
    exact ⟨_, _, Wk.refl _, (O9 _).lt.weak, (O9 _).up hU (Nat.le_refl _)⟩
  have d0 := decide_eq_true c0
  rw [if_neg (by omega)] at hX
  by_cases c1 : p.code = 1
  · rw [if_pos c1] at hX
    simp (config := {maxSteps := 3000000}) only [go_sem, Nat.reduceEqDiff, Nat.reduceAdd, Nat.reduceLeDiff, ↓reduceIte, reduceCtorEq, d0, Bool.not_true, decide_eq_true c1, ba]
    refine Cal.mk (negRequest_v hU I0.neg hk hn hn2 hp) ?_
    rintro _ s9 O -
    obtain ⟨tv, rfl, bq9, O9⟩ := I0.fin hU hlt O hX.symm
    simp (config := {maxSteps := 3000000}) only [go_sem, Nat.reduceEqDiff, Nat.reduceAdd, Nat.reduceLT, Nat.reduceLeDiff, ↓reduceIte, bq9, outV]
    exact ⟨_, _, Wk.refl _, (O9 _).lt.weak, O9 _⟩
  rw [if_neg c1] at hX
  by_cases c4 : p.code ≤ 4
  · rw [if_pos c4] at hX
    simp (config := {maxSteps := 3000000}) only [go_sem, Nat.reduceEqDiff, Nat.reduceAdd, Nat.reduceLeDiff, ↓reduceIte, reduceCtorEq, d0, Bool.not_true, decide_eq_false c1, decide_eq_true c4, ba]
    refine Cal.mk (negAnswered_v hU I0.neg hk hn hn2 hp) ?_
    rintro _ s9 O -
    obtain ⟨tv, rfl, bq9, O9⟩ := I0.fin hU hlt O hX.symm
    simp (config := {maxSteps := 3000000}) only [go_sem, Nat.reduceEqDiff, Nat.reduceAdd, Nat.reduceLT, Nat.reduceLeDiff, ↓reduceIte, bq9, outV]
    exact ⟨_, _, Wk.refl _, (O9 _).lt.weak, O9 _⟩
  rw [if_neg c4] at hX
  by_cases c5 : p.code = 5
  · rw [evOf, if_pos c5] at hX
    simp (config := {maxSteps := 3000000}) only [go_sem, Nat.reduceEqDiff, Nat.reduceAdd, Nat.reduceLT, Nat.reduceLeDiff, ↓reduceIte, reduceCtorEq, d0, Bool.not_true, decide_eq_false c1, decide_eq_false c4, decide_eq_true c5, ba]
    refine Cal.mk (negDo_v hU I0.neg hn hn2) ?_
    rintro _ s8 ⟨rfl, h8, T8⟩ -
    have I8 := I0.step h8 T8
    have ba8 := I8.ba
    simp (config := {maxSteps := 3000000}) only [go_sem, Nat.reduceEqDiff, Nat.reduceAdd, Nat.reduceLeDiff, ↓reduceIte, ba8]
    refine Cal.mk (negDone_v hU h8 (p := p) (back := zeroC) (tp := tp) (tb := .nil) hp) ?_
    rintro _ s9 O -
    obtain ⟨tv, rfl, bq9, O9⟩ := I8.fin hU hlt O hX.symm
    simp (config := {maxSteps := 3000000}) only [go_sem, Nat.reduceEqDiff, Nat.reduceAdd, Nat.reduceLT, Nat.reduceLeDiff, ↓reduceIte, bq9, outV]
    exact ⟨_, _, Wk.refl _, (O9 _).lt.weak, (O9 _).up hU (Nat.le_refl _)⟩
  by_cases c6 : p.code = 6
  · rw [evOf, if_neg c5, if_pos c6] at hX
    simp (config := {maxSteps := 3000000}) only [go_sem, Nat.reduceEqDiff, Nat.reduceAdd, Nat.reduceLT, Nat.reduceLeDiff, ↓reduceIte, reduceCtorEq, d0, Bool.not_true, decide_eq_false c1, decide_eq_false c4, decide_eq_false c5, decide_eq_true c6, ba]
    refine Cal.mk (negDo_v hU I0.neg hn hn2) ?_
    rintro _ s8 ⟨rfl, h8, T8⟩ -
    have I8 := I0.step h8 T8
    have ba8 := I8.ba
    simp (config := {maxSteps := 3000000}) only [go_sem, Nat.reduceEqDiff, Nat.reduceAdd, Nat.reduceLeDiff, ↓reduceIte, ba8]
    refine Cal.mk (negDone_v hU h8 (p := p) (back := zeroC) (tp := tp) (tb := .nil) hp) ?_
    rintro _ s9 O -
    obtain ⟨tv, rfl, bq9, O9⟩ := I8.fin hU hlt O hX.symm
    simp (config := {maxSteps := 3000000}) only [go_sem, Nat.reduceEqDiff, Nat.reduceAdd, Nat.reduceLT, Nat.reduceLeDiff, ↓reduceIte, bq9, outV]
    exact ⟨_, _, Wk.refl _, (O9 _).lt.weak, (O9 _).up hU (Nat.le_refl _)⟩
  by_cases c7 : p.code = 7
  · rcases hD : p.data with _ | ⟨x, D⟩
    · have hl0 : decide ((0 : Int) < (p.data.length : Int)) = false := by rw [hD]; rfl
      rw [evOf, if_neg c5, if_neg c6, if_neg (by rw [hD]; simp), if_pos (.inl c7)] at hX
      simp (config := {maxSteps := 3000000}) only [go_sem, Nat.reduceEqDiff, Nat.reduceAdd, Nat.reduceLT, Nat.reduceLeDiff, ↓reduceIte, reduceCtorEq, d0, Bool.not_true, decide_eq_false c1, decide_eq_false c4, decide_eq_false c5, decide_eq_false c6, decide_eq_true c7, bs_len, hl0, ba]
      refine Cal.mk (negDo_v hU I0.neg hn hn2) ?_
      rintro _ s8 ⟨rfl, h8, T8⟩ -
      have I8 := I0.step h8 T8
      have ba8 := I8.ba
      simp (config := {maxSteps := 3000000}) only [go_sem, Nat.reduceEqDiff, Nat.reduceAdd, Nat.reduceLeDiff, ↓reduceIte, ba8]
      refine Cal.mk (negDone_v hU h8 (p := p) (back := zeroC) (tp := tp) (tb := .nil) hp) ?_
      rintro _ s9 O -
      obtain ⟨tv, rfl, bq9, O9⟩ := I8.fin hU hlt O hX.symm
      simp (config := {maxSteps := 3000000}) only [go_sem, Nat.reduceEqDiff, Nat.reduceAdd, Nat.reduceLT, Nat.reduceLeDiff, ↓reduceIte, bq9, outV]
      exact ⟨_, _, Wk.refl _, (O9 _).lt.weak, (O9 _).up hU (Nat.le_refl _)⟩
    · have hl0 : decide ((0 : Int) < (p.data.length : Int)) = true := decide_eq_true (by rw [hD]; simp only [List.length_cons]; omega)
      have g0 : (bs p.data)[0]? = some (.sc (.int .u8 x)) := by rw [hD]; rfl
      have hg : p.data.getD 0 0 = x := by rw [hD]; rfl
      by_cases c8 : x ≤ 7
      · rw [evOf, if_neg c5, if_neg c6, if_pos ⟨c7, by rw [hD]; simp, by rw [hg]; exact c8⟩] at hX
        simp (config := {maxSteps := 3000000}) only [go_sem, Nat.reduceEqDiff, Nat.reduceAdd, Nat.reduceLT, Nat.reduceLeDiff, Int.reduceToNat, Int.reduceLE, ↓reduceIte, reduceCtorEq, d0, Bool.not_true, decide_eq_false c1, decide_eq_false c4, decide_eq_false c5, decide_eq_false c6, decide_eq_true c7, bs_len, hl0, g0, decide_eq_true c8, ba]
        refine Cal.mk (negDo_v hU I0.neg hn hn2) ?_
        rintro _ s8 ⟨rfl, h8, T8⟩ -
        have I8 := I0.step h8 T8
        have ba8 := I8.ba
        simp (config := {maxSteps := 3000000}) only [go_sem, Nat.reduceEqDiff, Nat.reduceAdd, Nat.reduceLeDiff, ↓reduceIte, ba8]
        refine Cal.mk (negDone_v hU h8 (p := p) (back := zeroC) (tp := tp) (tb := .nil) hp) ?_
        rintro _ s9 O -
        obtain ⟨tv, rfl, bq9, O9⟩ := I8.fin hU hlt O hX.symm
        simp (config := {maxSteps := 3000000}) only [go_sem, Nat.reduceEqDiff, Nat.reduceAdd, Nat.reduceLT, Nat.reduceLeDiff, ↓reduceIte, bq9, outV]
        exact ⟨_, _, Wk.refl _, (O9 _).lt.weak, (O9 _).up hU (Nat.le_refl _)⟩
      · rw [evOf, if_neg c5, if_neg c6, if_neg (by rw [hg]; exact fun e => c8 e.2.2), if_pos (.inl c7)] at hX
        simp (config := {maxSteps := 3000000}) only [go_sem, Nat.reduceEqDiff, Nat.reduceAdd, Nat.reduceLT, Nat.reduceLeDiff, Int.reduceToNat, Int.reduceLE, ↓reduceIte, reduceCtorEq, d0, Bool.not_true, decide_eq_false c1, decide_eq_false c4, decide_eq_false c5, decide_eq_false c6, decide_eq_true c7, bs_len, hl0, g0, decide_eq_false c8, ba]
        refine Cal.mk (negDo_v hU I0.neg hn hn2) ?_
        rintro _ s8 ⟨rfl, h8, T8⟩ -
        have I8 := I0.step h8 T8
        have ba8 := I8.ba
        simp (config := {maxSteps := 3000000}) only [go_sem, Nat.reduceEqDiff, Nat.reduceAdd, Nat.reduceLeDiff, ↓reduceIte, ba8]
        refine Cal.mk (negDone_v hU h8 (p := p) (back := zeroC) (tp := tp) (tb := .nil) hp) ?_
        rintro _ s9 O -
        obtain ⟨tv, rfl, bq9, O9⟩ := I8.fin hU hlt O hX.symm
        simp (config := {maxSteps := 3000000}) only [go_sem, Nat.reduceEqDiff, Nat.reduceAdd, Nat.reduceLT, Nat.reduceLeDiff, ↓reduceIte, bq9, outV]
        exact ⟨_, _, Wk.refl _, (O9 _).lt.weak, (O9 _).up hU (Nat.le_refl _)⟩
  by_cases c8 : p.code = 8
  · rw [evOf, if_neg c5, if_neg c6, if_neg (fun e => c7 e.1), if_pos (.inr c8)] at hX
    simp (config := {maxSteps := 3000000}) only [go_sem, Nat.reduceEqDiff, Nat.reduceAdd, Nat.reduceLT, Nat.reduceLeDiff, ↓reduceIte, reduceCtorEq, d0, Bool.not_true, decide_eq_false c1, decide_eq_false c4, decide_eq_false c5, decide_eq_false c6, decide_eq_false c7, decide_eq_true c8, ba]
    refine Cal.mk (negDo_v hU I0.neg hn hn2) ?_
    rintro _ s8 ⟨rfl, h8, T8⟩ -
    have I8 := I0.step h8 T8
    have ba8 := I8.ba
    simp (config := {maxSteps := 3000000}) only [go_sem, Nat.reduceEqDiff, Nat.reduceAdd, Nat.reduceLeDiff, ↓reduceIte, ba8]
    refine Cal.mk (negDone_v hU h8 (p := p) (back := zeroC) (tp := tp) (tb := .nil) hp) ?_
    rintro _ s9 O -
    obtain ⟨tv, rfl, bq9, O9⟩ := I8.fin hU hlt O hX.symm
    simp (config := {maxSteps := 3000000}) only [go_sem, Nat.reduceEqDiff, Nat.reduceAdd, Nat.reduceLT, Nat.reduceLeDiff, ↓reduceIte, bq9, outV]
    exact ⟨_, _, Wk.refl _, (O9 _).lt.weak, (O9 _).up hU (Nat.le_refl _)⟩
  · rw [evOf, if_neg c5, if_neg c6, if_neg (fun e => c7 e.1), if_neg (fun e => e.elim c7 c8)] at hX
    simp (config := {maxSteps := 3000000}) only [go_sem, Nat.reduceEqDiff, Nat.reduceAdd, Nat.reduceLT, Nat.reduceLeDiff, ↓reduceIte, reduceCtorEq, d0, Bool.not_true, decide_eq_false c1, decide_eq_false c4, decide_eq_false c5, decide_eq_false c6, decide_eq_false c7, decide_eq_false c8, ba]
    refine Cal.mk (negDo_v hU I0.neg hn hn2) ?_
    rintro _ s8 ⟨rfl, h8, T8⟩ -
    have I8 := I0.step h8 T8
    have ba8 := I8.ba
    simp (config := {maxSteps := 3000000}) only [go_sem, Nat.reduceEqDiff, Nat.reduceAdd, Nat.reduceLeDiff, ↓reduceIte, ba8]
    refine Cal.mk (negDone_v hU h8 (p := p) (back := zeroC) (tp := tp) (tb := .nil) hp) ?_
    rintro _ s9 O -
    obtain ⟨tv, rfl, bq9, O9⟩ := I8.fin hU hlt O hX.symm
    simp (config := {maxSteps := 3000000}) only [go_sem, Nat.reduceEqDiff, Nat.reduceAdd, Nat.reduceLT, Nat.reduceLeDiff, ↓reduceIte, bq9, outV]
    exact ⟨_, _, Wk.refl _, (O9 _).lt.weak, (O9 _).up hU (Nat.le_refl _)⟩
end
end
section
open Go

def lrC (d : Nat) (r : Lr) : List V := [.sc (.int .u16 r.w.mru), .sc (.bool r.w.auth), .sc (.int .u32 r.w.magic), .sc (.bool r.w.pfc), .sc (.bool r.w.acfc), .sc (.int .u16 r.g.mru), .sc (.bool r.g.auth), .sc (.int .u32 r.g.magic), .sc (.bool r.g.pfc), .sc (.bool r.g.acfc), .sc (.pointer (some ⟨d, 0, none⟩)), .sc (.int .i64 r.guard)]
structure LcI (q d k : Nat) (st : St) (r : Lr) : Prop where
  bq : st.box q = some (lrC d r)
  dr : DrB st d r.ds r.k
  dg : DrG r.ds r.k
  wg : r.w.Good
  gg : r.g.Good
  g0 : 0 ≤ r.guard
  g1 : r.guard ≤ k
  ne : q ≠ d
  lq : q < st.sz
  ld : d < st.sz
theorem judgeF_good {own draw : Int} : ∀ {l : List Opt} {a : List Opt × List Opt × List Int}, GoodO l → GoodO a.1 → GoodO a.2.1 → GoodO (l.foldl (judgeStep own draw) a).1 ∧ GoodO (l.foldl (judgeStep own draw) a).2.1
  | [], a, _, h1, h2 => ⟨h1, h2⟩
  | o :: l, a, hl, h1, h2 => by
    have ho := hl o (by simp)
    refine judgeF_good (l := l) (fun x hx => hl x (by simp [hx])) ?_ ?_
    · unfold judgeStep
      split
      · exact h1.append (.one ho.1 ho.2.1 ho.2.2.1 ho.2.2.2)
      · exact h1
    · unfold judgeStep
      split
      · exact h2
      · refine h2.append ?_
        unfold betterO
        split
        · exact .one (by show (0 : Int) ≤ 1; decide) (by show (1 : Int) < 256; decide) (beL_isB _ _) (by rw [beL_len]; decide)
        split
        · exact .one (by show (0 : Int) ≤ 5; decide) (by show (5 : Int) < 256; decide) (beL_isB _ _) (by rw [beL_len]; decide)
        · exact .nil
theorem judgeL_good {own draw : Int} {l : List Opt} (h : GoodO l) (hl : l.length ≤ 1000000) : 0 ≤ (judgeL l own draw).1 ∧ (judgeL l own draw).1 < 256 ∧ GoodO (judgeL l own draw).2 ∧ (judgeL l own draw).2.length ≤ 1000000 := by
  have hg := judgeF_good (own := own) (draw := draw) (a := ([], [], [])) h .nil .nil
  have hn := judgeF_len (own := own) (draw := draw) l l.length (Nat.le_refl _)
  rw [List.take_length] at hn
  unfold judgeL
  simp only
  unfold judgeF at *
  split
  · exact ⟨by show (0 : Int) ≤ 4; decide, by show (4 : Int) < 256; decide, hg.1, by have := hn.1; simp only; omega⟩
  split
  · exact ⟨by show (0 : Int) ≤ 3; decide, by show (3 : Int) < 256; decide, hg.2, by have := hn.2; simp only; omega⟩
  · exact ⟨by show (0 : Int) ≤ 2; decide, by show (2 : Int) < 256; decide, h, hl⟩
theorem theirN_rng {l : List Opt} (h : GoodO l) : 0 ≤ theirN l ∧ theirN l < 4294967296 := by
  unfold theirN
  split
  · rename_i d hd
    simp only [findO, Option.map_eq_some_iff] at hd
    obtain ⟨o, ho, rfl⟩ := hd
    exact num4_rng (h o (List.mem_of_find?_eq_some ho)).2.2.1
  · exact ⟨by decide, by decide⟩
theorem findO_isB {l : List Opt} {t : Int} {d : List Int} (h : GoodO l) (hd : findO l t = some d) : IsB d := by
  simp only [findO, Option.map_eq_some_iff] at hd
  obtain ⟨o, ho, rfl⟩ := hd
  exact (h o (List.mem_of_find?_eq_some ho)).2.2.1
section
variable {q d k : Nat} {st s : St} {r r' : Lr} {l : List Opt} {tk : Tk}
/-- The rules' own box is written. -/
theorem LcI.write (h : LcI q d k st r) {k' : Nat} (e1 : r'.ds = r.ds) (e2 : r'.k = r.k) (wg : r'.w.Good) (gg : r'.g.Good) (g0 : 0 ≤ r'.guard) (g1 : r'.guard ≤ k') : LcI q d k' (st.put q (lrC d r')) r' := by
  obtain ⟨tk, hd⟩ := h.dr
  refine ⟨put_box_same, ⟨tk, ?_⟩, by rw [e1, e2]; exact h.dg, wg, gg, g0, g1, h.ne, by have := h.lq; simp only [put_sz]; omega, by have := h.ld; simp only [put_sz]; omega⟩
  rw [put_box_ne h.ne.symm, e1, e2]; exact hd
/-- A number is drawn. -/
theorem LcI.drawn (h : LcI q d k st r) (hd : DrB s d r.draw.1.ds r.draw.1.k) (T : Tn [d] st s) : LcI q d k s r.draw.1 := by
  obtain ⟨k1, k2, k3⟩ := draw_keep (r := r)
  have hg := (draw_good h.dg).1
  refine ⟨?_, hd, hg, by rw [k1]; exact h.wg, by rw [k2]; exact h.gg, by rw [k3]; exact h.g0, by rw [k3]; exact h.g1, h.ne, by have := h.lq; have := T.sz; omega, by have := h.ld; have := T.sz; omega⟩
  have := T.box q _ h.bq (by simp [h.ne])
  rw [this]
  simp only [lrC, k1, k2, k3]
theorem LcI.more (h : LcI q d k st r) : LcI q d (k + 1) st r := { h with g1 := by have := h.g1; omega }
theorem rules_req (h : LcI q d k st r) : VCalls Try.prog 147 [ptrV q] st fun x s => x = .sl .no (opts (optsW r.w)) ∧ st = s := by
  refine vcalls_enterq pc147 (Nat.le_of_ble_eq_true rfl) rfl fun hwf hok => ?_
  show Run _ Pc147.body (.fin (finP Pc147.res _)) _ _
  unfold Pc147
  have hb := h.bq
  unfold lrC at hb
  simp (config := {maxSteps := 3000000}) only [go_sem, Nat.reduceAdd, Nat.reduceLeDiff, ↓reduceIte, reduceCtorEq, hb]
  refine Cal.mk (loptOptions_v h.wg) ?_
  rintro _ _ ⟨rfl, rfl⟩ -
  simp (config := {maxSteps := 3000000}) only [go_sem, ↓reduceIte]
  exact ⟨_, _, Wk.refl _, hwf.weak, rfl, rfl⟩
theorem rules_agreed (h : LcI q d k st r) (hG : GoodO l) (hl : l.length ≤ 1000000) : VCalls Try.prog 143 [ptrV q, .sl tk (opts l)] st fun x s => x = .tup [] ∧ LcI q d k s { r with g := ofL l } ∧ Tn [q, d] st s := by
  refine vcalls_enterq pc143 (Nat.le_of_ble_eq_true rfl) rfl fun hwf hok => ?_
  show Run _ Pc143.body (.fin (finP Pc143.res _)) _ _
  unfold Pc143
  have hb := h.bq
  unfold lrC at hb
  have hw := h.write (r' := { r with g := ofL l }) rfl rfl h.wg (ofL_good hG) h.g0 h.g1
  simp (config := {maxSteps := 3000000}) only [go_sem]
  refine Cal.mk (loptOf_v hG hl) ?_
  rintro _ _ ⟨rfl, rfl⟩ -
  simp (config := {maxSteps := 3000000}) only [go_sem, Nat.reduceEqDiff, Nat.reduceAdd, Nat.reduceLT, Nat.reduceLeDiff, ↓reduceIte, reduceCtorEq, hb, Want.cells]
  have T : Tn [q, d] st (st.put q (lrC d { r with g := ofL l })) := (Tn.refl hwf.lt).put (.inl (by simp)) hwf.lt
  exact ⟨_, _, Wk.refl _, T.lt.weak, rfl, hw, T⟩
theorem LcI.see (h : LcI q d k st r) {own x : Int} : LcI q d (k + 1) (st.put q (lrC d (r.see own x))) (r.see own x) := by
  have h0 := h.g0
  have h1 := h.g1
  refine h.write rfl rfl h.wg h.gg ?_ ?_
  · show 0 ≤ (if own ≠ 0 ∧ own = x then r.guard + 1 else 0)
    split <;> omega
  · show (if own ≠ 0 ∧ own = x then r.guard + 1 else 0) ≤ ((k + 1 : Nat) : Int)
    split <;> omega
theorem rules_see (h : LcI q d k st r) (hk : k ≤ 1000000000) {own x : Int} : VCalls Try.prog 149 [.sc (.pointer (some ⟨q, 11, none⟩)), .sc (.int .u32 own), .sc (.int .u32 x)] st fun v s =>
    v = .sc (.bool (decide (own ≠ 0 ∧ own = x))) ∧ LcI q d (k + 1) s (r.see own x) ∧ Tn [q, d] st s := by
  have hb := h.bq
  unfold lrC at hb
  have h0 := h.g0
  have h1 := h.g1
  refine VCalls.wf fun hwf => (guardSee_v hb h0 (by omega)).mono fun v s ⟨e1, e2⟩ => ⟨e1, ?_, ?_⟩
  · rw [e2]; exact h.see
  · rw [e2]; exact (Tn.refl hwf.lt).put (.inl (by simp)) hwf.lt
theorem theirN_some {D : List Int} (h : findO l 5 = some D) : theirN l = num4 D := by unfold theirN; rw [h]
theorem theirN_none (h : findO l 5 = none) : theirN l = 0 := by unfold theirN; rw [h]
set_option maxRecDepth 100000 in
set_option maxHeartbeats 4000000 in
theorem rules_judge (h : LcI q d k st r) (hk : k ≤ 1000000000) (hG : GoodO l) (hl : l.length ≤ 1000000) : VCalls Try.prog 144 [ptrV q, .sl tk (opts l)] st fun x s =>
    (∃ t2, x = .tup [.sc (.int .u8 (r.judge l).2.1), .sl t2 (opts (r.judge l).2.2)]) ∧ LcI q d (k + 1) s (r.judge l).1 ∧ Tn [q, d] st s := by
  refine vcalls_enterq pc144 (Nat.le_of_ble_eq_true rfl) rfl fun hwf hok => ?_
  show Run _ Pc144.body (.fin (finP Pc144.res _)) _ _
  unfold Pc144
  have hb := h.bq
  unfold lrC at hb
  obtain ⟨X, hX⟩ : ∃ X, X = r.judge l := ⟨_, rfl⟩
  rw [← hX]
  unfold Lr.judge at hX
  simp (config := {maxSteps := 3000000}) only [go_sem, Nat.reduceEqDiff, ↓reduceIte]
  refine Cal.mk (optFind_v hl hG) ?_
  rintro _ _ ⟨rfl, rfl⟩ -
  simp (config := {maxSteps := 3000000}) only [go_sem, Nat.reduceEqDiff, Nat.reduceAdd, Nat.reduceLT, Nat.reduceLeDiff, ↓reduceIte]
  refine If.cut [6, 17, 18] (fun B s => s = st ∧ B 6 = .sc (.int .u32 (theirN l))) rfl ?_ ?_
  · cases hf : findO l 5 with
    | none =>
      simp (config := {maxSteps := 3000000}) only [go_sem, Nat.reduceEqDiff, ↓reduceIte, Option.isSome_none, at_cutk_n]
      rw [theirN_none hf]
    | some D =>
      simp (config := {maxSteps := 3000000}) only [go_sem, Nat.reduceEqDiff, Nat.reduceLT, Nat.reduceLeDiff, ↓reduceIte, Option.isSome_some, Option.getD]
      refine Cal.mk (Get32_n (findO_isB hG hf)) ?_
      rintro _ _ ⟨rfl, rfl⟩ -
      simp (config := {maxSteps := 3000000}) only [go_sem, ↓reduceIte, at_cutk_n]
      rw [theirN_some hf]
  · rintro B s ⟨rfl, h6⟩
    have hT := theirN_rng hG
    generalize theirN l = x at h6 hT hX
    simp (config := {maxSteps := 3000000}) only [go_sem, Nat.reduceEqDiff, ↓reduceIte, reduceCtorEq, Nat.reduceBEq, hb, h6]
    refine Cal.mk (rules_see h hk) ?_
    rintro _ s1 ⟨rfl, h1, T1⟩ -
    have hwm : (r.see r.w.magic x).w = r.w := rfl
    generalize r.see r.w.magic x = R1 at h1 hX hwm
    have hb1 := h1.bq
    unfold lrC at hb1
    rw [hwm] at hb1
    by_cases c : (r.w.magic ≠ 0 ∧ r.w.magic = x) ∨ x = 0
    · simp only [if_pos c] at hX
      have step : ∀ {Z : Prop}, (decide (r.w.magic ≠ 0 ∧ r.w.magic = x) = true → Z) → (decide (r.w.magic ≠ 0 ∧ r.w.magic = x) = false → decide (x = 0) = true → Z) → Z := fun z1 z2 => by
        by_cases c1 : r.w.magic ≠ 0 ∧ r.w.magic = x
        · exact z1 (decide_eq_true c1)
        · exact z2 (decide_eq_false c1) (decide_eq_true (c.resolve_left c1))
      have hdg := draw_good h1.dg
      obtain ⟨w1, w2, w3⟩ := draw_keep (r := R1)
      refine step (fun e1 => ?_) (fun e1 e2 => ?_)
      · simp (config := {maxSteps := 3000000}) only [go_sem, Nat.reduceEqDiff, ↓reduceIte, reduceCtorEq, Nat.reduceBEq, e1, hb1]
        refine Cal.mk (drSome_v h1.dr h1.dg) ?_
        rintro _ s2 ⟨rfl, d2, T2⟩ -
        have h2 := h1.drawn d2 T2
        have hb2 := h2.bq
        unfold lrC at hb2
        rw [w1, hwm] at hb2
        simp (config := {maxSteps := 3000000}) only [go_sem, Nat.reduceEqDiff, ↓reduceIte, reduceCtorEq, Nat.reduceBEq, hb2]
        refine Cal.mk (loptJudge_v hG hl (Int.le_of_lt hdg.2.1) hdg.2.2) ?_
        rintro _ _ ⟨⟨t2, rfl⟩, rfl⟩ -
        simp (config := {maxSteps := 3000000}) only [go_sem, Nat.reduceEqDiff, ↓reduceIte]
        exact ⟨_, _, Wk.refl _, T2.lt.weak, by rw [hX]; exact ⟨_, rfl⟩, by rw [hX]; exact h2, T1.trans (T2.wide (by simp))⟩
      · simp (config := {maxSteps := 3000000}) only [go_sem, Nat.reduceEqDiff, ↓reduceIte, reduceCtorEq, Nat.reduceBEq, e1, e2, hb1, h6]
        refine Cal.mk (drSome_v h1.dr h1.dg) ?_
        rintro _ s2 ⟨rfl, d2, T2⟩ -
        have h2 := h1.drawn d2 T2
        have hb2 := h2.bq
        unfold lrC at hb2
        rw [w1, hwm] at hb2
        simp (config := {maxSteps := 3000000}) only [go_sem, Nat.reduceEqDiff, ↓reduceIte, reduceCtorEq, Nat.reduceBEq, hb2]
        refine Cal.mk (loptJudge_v hG hl (Int.le_of_lt hdg.2.1) hdg.2.2) ?_
        rintro _ _ ⟨⟨t2, rfl⟩, rfl⟩ -
        simp (config := {maxSteps := 3000000}) only [go_sem, Nat.reduceEqDiff, ↓reduceIte]
        exact ⟨_, _, Wk.refl _, T2.lt.weak, by rw [hX]; exact ⟨_, rfl⟩, by rw [hX]; exact h2, T1.trans (T2.wide (by simp))⟩
    · simp only [if_neg c] at hX
      have e1 : decide (r.w.magic ≠ 0 ∧ r.w.magic = x) = false := decide_eq_false fun e => c (.inl e)
      have e2 : decide (x = 0) = false := decide_eq_false fun e => c (.inr e)
      simp (config := {maxSteps := 3000000}) only [go_sem, Nat.reduceEqDiff, ↓reduceIte, reduceCtorEq, Nat.reduceBEq, e1, e2, hb1, h6]
      refine Cal.mk (loptJudge_v hG hl (by decide) (by decide)) ?_
      rintro _ _ ⟨⟨t2, rfl⟩, rfl⟩ -
      simp (config := {maxSteps := 3000000}) only [go_sem, Nat.reduceEqDiff, ↓reduceIte]
      exact ⟨_, _, Wk.refl _, T1.lt.weak, by rw [hX]; exact ⟨_, rfl⟩, by rw [hX]; exact h1, T1⟩
set_option maxRecDepth 100000 in
set_option maxHeartbeats 4000000 in
theorem rules_naked (h : LcI q d k st r) (hk : k ≤ 1000000000) (hG : GoodO l) (hl : l.length ≤ 1000000) : VCalls Try.prog 145 [ptrV q, .sl tk (opts l)] st fun x s =>
    x = .tup [] ∧ LcI q d (k + 1) s (r.naked l) ∧ Tn [q, d] st s := by
  refine vcalls_enterq pc145 (Nat.le_of_ble_eq_true rfl) rfl fun hwf hok => ?_
  show Run _ Pc145.body (.fin (finP Pc145.res _)) _ _
  unfold Pc145
  have hlt := hwf.lt
  have hb := h.bq
  unfold lrC at hb
  obtain ⟨X, hX⟩ : ∃ X, X = r.naked l := ⟨_, rfl⟩
  rw [← hX]
  unfold Lr.naked at hX
  simp (config := {maxSteps := 3000000}) only [go_sem, Nat.reduceEqDiff, Nat.reduceAdd, Nat.reduceLeDiff, ↓reduceIte, reduceCtorEq, hb]
  refine Cal.mk (loptNaked_v (w0 := r.w) hG hl) ?_
  rintro _ _ ⟨rfl, rfl⟩ -
  have hw := nakedL_good h.wg hG
  have h1 := h.write (r' := { r with w := nakedL r.w l }) rfl rfl hw h.gg h.g0 h.g1
  have T1 : Tn [q, d] st (st.put q (lrC d { r with w := nakedL r.w l })) := (Tn.refl hlt).put (.inl (by simp)) hlt
  unfold lrC at h1 T1
  simp only at h1 T1
  simp (config := {maxSteps := 3000000}) only [go_sem, Nat.reduceEqDiff, Nat.reduceAdd, Nat.reduceLT, Nat.reduceLeDiff, ↓reduceIte, reduceCtorEq, hb, Want.cells]
  refine Cal.mk (optFind_v hl hG) ?_
  rintro _ _ ⟨rfl, rfl⟩ -
  cases hf : findO l 5 with
  | none =>
    simp only [hf] at hX
    simp (config := {maxSteps := 3000000}) only [go_sem, Nat.reduceEqDiff, Nat.reduceAdd, Nat.reduceLT, Nat.reduceLeDiff, ↓reduceIte, Option.isSome_none]
    exact ⟨_, _, Wk.refl _, T1.lt.weak, rfl, by rw [hX]; exact h1.more, T1⟩
  | some D =>
    simp only [hf] at hX
    simp (config := {maxSteps := 3000000}) only [go_sem, Nat.reduceEqDiff, Nat.reduceAdd, Nat.reduceLT, Nat.reduceLeDiff, ↓reduceIte, reduceCtorEq, Option.isSome_some, Option.getD]
    refine Cal.mk (Get32_n (findO_isB hG hf)) ?_
    rintro _ _ ⟨rfl, rfl⟩ -
    simp (config := {maxSteps := 3000000}) only [go_sem, Nat.reduceEqDiff, ↓reduceIte]
    refine Cal.mk (rules_see h1 hk) ?_
    rintro _ s2 ⟨rfl, h2, T2⟩ -
    generalize Lr.see { r with w := nakedL r.w l } r.w.magic (num4 D) = R1 at h2 hX
    have hb2 := h2.bq
    unfold lrC at hb2
    by_cases c : r.w.magic ≠ 0 ∧ r.w.magic = num4 D
    · rw [if_pos c] at hX
      simp (config := {maxSteps := 3000000}) only [go_sem, Nat.reduceEqDiff, ↓reduceIte, reduceCtorEq, decide_eq_true c, hb2]
      refine Cal.mk (drSome_v h2.dr h2.dg) ?_
      rintro _ s3 ⟨rfl, d3, T3⟩ -
      have hdg := draw_good h2.dg
      have h3 := h2.drawn d3 T3
      have h4 := h3.write (r' := { R1.draw.1 with w := { R1.draw.1.w with magic := R1.draw.2 } }) rfl rfl ⟨h3.wg.m0, h3.wg.m1, Int.le_of_lt hdg.2.1, hdg.2.2⟩ h3.gg h3.g0 h3.g1
      have T4 : Tn [q, d] st (s3.put q (lrC d { R1.draw.1 with w := { R1.draw.1.w with magic := R1.draw.2 } })) := ((T1.trans T2).trans (T3.wide (by simp))).put (.inl (by simp)) hlt
      have hb3 := h3.bq
      unfold lrC at hb3 h4 T4
      simp only at h4 T4
      simp (config := {maxSteps := 3000000}) only [go_sem, Nat.reduceEqDiff, Nat.reduceAdd, Nat.reduceLT, Nat.reduceLeDiff, ↓reduceIte, reduceCtorEq, hb3]
      exact ⟨_, _, Wk.refl _, T4.lt.weak, rfl, by rw [hX]; exact h4, T4⟩
    · rw [if_neg c] at hX
      simp (config := {maxSteps := 3000000}) only [go_sem, Nat.reduceEqDiff, ↓reduceIte, decide_eq_false c]
      exact ⟨_, _, Wk.refl _, T2.lt.weak, rfl, by rw [hX]; exact h2, T1.trans T2⟩
set_option maxRecDepth 100000 in
theorem rules_rejected (h : LcI q d k st r) (hG : GoodO l) (hl : l.length ≤ 1000000) : VCalls Try.prog 146 [ptrV q, .sl tk (opts l)] st fun x s =>
    x = .sc (.bool (rejectedL r.w l).2) ∧ LcI q d k s { r with w := (rejectedL r.w l).1 } ∧ Tn [q, d] st s := by
  refine vcalls_enterq pc146 (Nat.le_of_ble_eq_true rfl) rfl fun hwf hok => ?_
  show Run _ Pc146.body (.fin (finP Pc146.res _)) _ _
  unfold Pc146
  have hlt := hwf.lt
  have hb := h.bq
  unfold lrC at hb
  simp (config := {maxSteps := 3000000}) only [go_sem, Nat.reduceEqDiff, Nat.reduceAdd, Nat.reduceLeDiff, ↓reduceIte, reduceCtorEq, hb]
  refine Cal.mk (loptRejected_v (w0 := r.w) hG hl) ?_
  rintro _ _ ⟨rfl, rfl⟩ -
  have h1 := h.write (r' := { r with w := (rejectedL r.w l).1 }) rfl rfl (rejectedL_good h.wg) h.gg h.g0 h.g1
  have T1 : Tn [q, d] st (st.put q (lrC d { r with w := (rejectedL r.w l).1 })) := (Tn.refl hlt).put (.inl (by simp)) hlt
  unfold lrC at h1 T1
  simp only at h1 T1
  simp (config := {maxSteps := 3000000}) only [go_sem, Nat.reduceEqDiff, Nat.reduceAdd, Nat.reduceLT, Nat.reduceLeDiff, ↓reduceIte, reduceCtorEq, hb, Want.cells]
  exact ⟨_, _, Wk.refl _, T1.lt.weak, rfl, h1, T1⟩
/-- The five rules of LCP. -/
theorem lcp_rules : RulC lcpU 70 (.pointer (some ⟨q, 0, none⟩)) (LcI q d) [q, d] where
  one := rfl
  req := ⟨147, by kernel_rfl, by kernel_rfl, fun k st r h => rules_req h⟩
  reqG := fun k st r h => ⟨optsW_good r.w, Nat.le_trans (optsW_len r.w) (by decide)⟩
  judge := ⟨144, by kernel_rfl, by kernel_rfl, fun k st r l tk h hk hG hl => rules_judge h hk hG hl⟩
  judgeG := fun k st r l h hG hl => judgeL_good hG hl
  agreed := ⟨143, by kernel_rfl, by kernel_rfl, fun k st r l tk h hk hG hl => rules_agreed h hG hl⟩
  naked := ⟨145, by kernel_rfl, by kernel_rfl, fun k st r l tk h hk hG hl => rules_naked h hk hG hl⟩
  rejected := ⟨146, by kernel_rfl, by kernel_rfl, fun k st r l tk h hk hG hl => rules_rejected h hG hl⟩
  stay := fun k st s r h hs hz => by
    obtain ⟨tk, hd⟩ := h.dr
    exact ⟨hs q _ h.bq (by simp), ⟨tk, hs d _ hd (by simp)⟩, h.dg, h.wg, h.gg, h.g0, h.g1, h.ne, Nat.lt_of_lt_of_le h.lq hz, Nat.lt_of_lt_of_le h.ld hz⟩
  more := fun k st r h => h.more
  lt := fun k st r h b hb => by
    rcases List.mem_cons.1 hb with rfl | hb
    · exact h.lq
    · simp only [List.mem_singleton] at hb; subst hb; exact h.ld
end
end
section
open Go

theorem AppSt.transL {a b c : St} {x y z : V} (hw : a.Lt) (h : AppSt a x b y) (k : AppSt b y c z) : AppSt a x c z :=
  ⟨k.box.trans h.box, fun hh => k.lt (h.lt hh), Nat.le_trans h.sz k.sz, fun g m hg hne => k.own g m (h.own g m hg hne) (fun l q e => by
    rcases h.tok g q l e with ⟨l', h2⟩ | h2
    · exact hne l' q h2
    · exact absurd (hw.own g m hg) (by omega)), fun g q l e => by
    rcases k.tok g q l e with ⟨l', h2⟩ | h2
    · rcases h.tok g q l' h2 with h3 | h3
      · exact .inl h3
      · exact .inr h3
    · exact .inr (Nat.le_trans h.sz h2)⟩
/-- So an LCP lies: its box a, the negotiation's n, the rules' q, the draws' d. -/
structure LcpI (a n q d k : Nat) (st : St) (N : Neg Lr) : Prop where
  ba : st.box a = some [ptrV n, ptrV q]
  ng : NegI (.sc (.iface 70 (.pointer (some ⟨q, 0, none⟩)))) 11 (LcI q d) [q, d] n k st N
  na : a ∉ n :: [q, d]
  la : a < st.sz
section
variable {a n q d k m : Nat} {st s s2 : St} {N : Neg Lr}
theorem LcpI.of (h : LcpI a n q d k st N) {N' : Neg Lr} {k' : Nat} (hn : NegI (.sc (.iface 70 (.pointer (some ⟨q, 0, none⟩)))) 11 (LcI q d) [q, d] n k' s N') (T : Tn (n :: [q, d]) st s) : LcpI a n q d k' s N' :=
  ⟨T.box a _ h.ba h.na, hn, h.na, Nat.lt_of_lt_of_le h.la T.sz⟩
theorem LcpI.tn (h : LcpI a n q d k st N) (T : Tn [] st s) : LcpI a n q d k s N := h.of (h.ng.tn lcp_rules T) (T.wide (by simp))
def LOut (st : St) (a n q d k m : Nat) (X : Neg Lr × Nout) (r : V) (s : St) : Prop :=
  ∃ tv, r = outV tv X.2 ∧ RO 3 st.bare s (.sl tv (ctls X.2.P)) (ctls X.2.P) ∧ LcpI a n q d k s X.1 ∧ Tn (n :: [q, d]) st s ∧ X.2.P.length ≤ m
theorem LOut.of (h : LcpI a n q d k st N) {k' : Nat} {X : Neg Lr × Nout} {r : V} (o : NOut st (.sc (.iface 70 (.pointer (some ⟨q, 0, none⟩)))) 11 (LcI q d) [q, d] n k' m X r s) : LOut st a n q d k' m X r s := by
  obtain ⟨tv, e, h1, h2, h3, h4⟩ := o
  exact ⟨tv, e, h1, h.of h2 h3, h3, h4⟩
theorem lcpStart_v (h : LcpI a n q d k st N) {now : Int} (hn : 0 ≤ now) (hn2 : now ≤ 1000000000) : VCalls Try.prog 8 [ptrV a, .sc (.int .i64 now)] st (LOut st a n q d k 10 (N.start lcpU now)) := by
  refine vcalls_enterq pc8 (Nat.le_of_ble_eq_true rfl) rfl fun hwf hok => ?_
  show Run _ Pc8.body (.fin (finP Pc8.res _)) _ _
  unfold Pc8
  have ba := h.ba
  simp (config := {maxSteps := 3000000}) only [go_sem, Nat.reduceEqDiff, ↓reduceIte, reduceCtorEq, ba]
  refine Cal.mk (negStart_v lcp_rules h.ng hn hn2) ?_
  intro r s o _
  have o := LOut.of h o
  obtain ⟨tv, rfl, o1, o2, o3, o4⟩ := o
  simp (config := {maxSteps := 3000000}) only [go_sem, Nat.reduceEqDiff, Nat.reduceAdd, Nat.reduceLT, Nat.reduceLeDiff, ↓reduceIte, outV]
  exact ⟨_, _, Wk.refl _, o3.lt.weak, tv, rfl, o1, o2, o3, o4⟩
theorem lcpClose_v (h : LcpI a n q d k st N) {now : Int} (hn : 0 ≤ now) (hn2 : now ≤ 1000000000) : VCalls Try.prog 33 [ptrV a, .sc (.int .i64 now)] st (LOut st a n q d k 5 (N.close lcpU now)) := by
  refine vcalls_enterq pc33 (Nat.le_of_ble_eq_true rfl) rfl fun hwf hok => ?_
  show Run _ Pc33.body (.fin (finP Pc33.res _)) _ _
  unfold Pc33
  have ba := h.ba
  simp (config := {maxSteps := 3000000}) only [go_sem, Nat.reduceEqDiff, ↓reduceIte, reduceCtorEq, ba]
  refine Cal.mk (negClose_v lcp_rules h.ng hn hn2) ?_
  intro r s o _
  have o := LOut.of h o
  obtain ⟨tv, rfl, o1, o2, o3, o4⟩ := o
  simp (config := {maxSteps := 3000000}) only [go_sem, Nat.reduceEqDiff, Nat.reduceAdd, Nat.reduceLT, Nat.reduceLeDiff, ↓reduceIte, outV]
  exact ⟨_, _, Wk.refl _, o3.lt.weak, tv, rfl, o1, o2, o3, o4⟩
theorem lcpState_v (h : LcpI a n q d k st N) : VCalls Try.prog 11 [ptrV a] st fun r s => r = .sc (.int .i64 N.s) ∧ st = s := by
  refine vcalls_enterq pc11 (Nat.le_of_ble_eq_true rfl) rfl fun hwf hok => ?_
  show Run _ Pc11.body (.fin (finP Pc11.res _)) _ _
  unfold Pc11
  have ba := h.ba
  simp (config := {maxSteps := 3000000}) only [go_sem, ↓reduceIte, reduceCtorEq, ba]
  refine Cal.mk (Q := fun r s => r = .sc (.int .i64 N.s) ∧ st = s) ?_ ?_
  · clear hok hwf
    refine vcalls_enterq pc35 (Nat.le_of_ble_eq_true rfl) rfl fun hwf hok => ?_
    show Run _ Pc35.body (.fin (finP Pc35.res _)) _ _
    unfold Pc35
    simp (config := {maxSteps := 3000000}) only [go_sem, ↓reduceIte, reduceCtorEq]
    refine Cal.mk (negState_v h.ng) ?_
    rintro _ _ ⟨rfl, rfl⟩ -
    simp (config := {maxSteps := 3000000}) only [go_sem, ↓reduceIte]
    exact ⟨_, _, Wk.refl _, hwf.weak, rfl, rfl⟩
  · rintro _ _ ⟨rfl, rfl⟩ -
    simp (config := {maxSteps := 3000000}) only [go_sem, ↓reduceIte]
    exact ⟨_, _, Wk.refl _, hwf.weak, rfl, rfl⟩
theorem autoOpen_v (h : LcpI a n q d k st N) : VCalls Try.prog 56 [ptrV n] st fun r s => r = .sc (.bool (decide (N.s = 9))) ∧ st = s := by
  refine vcalls_enterq pc56 (Nat.le_of_ble_eq_true rfl) rfl fun hwf hok => ?_
  show Run _ Pc56.body (.fin (finP Pc56.res _)) _ _
  unfold Pc56
  obtain ⟨tk, hb⟩ := h.ng.box
  unfold negC at hb
  simp (config := {maxSteps := 3000000}) only [go_sem, ↓reduceIte, reduceCtorEq, hb]
  exact ⟨_, _, Wk.refl _, hwf.weak, rfl, rfl⟩
theorem lcpOpen_v (h : LcpI a n q d k st N) : VCalls Try.prog 10 [ptrV a] st fun r s => r = .sc (.bool (decide (N.s = 9))) ∧ st = s := by
  refine vcalls_enterq pc10 (Nat.le_of_ble_eq_true rfl) rfl fun hwf hok => ?_
  show Run _ Pc10.body (.fin (finP Pc10.res _)) _ _
  unfold Pc10
  have ba := h.ba
  simp (config := {maxSteps := 3000000}) only [go_sem, ↓reduceIte, reduceCtorEq, ba]
  refine Cal.mk (Q := fun r s => r = .sc (.bool (decide (N.s = 9))) ∧ st = s) ?_ ?_
  · clear hok hwf
    refine vcalls_enterq pc34 (Nat.le_of_ble_eq_true rfl) rfl fun hwf hok => ?_
    show Run _ Pc34.body (.fin (finP Pc34.res _)) _ _
    unfold Pc34
    simp (config := {maxSteps := 3000000}) only [go_sem, ↓reduceIte, reduceCtorEq]
    refine Cal.mk (autoOpen_v h) ?_
    rintro _ _ ⟨rfl, rfl⟩ -
    simp (config := {maxSteps := 3000000}) only [go_sem, ↓reduceIte]
    exact ⟨_, _, Wk.refl _, hwf.weak, rfl, rfl⟩
  · rintro _ _ ⟨rfl, rfl⟩ -
    simp (config := {maxSteps := 3000000}) only [go_sem, ↓reduceIte]
    exact ⟨_, _, Wk.refl _, hwf.weak, rfl, rfl⟩
theorem lcpMine_v (h : LcpI a n q d k st N) : VCalls Try.prog 36 [ptrV a] st fun r s => r = .agg N.r.w.cells ∧ st = s := by
  refine vcalls_enterq pc36 (Nat.le_of_ble_eq_true rfl) rfl fun hwf hok => ?_
  show Run _ Pc36.body (.fin (finP Pc36.res _)) _ _
  unfold Pc36
  have ba := h.ba
  have bq := h.ng.si.bq
  unfold lrC at bq
  simp (config := {maxSteps := 3000000}) only [go_sem, Nat.reduceEqDiff, Nat.reduceAdd, Nat.reduceLT, Nat.reduceLeDiff, ↓reduceIte, reduceCtorEq, ba, bq]
  exact ⟨_, _, Wk.refl _, hwf.weak, rfl, rfl⟩
def mostL (w : Want) : Int := min (if w.mru = 0 then 1500 else w.mru) 1592
theorem lcpReject_v (h : LcpI a n q d k st N) {id proto : Int} {tk : Tk} {D : List Int} (h0 : 0 ≤ proto) (h1 : proto < 65536) (hD : D.length ≤ 1000000) : VCalls Try.prog 16 [ptrV a, .sc (.int .u8 id), .sc (.int .u16 proto), .sl tk (bs D)] st fun r s => r = (rejP id proto D (mostL N.r.g)).v ∧ st = s := by
  refine vcalls_enterq pc16 (Nat.le_of_ble_eq_true rfl) rfl fun hwf hok => ?_
  show Run _ Pc16.body (.fin (finP Pc16.res _)) _ _
  unfold Pc16
  have ba := h.ba
  have bq := h.ng.si.bq
  have g := h.ng.si.gg
  have g0 := g.m0
  have g1 := g.m1
  unfold lrC at bq
  by_cases c : N.r.g.mru = 0
  · have e : mostL N.r.g = min 1500 1592 := by rw [mostL, if_pos c]
    simp (config := {maxSteps := 3000000}) only [go_sem, Nat.reduceEqDiff, Int.reduceLE, Int.reduceNeg, ↓reduceIte, reduceCtorEq, ba, bq, c]
    repeat (apply And.intro; focus (first | omega | (simp; done)))
    refine Cal.mk (cpRejectProto_v h0 h1 hD (by decide) (by decide)) ?_
    rintro _ _ ⟨rfl, rfl⟩ -
    simp (config := {maxSteps := 3000000}) only [go_sem, Nat.reduceEqDiff, Nat.reduceAdd, Nat.reduceLT, Nat.reduceLeDiff, ↓reduceIte, Ctl.v, rejP]
    exact ⟨_, _, Wk.refl _, hwf.weak, by rw [e], rfl⟩
  · have e : mostL N.r.g = min N.r.g.mru 1592 := by rw [mostL, if_neg c]
    have hm : 0 ≤ min N.r.g.mru 1592 ∧ min N.r.g.mru 1592 ≤ 1000000 := by omega
    generalize hM : min N.r.g.mru 1592 = M at hm e
    simp (config := {maxSteps := 3000000}) only [go_sem, Nat.reduceEqDiff, Int.reduceNeg, ↓reduceIte, reduceCtorEq, ba, bq, decide_eq_false c, hM]
    repeat (apply And.intro; focus (first | omega | (simp; done)))
    refine Cal.mk (cpRejectProto_v h0 h1 hD hm.1 hm.2) ?_
    rintro _ _ ⟨rfl, rfl⟩ -
    simp (config := {maxSteps := 3000000}) only [go_sem, Nat.reduceEqDiff, Nat.reduceAdd, Nat.reduceLT, Nat.reduceLeDiff, ↓reduceIte, Ctl.v, rejP]
    exact ⟨_, _, Wk.refl _, hwf.weak, by rw [e], rfl⟩
theorem guardLoopR (h : LcpI a n q d k st N) : VCalls Try.prog 32 [.sc (.pointer (some ⟨q, 11, none⟩))] st fun r s => r = .sc (.bool (decide (4 ≤ N.r.guard))) ∧ s = st := by
  have bq := h.ng.si.bq
  unfold lrC at bq
  exact guardLoop_v bq
/-- The guard is set to nothing. -/
theorem LcpI.calm (h : LcpI a n q d k st N) (hlt : st.Lt) : LcpI a n q d k (st.put q (lrC d { N.r with guard := 0 })) { N with r := { N.r with guard := 0 } } ∧ Tn (n :: [q, d]) st (st.put q (lrC d { N.r with guard := 0 })) := by
  have T : Tn [q, d] st (st.put q (lrC d { N.r with guard := 0 })) := (Tn.refl hlt).put (.inl (by simp)) hlt
  have hw := h.ng.si.write (r' := { N.r with guard := 0 }) (k' := k) rfl rfl h.ng.si.wg h.ng.si.gg (Int.le_refl 0) (by simp only; omega)
  have T' := T.wide (by' := n :: [q, d]) (fun b hb => List.mem_cons_of_mem _ hb)
  exact ⟨h.of (h.ng.rules T hw (Nat.le_refl _)) T', T'⟩
theorem LcpI.app (h : LcpI a n q d k s N) {base : St} {x r : V} {l : List V} (R : RO 3 base.bare s x l) (K : AppSt s x s2 r) (hl : s2.Lt) : LcpI a n q d k s2 N :=
  ⟨by rw [K.box]; exact h.ba, h.ng.ex (base := base) lcp_rules ⟨fun b cs hb => by rw [K.box]; exact hb, fun g m hg hl => K.own g m hg (fun l k e => by have := R.tok g k l e; simp only [St.bare] at this; omega), K.sz, hl⟩, h.na, Nat.lt_of_lt_of_le h.la K.sz⟩
set_option maxRecDepth 100000 in
set_option maxHeartbeats 16000000 in
theorem lcpTake_v (h : LcpI a n q d k st N) (hk : k + 1 ≤ 1000000000) {now : Int} (hn : 0 ≤ now) (hn2 : now ≤ 1000000000) {p : Ctl} (hp : p.Good) {tp : Tk} :
    VCalls Try.prog 9 [ptrV a, .sc (.int .i64 now), p.v tp] st (LOut st a n q d (k + 1) 20 (lcpTake N now p)) := by
  show VCalls Try.prog 9 [ptrV a, .sc (.int .i64 now), .agg [.sc (.int .u8 p.code), .sc (.int .u8 p.id), .sl tp (bs p.data)]] st _
  refine vcalls_enterq pc9 (Nat.le_of_ble_eq_true rfl) rfl fun hwf hok => ?_
  show Run _ Pc9.body (.fin (finP Pc9.res _)) _ _
  unfold Pc9
  have hlt := hwf.lt
  have ba := h.ba
  simp (config := {maxSteps := 3000000}) only [go_sem, Nat.reduceEqDiff, Nat.reduceAdd, Nat.reduceLT, Nat.reduceLeDiff, ↓reduceIte, reduceCtorEq, ba]
  refine Cal.mk (negTake_v lcp_rules h.ng hk hn hn2 hp) ?_
  intro r s o _
  obtain ⟨tv, rfl, o1, o2, o3, o4⟩ := LOut.of h o
  obtain ⟨X, hX⟩ : ∃ X, X = lcpTake N now p := ⟨_, rfl⟩
  rw [← hX]
  unfold lcpTake at hX
  generalize N.take lcpU 11 now p = Y at o1 o2 o3 o4 hX
  obtain ⟨N1, P, up, down, over⟩ := Y
  simp only at o1 o2 o3 o4 hX
  have ba1 := o2.ba
  have bq1 := o2.ng.si.bq
  unfold lrC at bq1
  have hwg := o2.ng.si.wg
  obtain ⟨E, hE⟩ : ∃ E : Bool, E = decide (p.code = 9 ∧ N1.s = 9 ∧ 4 ≤ p.data.length ∧ num4 p.data ≠ N1.r.w.magic) := ⟨_, rfl⟩
  simp (config := {maxSteps := 3000000}) only [go_sem, Nat.reduceEqDiff, Nat.reduceAdd, Nat.reduceLT, Nat.reduceLeDiff, ↓reduceIte, outV]
  refine Grd.cut [20, 21, 22, 23, 24, 25, 26, 27, 28, 29, 30, 31, 32, 33, 34, 35, 36, 37, 38, 39, 40, 41, 42, 43] (fun B => B 43 = .sc (.bool E)) rfl ?_ ?_
  · have ge : ∀ L : List Int, decide ((4 : Int) ≤ (L.length : Int)) = decide (4 ≤ L.length) := fun L => by
      by_cases e : 4 ≤ L.length
      · rw [decide_eq_true e, decide_eq_true (by omega)]
      · rw [decide_eq_false e, decide_eq_false (by omega)]
    by_cases c9 : p.code = 9
    · simp (config := {maxSteps := 3000000}) only [go_sem, Nat.reduceEqDiff, ↓reduceIte, reduceCtorEq, decide_eq_true c9]
      refine Cal.mk (lcpOpen_v o2) ?_
      rintro _ _ ⟨rfl, rfl⟩ -
      by_cases s9 : N1.s = 9
      · by_cases l4 : 4 ≤ p.data.length
        · simp (config := {maxSteps := 3000000}) only [go_sem, Nat.reduceEqDiff, Nat.reduceLT, Nat.reduceLeDiff, ↓reduceIte, reduceCtorEq, decide_eq_true s9, bs_len, ge, decide_eq_true l4, ba1, bq1]
          refine Cal.mk (Get32_n hp.b) ?_
          rintro _ _ ⟨rfl, rfl⟩ -
          simp (config := {maxSteps := 3000000}) only [go_sem, Nat.reduceEqDiff, ↓reduceIte, ba1, bq1, at_cut]
          rw [hE]
          simp only [c9, s9, l4, true_and, decide_not, ne_eq]
        · simp (config := {maxSteps := 3000000}) only [go_sem, Nat.reduceEqDiff, Nat.reduceLT, Nat.reduceLeDiff, ↓reduceIte, decide_eq_true s9, bs_len, ge, decide_eq_false l4, at_cut]
          rw [hE, decide_eq_false fun e => l4 e.2.2.1]
      · simp (config := {maxSteps := 3000000}) only [go_sem, Nat.reduceEqDiff, ↓reduceIte, decide_eq_false s9, at_cut]
        rw [hE, decide_eq_false fun e => s9 e.2.1]
    · simp (config := {maxSteps := 3000000}) only [go_sem, Nat.reduceEqDiff, ↓reduceIte, decide_eq_false c9, at_cut]
      rw [hE, decide_eq_false fun e => c9 e.1]
  · intro B h43
    simp (config := {maxSteps := 3000000}) only [go_sem, ↓reduceIte, Nat.reduceBEq, h43]
    refine If.cut [7, 8, 45, 46, 47, 48, 49, 50, 51, 52, 54, 55, 56, 58, 60, 62, 63, 64] (fun B s2 => ∃ t2, B 7 = .agg [.sl t2 (ctls (lcpEcho N1 p P)), .sc (.bool up), .sc (.bool down), .sc (.bool over)] ∧ RO 3 st.bare s2 (.sl t2 (ctls (lcpEcho N1 p P))) (ctls (lcpEcho N1 p P)) ∧ LcpI a n q d (k + 1) s2 N1 ∧ Tn (n :: [q, d]) st s2 ∧ (lcpEcho N1 p P).length ≤ 6) rfl ?_ ?_
    · cases E with
      | false =>
        have hc := of_decide_eq_false hE.symm
        rw [lcpEcho, if_neg hc]
        simp (config := {maxSteps := 3000000}) only [go_sem, Nat.reduceEqDiff, ↓reduceIte, Nat.reduceBEq, at_cutk_n]
        exact ⟨tv, rfl, o1, o2, o3, by omega⟩
      | true =>
        have hc := of_decide_eq_true hE.symm
        rw [lcpEcho, if_pos hc]
        have l4 := hc.2.2.1
        simp (config := {maxSteps := 3000000}) only [go_sem, Nat.reduceEqDiff, Nat.reduceLT, Nat.reduceLeDiff, Int.reduceToNat, Int.reduceLE, ↓reduceIte, reduceCtorEq, Nat.reduceBEq, ba1, bq1, allSz_bs', bs_len, bs_drop]
        repeat (apply And.intro; focus (first | omega | (simp; done)))
        refine Cal.mk (Put32_v (L := []) own_nil (by simp) hwg.g0 hwg.g1) ?_
        rintro r2 s2 ⟨k1, k2⟩ -
        rw [List.nil_append] at k1
        obtain ⟨t2, rfl⟩ := own_sl k1
        simp (config := {maxSteps := 3000000}) only [go_sem, Nat.reduceEqDiff, ↓reduceIte]
        refine App.mk (bytes := 1) (ys := bs (p.data.drop 4)) k1 (allSz_bs _) (by have := hp.l; simp only [bs_len, beL_len, List.length_drop]; unfold maxLen; omega) (by have := hp.l; simp only [bs_len, beL_len, List.length_drop]; omega) ?_
        intro r3 s3 k3 k4
        rw [bs_append] at k3
        obtain ⟨t3, rfl⟩ := own_sl k3
        have K := AppSt.transL o1.lt k2 k4
        have R3 := o1.beside K noOwn
        have T3 : Tn [] s s3 := (Tn.refl o1.lt).app K noOwn o1.lt
        simp (config := {maxSteps := 3000000}) only [go_sem, Nat.reduceEqDiff, Nat.reduceAdd, Nat.reduceLT, Nat.reduceLeDiff, ↓reduceIte, Nat.reduceBEq]
        refine App.mk (bytes := 32) (l := ctls P) (ys := ctls [⟨10, p.id, beL N1.r.w.magic 4 ++ p.data.drop 4⟩]) R3.own (allSz_ctls _) (by simp only [ctls_len, List.length_cons, List.length_nil]; unfold maxLen; omega) (by simp only [ctls_len, List.length_cons, List.length_nil]; omega) ?_
        intro r4 s4 k5 k6
        have R4 := R3.app k5 k6
        rw [ctls_append] at R4
        obtain ⟨t4, rfl⟩ := R4.sl
        have E4 : Tn (n :: [q, d]) st s4 := (o3.trans (T3.wide (by simp))).app k6 (fun g k l e => R3.tok g k l e) hlt
        have I4 := (o2.tn T3).app R3 k6 R4.lt
        simp (config := {maxSteps := 3000000}) only [go_sem, Nat.reduceEqDiff, Nat.reduceAdd, Nat.reduceLT, Nat.reduceLeDiff, ↓reduceIte, Nat.reduceBEq, at_cutk_n]
        exact ⟨t4, rfl, R4, I4, E4, by simp only [List.length_append, List.length_cons, List.length_nil]; omega⟩
    · rintro B2 s2 ⟨t2, h7, R2, I2, T2, hl2⟩
      have ba2 := I2.ba
      simp (config := {maxSteps := 3000000}) only [go_sem, ↓reduceIte, reduceCtorEq, Nat.reduceBEq, ba2]
      refine Cal.mk (guardLoopR I2) ?_
      rintro _ _ ⟨rfl, rfl⟩ -
      by_cases c : 4 ≤ N1.r.guard
      · rw [if_pos c] at hX
        obtain ⟨I3, T3⟩ := I2.calm R2.lt
        have bq2 := I2.ng.si.bq
        unfold lrC at bq2 I3 T3
        simp only at I3 T3
        have R3 := R2.tn (T3.wide (by' := n :: [q, d]) (fun b hb => hb)) (fun b hb => rfl)
        simp (config := {maxSteps := 3000000}) only [go_sem, Nat.reduceEqDiff, Nat.reduceAdd, Nat.reduceLT, Nat.reduceLeDiff, ↓reduceIte, reduceCtorEq, Nat.reduceBEq, decide_eq_true c, ba2, bq2]
        refine Cal.mk (lcpClose_v I3 hn hn2) ?_
        rintro r4 s4 ⟨t4, rfl, R4, I4, T4, hl4⟩ -
        have R34 := R3.tn T4 (fun b hb => rfl)
        generalize Neg.close lcpU _ now = Z at R4 I4 hl4 hX
        obtain ⟨N4, P4, u4, d4, v4⟩ := Z
        simp only at R4 I4 hl4 hX
        simp (config := {maxSteps := 3000000}) only [go_sem, Nat.reduceEqDiff, Nat.reduceAdd, Nat.reduceLT, Nat.reduceLeDiff, ↓reduceIte, Nat.reduceBEq, outV, h7]
        refine App.mk (bytes := 32) (l := ctls (lcpEcho N1 p P)) (ys := ctls P4) R34.own (allSz_ctls _) (by simp only [ctls_len]; unfold maxLen; omega) (by simp only [ctls_len]; omega) ?_
        intro r5 s5 k5 k6
        have R5 := R34.app k5 k6
        rw [ctls_append] at R5
        obtain ⟨t5, rfl⟩ := R5.sl
        have I5 := I4.app R34 k6 R5.lt
        have T5 : Tn (n :: [q, d]) st s5 := ((T2.trans T3).trans T4).app k6 (fun g k l e => R34.tok g k l e) hlt
        cases down <;> cases over
        all_goals
          simp (config := {maxSteps := 3000000}) only [go_sem, Nat.reduceEqDiff, Nat.reduceAdd, Nat.reduceLT, Nat.reduceLeDiff, ↓reduceIte, Nat.reduceBEq, h7]
          exact ⟨_, _, Wk.refl _, T5.lt.weak, t5, by rw [hX]; rfl, by rw [hX]; exact R5, by rw [hX]; exact I5, T5, by rw [hX]; simp only [List.length_append]; omega⟩
      · rw [if_neg c] at hX
        simp (config := {maxSteps := 3000000}) only [go_sem, Nat.reduceEqDiff, Nat.reduceAdd, Nat.reduceLT, Nat.reduceLeDiff, ↓reduceIte, Nat.reduceBEq, decide_eq_false c, h7]
        exact ⟨_, _, Wk.refl _, T2.lt.weak, t2, by rw [hX]; rfl, by rw [hX]; exact R2, by rw [hX]; exact I2, T2, by rw [hX]; simp only; omega⟩
/-- Draws whose row may be appended to. -/
structure DrO (base s : St) (d : Nat) (ds : List Int) (c : Int) : Prop where
  ex : ∃ tk, s.box d = some [.sl tk (w4s ds), .sc (.int .u32 c)] ∧ RO 1 base s (.sl tk (w4s ds)) (w4s ds)
  sd : base.sz ≤ d
theorem DrO.b {base : St} {ds : List Int} {c : Int} (h : DrO base s d ds c) : DrB s d ds c := by
  obtain ⟨tk, h1, _⟩ := h.ex; exact ⟨tk, h1⟩
set_option maxRecDepth 100000 in
theorem drAdd_v {base : St} {ds : List Int} {c x : Int} (hb : DrO base st d ds c) (hl : ds.length < 64) : VCalls Try.prog 27 [ptrV d, .sc (.int .u32 x)] st fun r s =>
    r = .sc (.bool true) ∧ DrO base s d (ds ++ [x]) c := by
  refine vcalls_enterq pc27 (Nat.le_of_ble_eq_true rfl) rfl fun hwf hok => ?_
  show Run _ Pc27.body (.fin (finP Pc27.res _)) _ _
  unfold Pc27
  have hlt := hwf.lt
  have sd := hb.sd
  obtain ⟨tk, hb, R⟩ := hb.ex
  simp (config := {maxSteps := 3000000}) only [go_sem, Nat.reduceEqDiff, ↓reduceIte, reduceCtorEq, hb, w4s_len, decide_eq_false (show ¬ (64 : Int) ≤ (ds.length : Int) by omega)]
  refine App.mk (bytes := 4) (l := w4s ds) (ys := w4s [x]) R.own (allSz_w4s _) (by simp only [w4s_len, List.length_cons, List.length_nil]; unfold maxLen; omega) (by simp only [w4s_len, List.length_cons, List.length_nil]; omega) ?_
  intro r2 s2 k1 k2
  have R2 := R.app k1 k2
  rw [w4s_append] at R2
  obtain ⟨t2, rfl⟩ := R2.sl
  rw [← k2.box] at hb
  simp (config := {maxSteps := 3000000}) only [go_sem, Nat.reduceEqDiff, Nat.reduceAdd, Nat.reduceLT, Nat.reduceLeDiff, ↓reduceIte, reduceCtorEq, hb]
  exact ⟨_, _, Wk.refl _, R2.lt.put.weak, rfl, ⟨t2, put_box_same, R2.put sd⟩, sd⟩
set_option maxRecDepth 100000 in
theorem law37Draws_v {L : List Int} (hl : L.length ≤ 64) {tk : Tk} : VCalls Try.prog 7 [.sl tk (w4s L)] st fun r s => ∃ d, r = ptrV d ∧ DrB s d L 0 ∧ st.sz ≤ d ∧ st.weak s ∧ s.Lt := by
  refine vcalls_enterq pc7 (Nat.le_of_ble_eq_true rfl) rfl fun hwf hok => ?_
  show Run _ Pc7.body (.fin (finP Pc7.res _)) _ _
  unfold Pc7
  have hlt := hwf.lt
  simp (config := {maxSteps := 3000000}) only [go_sem, Nat.reduceAdd, ↓reduceIte, reduceCtorEq]
  intro d hd
  have D0 : DrO st (st.put d [.sl .nil [], .sc (.int .u32 0)]) d [] 0 := ⟨⟨.nil, put_box_same, RO.nil (weak_put hlt.weak hd) hlt.put⟩, hd⟩
  generalize st.put d _ = s0 at D0 ⊢
  refine run_loop [4, 9, 10, 12, 13, 14, 16, 20, 21, 22] (fun B s => ∃ i : Nat, i ≤ L.length ∧ B 4 = .sc (.int .i64 i) ∧ DrO st s d (L.take i) 0) (fun B _ => L.length - vnat (B 4)) rfl ?_ ?_
  · exact ⟨0, by omega, rfl, D0⟩
  · rintro B s ⟨i, hi, h4, D⟩
    have hw : st.weak s := by obtain ⟨tk, _, R⟩ := D.ex; exact R.weak
    have hL : s.Lt := by obtain ⟨tk, _, R⟩ := D.ex; exact R.lt
    by_cases c : i < L.length
    · have hg : (w4s L)[i]? = some (.sc (.int .u32 L[i])) := by simp [w4s, c]
      have hs : L.take (i + 1) = L.take i ++ [L[i]] := by rw [List.take_add_one, List.getElem?_eq_getElem c]; rfl
      simp (config := {maxSteps := 3000000}) only [go_sem, Nat.reduceEqDiff, ↓reduceIte, reduceCtorEq, Nat.reduceBEq, h4, w4s_len, decide_eq_true (show (i : Int) < (L.length : Int) by omega), decide_eq_true (show (i : Int) < 64 by omega), hg]
      repeat (apply And.intro; focus (first | omega | (simp; done)))
      refine Cal.mk (drAdd_v (x := L[i]) D (by simp only [List.length_take]; omega)) ?_
      rintro _ s2 ⟨rfl, D2⟩ -
      rw [← hs] at D2
      simp (config := {maxSteps := 3000000}) only [go_sem, Nat.reduceEqDiff, Int.reduceNeg, ↓reduceIte, Nat.reduceBEq, h4]
      repeat (apply And.intro; focus (first | omega | (simp; done)))
      exact ⟨⟨i + 1, by omega, by simp, D2⟩, by omega⟩
    · obtain rfl : i = L.length := by omega
      rw [List.take_length] at D
      simp (config := {maxSteps := 3000000}) only [go_sem, Nat.reduceEqDiff, ↓reduceIte, reduceCtorEq, Nat.reduceBEq, h4, w4s_len]
      exact ⟨_, _, Wk.refl _, hL.weak, d, rfl, D.b, hd, hw, hL⟩
end
section
variable {d : Nat} {st : St} {ds : List Int}
theorem negNew_v {R : Type} (r0 : R) {t : TypeId} {pv : Value} {c : Int} : VCalls Try.prog 26 [.sc (.iface t pv), .sc (.int .u8 c)] st fun r s => ∃ n, r = ptrV n ∧ st.sz ≤ n ∧ s = st.put n (negC (.sc (.iface t pv)) c (⟨0, 0, 0, 0, [], 0, r0⟩ : Neg R) .nil) := by
  refine vcalls_enterq pc26 (Nat.le_of_ble_eq_true rfl) rfl fun hwf hok => ?_
  show Run _ Pc26.body (.fin (finP Pc26.res _)) _ _
  unfold Pc26
  simp (config := {maxSteps := 3000000}) only [go_sem, Nat.reduceEqDiff, Nat.reduceAdd, Nat.reduceLT, Nat.reduceLeDiff, ↓reduceIte, reduceCtorEq]
  intro n hn
  exact ⟨_, _, Wk.refl _, hwf.lt.put.weak, n, rfl, hn, rfl⟩
theorem NegI.new {R : Type} {U : Rul R} {t : TypeId} {pv : Value} {SI : Nat → St → R → Prop} {bx : List Nat} {codes : Int} {n k : Nat} {r : R} (hU : RulC U t pv SI bx) (h : SI k st r) (hl : st.Lt) (hn : st.sz ≤ n) :
    NegI (.sc (.iface t pv)) codes SI bx n k (st.put n (negC (.sc (.iface t pv)) codes (⟨0, 0, 0, 0, [], 0, r⟩ : Neg R) .nil)) (⟨0, 0, 0, 0, [], 0, r⟩ : Neg R) :=
  ⟨⟨.nil, put_box_same⟩, hU.stay k st _ r h (fun b cs hb _ => (tn_new hl hn).box b cs hb (by simp)) (tn_new (cs := []) hl hn).sz, fun hm => by have := hU.lt k st r h n hm; omega, Int.le_refl 0, (show (0 : Int) ≤ 10 by decide), Int.le_refl 0, (show (0 : Int) < 256 by decide), Int.le_refl 0, Int.natCast_nonneg k, IsB.nil'⟩
set_option maxRecDepth 100000 in
theorem lcpNew_v (hb : DrB st d ds 0) (hG : DrG ds 0) (ld : d < st.sz) : VCalls Try.prog 6 [ptrV d] st fun r s =>
    ∃ a n q, r = ptrV a ∧ LcpI a n q d 0 s (lcpNew ds) ∧ Tn [d] st s ∧ st.sz ≤ a ∧ st.sz ≤ n ∧ st.sz ≤ q := by
  refine vcalls_enterq pc6 (Nat.le_of_ble_eq_true rfl) rfl fun hwf hok => ?_
  show Run _ Pc6.body (.fin (finP Pc6.res _)) _ _
  unfold Pc6
  have hlt := hwf.lt
  obtain ⟨r, hr⟩ : ∃ r : Lr, r = ⟨.zero, .zero, ds, 0, 0⟩ := ⟨_, rfl⟩
  have hN : lcpNew ds = ⟨0, 0, 0, 0, [], 0, { r.draw.1 with w := ⟨1400, true, r.draw.2, false, false⟩ }⟩ := by rw [hr]; rfl
  rw [hN]
  have hb' : DrB st d r.ds r.k := by rw [hr]; exact hb
  have hG' : DrG r.ds r.k := by rw [hr]; exact hG
  have hdg := draw_good hG'
  obtain ⟨w1, w2, w3⟩ := draw_keep (r := r)
  have w2' : r.draw.1.g = Want.zero := by rw [w2, hr]
  have w3' : r.draw.1.guard = 0 := by rw [w3, hr]
  clear hN hr
  simp (config := {maxSteps := 3000000}) only [go_sem, ↓reduceIte, reduceCtorEq]
  refine Cal.mk (drSome_v hb' hG') ?_
  rintro _ s1 ⟨rfl, d1, T1⟩ -
  generalize r.draw = z at d1 hdg w2' w3' ⊢
  obtain ⟨r1, x⟩ := z
  simp only at d1 hdg w2' w3' ⊢
  simp (config := {maxSteps := 3000000}) only [go_sem, Nat.reduceAdd, Nat.reduceLT, Nat.reduceLeDiff, ↓reduceIte, reduceCtorEq]
  intro q hq
  have T2 : Tn [] s1 (s1.put q (lrC d { r1 with w := ⟨1400, true, x, false, false⟩ })) := tn_new T1.lt hq
  have hqd : q ≠ d := by have := T1.sz; omega
  have I1 : LcI q d 0 (s1.put q (lrC d { r1 with w := ⟨1400, true, x, false, false⟩ })) { r1 with w := ⟨1400, true, x, false, false⟩ } := by
    obtain ⟨tk, d1⟩ := d1
    refine ⟨put_box_same, ⟨tk, T2.box d _ d1 (by simp)⟩, hdg.1, ⟨by show (0 : Int) ≤ 1400; decide, by show (1400 : Int) < 65536; decide, Int.le_of_lt hdg.2.1, hdg.2.2⟩, by rw [w2']; exact Want.zero_good, by rw [w3']; exact Int.le_refl 0, by rw [w3']; exact Int.le_refl 0, hqd, ?_, ?_⟩
    · simp only [put_sz]; omega
    · have := T1.sz; simp only [put_sz]; omega
  unfold lrC at I1 T2
  rw [w2', w3'] at I1 T2
  simp only [Want.zero] at I1 T2
  generalize s1.put q _ = s2 at I1 T2 ⊢
  obtain ⟨r2, hr2⟩ : ∃ r2 : Lr, r2 = { r1 with w := ⟨1400, true, x, false, false⟩ } := ⟨_, rfl⟩
  have I1 : LcI q d 0 s2 r2 := by rw [hr2, w2', w3']; exact I1
  refine Cal.mk (negNew_v r2) ?_
  rintro _ _ ⟨n, rfl, hn, rfl⟩ -
  have sz1 := T1.sz
  have sz2 := T2.sz
  have T3 := tn_new (cs := negC (.sc (.iface 70 (.pointer (some ⟨q, 0, none⟩)))) 11 (⟨0, 0, 0, 0, [], 0, r2⟩ : Neg Lr) .nil) T2.lt hn
  have I3 := NegI.new (codes := 11) lcp_rules I1 T2.lt hn
  rw [← hr2]
  generalize s2.put n _ = s3 at I3 T3 ⊢
  simp (config := {maxSteps := 3000000}) only [go_sem, Nat.reduceEqDiff, Nat.reduceAdd, Nat.reduceLT, Nat.reduceLeDiff, ↓reduceIte, reduceCtorEq]
  intro a ha
  have sz3 := T3.sz
  have hl3 := I3.lt lcp_rules T3.lt
  have T4 := tn_new (cs := [ptrV n, ptrV q]) T3.lt ha
  have I4 := I3.tn lcp_rules T4
  have hna : a ∉ n :: [q, d] := fun hm => by have := hl3 a hm; omega
  exact ⟨_, _, Wk.refl _, T4.lt.weak, a, n, q, rfl, ⟨put_box_same, I4, hna, by simp only [put_sz]; omega⟩, T1.trans ((T2.trans (T3.trans T4)).wide (by simp)), by omega, by omega, by omega⟩
end
end
section
open Go

section
variable {R : Type} {U : Rul R} {N : Neg R}
theorem done_keep {act : Int} {again : Bool} {p back : Ctl} : (N.done U act again p back).1.r = N.r ∧ (N.done U act again p back).1.s = N.s ∧ (N.done U act again p back).1.left = N.left ∧ (N.done U act again p back).1.at_ = N.at_ := by
  simp only [Neg.done, Neg.d1, Neg.d3, Neg.d5, Neg.d6, Neg.asked, Neg.bump]
  cases hasA act 64 <;> cases hasA act 512 <;> cases hasA act 2048 <;> cases hasA act 2 <;> exact ⟨rfl, rfl, rfl, rfl⟩
theorem event_keep {now e : Int} {p back : Ctl} : (N.event U now e p back).1.r = N.r ∧ (N.event U now e p back).1.s = (stepF N.s e).1 := by
  have := done_keep (U := U) (N := N.step now e) (act := (stepF N.s e).2) (again := false) (p := p) (back := back)
  exact ⟨this.1, this.2.1⟩
end
theorem step00 : stepF 0 0 = (2, 0) := by decide
theorem step22 : stepF 2 2 = (6, 80) := by decide
theorem step66 : stepF 6 6 = (8, 128) := by decide
theorem step67 : stepF 6 7 = (6, 256) := by decide
theorem step63 : stepF 6 3 = (4, 528) := by decide
theorem step4a : stepF 4 10 = (4, 1024) := by decide
theorem step4b : stepF 4 11 = (2, 8) := by decide
theorem acts0 : hasA 0 1 = false ∧ hasA 0 2 = false ∧ hasA 0 8 = false ∧ hasA 0 64 = false ∧ hasA 0 384 = false ∧ hasA 0 512 = false ∧ hasA 0 1024 = false ∧ hasA 0 2048 = false := by decide
theorem acts80 : hasA 80 1 = false ∧ hasA 80 2 = false ∧ hasA 80 8 = false ∧ hasA 80 64 = true ∧ hasA 80 384 = false ∧ hasA 80 512 = false ∧ hasA 80 1024 = false ∧ hasA 80 2048 = false := by decide
theorem acts256 : hasA 256 1 = false ∧ hasA 256 2 = false ∧ hasA 256 8 = false ∧ hasA 256 64 = false ∧ hasA 256 384 = true ∧ hasA 256 512 = false ∧ hasA 256 1024 = false ∧ hasA 256 2048 = false := by decide
theorem acts528 : hasA 528 1 = false ∧ hasA 528 2 = false ∧ hasA 528 8 = false ∧ hasA 528 64 = false ∧ hasA 528 384 = false ∧ hasA 528 512 = true ∧ hasA 528 1024 = false ∧ hasA 528 2048 = false := by decide
theorem acts1024 : hasA 1024 1 = false ∧ hasA 1024 2 = false ∧ hasA 1024 8 = false ∧ hasA 1024 64 = false ∧ hasA 1024 384 = false ∧ hasA 1024 512 = false ∧ hasA 1024 1024 = true ∧ hasA 1024 2048 = false := by decide
theorem acts8 : hasA 8 1 = false ∧ hasA 8 2 = false ∧ hasA 8 8 = true ∧ hasA 8 64 = false ∧ hasA 8 384 = false ∧ hasA 8 512 = false ∧ hasA 8 1024 = false ∧ hasA 8 2048 = false := by decide
/-- The ConfReq of one's own. -/
def reqB (x : Int) : List Int := [1, 4, 5, 120, 3, 5, 194, 35, 5, 5, 6] ++ beL x 4
theorem beL4 (x : Int) : beL x 4 = [x / 16777216 % 256, x / 65536 % 256, x / 256 % 256, x % 256] := by simp [beL]
theorem reqB_eq {x : Int} (hx : 0 < x) : buildO (optsW ⟨1400, true, x, false, false⟩) = reqB x := by
  have : x ≠ 0 := by omega
  simp [optsW, buildO, reqB, oneO, beL4, this]
  simp [beL]
theorem num4_beL {x : Int} (h0 : 0 ≤ x) (h1 : x < 4294967296) : num4 (beL x 4) = x := by
  rw [beL4]
  simp [num4, numL]
  omega
theorem num2_beL {x : Int} (h0 : 0 ≤ x) (h1 : x < 65536) : num2 (beL x 2) = x := by
  simp [num2, numL, beL]
  omega
theorem reqB_parse (x : Int) : parseO (reqB x) = ([(1, [5, 120]), (3, [194, 35, 5]), (5, beL x 4)], 0) := by
  rw [reqB, beL4]
  rfl
theorem start_new {ds : List Int} (h : DrG ds 0) : ∃ x r, 0 < x ∧ x < 4294967296 ∧ r.w = ⟨1400, true, x, false, false⟩ ∧ r.g = .zero ∧ r.guard = 0 ∧ (lcpNew ds).r = r ∧ ((lcpNew ds).start lcpU 0).1.r = r ∧ ((lcpNew ds).start lcpU 0).1.s = 6 ∧ ((lcpNew ds).start lcpU 0).1.id = 1 ∧ ((lcpNew ds).start lcpU 0).2 = ⟨[⟨1, 1, reqB x⟩], false, false, false⟩ := by
  obtain ⟨w1, w2, w3⟩ := draw_keep (r := ⟨.zero, .zero, ds, 0, 0⟩)
  have hd := draw_good (r := ⟨.zero, .zero, ds, 0, 0⟩) h
  have hN : lcpNew ds = ⟨0, 0, 0, 0, [], 0, { (Lr.draw ⟨.zero, .zero, ds, 0, 0⟩).1 with w := ⟨1400, true, (Lr.draw ⟨.zero, .zero, ds, 0, 0⟩).2, false, false⟩ }⟩ := rfl
  rw [hN]
  generalize Lr.draw ⟨.zero, .zero, ds, 0, 0⟩ = z at w1 w2 w3 hd
  obtain ⟨r, x⟩ := z
  simp only at w1 w2 w3 hd ⊢
  refine ⟨x, { r with w := ⟨1400, true, x, false, false⟩ }, hd.2.1, hd.2.2, rfl, w2, w3, rfl, ?_, ?_, ?_, ?_⟩
  · simp only [Neg.start, event_keep]
  · simp only [Neg.start, event_keep, step00, step22]
  · simp [Neg.start, Neg.event, Neg.step, Neg.done, Neg.d1, Neg.d3, Neg.d5, Neg.d6, Neg.asked, step00, step22, acts0, acts80]
  · have hr : buildO (lcpU.request { r with w := ⟨1400, true, x, false, false⟩ }) = reqB x := reqB_eq hd.2.1
    simp [Neg.start, Neg.event, Neg.step, Neg.done, Neg.d1, Neg.d2, Neg.d3, Neg.d4, Neg.d5, Neg.d6, Neg.asked, Nout.both, step00, step22, acts0, acts80, hr]
section
variable {N : Neg Lr} {x : Int}
def authO : List Opt := [(3, [194, 35, 5])]
def authB : List Int := [3, 5, 194, 35, 5]
theorem event256 {R : Type} {U : Rul R} {N : Neg R} {now e s' : Int} {p back : Ctl} (h : stepF N.s e = (s', 256)) : N.event U now e p back = (N.step now e, ⟨[back], false, false, false⟩) := by
  simp [Neg.event, Neg.done, Neg.d1, Neg.d2, Neg.d3, Neg.d4, Neg.d5, Neg.d6, h, acts256]
theorem event528 {R : Type} {U : Rul R} {N : Neg R} {now e s' : Int} {p back : Ctl} (h : stepF N.s e = (s', 528)) : N.event U now e p back = ((N.step now e).bump, ⟨[⟨5, (N.id + 1) % 256, []⟩], false, false, false⟩) := by
  simp [Neg.event, Neg.done, Neg.d1, Neg.d2, Neg.d3, Neg.d4, Neg.d5, Neg.d6, h, acts528, Neg.bump, Neg.step]
theorem event1024 {R : Type} {U : Rul R} {N : Neg R} {now e s' : Int} {p back : Ctl} (h : stepF N.s e = (s', 1024)) : N.event U now e p back = (N.step now e, ⟨[⟨6, p.id, []⟩], false, false, false⟩) := by
  simp [Neg.event, Neg.done, Neg.d1, Neg.d2, Neg.d3, Neg.d4, Neg.d5, Neg.d6, h, acts1024]
theorem event8 {R : Type} {U : Rul R} {N : Neg R} {now e s' : Int} {p back : Ctl} (h : stepF N.s e = (s', 8)) : N.event U now e p back = (N.step now e, ⟨[], false, false, true⟩) := by
  simp [Neg.event, Neg.done, Neg.d1, Neg.d2, Neg.d3, Neg.d4, Neg.d5, Neg.d6, h, acts8]
theorem lcpTake_of {now : Int} {p : Ctl} {Y : Neg Lr × Nout} (hN : N.take lcpU 11 now p = Y) (hc : p.code ≠ 9) (hg : Y.1.r.guard < 4) : lcpTake N now p = Y := by
  have hE : lcpEcho Y.1 p Y.2.P = Y.2.P := by rw [lcpEcho, if_neg (fun e => hc e.1)]
  simp only [lcpTake, hN, hE]
  rw [if_neg (by omega)]
/-- It hears its own ConfReq. -/
theorem hears1 (hs : N.s = 6) (hw : N.r.w = ⟨1400, true, x, false, false⟩) (hg : N.r.guard = 0) (h0 : 0 < x) (h1 : x < 4294967296) :
    ∃ N', lcpTake N 1 ⟨1, 1, reqB x⟩ = (N', ⟨[⟨4, 1, authB⟩], false, false, false⟩) ∧ N'.s = 6 ∧ N'.id = N.id ∧ N'.r.w = N.r.w ∧ N'.r.guard = 1 := by
  have hn := num4_beL (Int.le_of_lt h0) h1
  have hfi : findO [((1 : Int), [(5 : Int), 120]), (3, [194, 35, 5]), (5, beL x 4)] 5 = some (beL x 4) := rfl
  have hth : theirN [((1 : Int), [(5 : Int), 120]), (3, [194, 35, 5]), (5, beL x 4)] = x := by rw [theirN, hfi]; exact hn
  have hj : ∀ dr, judgeL [((1 : Int), [(5 : Int), 120]), (3, [194, 35, 5]), (5, beL x 4)] x dr = (4, authO) := fun dr => by
    simp [judgeL, judgeF, judgeStep, sizeT, betterO, beL_len, hn, num2, numL, authO]
  have hx : ¬ x = 0 := by omega
  have hju : lcpU.judge N.r [((1 : Int), [(5 : Int), 120]), (3, [194, 35, 5]), (5, beL x 4)] = ((N.r.see x x).draw.1, 4, authO) := by
    show N.r.judge _ = _
    simp only [Lr.judge, hw, hth]
    rw [if_pos (.inl ⟨hx, trivial⟩), hj]
  obtain ⟨w1, w2, w3⟩ := draw_keep (r := N.r.see x x)
  have g1 : (N.r.see x x).draw.1.guard = 1 := by rw [w3]; simp [Lr.see, hg, hx]
  have g2 : (N.r.see x x).draw.1.w = N.r.w := by rw [w1]; rfl
  generalize (N.r.see x x).draw.1 = r1 at hju g1 g2
  refine ⟨Neg.step { N with r := r1 } 1 7, lcpTake_of ?_ (show (1 : Int) ≠ 9 by decide) ?_, ?_, rfl, g2, g1⟩
  · have h67 : stepF (Neg.mk N.s N.left N.at_ N.id N.req N.naks r1).s 7 = (6, 256) := by rw [← step67, ← hs]
    rw [← event256 (U := lcpU) (p := ⟨1, 1, reqB x⟩) (back := ⟨4, 1, authB⟩) (now := 1) h67]
    simp only [Neg.take, Neg.request, reqB_parse, hs, Neg.judge, hju]
    rfl
  · show r1.guard < 4; omega
  · show (stepF N.s 7).1 = 6
    rw [hs, step67]
/-- It hears its own ConfRej. -/
theorem hears2 (hs : N.s = 6) (hi : N.id = 1) (hw : N.r.w.auth = true) (hg : N.r.guard = 1) :
    ∃ N', lcpTake N 1 ⟨4, 1, authB⟩ = (N', ⟨[⟨5, 2, []⟩], false, false, false⟩) ∧ N'.s = 4 ∧ N'.r.guard = 1 := by
  obtain ⟨s, left, at_, id, req, naks, r⟩ := N
  simp only at hs hi hw hg
  subst hs hi
  have hr : lcpU.rejected r authO = (r, false) := by
    show ({ r with w := (rejectedL r.w authO).1 }, (rejectedL r.w authO).2) = _
    simp [rejectedL, authO, hw]
  have hp : parseO authB = (authO, 0) := rfl
  refine ⟨((Neg.mk 6 left at_ 1 req naks r).step 1 3).bump, lcpTake_of ?_ (show (4 : Int) ≠ 9 by decide) ?_, ?_, hg⟩
  · have h63 : stepF (Neg.mk 6 left at_ 1 req naks r).s 3 = (4, 528) := step63
    have := event528 (U := lcpU) (p := zeroC) (back := zeroC) (now := 1) h63
    rw [show (((Neg.mk 6 left at_ 1 req naks r).id + 1) % 256) = 2 from rfl] at this
    rw [← this]
    simp only [Neg.take, Neg.answered, hp, hr]
    rfl
  · show r.guard < 4; omega
  · show (stepF 6 3).1 = 4
    rw [step63]
theorem hears3 (hs : N.s = 4) (hg : N.r.guard = 1) : ∃ N', lcpTake N 1 ⟨5, 2, []⟩ = (N', ⟨[⟨6, 2, []⟩], false, false, false⟩) ∧ N'.s = 4 ∧ N'.r.guard = 1 := by
  refine ⟨N.step 1 10, lcpTake_of ?_ (show (5 : Int) ≠ 9 by decide) ?_, ?_, hg⟩
  · have h4 : stepF N.s 10 = (4, 1024) := by rw [← step4a, ← hs]
    rw [← event1024 (U := lcpU) (p := ⟨5, 2, []⟩) (back := zeroC) (now := 1) h4]
    rfl
  · show N.r.guard < 4; omega
  · show (stepF N.s 10).1 = 4
    rw [hs, step4a]
theorem hears4 (hs : N.s = 4) (hg : N.r.guard = 1) : ∃ N', lcpTake N 1 ⟨6, 2, []⟩ = (N', ⟨[], false, false, true⟩) ∧ N'.s = 2 := by
  refine ⟨N.step 1 11, lcpTake_of ?_ (show (6 : Int) ≠ 9 by decide) ?_, ?_⟩
  · have h4 : stepF N.s 11 = (2, 8) := by rw [← step4b, ← hs]
    rw [← event8 (U := lcpU) (p := ⟨6, 2, []⟩) (back := zeroC) (now := 1) h4]
    rfl
  · show N.r.guard < 4; omega
  · show (stepF N.s 11).1 = 2
    rw [hs, step4b]
/-- The other end asks for an MRU. -/
theorem takes_mru {m : Int} (hs : N.s = 6) (hg : N.r.guard = 0) (h0 : 128 ≤ m) (h1 : m ≤ 1500) : (lcpTake N 1 ⟨1, 1, buildO [(1, beL m 2)]⟩).1.r.g.mru = m := by
  have hn := num2_beL (x := m) (by omega) (by omega)
  have hp : parseO (buildO [(1, beL m 2)]) = ([(1, beL m 2)], 0) := rfl
  have hth : theirN [((1 : Int), beL m 2)] = 0 := rfl
  have hj : ∀ own dr, judgeL [((1 : Int), beL m 2)] own dr = (2, [(1, beL m 2)]) := fun own dr => by
    have n1 : ¬ num2 (beL m 2) < 128 := by omega
    have n2 : ¬ 1500 < num2 (beL m 2) := by omega
    simp [judgeL, judgeF, judgeStep, sizeT, betterO, beL_len, n1, n2]
  obtain ⟨r1, hju⟩ : ∃ r1, lcpU.judge N.r [((1 : Int), beL m 2)] = (r1, 2, [(1, beL m 2)]) ∧ r1.guard = 0 := by
    obtain ⟨w1, w2, w3⟩ := draw_keep (r := N.r.see N.r.w.magic 0)
    refine ⟨(N.r.see N.r.w.magic 0).draw.1, ?_, ?_⟩
    · show N.r.judge _ = _
      simp only [Lr.judge, hth]
      rw [if_pos (.inr trivial), hj]
    · rw [w3]
      simp [Lr.see]
  obtain ⟨hju, hg1⟩ := hju
  obtain ⟨Y, hY⟩ : ∃ Y, Y = N.take lcpU 11 1 ⟨1, 1, buildO [(1, beL m 2)]⟩ := ⟨_, rfl⟩
  have hYe : Y = Neg.event lcpU { N with r := { r1 with g := ofL [(1, beL m 2)] }, naks := 0 } 1 6 ⟨1, 1, buildO [(1, beL m 2)]⟩ ⟨2, 1, buildO [(1, beL m 2)]⟩ := by
    rw [hY]
    simp only [Neg.take, Neg.request, hp, hs, Neg.judge, hju]
    rfl
  have hr : Y.1.r = { r1 with g := ofL [(1, beL m 2)] } := by rw [hYe, event_keep.1]
  rw [lcpTake_of hY.symm (show (1 : Int) ≠ 9 by decide) (by rw [hr]; show r1.guard < 4; omega), hr]
  show (ofL [(1, beL m 2)]).mru = m
  simp [ofL, ofStep, hn]
end
end
section
open Go

section
variable {tk tk' : Tk} {L M : List Int} {st : St}
theorem pow256_le {k : Nat} (h : k ≤ 7) : (256 : Int) ^ k ≤ 72057594037927936 := by
  have h7 : ∀ k : Nat, k ≤ 7 → (256 : Int) ^ k ≤ 72057594037927936 := by decide
  exact h7 _ h
theorem Own.put {size : Nat} {st : St} {v : V} {l : List V} (h : Own size st v l) {b : Nat} {cs : List V} : Own size (st.put b cs) v l := by
  rcases h with h | ⟨g, h1, h2, h3⟩
  · exact .inl h
  · exact .inr ⟨g, h1, h2, by simp only [put_sz]; omega⟩
theorem bs_zeros (k : Nat) : (List.replicate k [V.sc (.int .u8 0)]).flatten = bs (List.replicate k 0) := by
  induction k with
  | zero => rfl
  | succ k ih => rw [List.replicate_succ, List.flatten_cons, ih, List.replicate_succ, bs_cons]; rfl
theorem splice_bs {m : Nat} {T : List Int} {x : Int} : splice (bs (List.replicate (m + 1) 0 ++ T)) m [.sc (.int .u8 x)] = bs (List.replicate m 0 ++ x :: T) := by
  unfold splice
  have e : List.replicate (m + 1) (0 : Int) ++ T = List.replicate m 0 ++ (0 :: T) := by rw [List.replicate_succ', List.append_assoc]; rfl
  have hl : (bs (List.replicate m 0)).length = m := by simp [bs_len]
  rw [e, ← bs_append, ← bs_append, List.take_append_of_le_length (by omega), List.take_of_length_le (by omega), List.drop_append, hl]
  rw [List.drop_of_length_le (by simp; omega), show m + [V.sc (.int .u8 x)].length - m = 1 by simp]
  simp [bs_cons]
theorem bs_flat (L : List Int) : (bs L).flatMap V.cells = bs L := by
  induction L with
  | nil => rfl
  | cons x L ih => rw [bs_cons, List.flatMap_cons, ih]; rfl
theorem St.weak.trans {a b c : St} (h : a.weak b) (k : b.weak c) : a.weak c :=
  ⟨fun x cs hx => ⟨(k.box x cs (h.box x cs hx).1).1, (h.box x cs hx).2⟩, fun g m hg => ⟨(k.own g m (h.own g m hg).1).1, (h.own g m hg).2⟩, Nat.le_trans h.sz k.sz⟩
/-- All that was is there as it was; r is a new row. -/
structure New (st st' : St) (r : V) : Prop where
  weak : st.weak st'
  lt : st'.Lt
  tok : ∀ g k l, r = .sl (.own g k) l → st.sz ≤ g
theorem AppSt.keeps {s s' : St} {x r : V} (h : AppSt s x s' r) {t : St} (hw : t.weak s) (hx : ∀ g k l, x = .sl (.own g k) l → t.sz ≤ g) : t.weak s' :=
  ⟨fun b cs hb => ⟨by rw [h.box]; exact (hw.box b cs hb).1, (hw.box b cs hb).2⟩, fun g m hg => ⟨h.own g m (hw.own g m hg).1 (fun l k e => by have := hx g k l e; have := (hw.own g m hg).2; omega), (hw.own g m hg).2⟩, Nat.le_trans hw.sz h.sz⟩
theorem AppSt.fresh {s s' : St} {x r : V} (h : AppSt s x s' r) {t : St} (hs : t.sz ≤ s.sz) (hx : ∀ g k l, x = .sl (.own g k) l → t.sz ≤ g) : ∀ g k l, r = .sl (.own g k) l → t.sz ≤ g := fun g k l e => by
  rcases h.tok g k l e with ⟨l', e'⟩ | h2
  · exact hx g k l' e'
  · omega
theorem rPut_v {n size : Int} (hB : IsB L) (hl : L.length ≤ 1000000000000) (h0 : 0 ≤ n) (h1 : n ≤ 18446744073709551615) : VCalls Try.prog 14 [.sl tk (bs L), .sc (.int .u64 n), .sc (.int .i64 size)] st fun r st' =>
    Own 1 st' r (bs (if size < 1 ∨ 8 < size then L else L ++ beL n size.toNat)) ∧ New st st' r := by
  refine vcalls_enter vc14 (Nat.le_of_ble_eq_true rfl) fun hwf hok => ?_
  show Run _ Vc14.body (.fin (finQ Vc14.res _)) _ _
  unfold Vc14
  simp (config := {maxSteps := 3000000}) (disch := ((fail_if_success refine selfNe ?_); omega)) only [go_sem]
  refine Bo.own (by simp [allLen]) ?_
  intro g hg
  simp (config := {maxSteps := 3000000}) (disch := ((fail_if_success refine selfNe ?_); omega)) only [go_sem, Nat.reduceEqDiff, ↓reduceIte, reduceCtorEq]
  refine App.mk (l := []) (.inr ⟨g, rfl, by simp [St.use], by simp only [St.use]; omega⟩) (allSz_bs _) (by simp [bs_len, maxLen]; omega) (by simp [bs_len]; omega) ?_
  intro r1 s1 k1 k2
  rw [List.nil_append] at k1
  have hx0 : ∀ g' k l, V.sl (.own g 1) [] = .sl (.own g' k) l → st.sz ≤ g' := fun g' k l e => by cases e; exact hg
  have w1 : st.weak s1 := k2.keeps (weak_use hwf.weak hg) hx0
  have l1 : s1.Lt := hwf.lt.use.app k2
  have f1 := k2.fresh (t := st) (by simp only [use_sz]; omega) hx0
  by_cases c1 : size < 1
  · simp (config := {maxSteps := 3000000}) (disch := ((fail_if_success refine selfNe ?_); omega)) only [go_sem, Nat.reduceEqDiff, ↓reduceIte, c1]
    exact ⟨_, _, Wk.refl _, l1.weak, k1, w1, l1, f1⟩
  by_cases c2 : 8 < size
  · simp (config := {maxSteps := 3000000}) (disch := ((fail_if_success refine selfNe ?_); omega)) only [go_sem, Nat.reduceEqDiff, ↓reduceIte, c1, c2]
    exact ⟨_, _, Wk.refl _, l1.weak, k1, w1, l1, f1⟩
  rw [if_neg (by omega)]
  simp (config := {maxSteps := 3000000}) (disch := ((fail_if_success refine selfNe ?_); omega)) only [go_sem, Nat.reduceEqDiff, ↓reduceIte, decide_eq_false c1, decide_eq_false c2]
  repeat (apply And.intro; focus (first | omega | (simp; done)))
  intro b hb
  rw [bs_zeros]
  obtain ⟨sz, hsz⟩ : ∃ k : Nat, size = k := ⟨size.toNat, by omega⟩
  subst hsz
  rw [Int.toNat_natCast]
  have hsz8 : sz ≤ 8 := by omega
  refine run_loop [1, 9, 22, 23, 24, 25, 26, 27, 28, 29, 30, 31, 32, 33, 34, 35, 36, 37] (fun B s => ∃ i : Nat, i ≤ sz ∧ B 9 = .sc (.int .i64 i) ∧ B 1 = .sc (.int .u64 (n / 256 ^ i)) ∧ s = s1.put b (bs (List.replicate (sz - i) 0 ++ beL n i))) (fun B _ => sz - vnat (B 9)) rfl ?_ ?_
  · simp (config := {maxSteps := 3000000}) (disch := ((fail_if_success refine selfNe ?_); omega)) only [go_sem, Nat.reduceEqDiff, ↓reduceIte]
    exact ⟨0, by omega, by simp, by simp, by simp [beL]⟩
  · rintro B s ⟨i, hi, h9, h1', rfl⟩
    have hdiv : 0 ≤ n / 256 ^ i := Int.ediv_nonneg h0 (by have := pow256_pos i; omega)
    by_cases hlt : i < sz
    · have hdd : n / 256 ^ i / 256 = n / 256 ^ (i + 1) := by rw [Int.pow_succ, Int.ediv_ediv_of_nonneg (by have := pow256_pos i; omega)]
      have hle : n / 256 ^ i ≤ n := Int.ediv_le_self _ h0
      obtain ⟨m, hm⟩ : ∃ m, sz - i = m + 1 := ⟨sz - i - 1, by omega⟩
      have hm2 : ((sz : Int) - 1 - i).toNat = m := by omega
      rw [hm]
      simp (config := {maxSteps := 3000000}) (disch := ((fail_if_success refine selfNe ?_); omega)) only [go_sem, Nat.reduceEqDiff, Nat.reduceLT, Int.reduceLT, Int.reduceNeg, ↓reduceIte, Nat.reduceBEq, h9, h1', decide_eq_true (show (i : Int) < (sz : Int) by omega), hm2, bs_len, List.length_append, List.length_replicate, beL_len, emod_small]
      repeat (apply And.intro; focus (first | omega | (simp; done)))
      have hsp := splice_bs (m := m) (T := beL n i) (x := n / 256 ^ i % 256)
      simp only [splice, List.length_cons, List.length_nil, Nat.zero_add] at hsp
      exact ⟨⟨i + 1, by omega, by simp, by rw [hdd], by rw [hsp, show sz - (i + 1) = m by omega]; rfl⟩, by omega⟩
    · obtain rfl : i = sz := by omega
      simp (config := {maxSteps := 3000000}) (disch := ((fail_if_success refine selfNe ?_); omega)) only [go_sem, Nat.reduceEqDiff, ↓reduceIte, Nat.reduceBEq, h9, Nat.sub_self, List.replicate_zero]
      obtain ⟨tk1, rfl⟩ := k1.sl
      refine App.box (b := b) (cs := bs (beL n i)) (ys := bs (beL n i)) k1.put put_box_same (by simp [bs_len, beL_len]) (by simp [bs_len, beL_len]) (by rw [bs_flat, List.drop_zero, Nat.mul_one]; exact List.take_of_length_le (by simp [bs_len, beL_len])) (of_eq_true mono_bs) (allSz_bs _) (by simp [bs_len, maxLen]; omega) (by simp [bs_len]; omega) ?_
      intro r2 s2 k3 k4
      simp (config := {maxSteps := 3000000}) (disch := ((fail_if_success refine selfNe ?_); omega)) only [go_sem, ↓reduceIte]
      have hx1 : ∀ g' k l, V.sl tk1 (bs L) = .sl (.own g' k) l → st.sz ≤ g' := f1
      exact ⟨_, _, Wk.refl _, (l1.put.app k4).weak, by rw [← bs_append]; exact k3, k4.keeps (weak_put w1 (by have := w1.sz; omega)) hx1, l1.put.app k4, k4.fresh (by have := w1.sz; simp only [put_sz]; omega) hx1⟩
end
end
section
open Go
section
variable {st : St} {tk tk2 : Tk} {L : List Int} {p q : Ctl}
set_option maxRecDepth 100000 in
theorem r15First_v {m : Int} (hl : L.length ≤ 1000000000) : VCalls Try.prog 13 [.sl tk (bs L), .sc (.int .i64 m)] st fun r s => r = .sl .no (bs (L.take m.toNat)) ∧ st = s := by
  refine vcalls_enterq pc13 (Nat.le_of_ble_eq_true rfl) rfl fun hwf hok => ?_
  show Run _ Pc13.body (.fin (finP Pc13.res _)) _ _
  unfold Pc13
  simp (config := {maxSteps := 3000000}) only [go_sem]
  refine run_loop [5, 6, 9, 10, 12, 13, 14, 15, 17, 21, 22, 23, 24] (fun B s => ∃ (i : Nat) (t : Tk), i ≤ L.length ∧ (i : Int) ≤ max m 0 ∧ B 6 = .sc (.int .i64 i) ∧ B 5 = .sl t (bs (L.take i)) ∧ RO 1 st s (.sl t (bs (L.take i))) (bs (L.take i))) (fun B _ => L.length - vnat (B 6)) rfl ?_ ?_
  · exact ⟨0, .nil, by omega, by omega, rfl, rfl, RO.nil hwf.weak hwf.lt⟩
  · rintro B s ⟨i, t, hi, hm, h6, h5, R⟩
    have fin : ∀ {v : V}, L.take i = L.take m.toNat → ∃ r st', Wk (.sl t (bs (L.take i))) r ∧ st'.weak s ∧ r = .sl .no (bs (L.take m.toNat)) ∧ st = st' := fun e => ⟨_, _, Wk.no, R.weak, by rw [e], rfl⟩
    by_cases c1 : i < L.length
    · by_cases c2 : (i : Int) < m
      · obtain ⟨c, hc⟩ := get_ex c1
        have hs : L.take (i + 1) = L.take i ++ [c] := take_snoc hc
        simp (config := {maxSteps := 3000000}) only [go_sem, Nat.reduceEqDiff, ↓reduceIte, reduceCtorEq, Nat.reduceBEq, h6, h5, bs_len, decide_eq_true (show (i : Int) < (L.length : Int) by omega), decide_eq_true c2, bs_get, hc]
        repeat (apply And.intro; focus (first | omega | (simp; done)))
        refine App.mk (bytes := 1) (ys := bs [c]) R.own (allSz_bs _) (by simp only [bs_len, List.length_cons, List.length_nil, List.length_take]; unfold maxLen; omega) (by simp only [bs_len, List.length_cons, List.length_nil, List.length_take]; omega) ?_
        intro r2 s2 k1 k2
        have R2 := R.app k1 k2
        rw [bs_append, ← hs] at R2
        obtain ⟨t2, rfl⟩ := R2.sl
        simp (config := {maxSteps := 3000000}) only [go_sem, Nat.reduceEqDiff, Int.reduceNeg, ↓reduceIte, Nat.reduceBEq, h6]
        repeat (apply And.intro; focus (first | omega | (simp; done)))
        exact ⟨⟨i + 1, t2, by omega, by omega, by simp, rfl, R2⟩, by omega⟩
      · simp (config := {maxSteps := 3000000}) only [go_sem, Nat.reduceEqDiff, ↓reduceIte, reduceCtorEq, Nat.reduceBEq, h6, h5, bs_len, decide_eq_true (show (i : Int) < (L.length : Int) by omega), decide_eq_false c2]
        exact fin (v := .any) (by rw [show i = m.toNat by omega])
    · simp (config := {maxSteps := 3000000}) only [go_sem, Nat.reduceEqDiff, ↓reduceIte, reduceCtorEq, Nat.reduceBEq, h6, h5, bs_len, decide_eq_false (show ¬ (i : Int) < (L.length : Int) by omega)]
      exact fin (v := .any) (by rw [List.take_of_length_le (by omega), List.take_of_length_le (by omega)])
theorem r15Same_v (hp : IsB p.data) (hq : IsB q.data) : VCalls Try.prog 15 [p.v tk, q.v tk2] st fun r s => r = .sc (.bool (decide (p = q))) ∧ st = s := by
  obtain ⟨c, i, D⟩ := p
  obtain ⟨c2, i2, E⟩ := q
  show VCalls Try.prog 15 [.agg [.sc (.int .u8 c), .sc (.int .u8 i), .sl tk (bs D)], .agg [.sc (.int .u8 c2), .sc (.int .u8 i2), .sl tk2 (bs E)]] st _
  refine vcalls_enterq pc15 (Nat.le_of_ble_eq_true rfl) rfl fun hwf hok => ?_
  show Run _ Pc15.body (.fin (finP Pc15.res _)) _ _
  unfold Pc15
  have hinj := strOf_inj hp hq
  simp only at hinj
  repeat' first | simp (config := {maxSteps := 3000000}) only [go_sem, Nat.reduceEqDiff, Nat.reduceAdd, Nat.reduceLT, Nat.reduceLeDiff, ↓reduceIte, u8sOf_bsN] | (refine If.dec (fun h => ?_) (fun h => ?_) <;> first | simp only [decide_eq_true h] | simp only [decide_eq_false h] | skip) | (refine Grd.decd (fun h => ?_) (fun h => ?_) <;> first | simp only [decide_eq_true h] | simp only [decide_eq_false h] | skip) | (refine If.mk (fun h => ?_) (fun h => ?_) <;> first | simp only [h] | skip) | (refine Grd.two (fun h => ?_) (fun h => ?_) <;> first | simp only [h] | skip) | (apply And.intro; focus (first | omega | (simp; done)))
  all_goals refine ⟨_, _, Wk.refl _, hwf.weak, ?_, rfl⟩
  all_goals (congr 2; simp [Ctl.mk.injEq, *])
end
end
section
open Go
theorem DrG.nil : DrG [] 0 := ⟨(fun x h => by cases h), by simp, by decide, by decide⟩
theorem weak_tnF {bx : List Nat} {base s t : St} (hl : base.Lt) (h : base.weak s) (T : Tn bx s t) (hb : ∀ b ∈ bx, base.sz ≤ b) : base.weak t := weak_tn h T fun b hm => by
  cases hx : base.box b with
  | none => rfl
  | some cs => have := hl.box b cs hx; have := hb b hm; omega
theorem ctls_at {l : List Ctl} {i : Nat} {p : Ctl} (h : l[i]? = some p) : (ctls l)[i]? = some (.agg [.sc (.int .u8 p.code), .sc (.int .u8 p.id), .sl .no (bs p.data)]) := by rw [ctls_get, h]; rfl
/-- How far a link that loops is: behind so many of its own packets. -/
inductive Ph (x : Int) : Nat → Neg Lr → List Ctl → Prop where
  | a (N : Neg Lr) (hs : N.s = 6) (hi : N.id = 1) (hw : N.r.w = ⟨1400, true, x, false, false⟩) (hg : N.r.guard = 0) : Ph x 0 N [⟨1, 1, reqB x⟩]
  | b (N : Neg Lr) (hs : N.s = 6) (hi : N.id = 1) (hw : N.r.w.auth = true) (hg : N.r.guard = 1) : Ph x 1 N [⟨4, 1, authB⟩]
  | c (N : Neg Lr) (hs : N.s = 4) (hg : N.r.guard = 1) : Ph x 2 N [⟨5, 2, []⟩]
  | d (N : Neg Lr) (hs : N.s = 4) (hg : N.r.guard = 1) : Ph x 3 N [⟨6, 2, []⟩]
  | e (N : Neg Lr) (hs : N.s = 2) : Ph x 4 N []
theorem reqB_good (x : Int) : Ctl.Good ⟨1, 1, reqB x⟩ := ⟨(by decide : (0 : Int) ≤ 1), (by decide : (1 : Int) < 256), (by decide : (0 : Int) ≤ 1), (by decide : (1 : Int) < 256), (show IsB ([1, 4, 5, 120, 3, 5, 194, 35, 5, 5, 6] ++ beL x 4) from IsB.append (by intro y hy; simp at hy; omega) (beL_isB _ _)), by simp [reqB, beL_len]⟩
theorem Ph.next {x : Int} (h0 : 0 < x) (h1 : x < 4294967296) {i : Nat} {N : Neg Lr} {P : List Ctl} (h : Ph x i N P) (hi : i < 4) : ∃ p X, P = [p] ∧ p.Good ∧ X = lcpTake N 1 p ∧ Ph x (i + 1) X.1 X.2.P ∧ X.1.s ≠ 9 := by
  cases h with
  | a _ hs hi hw hg =>
    obtain ⟨N', e, k1, k2, k3, k4⟩ := hears1 hs hw hg h0 h1
    exact ⟨_, _, rfl, reqB_good x, e.symm, .b _ k1 (k2.trans hi) (by rw [k3, hw]) k4, by rw [k1]; decide⟩
  | b _ hs hi hw hg =>
    obtain ⟨N', e, k1, k2⟩ := hears2 hs hi hw hg
    exact ⟨_, _, rfl, ⟨(by decide : (0 : Int) ≤ 4), (by decide : (4 : Int) < 256), (by decide : (0 : Int) ≤ 1), (by decide : (1 : Int) < 256), by intro y hy; simp [authB] at hy; omega, by simp [authB]⟩, e.symm, .c _ k1 k2, by rw [k1]; decide⟩
  | c _ hs hg =>
    obtain ⟨N', e, k1, k2⟩ := hears3 hs hg
    exact ⟨_, _, rfl, ⟨(by decide : (0 : Int) ≤ 5), (by decide : (5 : Int) < 256), (by decide : (0 : Int) ≤ 2), (by decide : (2 : Int) < 256), IsB.nil', by simp⟩, e.symm, .d _ k1 k2, by rw [k1]; decide⟩
  | d _ hs hg =>
    obtain ⟨N', e, k1⟩ := hears4 hs hg
    exact ⟨_, _, rfl, ⟨(by decide : (0 : Int) ≤ 6), (by decide : (6 : Int) < 256), (by decide : (0 : Int) ≤ 2), (by decide : (2 : Int) < 256), IsB.nil', by simp⟩, e.symm, .e _ k1, by rw [k1]; decide⟩
  | e _ hs => omega
theorem Ph.len {x : Int} {i : Nat} {N : Neg Lr} {P : List Ctl} (h : Ph x i N P) : i ≤ 4 ∧ (i = 4 → P = [] ∧ N.s = 2) := by
  cases h <;> simp_all
section
variable {st : St}
/-- A new LCP, begun. -/
theorem newDraws {d : Nat} (hwf : st.Wf) (hd : st.sz ≤ d) : DrB (st.put d [.sl .nil [], .sc (.int .u32 0)]) d [] 0 := ⟨.nil, put_box_same⟩
set_option maxRecDepth 100000 in
theorem lcpAlive_v : VCalls Try.prog 12 [] st fun r s => r = .sc (.bool true) ∧ st = s := by
  refine vcalls_enterq pc12 (Nat.le_of_ble_eq_true rfl) rfl fun hwf hok => ?_
  show Run _ Pc12.body (.fin (finP Pc12.res _)) _ _
  unfold Pc12
  have hlt := hwf.lt
  simp (config := {maxSteps := 3000000}) only [go_sem, Nat.reduceAdd, ↓reduceIte, reduceCtorEq]
  intro d hd
  have hD := newDraws hwf hd
  have T0 := tn_new (cs := [.sl .nil [], .sc (.int .u32 0)]) hlt hd
  have ld : d < (st.put d [.sl .nil [], .sc (.int .u32 0)]).sz := by simp only [put_sz]; omega
  generalize st.put d _ = s0 at hD T0 ld ⊢
  refine Cal.mk (lcpNew_v hD DrG.nil ld) ?_
  rintro _ s1 ⟨a, n, q, rfl, I1, T1, sa, sn, sq⟩ -
  have S0 := T0.sz
  obtain ⟨x, r, h0, h1, hw, hg, hgd, e1, e2, e3, e4, e5⟩ := start_new DrG.nil
  simp (config := {maxSteps := 3000000}) only [go_sem, Nat.reduceEqDiff, ↓reduceIte]
  refine Cal.mk (lcpStart_v I1 (Int.le_refl 0) (by decide)) ?_
  rintro r2 s2 ⟨tv, rfl, R2, I2, T2, l2⟩ -
  rw [e5] at R2 ⊢
  have hl : (reqB x).length = 15 := by simp [reqB, beL_len]
  have g0 : (ctls [⟨1, 1, reqB x⟩])[0]? = some (.agg [.sc (.int .u8 1), .sc (.int .u8 1), .sl .no (bs (reqB x))]) := rfl
  have hW : ((lcpNew []).start lcpU 0).1.r.w = ⟨1400, true, x, false, false⟩ := by rw [e2, hw]
  simp (config := {maxSteps := 3000000}) only [go_sem, Nat.reduceEqDiff, Nat.reduceAdd, Nat.reduceLT, Nat.reduceLeDiff, Int.reduceToNat, Int.reduceLE, ↓reduceIte, outV, ctls_len, List.length_cons, List.length_nil, g0, bs_len, hl, show decide (((1 : Nat) : Int) = 1) = true from rfl, show decide (((15 : Nat) : Int) = 15) = true from rfl]
  refine Cal.mk (lcpMine_v I2) ?_
  rintro _ _ ⟨rfl, rfl⟩ -
  simp (config := {maxSteps := 3000000}) only [go_sem, Nat.reduceEqDiff, ↓reduceIte, hW, Want.cells]
  refine Cal.mk (lcpMine_v I2) ?_
  rintro _ _ ⟨rfl, rfl⟩ -
  simp (config := {maxSteps := 3000000}) only [go_sem, Nat.reduceEqDiff, ↓reduceIte, hW, Want.cells]
  have W : st.weak s2 := weak_tnF hlt (weak_tnF hlt (T0.weak hlt) T1 (by simp only [List.mem_singleton]; omega)) T2 (by simp only [List.mem_cons, List.not_mem_nil, or_false]; omega)
  exact ⟨_, _, Wk.refl _, W, rfl, rfl⟩
set_option maxRecDepth 100000 in
set_option maxHeartbeats 4000000 in
theorem lcpRejects_v {mru proto : Int} {D : List Int} {tk : Tk} (m0 : 0 ≤ mru) (m1 : mru < 65536) (p0 : 0 ≤ proto) (p1 : proto < 65536) (hB : IsB D) : VCalls Try.prog 4 [.sc (.int .u16 mru), .sc (.int .u16 proto), .sl tk (bs D)] st fun r s => r = .sc (.bool true) ∧ st = s := by
  refine vcalls_enterq pc4 (Nat.le_of_ble_eq_true rfl) rfl fun hwf hok => ?_
  show Run _ Pc4.body (.fin (finP Pc4.res _)) _ _
  unfold Pc4
  have hlt := hwf.lt
  have c64 : mru % 18446744073709551616 = mru := by omega
  have c65 : proto % 18446744073709551616 = proto := by omega
  by_cases c : 2000 < D.length ∨ mru < 128 ∨ 1500 < mru
  · have : decide ((2000 : Int) < (D.length : Int)) = true ∨ decide ((2000 : Int) < (D.length : Int)) = false ∧ (decide (mru < 128) = true ∨ decide (mru < 128) = false ∧ decide (1500 < mru) = true) := by
      simp only [decide_eq_true_eq, decide_eq_false_iff_not]; omega
    rcases this with e | ⟨e, e2 | ⟨e2, e3⟩⟩
    · simp (config := {maxSteps := 3000000}) only [go_sem, Nat.reduceEqDiff, ↓reduceIte, bs_len, e]
      exact ⟨_, _, Wk.refl _, hwf.weak, rfl, rfl⟩
    · simp (config := {maxSteps := 3000000}) only [go_sem, Nat.reduceEqDiff, ↓reduceIte, reduceCtorEq, bs_len, e, e2]
      exact ⟨_, _, Wk.refl _, hwf.weak, rfl, rfl⟩
    · simp (config := {maxSteps := 3000000}) only [go_sem, Nat.reduceEqDiff, ↓reduceIte, reduceCtorEq, bs_len, e, e2, e3]
      exact ⟨_, _, Wk.refl _, hwf.weak, rfl, rfl⟩
  · have hl : D.length ≤ 2000 := by omega
    simp (config := {maxSteps := 3000000}) only [go_sem, Nat.reduceEqDiff, Nat.reduceAdd, ↓reduceIte, reduceCtorEq, bs_len, decide_eq_false (show ¬ (2000 : Int) < (D.length : Int) by omega), decide_eq_false (show ¬ mru < 128 by omega), decide_eq_false (show ¬ 1500 < mru by omega)]
    intro d hd
    have hD := newDraws hwf hd
    have T0 := tn_new (cs := [.sl .nil [], .sc (.int .u32 0)]) hlt hd
    have ld : d < (st.put d [.sl .nil [], .sc (.int .u32 0)]).sz := by simp only [put_sz]; omega
    generalize st.put d _ = s0 at hD T0 ld ⊢
    refine Cal.mk (lcpNew_v hD DrG.nil ld) ?_
    rintro _ s1 ⟨a, n, q, rfl, I1, T1, sa, sn, sq⟩ -
    have S0 := T0.sz
    obtain ⟨x, r, h0, h1, hw, hg, hgd, e1, e2, e3, e4, e5⟩ := start_new DrG.nil
    simp (config := {maxSteps := 3000000}) only [go_sem, Nat.reduceEqDiff, ↓reduceIte]
    refine Cal.mk (lcpStart_v I1 (Int.le_refl 0) (by decide)) ?_
    rintro r2 s2 ⟨tv, rfl, R2, I2, T2, l2⟩ -
    have W1 := weak_tnF hlt (T0.weak hlt) T1 (by simp only [List.mem_singleton]; omega)
    have hge : ∀ b ∈ n :: [q, d], st.sz ≤ b := by simp only [List.mem_cons, List.not_mem_nil, or_false]; omega
    have W2 := weak_tnF hlt W1 T2 hge
    have L2 := T2.lt
    generalize ((lcpNew []).start lcpU 0).1 = N2 at I2 e2 e3
    clear R2 T2 I1
    simp (config := {maxSteps := 3000000}) only [go_sem]
    refine run_loop [6, 8, 9, 10, 30, 32, 34, 35, 37, 39, 40, 44, 46, 47, 48, 51, 52, 53, 54, 55, 56, 57, 59] (fun B s => ∃ (k : Nat) (most : Int) (N : Neg Lr), B 9 = .sc (.int .i64 k) ∧ B 8 = .sc (.int .i64 most) ∧ LcpI a n q d k s N ∧ st.weak s ∧ s.Lt ∧ (k = 0 ∧ most = 1500 ∧ N.s = 6 ∧ N.r = r ∨ k = 1 ∧ most = mru ∧ N.r.g.mru = mru ∨ k = 2)) (fun B _ => 2 - vnat (B 9)) rfl ?_ ?_
    · exact ⟨0, 1500, N2, rfl, rfl, I2, W2, L2, .inl ⟨rfl, rfl, e3, e2⟩⟩
    · rintro B s ⟨k, most, N, h9, h8, I, W, hL, hk⟩
      have k2 : k ≤ 2 := by omega
      by_cases ck : k = 2
      · subst ck
        simp (config := {maxSteps := 3000000}) only [go_sem, Nat.reduceSub, ↓reduceIte, Nat.reduceBEq, h9, decide_eq_false (show ¬ ((2 : Nat) : Int) < 2 by decide)]
        refine Cal.mk lcpAlive_v ?_
        rintro _ _ ⟨rfl, rfl⟩ -
        simp (config := {maxSteps := 3000000}) only [go_sem, ↓reduceIte]
        exact ⟨_, _, Wk.refl _, W, rfl, rfl⟩
      · have hm : 4 ≤ most ∧ most ≤ 1500 ∧ mostL N.r.g = most := by
          rcases hk with ⟨_, rfl, _, e⟩ | ⟨_, rfl, e⟩ | e
          · exact ⟨by decide, by decide, by rw [e, hg]; rfl⟩
          · refine ⟨by omega, by omega, ?_⟩
            rw [mostL, e, if_neg (by omega)]; omega
          · exact absurd e ck
        simp (config := {maxSteps := 3000000}) only [go_sem, Nat.reduceEqDiff, ↓reduceIte, Nat.reduceBEq, h9, decide_eq_true (show (k : Int) < 2 by omega), c65]
        refine Cal.mk (rPut_v (L := []) (tk := .nil) (n := proto) (size := 2) IsB.nil' (by simp) (by omega) (by omega)) ?_
        rintro r3 s3 ⟨o3, n3⟩ -
        rw [if_neg (by decide), List.nil_append] at o3
        have R3 : RO 1 s s3 r3 (bs (beL proto 2)) := ⟨o3, n3.weak, n3.lt, n3.tok⟩
        obtain ⟨t3, rfl⟩ := R3.sl
        simp (config := {maxSteps := 3000000}) only [go_sem, Nat.reduceEqDiff, ↓reduceIte, Nat.reduceBEq]
        refine App.mk (bytes := 1) (ys := bs D) R3.own (allSz_bs _) (by simp only [bs_len, beL_len]; unfold maxLen; omega) (by simp only [bs_len, beL_len]; omega) ?_
        intro r4 s4 k3 k4
        have R4 := R3.app k3 k4
        rw [bs_append] at R4
        obtain ⟨t4, rfl⟩ := R4.sl
        have T4 : Tn [] s s4 := Tn.ofWeak R4.weak R4.lt
        have I4 := I.tn T4
        simp (config := {maxSteps := 3000000}) only [go_sem, Nat.reduceEqDiff, Int.reduceNeg, ↓reduceIte, Nat.reduceBEq, h8]
        repeat (apply And.intro; focus (first | omega | (simp; done)))
        refine Cal.mk (r15First_v (by simp only [List.length_append, beL_len]; omega)) ?_
        rintro _ _ ⟨rfl, rfl⟩ -
        simp (config := {maxSteps := 3000000}) only [go_sem, Nat.reduceEqDiff, ↓reduceIte, Nat.reduceBEq]
        refine Cal.mk (lcpReject_v I4 p0 p1 (by omega)) ?_
        rintro _ _ ⟨rfl, rfl⟩ -
        rw [hm.2.2]
        have hw2 : IsB ((beL proto 2 ++ D).take (most - 4).toNat) := ((beL_isB proto 2).append hB).take _
        simp (config := {maxSteps := 3000000}) only [go_sem, Nat.reduceEqDiff, Nat.reduceAdd, Nat.reduceLT, Nat.reduceLeDiff, ↓reduceIte, rejP, Ctl.v]
        refine Cal.mk (r15Same_v (p := rejP 7 proto D most) (q := ⟨8, 7, (beL proto 2 ++ D).take (most - 4).toNat⟩) (tk := .no) (tk2 := .no) hw2 hw2) ?_
        rintro _ _ ⟨rfl, rfl⟩ -
        have heq : decide (rejP 7 proto D most = ⟨8, 7, (beL proto 2 ++ D).take (most - 4).toNat⟩) = true := decide_eq_true rfl
        simp (config := {maxSteps := 3000000}) only [go_sem, ↓reduceIte, reduceCtorEq, Nat.reduceBEq, heq, Bool.not_true, c64]
        refine Cal.mk (rPut_v (L := []) (tk := .nil) (n := mru) (size := 2) IsB.nil' (by simp) (by omega) (by omega)) ?_
        rintro r5 s5 ⟨o5, n5⟩ -
        rw [if_neg (by decide), List.nil_append] at o5
        obtain ⟨t5, rfl⟩ := own_sl o5
        simp (config := {maxSteps := 3000000}) only [go_sem, Nat.reduceAdd, Nat.reduceLT, Nat.reduceLeDiff, Int.reduceToNat, ↓reduceIte]
        refine Bo.own (by simp [allLen, V.cells]) ?_
        intro g hgz
        have W6 : s.weak (s5.use g 1) := weak_use (weak_tr R4.weak n5.weak) (by have := R4.weak.sz; have := n5.weak.sz; omega)
        have L6 : (s5.use g 1).Lt := n5.lt.use
        have T6 : Tn [] s (s5.use g 1) := Tn.ofWeak W6 L6
        have I6 := I.tn T6
        simp (config := {maxSteps := 3000000}) only [go_sem, ↓reduceIte]
        generalize s5.use g 1 = s6 at W6 L6 T6 I6 ⊢
        refine Cal.mk (optBuild_v (l := [(1, beL mru 2)]) (.one (by show (0 : Int) ≤ 1; decide) (by show (1 : Int) < 256; decide) (beL_isB _ _) (by rw [beL_len]; decide)) (by simp)) ?_
        rintro _ _ ⟨rfl, rfl⟩ -
        simp (config := {maxSteps := 3000000}) only [go_sem, Nat.reduceEqDiff, Nat.reduceAdd, Nat.reduceLT, Nat.reduceLeDiff, ↓reduceIte, Nat.reduceBEq]
        have hgood : Ctl.Good ⟨1, 1, buildO [(1, beL mru 2)]⟩ := ⟨(by decide : (0 : Int) ≤ 1), (by decide : (1 : Int) < 256), (by decide : (0 : Int) ≤ 1), (by decide : (1 : Int) < 256), buildO_isB (.one (by show (0 : Int) ≤ 1; decide) (by show (1 : Int) < 256; decide) (beL_isB _ _) (by rw [beL_len]; decide)), by have := buildO_len [(1, beL mru 2)]; simp only [List.length_cons, List.length_nil] at this ⊢; omega⟩
        refine Cal.mk (lcpTake_v I6 (by omega) (by decide) (by decide) hgood (tp := .no)) ?_
        rintro r7 s7 ⟨t7, rfl, R7, I7, T7, l7⟩ -
        simp (config := {maxSteps := 3000000}) only [go_sem, Nat.reduceEqDiff, Int.reduceNeg, ↓reduceIte, reduceCtorEq, Nat.reduceBEq, h9]
        have e7 : (mru : Int) = mru := rfl
        have W7 := weak_tnF hlt (weak_tr W W6) T7 hge
        have hnext : k + 1 = 1 ∧ mru = mru ∧ (lcpTake N 1 ⟨1, 1, buildO [(1, beL mru 2)]⟩).1.r.g.mru = mru ∨ k + 1 = 2 := by
          rcases hk with ⟨e, _, e3, e⟩ | ⟨e, _⟩ | e
          · exact .inl ⟨by omega, rfl, takes_mru e3 (by rw [e, hgd]) (by omega) (by omega)⟩
          · exact .inr (by omega)
          · exact absurd e ck
        repeat (apply And.intro; focus (first | omega | (simp; done)))
        exact ⟨⟨k + 1, mru, _, by simp, rfl, I7, W7, T7.lt, .inr hnext⟩, by omega⟩
set_option maxRecDepth 100000 in
set_option maxHeartbeats 4000000 in
theorem lcpLoops_v {L : List Int} {tk : Tk} (hL : ∀ x ∈ L, 0 ≤ x ∧ x < 4294967296) : VCalls Try.prog 3 [.sl tk (w4s L)] st fun r s => r = .sc (.bool true) ∧ st = s := by
  refine vcalls_enterq pc3 (Nat.le_of_ble_eq_true rfl) rfl fun hwf hok => ?_
  show Run _ Pc3.body (.fin (finP Pc3.res _)) _ _
  unfold Pc3
  have hlt := hwf.lt
  by_cases c : L.length ≤ 64
  rotate_left
  · simp (config := {maxSteps := 3000000}) only [go_sem, ↓reduceIte, reduceCtorEq, w4s_len, decide_eq_true (show (64 : Int) < (L.length : Int) by omega)]
    exact ⟨_, _, Wk.refl _, hwf.weak, rfl, rfl⟩
  · have hG : DrG L 0 := ⟨hL, by omega, by decide, by decide⟩
    simp (config := {maxSteps := 3000000}) only [go_sem, ↓reduceIte, reduceCtorEq, w4s_len, decide_eq_false (show ¬ (64 : Int) < (L.length : Int) by omega)]
    refine Cal.mk (law37Draws_v c) ?_
    rintro _ s0 ⟨d, rfl, hD, hd, W0, L0⟩ -
    have ld : d < s0.sz := by obtain ⟨tk, hb⟩ := hD; exact L0.box d _ hb
    simp (config := {maxSteps := 3000000}) only [go_sem, ↓reduceIte]
    refine Cal.mk (lcpNew_v hD hG ld) ?_
    rintro _ s1 ⟨a, n, q, rfl, I1, T1, sa, sn, sq⟩ -
    have S0 := W0.sz
    obtain ⟨x, r, h0, h1, hw, hg, hgd, e1, e2, e3, e4, e5⟩ := start_new hG
    simp (config := {maxSteps := 3000000}) only [go_sem, Nat.reduceEqDiff, ↓reduceIte]
    refine Cal.mk (lcpStart_v I1 (Int.le_refl 0) (by decide)) ?_
    rintro r2 s2 ⟨tv, rfl, R2, I2, T2, l2⟩ -
    have W1 := weak_tnF hlt W0 T1 (by simp only [List.mem_singleton]; omega)
    have hge : ∀ b ∈ n :: [q, d], st.sz ≤ b := by simp only [List.mem_cons, List.not_mem_nil, or_false]; omega
    have W2 := weak_tnF hlt W1 T2 hge
    have L2 := T2.lt
    rw [e5] at R2 ⊢
    generalize ((lcpNew L).start lcpU 0).1 = N2 at I2 e2 e3 e4
    have hP : Ph x 0 N2 [⟨1, 1, reqB x⟩] := .a _ e3 e4 (by rw [e2, hw]) (by rw [e2, hgd])
    clear T2 I1
    simp (config := {maxSteps := 3000000}) only [go_sem, ↓reduceIte, outV]
    refine run_loop [2, 4, 5, 6, 19, 21, 22, 23, 24, 26, 28, 29, 30, 32, 33, 35, 36, 37, 38, 40] (fun B s => ∃ (i : Nat) (N : Neg Lr) (P : List Ctl) (tv : Tk), B 5 = .sc (.int .i64 i) ∧ B 4 = .sl tv (ctls P) ∧ LcpI a n q d i s N ∧ st.weak s ∧ s.Lt ∧ Ph x i N P) (fun B _ => 4 - vnat (B 5)) rfl ?_ ?_
    · exact ⟨0, N2, _, tv, rfl, rfl, I2, W2, L2, hP⟩
    · rintro B s ⟨i, N, P, tv, h5, h4, I, W, hl, hp⟩
      have hi := hp.len
      have d60 : decide ((i : Int) < 60) = true := decide_eq_true (by omega)
      by_cases c4 : i = 4
      · obtain ⟨rfl, hs⟩ := hi.2 c4
        simp (config := {maxSteps := 3000000}) only [go_sem, Nat.reduceEqDiff, ↓reduceIte, Nat.reduceBEq, h5, h4, d60, ctls_len, List.length_nil, decide_eq_false (show ¬ (0 : Int) < ((0 : Nat) : Int) by decide)]
        refine Cal.mk (lcpState_v I) ?_
        rintro _ _ ⟨rfl, rfl⟩ -
        simp (config := {maxSteps := 3000000}) only [go_sem, Int.reduceLE, ↓reduceIte, hs]
        refine Cal.mk lcpAlive_v ?_
        rintro _ _ ⟨rfl, rfl⟩ -
        simp (config := {maxSteps := 3000000}) only [go_sem, Nat.reduceEqDiff, ↓reduceIte]
        exact ⟨_, _, Wk.refl _, W, rfl, rfl⟩
      · obtain ⟨p, X, rfl, pg, hX, hn, hs9⟩ := hp.next h0 h1 (by omega)
        have g0 : (ctls [p])[0]? = some (.agg [.sc (.int .u8 p.code), .sc (.int .u8 p.id), .sl .no (bs p.data)]) := rfl
        have dr : (ctls [p]).drop 1 = [] := rfl
        simp (config := {maxSteps := 3000000}) only [go_sem, Nat.reduceEqDiff, Nat.reduceAdd, Nat.reduceLT, Nat.reduceLeDiff, Int.reduceToNat, Int.reduceLE, ↓reduceIte, Nat.reduceBEq, h5, h4, d60, ctls_len, List.length_cons, List.length_nil, decide_eq_true (show (0 : Int) < ((1 : Nat) : Int) by decide), g0, dr]
        refine ⟨allSz_ctls _, Bo.own (by simp [allLen]) ?_⟩
        intro g hgz
        have R0 : RO 3 s (s.use g 0) (.sl (.own g 3) (ctls [])) (ctls []) := RO.use0' hl.weak hl hgz
        simp (config := {maxSteps := 3000000}) only [go_sem, Nat.reduceEqDiff, ↓reduceIte, List.length_nil]
        refine App.mk (bytes := 32) (l := ctls []) (ys := ctls []) R0.own (allSz_ctls _) (by simp only [ctls_len, List.length_nil]; unfold maxLen; omega) (by simp only [ctls_len, List.length_nil]; omega) ?_
        intro r3 s3 k3 k4
        have R3 := R0.app k3 k4
        rw [ctls_append, List.append_nil] at R3
        obtain ⟨t3, rfl⟩ := R3.sl
        have I3 := I.tn (Tn.ofWeak R3.weak R3.lt)
        simp (config := {maxSteps := 3000000}) only [go_sem, Nat.reduceEqDiff, ↓reduceIte, Nat.reduceBEq]
        refine Cal.mk (lcpTake_v I3 (by omega) (by decide) (by decide) pg (tp := .no)) ?_
        rintro r4 s4 ⟨t4, rfl, R4, I4, T4, l4⟩ -
        rw [← hX] at R4 I4 l4 ⊢
        have W4 : st.weak s4 := weak_tnF hlt (weak_tr W R3.weak) T4 hge
        have R34 : RO 3 st.bare s4 (.sl t3 (ctls [])) (ctls []) := ⟨own_tn R3.own T4, bare_weak W4.sz, T4.lt, fun g' k l' e => Nat.le_trans W.sz (R3.tok g' k l' e)⟩
        simp (config := {maxSteps := 3000000}) only [go_sem, Nat.reduceEqDiff, ↓reduceIte, outV]
        refine App.mk (bytes := 32) (l := ctls []) (ys := ctls X.2.P) R34.own (allSz_ctls _) (by simp only [ctls_len, List.length_nil]; unfold maxLen; omega) (by simp only [ctls_len, List.length_nil]; omega) ?_
        intro r5 s5 k5 k6
        have R5 := R34.app k5 k6
        rw [ctls_append, List.nil_append] at R5
        obtain ⟨t5, rfl⟩ := R5.sl
        have I5 := I4.app R34 k6 R5.lt
        have W5 : st.weak s5 := app_keeps k6 W4 (fun g k l e => R34.tok g k l e)
        simp (config := {maxSteps := 3000000}) only [go_sem, Nat.reduceEqDiff, ↓reduceIte, Nat.reduceBEq]
        refine Cal.mk (lcpOpen_v I5) ?_
        rintro _ _ ⟨rfl, rfl⟩ -
        simp (config := {maxSteps := 3000000}) only [go_sem, Nat.reduceEqDiff, Int.reduceNeg, ↓reduceIte, Nat.reduceBEq, decide_eq_false hs9, h5]
        repeat (apply And.intro; focus (first | omega | (simp; done)))
        exact ⟨⟨i + 1, _, _, t5, by simp, rfl, I5, W5, R5.lt, hn⟩, by omega⟩
end
end
section
open Go Go.RowKit

/-- The call hands back v, and nothing that was there has turned. -/
def Pure (w : World) (v : Value) (e : Ending) (w' : World) : Prop := e = .returned v ∧ Below w.heap.size w w'

theorem ret_int {k : IntKind} {a b : Int} (h : a = b) : Ending.returned (.int k a) = .returned (.int k b) := by rw [h]
theorem ret_bool {a b : Bool} (h : a = b) : Ending.returned (.bool a) = .returned (.bool b) := by rw [h]
theorem bcell {W w1 : World} (hb : Below W.heap.size W w1) : (∀ b o, b < W.heap.size → w1.cell? ⟨b, o, none⟩ = W.cell? ⟨b, o, none⟩) ∧ (∀ b o, b < W.heap.size → w1.frozen? ⟨b, o, none⟩ = W.frozen? ⟨b, o, none⟩) :=
  ⟨fun b o h => hb.cell (p := ⟨b, o, none⟩) h, fun b o h => hb.frozen (p := ⟨b, o, none⟩) h⟩
theorem lt_of_cell {w : World} {a : Addr} {v : Value} (h : w.cell? a = some v) : a.block < w.heap.size := by
  rcases Nat.lt_or_ge a.block w.heap.size with hlt | hge
  · exact hlt
  · simp [World.cell?, Array.getElem?_eq_none hge] at h
theorem keep_cell {w w1 : World} {a : Addr} {v : Value} (h : w.cell? a = some v) (hb : Below w.heap.size w w1) : w1.cell? a = some v := (hb.cell (lt_of_cell h)).trans h
theorem below_on {a w w1 : World} (h : Below a.heap.size a w) (h1 : Below w.heap.size w w1) : Below a.heap.size a w1 := h.trans (h1.mono h.size)
theorem below_new {w w1 : World} {o : Obj} (h1 : Below (w.alloc o).heap.size (w.alloc o) w1) : Below w.heap.size w w1 := below_on ((Below.refl _ _).alloc (Nat.le_refl _) _) h1

/-! ### A region that draws its order, whose operations read and whose callees at most make new memory: one walk, in the order of the text -/

structure More where
  blocks : List Obj
  count : Nat
instance : Nonempty More := ⟨⟨[], 0⟩⟩

/-- The world w with new blocks behind, at another count of draws. -/
def ext (w : World) (e : More) : World := { w with heap := w.heap ++ e.blocks.toArray, drawn := e.count }
theorem below_ext (w : World) (e : More) : Below w.heap.size w (ext w e) :=
  ⟨rfl, rfl, rfl, by simp [ext], fun k hk => by simp [ext, Array.getElem?_append, hk]⟩
theorem ext_of_below {w w' : World} (h : Below w.heap.size w w') : ∃ e, w' = ext w e := by
  refine ⟨⟨(w'.heap.toList.drop w.heap.size), w'.drawn⟩, ?_⟩
  obtain ⟨h1, h2, h3, h4, h5⟩ := h
  cases w with | mk hp tp dr os out =>
  cases w' with | mk hp' tp' dr' os' out' =>
  simp only at h1 h2 h3 h4 h5
  subst h1 h2 h3
  simp only [ext, World.mk.injEq, and_true]
  apply Array.ext_getElem?
  intro i
  rw [Array.getElem?_append]
  split
  · rename_i hi; exact h5 i hi
  · rename_i hi
    simp only [List.getElem?_toArray, List.getElem?_drop, Array.getElem?_toList]
    congr 1
    omega
theorem calm_of {P : Program} {f : FuncId} {args : Array Value} {w : World} {e : More} {v : Value} (h : Calls P f args (ext w e) (Pure (ext w e) v)) :
    Calls P f args (ext w e) fun en w'' => en = .returned v ∧ ∃ e2, w'' = ext w e2 :=
  h.mono fun _ _ ⟨he, hb⟩ => ⟨he, ext_of_below (below_on (below_ext w e) hb)⟩
theorem calm_same {P : Program} {f : FuncId} {args : Array Value} {w : World} {e : More} {v : Value} (h : Calls P f args (ext w e) fun en w' => en = .returned v ∧ ext w e = w') :
    Calls P f args (ext w e) fun en w'' => en = .returned v ∧ ∃ e2, w'' = ext w e2 :=
  h.mono fun _ _ ⟨he, hb⟩ => ⟨he, e, hb.symm⟩

/-- The cells of a list are there. -/
def Holds (w : World) (L : List (Addr × Value)) : Prop := ∀ p ∈ L, w.cell? p.1 = some p.2
theorem Holds.keep {w w1 : World} {L : List (Addr × Value)} (h : Holds w L) (hb : Below w.heap.size w w1) : Holds w1 L := fun p hp => keep_cell (h p hp) hb
theorem Holds.cons {w : World} {a : Addr} {v : Value} {L : List (Addr × Value)} : Holds w ((a, v) :: L) ↔ w.cell? a = some v ∧ Holds w L := by
  simp [Holds]
theorem Holds.nil {w : World} : Holds w [] ↔ True := by simp [Holds]

theorem Holds.append {w : World} {L M : List (Addr × Value)} (h : Holds w L) (h' : Holds w M) : Holds w (L ++ M) := by
  intro p hp
  rcases List.mem_append.1 hp with hp | hp
  · exact h p hp
  · exact h' p hp

/-- The cells cs, one behind the other, from place o of block b on. -/
def elemL (b o : Nat) : List Value → List (Addr × Value)
  | [] => []
  | v :: cs => (⟨b, o, none⟩, v) :: elemL b (o + 1) cs
theorem elemL_holds {w : World} {b : Nat} : ∀ (cs : List Value) (o : Nat), (∀ j v, cs[j]? = some v → w.cell? ⟨b, o + j, none⟩ = some v) → Holds w (elemL b o cs)
  | [], _, _ => by simp [elemL, Holds]
  | v :: cs, o, h => by
    rw [elemL, Holds.cons]
    refine ⟨by simpa using h 0 v rfl, elemL_holds cs (o + 1) fun j u hu => ?_⟩
    rw [show o + 1 + j = o + (j + 1) from by omega]
    exact h (j + 1) u (by simpa using hu)
/-- A new block holds what it was made of. -/
theorem elemL_new (w : World) (cs : Array Value) (t : TypeId) : Holds (w.alloc (.cells cs t)) (elemL w.heap.size 0 cs.toList) :=
  elemL_holds _ _ fun j v hv => by
    simp only [World.cell?, World.alloc, Nat.zero_add, Array.getElem?_push_size]
    simpa using hv

/-- A slice whose elements (each of 'size' cells) are these. -/
def Elems (w : World) (A : Option Addr) (size : Nat) (xs : List (List Value)) : Prop :=
  ∀ i cs, xs[i]? = some cs → ∃ b o, A = some ⟨b, o, none⟩ ∧ Holds w (elemL b (o + i * size) cs)
theorem Elems.keep {w w1 : World} {A : Option Addr} {size : Nat} {xs : List (List Value)} (h : Elems w A size xs) (hb : Below w.heap.size w w1) : Elems w1 A size xs := fun i cs hi => by
  obtain ⟨b, o, hA, hh⟩ := h i cs hi
  exact ⟨b, o, hA, hh.keep hb⟩

/-- The place of the first that is so; below 0: there is none. -/
def firstI {α : Type} (h : α → Bool) (l : List α) : Int := match l.findIdx? h with | some i => (i : Int) | none => -1
theorem firstI_at {α : Type} {h : α → Bool} {l : List α} {k : Nat} (hk : k < l.length) (hf : ∀ j, j < k → ∀ x, l[j]? = some x → h x = false) (ht : h l[k] = true) : firstI h l = k := by
  have : l.findIdx? h = some k := by
    rw [List.findIdx?_eq_some_iff_getElem]
    refine ⟨hk, ht, fun j hj => ?_⟩
    have := hf j hj l[j] (List.getElem?_eq_getElem (by omega))
    simp [this]
  rw [firstI, this]
theorem firstI_none {α : Type} {h : α → Bool} {l : List α} (hf : ∀ (j : Nat) (x : α), l[j]? = some x → h x = false) : firstI h l = -1 := by
  have : l.findIdx? h = none := by
    rw [List.findIdx?_eq_none_iff]
    intro x hx
    obtain ⟨j, hj, rfl⟩ := List.mem_iff_getElem.1 hx
    exact hf j _ (List.getElem?_eq_getElem hj)
  rw [firstI, this]
theorem firstI_cases {α : Type} (h : α → Bool) (l : List α) : firstI h l = -1 ∨ ∃ k : Nat, ∃ hk : k < l.length, firstI h l = k ∧ h l[k] = true := by
  unfold firstI
  cases e : l.findIdx? h with
  | none => exact .inl rfl
  | some i =>
    rw [List.findIdx?_eq_some_iff_getElem] at e
    obtain ⟨hi, ht, _⟩ := e
    exact .inr ⟨i, hi, rfl, ht⟩

theorem wp_region_calm {P : Program} {id : Nat} {Q : Exit → Act → World → Prop} {a : Act} {w : World} {l : List Oper} (L : List (Addr × Value)) (hS : Holds w L) (hm : P.follows .mixedOrders = true) (hB : Region.lexB .any l.toArray = true)
    (h : (∀ e, Holds (ext w e) L) → wpQuiet P l.toArray (fun w' => ∃ e, w' = ext w e) (fun a' => ∀ w', Below w.heap.size w w' → Holds w' L → Q .normal a' w') l a) : (Code.region id l.toArray true).wp P Q a w := by
  refine wp_region_quiet (C := fun w' => ∃ e, w' = ext w e) hm hB ⟨⟨[], w.drawn + 1⟩, by simp [ext]⟩ ?_
  have h1 := h fun e => hS.keep (below_ext w e)
  have h2 : ∀ (l : List Oper) (ops : Array Oper) (Q1 Q2 : Act → Prop) (a : Act), (∀ a, Q1 a → Q2 a) → wpQuiet P ops (fun w' => ∃ e, w' = ext w e) Q1 l a → wpQuiet P ops (fun w' => ∃ e, w' = ext w e) Q2 l a := by
    intro l
    induction l with
    | nil => intro _ _ _ a hq h; exact hq _ h
    | cons o l ih =>
      intro ops Q1 Q2 a hq h
      simp only [wpQuiet] at h ⊢
      split at h
      · rename_i hw; rw [if_pos hw]; exact Oper.quiet_mono (fun a ha => ih ops Q1 Q2 a hq ha) h
      · rename_i hw; rw [if_neg hw]; exact ih ops Q1 Q2 _ hq h
  have h3 := h2 l l.toArray _ (fun a' => ∀ w', (∃ e, w' = ext w e) → Q .normal a' w') a (fun a ha w' ⟨e, he⟩ => by subst he; exact ha _ (below_ext w e) (hS.keep (below_ext w e))) h1
  simpa using h3
end
section
open Go Go.RowKit Go.ChangeShapes Go.WideShapes Go.Deep

section
variable {H : Type} {enc : TypeId × Value → H} {P : Program} {w : World} {base : Nat} {spare : Nat → Bool} {held : Bool} {fuel : Nat} {t : TypeId} {cs : List Value} {x : DataW H × List MemPlace}

theorem trod_len {fs : Array Field} (ht : P.underlying t = some (.struct fs)) (h : DataW.trod enc P w base spare held fuel t cs = some x) : cs.length = P.cellsOf t := by
  obtain ⟨_, _, _, _, hl, _⟩ := DataW.trod_struct ht h
  exact hl
theorem trod_field {fs : Array Field} (ht : P.underlying t = some (.struct fs)) (h : DataW.trod enc P w base spare held fuel t cs = some x) (j : Nat) (f : Field) (hj : fs[j]? = some f) :
    ∃ n y, DataW.trod enc P w base spare held n f.type ((cs.drop f.offset).take (P.cellsOf f.type)) = some y := by
  obtain ⟨xs, n, _, _, _, hlen, hf⟩ := DataW.trod_struct ht h
  have h1 := hf j f hj
  have hjl : j < xs.length := by rw [hlen]; exact (Array.getElem?_eq_some_iff.1 hj).1
  exact ⟨n, xs[j], h1.trans (List.getElem?_eq_getElem hjl)⟩
theorem take_one {cs : List Value} {o : Nat} {v : Value} (h : (cs.drop o).take 1 = [v]) : cs[o]? = some v := by
  have : ((cs.drop o).take 1)[0]? = some v := by rw [h]; rfl
  simpa using this
theorem field_int {fs : Array Field} (ht : P.underlying t = some (.struct fs)) (h : DataW.trod enc P w base spare held fuel t cs = some x) (j : Nat) (f : Field) (hj : fs[j]? = some f) {k : IntKind} (hu : P.underlying f.type = some (.int k)) (hc : P.cellsOf f.type = 1) :
    ∃ n, cs[f.offset]? = some (.int k n) ∧ (Lit.int k n).wf = true := by
  obtain ⟨n, y, hy⟩ := trod_field ht h j f hj
  rw [hc] at hy
  obtain ⟨m, e, _, hw⟩ := DataW.trod_int hu hy
  exact ⟨m, take_one e, hw⟩
theorem field_bool {fs : Array Field} (ht : P.underlying t = some (.struct fs)) (h : DataW.trod enc P w base spare held fuel t cs = some x) (j : Nat) (f : Field) (hj : fs[j]? = some f) (hu : P.underlying f.type = some .bool) (hc : P.cellsOf f.type = 1) :
    ∃ b, cs[f.offset]? = some (.bool b) := by
  obtain ⟨n, y, hy⟩ := trod_field ht h j f hj
  rw [hc] at hy
  obtain ⟨m, e, _⟩ := DataW.trod_bool hu hy
  exact ⟨m, take_one e⟩
theorem field_one {fs : Array Field} (ht : P.underlying t = some (.struct fs)) (h : DataW.trod enc P w base spare held fuel t cs = some x) (j : Nat) (f : Field) (hj : fs[j]? = some f) (hc : P.cellsOf f.type = 1) {v : Value} (hv : cs[f.offset]? = some v) :
    ∃ n y, DataW.trod enc P w base spare held n f.type [v] = some y := by
  obtain ⟨n, y, hy⟩ := trod_field ht h j f hj
  rw [hc] at hy
  have : (cs.drop f.offset).take 1 = [v] := by
    obtain ⟨hlt, e⟩ := List.getElem?_eq_some_iff.1 hv
    rw [List.drop_eq_getElem_cons hlt, e]
    rfl
  rw [this] at hy
  exact ⟨n, y, hy⟩
theorem field_sub {fs : Array Field} (ht : P.underlying t = some (.struct fs)) (h : DataW.trod enc P w base spare held fuel t cs = some x) (j : Nat) (f : Field) (hj : fs[j]? = some f) {n : Nat} (hc : P.cellsOf f.type = n) :
    ∃ m y, DataW.trod enc P w base spare held m f.type ((cs.drop f.offset).take n) = some y := by
  subst hc
  exact trod_field ht h j f hj

/-- A struct that comes by value: its cells. -/
theorem open_struct {r : Reach} {b0 : Nat} {v : Value} {d : DataW H} {p : List MemPlace} {fs : Array Field} (ht : P.underlying t = some (.struct fs)) (hv : Value.okWide P w r b0 t v) (h : DataW.Trod enc P w base spare held t v d p) :
    ∃ (cs : List Value) (fuel : Nat), v = .agg cs.toArray ∧ DataW.trod enc P w base spare held fuel t cs = some (d, p) := by
  obtain ⟨cs, rfl, _⟩ := okWide_struct ht hv
  obtain ⟨fuel, hf⟩ := h
  exact ⟨cs.toList, fuel, rfl, hf⟩

theorem list_of {α : Type} {Q : Nat → α → Prop} : ∀ (n : Nat), (∀ i, i < n → ∃ r, Q i r) → ∃ l : List α, l.length = n ∧ ∀ (i : Nat) (r : α), l[i]? = some r → Q i r
  | 0, _ => ⟨[], rfl, by simp⟩
  | n + 1, h => by
    obtain ⟨l, hl, hq⟩ := list_of n (fun i hi => h i (by omega))
    obtain ⟨r, hr⟩ := h n (by omega)
    refine ⟨l ++ [r], by simp [hl], fun i r' hi => ?_⟩
    rw [List.getElem?_append] at hi
    split at hi
    · exact hq i r' hi
    · rename_i hge
      obtain rfl : i = n := by
        have := (List.getElem?_eq_some_iff.1 hi).1
        simp at this
        omega
      simp [hl] at hi
      subst hi
      exact hr

/-- A slice that comes in: nil, or a row of elements each of which reads. -/
theorem open_elems {e : TypeId} {size : Nat} {v : Value} (ht : P.underlying t = some (.slice e)) (hc : P.cellsOf e = size) (hs : 0 < size) (h : DataW.trod enc P w base spare held fuel t [v] = some x) :
    ∃ A len cap, v = .slice A len cap ∧ len ≤ cap ∧ cap ≤ maxLen ∧ (A = none → len = 0 ∧ cap = 0) ∧
      ∀ i, i < len → ∃ b o cs n y, A = some ⟨b, o, none⟩ ∧ cs.length = size ∧ Holds w (elemL b (o + i * size) cs) ∧ DataW.trod enc P w base spare held n e cs = some y := by
  rcases open_slice ht h with ⟨e1, _⟩ | ⟨a, len, cap, m, n, D, Pl, e1, hb, hl, hm, hmm, _, hi⟩
  · cases e1
    exact ⟨none, 0, 0, rfl, by omega, by omega, fun _ => ⟨rfl, rfl⟩, fun i hi => by omega⟩
  · cases e1
    refine ⟨some a, len, cap, rfl, hl, hm, (by intro h; cases h), fun i hil => ?_⟩
    obtain ⟨cs', hcs, ht'⟩ := hi i (by rw [hmm]; split <;> omega)
    rw [hc] at hcs
    obtain ⟨_, hlen, hcell⟩ := World.cells?_some hcs
    have h0 := hcell 0 hs
    have hlt0 : 0 < cs'.length := by omega
    rw [List.getElem?_eq_getElem hlt0] at h0
    have hspot := World.cell?_spot h0
    obtain ⟨b, o, sp⟩ := a
    have hsp : sp = none := by
      by_cases hz : i * size = 0
      · simpa [Addr.add, hz] using hspot
      · rcases Nat.eq_zero_or_pos i with h0' | h0'
        · simp [h0'] at hz
        · obtain ⟨cs0, hcs0, _⟩ := hi 0 (by rw [hmm]; split <;> omega)
          rw [hc] at hcs0
          obtain ⟨_, hlen0, hcell0⟩ := World.cells?_some hcs0
          have h00 := hcell0 0 hs
          rw [List.getElem?_eq_getElem (by omega)] at h00
          simpa [Addr.add] using World.cell?_spot h00
    subst hsp
    refine ⟨b, o, cs', n, _, rfl, hlen, elemL_holds _ _ fun j u hu => ?_, ht'⟩
    have hj : j < size := by have := (List.getElem?_eq_some_iff.1 hu).1; omega
    have := (hcell j hj).trans hu
    have ea : ((⟨b, o, none⟩ : Addr).add (i * size)).add j = ⟨b, o + i * size + j, none⟩ := by
      unfold Addr.add
      by_cases h1 : i * size = 0 <;> by_cases h2 : j = 0 <;> simp [h1, h2]
    rwa [ea] at this
end
/-- An argument as the statement hands it in: a value of its type, that reads as data. (A structure, so that nothing looks into it.) -/
structure ArgIn {H : Type} (enc : TypeId × Value → H) (P : Program) (W : World) (base : Nat) (t : TypeId) (v : Value) (d : DataW H) (p : List MemPlace) : Prop where
  wide : Value.okWide P W .any base t v
  trod : DataW.Trod enc P W 0 (fun _ => true) true t v d p
section
variable {H : Type} {enc : TypeId × Value → H} {P : Program} {W : World} {base : Nat} {t : TypeId} {v : Value} {d : DataW H} {p : List MemPlace}
theorem ArgIn.slice {e : TypeId} (h : ArgIn enc P W base t v d p) (ht : P.underlying t = some (.slice e)) :
    ∃ A l c fuel, v = .slice A l c ∧ DataW.trod enc P W 0 (fun _ => true) true fuel t [.slice A l c] = some (d, p) := by
  obtain ⟨A, l, c, rfl⟩ := okWide_slice ht h.wide
  obtain ⟨fuel, hf⟩ := h.trod
  exact ⟨A, l, c, fuel, rfl, hf⟩
theorem ArgIn.struct {fs : Array Field} (h : ArgIn enc P W base t v d p) (ht : P.underlying t = some (.struct fs)) :
    ∃ (cs : List Value) (fuel : Nat), v = .agg cs.toArray ∧ DataW.trod enc P W 0 (fun _ => true) true fuel t cs = some (d, p) :=
  open_struct ht h.wide h.trod
theorem ArgIn.int {k : IntKind} (h : ArgIn enc P W base t v d p) (ht : P.underlying t = some (.int k)) : ∃ n, v = .int k n ∧ (Lit.int k n).wf = true := by
  obtain ⟨n, rfl, _, _, hw⟩ := open_int ht h.wide h.trod
  exact ⟨n, rfl, hw⟩
theorem ArgIn.bool (h : ArgIn enc P W base t v d p) (ht : P.underlying t = some .bool) : ∃ b, v = .bool b := by
  obtain ⟨b, rfl, _⟩ := open_bool ht h.wide h.trod
  exact ⟨b, rfl⟩
theorem ArgIn.string (h : ArgIn enc P W base t v d p) (ht : P.underlying t = some .string) : ∃ s : ByteArray, v = .string s ∧ s.size ≤ maxLen := by
  obtain ⟨s, rfl, _, _, hs⟩ := Go.ChangeMaps.open_string ht h.wide h.trod
  exact ⟨s, rfl, hs⟩
end
/-- A contract at arguments that are these. -/
theorem calls_args {P : Program} {f : FuncId} {args args' : Array Value} {W : World} {R : Ending → World → Prop} (h : Calls P f args W R) (e : args' = args) : Calls P f args' W R := e ▸ h
end
section
open Go Go.RowKit Go.ChangeShapes Go.WideShapes Go.Deep

theorem elemL_get {w : World} {b : Nat} : ∀ {cs : List Value} {o : Nat} (_ : Holds w (elemL b o cs)) {j : Nat} {v : Value} (_ : cs[j]? = some v), w.cell? ⟨b, o + j, none⟩ = some v
  | [], _, _, _, _, h => by simp at h
  | c :: cs, o, hh, j, v, h => by
    rw [elemL, Holds.cons] at hh
    cases j with
    | zero => simp at h; subst h; exact hh.1
    | succ j => rw [show o + (j + 1) = o + 1 + j by omega]; exact elemL_get hh.2 (by simpa using h)
/-- What a type is made of. -/
inductive Sh where
  | int (k : IntKind)
  | bool
  | str
  | sl (s : Sh)
  | st (l : List Sh)
def shFields (P : Program) (g : TypeId → Option Sh) : Nat → List Field → Option (List Sh)
  | _, [] => some []
  | o, f :: fs => if f.offset = o then do
      let s ← g f.type
      let l ← shFields P g (o + P.cellsOf f.type) fs
      pure (s :: l)
    else none
def fieldsEnd (P : Program) : Nat → List Field → Nat
  | o, [] => o
  | o, f :: fs => fieldsEnd P (o + P.cellsOf f.type) fs
def shOf (P : Program) : Nat → TypeId → Option Sh
  | 0, _ => none
  | n + 1, t => match P.underlying t with
    | some (.int k) => if P.cellsOf t = 1 then some (.int k) else none
    | some .bool => if P.cellsOf t = 1 then some .bool else none
    | some .string => if P.cellsOf t = 1 then some .str else none
    | some (.slice e) => if P.cellsOf t = 1 ∧ 0 < P.cellsOf e then (shOf P n e).map .sl else none
    | some (.struct fs) => if fieldsEnd P 0 fs.toList = P.cellsOf t then (shFields P (shOf P n) 0 fs.toList).map .st else none
    | some (.array k e) => if k * P.cellsOf e = P.cellsOf t then (shOf P n e).map fun s => .st (List.replicate k s) else none
    | _ => none
/-- An element as one value. -/
def Sh.pack : Sh → List V → V
  | .st _, ds => .agg ds
  | _, d :: _ => d
  | _, [] => .und
mutual
/-- Such values are of the shape. -/
inductive Sh.Has : Sh → List V → Prop where
  | int (k : IntKind) (n : Int) (h : (Lit.int k n).wf = true) : Sh.Has (.int k) [.sc (.int k n)]
  | bool (b : Bool) : Sh.Has .bool [.sc (.bool b)]
  | str (s : ByteArray) (h : s.size ≤ maxLen) : Sh.Has .str [.sc (.string s)]
  | sl (s : Sh) (l : List V) (h : Sh.Hasl s l) : Sh.Has (.sl s) [.sl .no l]
  | st (l : List Sh) (ds : List V) (h : Sh.Hass l ds) : Sh.Has (.st l) ds
inductive Sh.Hasl : Sh → List V → Prop where
  | nil (s : Sh) : Sh.Hasl s []
  | cons (s : Sh) (ds l : List V) (h : Sh.Has s ds) (k : Sh.Hasl s l) : Sh.Hasl s (s.pack ds :: l)
inductive Sh.Hass : List Sh → List V → Prop where
  | nil : Sh.Hass [] []
  | cons (s : Sh) (l : List Sh) (a b : List V) (h : Sh.Has s a) (k : Sh.Hass l b) : Sh.Hass (s :: l) (a ++ b)
end
theorem hasl_of {s : Sh} : ∀ (l : List V), (∀ d, d ∈ l → ∃ ds, d = s.pack ds ∧ Sh.Has s ds) → Sh.Hasl s l
  | [], _ => .nil s
  | d :: l, h => by
    obtain ⟨ds, rfl, hd⟩ := h d (List.mem_cons_self ..)
    exact .cons s ds l hd (hasl_of l fun e he => h e (List.mem_cons_of_mem _ he))
/-- The ghost that knows all of a world's cells. -/
def ghOf (w : World) : Gh := ⟨fun b o => w.cell? ⟨b, o, none⟩, fun _ => none⟩
/-- Values stand for these cells. -/
def RepR (G : Gh) (ds : List V) (cs : List Value) : Prop := ds.length = cs.length ∧ (∀ v ∈ cs, v.oneCell' = true) ∧ (∀ (i : Nat) (d : V) (v : Value), ds[i]? = some d → cs[i]? = some v → Rep1 G d v) ∧ ∀ d ∈ ds, d.cells = [d]
theorem RepR.one {G : Gh} {d : V} {v : Value} (h : Rep1 G d v) (h1 : v.oneCell' = true) (h2 : d.cells = [d]) : RepR G [d] [v] :=
  ⟨rfl, by simpa using h1, fun i d' v' hd hv => by
    cases i with
    | zero => simp at hd hv; subst hd hv; exact h
    | succ i => simp at hd, by simpa using h2⟩
theorem RepR.append {G : Gh} {a b : List V} {c d : List Value} (h : RepR G a c) (k : RepR G b d) : RepR G (a ++ b) (c ++ d) :=
  ⟨by simp [h.1, k.1], fun v hv => by
    rcases List.mem_append.1 hv with h' | h'
    · exact h.2.1 v h'
    · exact k.2.1 v h', fun i x v hx hv => by
    rw [List.getElem?_append] at hx hv
    rw [← h.1] at hv
    split at hx
    · rename_i hlt
      rw [if_pos hlt] at hv
      exact h.2.2.1 i x v hx hv
    · rename_i hlt
      rw [if_neg hlt] at hv
      exact k.2.2.1 _ x v hx hv, fun x hx => by
    rcases List.mem_append.1 hx with h' | h'
    · exact h.2.2.2 x h'
    · exact k.2.2.2 x h'⟩
theorem pack_cells {s : Sh} {ds : List V} (h : s.Has ds) (hc : ∀ d ∈ ds, d.cells = [d]) : (s.pack ds).cells = ds := by
  cases h with
  | int => rfl
  | bool => rfl
  | str => rfl
  | sl => rfl
  | st => rfl

section
variable {H : Type} {enc : TypeId × Value → H} {P : Program} {w : World} {base : Nat} {spare : Nat → Bool} {held : Bool}
theorem open_sh : ∀ (n : Nat) {t : TypeId} {s : Sh} (_ : shOf P n t = some s) {fuel : Nat} {cs : List Value} {x : DataW H × List MemPlace} (_ : DataW.trod enc P w base spare held fuel t cs = some x),
    ∃ ds, s.Has ds ∧ RepR (ghOf w) ds cs ∧ cs.length = P.cellsOf t
  | 0, _, _, hs, _, _, _, _ => by simp [shOf] at hs
  | n + 1, t, s, hs, fuel, cs, x, h => by
    unfold shOf at hs
    split at hs
    · rename_i k hu
      split at hs
      · rename_i hc
        cases hs
        obtain ⟨m, rfl, _, hw⟩ := DataW.trod_int hu h
        exact ⟨_, .int k m hw, .one (.sc _ rfl) rfl rfl, by rw [hc]; rfl⟩
      · cases hs
    · rename_i hu
      split at hs
      · rename_i hc
        cases hs
        obtain ⟨m, rfl, _⟩ := DataW.trod_bool hu h
        exact ⟨_, .bool m, .one (.sc _ rfl) rfl rfl, by rw [hc]; rfl⟩
      · cases hs
    · rename_i hu
      split at hs
      · rename_i hc
        cases hs
        obtain ⟨m, rfl, _, hm⟩ := DataW.trod_string hu h
        exact ⟨_, .str m hm, .one (.sc _ rfl) rfl rfl, by rw [hc]; rfl⟩
      · cases hs
    · rename_i e hu
      split at hs
      · rename_i hc
        obtain ⟨s', hs', rfl⟩ := Option.map_eq_some_iff.1 hs
        have hlen1 : ∃ v, cs = [v] := by
          rcases DataW.trod_slice hu h with ⟨rfl, _⟩ | ⟨a, len, cap, _, _, _, _, rfl, _⟩
          · exact ⟨_, rfl⟩
          · exact ⟨_, rfl⟩
        obtain ⟨v, rfl⟩ := hlen1
        obtain ⟨A, len, cap, rfl, hle, hm, hA, hel⟩ := open_elems hu rfl hc.2 h
        obtain ⟨l, hl, hq⟩ := list_of (Q := fun i (p : V × List Value) => ∃ b o, A = some ⟨b, o, none⟩ ∧ p.2.length = P.cellsOf e ∧ Holds w (elemL b (o + i * P.cellsOf e) p.2) ∧ ∃ ds, p.1 = s'.pack ds ∧ s'.Has ds ∧ RepR (ghOf w) ds p.2) len (fun i hi => by
          obtain ⟨b, o, cs', n', y, hA', hlen, hh, ht⟩ := hel i hi
          obtain ⟨ds, k1, k2, k3⟩ := open_sh n hs' ht
          exact ⟨(s'.pack ds, cs'), b, o, hA', hlen, hh, ds, rfl, k1, k2⟩)
        refine ⟨[.sl .no (l.map (·.1))], .sl s' _ (hasl_of _ fun d hd => ?_), .one ?_ rfl rfl, by rw [hc.1]; rfl⟩
        · obtain ⟨p, hp, rfl⟩ := List.mem_map.1 hd
          obtain ⟨i, hi, rfl⟩ := List.mem_iff_getElem.1 hp
          obtain ⟨_, _, _, _, _, ds, k1, k2, _⟩ := hq i _ (List.getElem?_eq_getElem hi)
          exact ⟨ds, k1, k2⟩
        · cases A with
          | none =>
            obtain ⟨rfl, rfl⟩ := hA rfl
            obtain rfl := List.eq_nil_of_length_eq_zero hl
            exact .nil .no (fun g k e => by cases e)
          | some a =>
            by_cases h0 : len = 0
            · subst h0
              obtain rfl := List.eq_nil_of_length_eq_zero hl
              exact .emp a cap hm
            · obtain ⟨b, o, _, _, _, hA', _⟩ := hel 0 (by omega)
              cases hA'
              have hlm : len = (l.map (·.1)).length := by simp [hl]
              rw [hlm]
              refine .sl .no _ b o (P.cellsOf e) cap (fun i j => ((l[i]?.map (·.2)).getD []).getD j default) (fun i d hd => ?_) (fun i j hi hj => ?_) (fun i j hi hj => ?_) (fun i d j c hd hc' => ?_) (by simp; omega) hm (by simp) (fun g k e => by cases e)
              · rw [List.getElem?_map] at hd
                obtain ⟨p, hp, rfl⟩ := Option.map_eq_some_iff.1 hd
                obtain ⟨_, _, _, k1, _, ds, k2, k3, k4⟩ := hq i p hp
                rw [k2, pack_cells k3 k4.2.2.2, k4.1, k1]
              · obtain ⟨p, hp⟩ : ∃ p, l[i]? = some p := ⟨_, List.getElem?_eq_getElem (by simpa using hi)⟩
                obtain ⟨b', o', e', k1, k0, ds, k2, k3, k4⟩ := hq i p hp
                cases e'
                have hj' : j < p.2.length := by omega
                simp only [hp, Option.map_some, Option.getD_some, ghOf]
                have := elemL_get k0 (List.getElem?_eq_getElem hj')
                rw [this]
                simp [List.getD, hj']
              · obtain ⟨p, hp⟩ : ∃ p, l[i]? = some p := ⟨_, List.getElem?_eq_getElem (by simpa using hi)⟩
                obtain ⟨b', o', e', k1, k0, ds, k2, k3, k4⟩ := hq i p hp
                have hj' : j < p.2.length := by omega
                simp only [hp, Option.map_some, Option.getD_some]
                simp only [List.getD, List.getElem?_eq_getElem hj', Option.getD_some]
                exact k4.2.1 _ (List.getElem_mem hj')
              · rw [List.getElem?_map] at hd
                obtain ⟨p, hp, rfl⟩ := Option.map_eq_some_iff.1 hd
                obtain ⟨_, _, _, k1, _, ds, k2, k3, k4⟩ := hq i p hp
                rw [k2, pack_cells k3 k4.2.2.2] at hc'
                have hj' : j < p.2.length := by rw [← k4.1]; exact (List.getElem?_eq_some_iff.1 hc').1
                simp only [hp, Option.map_some, Option.getD_some]
                simp only [List.getD, List.getElem?_eq_getElem hj', Option.getD_some]
                exact k4.2.2.1 j c _ hc' (List.getElem?_eq_getElem hj')
      · cases hs
    · rename_i fs hu
      split at hs
      · rename_i hend
        obtain ⟨ss, hss, rfl⟩ := Option.map_eq_some_iff.1 hs
        have hl := trod_len hu h
        have key : ∀ (gs : List Field) (j0 o : Nat) (ss : List Sh), (∀ i f, gs[i]? = some f → fs[j0 + i]? = some f) → shFields P (shOf P n) o gs = some ss → fieldsEnd P o gs = cs.length →
            ∃ ds, Sh.Hass ss ds ∧ RepR (ghOf w) ds (cs.drop o) := by
          intro gs
          induction gs with
          | nil =>
            intro j0 o ss _ hss he
            simp only [shFields, Option.some.injEq] at hss
            subst hss
            simp only [fieldsEnd] at he
            exact ⟨[], .nil, by rw [List.drop_of_length_le (by omega)]; exact ⟨rfl, by simp, by simp, by simp⟩⟩
          | cons f gs ih =>
            intro j0 o ss hg hss he
            simp only [shFields] at hss
            split at hss
            · rename_i hof
              simp only [Option.bind_eq_bind, Option.bind_eq_some_iff] at hss
              obtain ⟨s0, h0, ss', h1, h2⟩ := hss
              cases h2
              simp only [fieldsEnd] at he
              obtain ⟨ds', k1, k2⟩ := ih (j0 + 1) _ ss' (fun i g hi => by rw [show j0 + 1 + i = j0 + (i + 1) by omega]; exact hg (i + 1) g (by simpa using hi)) h1 he
              obtain ⟨m, y, hy⟩ := trod_field hu h j0 f (by simpa using hg 0 f rfl)
              rw [hof] at hy
              obtain ⟨ds0, q1, q2, q3⟩ := open_sh n h0 hy
              refine ⟨ds0 ++ ds', .cons _ _ _ _ q1 k1, ?_⟩
              have := q2.append k2
              rwa [← List.drop_drop, List.take_append_drop] at this
            · cases hss
        obtain ⟨ds, k1, k2⟩ := key fs.toList 0 0 ss (fun i f hf => by simpa using hf) hss (by rw [hend, hl])
        exact ⟨ds, .st _ _ k1, by simpa using k2, hl⟩
      · cases hs
    · rename_i k e hu
      split at hs
      · rename_i hend
        obtain ⟨s', hs', rfl⟩ := Option.map_eq_some_iff.1 hs
        obtain ⟨xs, m, _, _, hl, hxl, hget⟩ := DataW.trod_array hu h
        have key : ∀ (j i : Nat), i + j = k → ∃ ds, Sh.Hass (List.replicate j s') ds ∧ RepR (ghOf w) ds (cs.drop (i * P.cellsOf e)) := by
          intro j
          induction j with
          | zero =>
            intro i hij
            refine ⟨[], .nil, ?_⟩
            have : i = k := by omega
            subst this
            rw [List.drop_of_length_le (by omega)]
            exact ⟨rfl, by simp, by simp, by simp⟩
          | succ j ih =>
            intro i hij
            obtain ⟨ds', k1, k2⟩ := ih (i + 1) (by omega)
            have hlt : i < xs.length := by omega
            have hy := hget i (by omega)
            rw [List.getElem?_eq_getElem hlt] at hy
            obtain ⟨ds0, q1, q2, q3⟩ := open_sh n hs' hy
            refine ⟨ds0 ++ ds', .cons _ _ _ _ q1 k1, ?_⟩
            have := q2.append k2
            rwa [Nat.add_mul, Nat.one_mul, ← List.drop_drop, List.take_append_drop] at this
        obtain ⟨ds, k1, k2⟩ := key k 0 (by omega)
        exact ⟨ds, .st _ _ k1, by simpa using k2, hl⟩
      · cases hs
    · cases hs
theorem RepR.agg {G : Gh} {ds : List V} {cs : List Value} (h : RepR G ds cs) : Rep1 G (.agg ds) (.agg cs.toArray) :=
  .agg ds _ (by simp [h.1]) (fun i v hv => h.2.1 v (List.mem_of_getElem? (by simpa using hv))) (fun i c v hc hv => h.2.2.1 i c v hc (by simpa using hv))
theorem RepR.head {G : Gh} {d : V} {v : Value} (h : RepR G [d] [v]) : Rep1 G d v := h.2.2.1 0 d v rfl rfl
/-- An argument, as the statement hands it in, as an abstract value. -/
theorem arg_sh {W : World} (n : Nat) {t : TypeId} {s : Sh} {v : Value} {d : DataW H} {p : List MemPlace} (hs : shOf P n t = some s) (h : ArgIn enc P W base t v d p) : ∃ ds, s.Has ds ∧ Rep1 (ghOf W) (s.pack ds) v := by
  cases n with
  | zero => simp [shOf] at hs
  | succ n =>
  have hs0 := hs
  unfold shOf at hs
  split at hs
  · rename_i k hu
    split at hs
    · cases hs
      obtain ⟨m, rfl, hw⟩ := h.int hu
      exact ⟨_, .int k m hw, .sc _ rfl⟩
    · cases hs
  · rename_i hu
    split at hs
    · cases hs
      obtain ⟨b, rfl⟩ := h.bool hu
      exact ⟨_, .bool b, .sc _ rfl⟩
    · cases hs
  · rename_i hu
    split at hs
    · cases hs
      obtain ⟨b, rfl, hm⟩ := h.string hu
      exact ⟨_, .str b hm, .sc _ rfl⟩
    · cases hs
  · rename_i e hu
    split at hs
    · obtain ⟨s', hs', rfl⟩ := Option.map_eq_some_iff.1 hs
      obtain ⟨A, l, c, fuel, rfl, ht⟩ := h.slice hu
      obtain ⟨ds, k1, k2, _⟩ := open_sh _ hs0 ht
      refine ⟨ds, k1, ?_⟩
      cases k1 with
      | sl _ l' h' => exact k2.head
    · cases hs
  · rename_i fs hu
    split at hs
    · obtain ⟨ss, hss, rfl⟩ := Option.map_eq_some_iff.1 hs
      obtain ⟨cs, fuel, rfl, ht⟩ := h.struct hu
      obtain ⟨ds, k1, k2, _⟩ := open_sh _ hs0 ht
      exact ⟨ds, k1, k2.agg⟩
    · cases hs
  · rename_i k e hu
    split at hs
    · obtain ⟨s', hs', rfl⟩ := Option.map_eq_some_iff.1 hs
      have hwd := h.wide
      simp only [Value.okWide, hu] at hwd
      obtain ⟨cs, rfl, _⟩ := hwd
      obtain ⟨fuel, ht⟩ := h.trod
      obtain ⟨ds, k1, k2, _⟩ := open_sh _ hs0 ht
      have ha := k2.agg
      rw [show (Value.agg cs).cells.toList.toArray = cs from by simp [Value.cells]] at ha
      exact ⟨ds, k1, ha⟩
    · cases hs
  · cases hs
end
/-- The state that a law begins in. -/
def st0 (w : World) : St := ⟨fun _ => none, fun _ => none, w.heap.size⟩
theorem repW0 (w : World) : RepW (Fr.of w) (ghOf w) (st0 w) w :=
  ⟨fun _ _ _ h => h, fun _ _ h => (by cases h), fun _ _ h => (by cases h), fun _ _ h => (by cases h), Nat.le_refl _, Below.refl _ _, fun _ _ h => (by cases h)⟩
/-- A law's contract as its call. -/
theorem v_calls {P : Program} {f : FuncId} {args : List V} {us : Array Value} {w : World} (h : VCalls P f args (st0 w) fun r _ => r = .sc (.bool true)) (hl : us.size = args.length)
    (hr : ∀ (i : Nat) (d : V) (u : Value), args[i]? = some d → us[i]? = some u → Rep1 (ghOf w) d u) : Calls P f us w (Pure w (.bool true)) :=
  (h (Fr.of w) (ghOf w) w us (repW0 w) hl hr).mono fun e w' ⟨u, r, st', G', h1, h2, h3, _, h5⟩ => by
    subst h2
    cases h3
    exact ⟨h1, h5.bel⟩
theorem reps1 {G : Gh} {d : V} {u : Value} (h : Rep1 G d u) : ∀ (i : Nat) (x : V) (v : Value), [d][i]? = some x → #[u][i]? = some v → Rep1 G x v := fun i x v hx hv => by
  cases i with
  | zero => simp at hx hv; subst hx hv; exact h
  | succ i => simp at hx
theorem reps2 {G : Gh} {d e : V} {u q : Value} (h : Rep1 G d u) (k : Rep1 G e q) : ∀ (i : Nat) (x : V) (v : Value), [d, e][i]? = some x → #[u, q][i]? = some v → Rep1 G x v := fun i x v hx hv => by
  match i with
  | 0 => simp at hx hv; subst hx hv; exact h
  | 1 => simp at hx hv; subst hx hv; exact k
  | i + 2 => simp at hx
theorem reps3 {G : Gh} {d e f : V} {u q r : Value} (h : Rep1 G d u) (k : Rep1 G e q) (l : Rep1 G f r) : ∀ (i : Nat) (x : V) (v : Value), [d, e, f][i]? = some x → #[u, q, r][i]? = some v → Rep1 G x v := fun i x v hx hv => by
  match i with
  | 0 => simp at hx hv; subst hx hv; exact h
  | 1 => simp at hx hv; subst hx hv; exact k
  | 2 => simp at hx hv; subst hx hv; exact l
  | i + 3 => simp at hx
end
section
open Go Go.RowKit

theorem own : ownKnob Try.prog.godebug = none := by kernel_rfl
theorem laidOut : laidOutB Try.prog = true := by kernel_rfl
theorem u8_wf {n : Int} (h : (Lit.int .u8 n).wf = true) : 0 ≤ n ∧ n < 256 := by have := bounds_u8 h; omega
theorem hasl_bytes : ∀ {l : List V}, Sh.Hasl (.int .u8) l → ∃ L, IsB L ∧ l = bs L := by
  intro l
  induction l with
  | nil => exact fun _ => ⟨[], by intro x hx; (cases hx), rfl⟩
  | cons d l ih =>
    intro h
    cases h with
    | cons _ ds _ h k =>
      obtain ⟨L, hB, rfl⟩ := ih k
      cases h with
      | int _ n hw => exact ⟨n :: L, by
          intro x hx
          rcases List.mem_cons.1 hx with rfl | hx
          · exact u8_wf hw
          · exact hB x hx, rfl⟩
theorem has_bytes {ds : List V} (h : Sh.Has (.sl (.int .u8)) ds) : ∃ L, IsB L ∧ ds = [.sl .no (bs L)] := by
  cases h with
  | sl _ l h =>
    obtain ⟨L, hB, rfl⟩ := hasl_bytes h
    exact ⟨L, hB, rfl⟩
end
section
open Go Go.RowKit

theorem hass_nil {ds : List V} (h : Sh.Hass [] ds) : ds = [] := by cases h; rfl
theorem hass_int {k : IntKind} {l : List Sh} {ds : List V} (h : Sh.Hass (.int k :: l) ds) : ∃ n b, ds = .sc (.int k n) :: b ∧ (Lit.int k n).wf = true ∧ Sh.Hass l b := by
  cases h with
  | cons _ _ a b h0 h1 =>
    cases h0 with
    | int _ n hw => exact ⟨n, b, rfl, hw, h1⟩
theorem hass_bool {l : List Sh} {ds : List V} (h : Sh.Hass (.bool :: l) ds) : ∃ n b, ds = .sc (.bool n) :: b ∧ Sh.Hass l b := by
  cases h with
  | cons _ _ a b h0 h1 =>
    cases h0 with
    | bool n => exact ⟨n, b, rfl, h1⟩
theorem hass_str {l : List Sh} {ds : List V} (h : Sh.Hass (.str :: l) ds) : ∃ n b, ds = .sc (.string n) :: b ∧ n.size ≤ maxLen ∧ Sh.Hass l b := by
  cases h with
  | cons _ _ a b h0 h1 =>
    cases h0 with
    | str n hn => exact ⟨n, b, rfl, hn, h1⟩
theorem hass_st {m l : List Sh} {ds : List V} (h : Sh.Hass (.st m :: l) ds) : ∃ a b, ds = a ++ b ∧ Sh.Hass m a ∧ Sh.Hass l b := by
  cases h with
  | cons _ _ a b h0 h1 =>
    cases h0 with
    | st _ _ h => exact ⟨a, b, rfl, h, h1⟩
theorem has_st {l : List Sh} {ds : List V} (h : Sh.Has (.st l) ds) : Sh.Hass l ds := by
  cases h with
  | st _ _ h => exact h
/-- A slice of structs, element by element. -/
theorem hasl_map {α : Type} {s : Sh} (f : α → V) (ok : α → Prop) (h1 : ∀ ds, Sh.Has s ds → ∃ a, ok a ∧ s.pack ds = f a) : ∀ {l : List V}, Sh.Hasl s l → ∃ L : List α, (∀ a ∈ L, ok a) ∧ l = L.map f := by
  intro l
  induction l with
  | nil => exact fun _ => ⟨[], by intro x hx; (cases hx), rfl⟩
  | cons d l ih =>
    intro h
    cases h with
    | cons _ ds _ h k =>
      obtain ⟨L, hB, rfl⟩ := ih k
      obtain ⟨a, ha, e⟩ := h1 ds h
      exact ⟨a :: L, by
          intro x hx
          rcases List.mem_cons.1 hx with rfl | hx
          · exact ha
          · exact hB x hx, by rw [e]; rfl⟩
theorem has_slmap {α : Type} {s : Sh} {f : α → V} {ok : α → Prop} (h1 : ∀ ds, Sh.Has s ds → ∃ a, ok a ∧ s.pack ds = f a) {ds : List V} (h : Sh.Has (.sl s) ds) : ∃ L : List α, (∀ a ∈ L, ok a) ∧ ds = [.sl .no (L.map f)] := by
  cases h with
  | sl _ l h =>
    obtain ⟨L, hB, rfl⟩ := hasl_map f ok h1 h
    exact ⟨L, hB, rfl⟩
end
end Go.Proofs.Ytmmapbojjgpggaa
