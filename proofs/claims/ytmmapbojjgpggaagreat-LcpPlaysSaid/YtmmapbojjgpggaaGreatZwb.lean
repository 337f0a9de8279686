/- Steps of the proof, joined: VNeg5, VNeg6, VLcp1, VLcp2, VLcpLaw2, VRef1, VR15, VLcp3, VLp1, VR10, VRef3, VR21, VR33, VR36, VR36b, VR10b, VR36c, VR36d. -/
import Derived.Test.YtmmapbojjgpggaaGreatZwa
import Derived.Test.YtmmapbojjgpggaaGreatPc
import Derived.Test.YtmmapbojjgpggaaGreatVc
namespace Go.Proofs.YtmmapbojjgpggaaGreat
open Go
attribute [local go_sem] run_skip run_reg run_seq run_blk run_exit run_ret run_cond if_true if_false at_code_n at_code_x at_code_r at_blk_n at_blk_x at_blk_r at_rnd_n at_rnd_x at_rnd_r at_fin_n at_fin_r ops_nil ops_grd grd_und grd_tt grd_ff grd_tf grd_ft ops_mv ops_pick ops_bin ops_un ops_binb ops_eqs ops_isnil ops_pnil ops_b2s ops_s2b ops_b2sB ops_s2a ops_slcA ops_aidx vaidx vb2sB vs2a vslcA ops_sidx vs2b vsidx srcX ops_appx apx_mk ops_mks ops_mko mks_int mko_int vbinb veqs visnil vpnil vb2s ops_conv ops_fld ops_ix ops_ixa ops_load ops_nilck ops_ext ops_len ops_slen ops_mn ops_mx ops_bld ops_bsl ops_slc ops_sslc ops_box ops_alc ops_alcX ops_boxX ops_bslo ops_store ops_app ops_call ev_t ev_c put_get put_none opv_mk stb_some sto_ptr over_get rel_mk vnat Bx Stp vbld vbsl put_box_same put_box_ne put_sz put_own use_box use_sz put_put args0 List.getD_cons_zero List.getD_cons_succ List.getD_nil vpick vbin vbinI vbinS vun vconv norm vfld vnil vlen vslen vext vmm vix vixa vload takeV takeB mono_nil mono_two mono_sc mono_any mono_und mono_sl mono_agg mono_ep vmlk vmlen vmnil vent vmfn allSc vslc3 kOk fitsV ops_mlk ops_mlen ops_mnil ops_ent ops_mfn ops_slc3 ops_mkm ops_mup mup_map mub_some ops_mdel mdl_nil mdl_map mdb_some ops_rng rng_none rng_map rgb_some ops_nxt ops_ment met_map meb_some ops_est est_map esb_some ops_clr clr_nil clr_box clb_some ops_calv clv_func vslc vsslc fillV splice V.cells strip strip1 allLen ptrV obsOk shAmt IntKind.bits List.map_cons List.map_nil List.length_cons List.length_nil List.getElem?_cons_zero List.getElem?_cons_succ List.take_succ_cons List.take_zero List.drop_succ_cons List.drop_zero List.cons_append List.nil_append List.append_nil List.take_nil List.drop_nil Option.map_some Option.map_none and_true true_and Int.toNat_natCast Nat.min_def Nat.zero_add Nat.add_zero Nat.zero_mul Nat.mul_one Nat.one_mul vret rvAll rvVal resv_1 resv_2 decide_true decide_false Int.lt_irrefl Bool.not_true Bool.not_false ne_eq not_true_eq_false not_false_eq_true eq_self Bool.true_eq_false Bool.false_eq_true List.contains_cons List.contains_nil Bool.false_or Bool.true_or Bool.or_false Bool.or_true List.mem_cons List.not_mem_nil or_false or_true true_or false_or mono_bs ops_aidxn vaidxn ops_fv vfv ops_mki vmki ops_inv ops_cpy cpy_box cpb_some at_finp_n at_finp_r vretp rpAll rpVal vpv resp_0 resp_1 resp_2 Nat.reduceEqDiff Nat.reduceAdd Nat.reduceMul Nat.reduceSub Nat.reduceLT Nat.reduceLeDiff Int.reduceToNat Int.reduceLE Int.reduceLT Int.reducePow Int.reduceMul Int.reduceAdd Int.reduceSub Int.reduceNeg Int.reduceEq Int.reduceMod Int.reduceDiv Nat.reducePow Nat.reduceMod Nat.reduceDiv reduceCtorEq Nat.reduceBEq
section
open Go
def zeros : List V := [.sl .nil [], .sc (.bool false), .sc (.bool false), .sc (.bool false)]
section
variable {R : Type} {U : Rul R} {t : TypeId} {pv : Value} {SI : Nat → St → R → Prop} {bx : List Nat} {codes : Int} {n k m : Nat} {st s s2 base : St} {N N' : Neg R}
structure TkI (st : St) (iv : V) (codes : Int) (SI : Nat → St → R → Prop) (bx : List Nat) (n k a q : Nat) (w : List V) (s : St) (N : Neg R) : Prop where
  neg : NegI iv codes SI bx n k s N
  tn : Tn (n :: bx) st s
  ba : s.box a = some w
  bq : s.box q = some [.sl .nil [], .sc (.bool false), .sc (.bool false), .sc (.bool false)]
  sa : st.sz ≤ a
  sq : st.sz ≤ q
  aq : a ≠ q
  ha : a ∉ n :: bx
  hq : q ∉ n :: bx
variable {iv : V} {a q : Nat} {w : List V}
theorem TkI.step (I : TkI st iv codes SI bx n k a q w s N) {k' : Nat} (h : NegI iv codes SI bx n k' s2 N') (T : Tn (n :: bx) s s2) : TkI st iv codes SI bx n k' a q w s2 N' :=
  ⟨h, I.tn.trans T, T.box a _ I.ba I.ha, T.box q _ I.bq I.hq, I.sa, I.sq, I.aq, I.ha, I.hq⟩
theorem TkI.fin (hU : RulC U t pv SI bx) {iv : V} (hlt : st.Lt) {s1 : St} {N1 : Neg R} {X Y : Neg R × Nout} {r : V} {k0 : Nat} (I : TkI st iv codes SI bx n k0 a q w s1 N1) (O : NOut s1 iv codes SI bx n k m X r s2) (e : X = Y) :
    ∃ tv, r = outV tv Y.2 ∧ s2.box q = some [.sl .nil [], .sc (.bool false), .sc (.bool false), .sc (.bool false)] ∧ ∀ cs, NOut st iv codes SI bx n k m Y (outV tv Y.2) (s2.put q cs) := by
  subst e
  obtain ⟨tv, rfl, R2, h2, T2, L2⟩ := O
  exact ⟨tv, rfl, T2.box q _ I.bq I.hq, fun cs => NOut.put hU hlt I.sq I.hq I.tn.sz R2 h2 (I.tn.trans T2) L2⟩
theorem TkI.none (hU : RulC U t pv SI bx) {iv : V} (hlt : st.Lt) (I : TkI st iv codes SI bx n k a q w s N) {cs : List V} : NOut st iv codes SI bx n k 5 (N, .no) (outV .nil .no) (s.put q cs) :=
  NOut.put (X := (N, .no)) (s1 := st) hU hlt I.sq I.hq (Nat.le_refl _) (RO.nil I.tn.bare I.tn.lt) I.neg I.tn (by simp [Nout.no])
theorem NOut.up (hU : RulC U t pv SI bx) {iv : V} {X : Neg R × Nout} {r : V} (O : NOut st iv codes SI bx n k m X r s) {m' : Nat} (hm : m ≤ m') : NOut st iv codes SI bx n (k + 1) m' X r s := by
  obtain ⟨tv, h1, h2, h3, h4, h5⟩ := O
  exact ⟨tv, h1, h2, h3.more hU, h4, by omega⟩
theorem TkI.start (hU : RulC U t pv SI bx) (h : NegI iv codes SI bx n k st N) (hlt : st.Lt) (ha : st.sz ≤ a) (hq : st.sz ≤ q) (aq : a ≠ q) : TkI st iv codes SI bx n k a q w ((st.put a w).put q [.sl .nil [], .sc (.bool false), .sc (.bool false), .sc (.bool false)]) N := by
  have T0 : Tn [] st ((st.put a w).put q [.sl .nil [], .sc (.bool false), .sc (.bool false), .sc (.bool false)]) := (tn_new hlt ha).put (.inr hq) hlt
  refine ⟨h.tn hU T0, T0.wide (by simp), ?_, put_box_same, ha, hq, aq, fun hm => ?_, fun hm => ?_⟩
  · rw [put_box_ne aq, put_box_same]
  · have := h.lt hU hlt a hm; omega
  · have := h.lt hU hlt q hm; omega
set_option maxRecDepth 100000 in
set_option maxHeartbeats 16000000 in
theorem negRequest_v (hU : RulC U t pv SI bx) (h : NegI (.sc (.iface t pv)) codes SI bx n k st N) (hk : k + 1 ≤ 1000000000) {now : Int} (hn : 0 ≤ now) (hn2 : now ≤ 1000000000) {p : Ctl} (hp : p.Good) {tp : Tk} :
    VCalls Tryz.prog 86 [ptrV n, .sc (.int .i64 now), p.v tp] st (NOut st (.sc (.iface t pv)) codes SI bx n (k + 1) 5 (N.request U now p)) := by
  obtain ⟨fa, hma, hca, hag⟩ := hU.agreed
  obtain ⟨X, hX⟩ : ∃ X, X = N.request U now p := ⟨_, rfl⟩
  rw [← hX]
  show VCalls Tryz.prog 86 [ptrV n, .sc (.int .i64 now), .agg [.sc (.int .u8 p.code), .sc (.int .u8 p.id), .sl tp (bs p.data)]] st _
  refine vcalls_enter vc86 (Nat.le_of_ble_eq_true rfl) fun hwf hok => ?_
  show Run _ Vc86.body (.fin (finQ Vc86.res _)) _ _
  unfold Vc86 zg zn zo
  have hlt := hwf.lt
  have hpb := hp.b
  have hpl := hp.l
  simp (maxSteps := 3000000) only [go_sem, ↓reduceIte]
  intro a ha q hq
  have I0 : TkI st (.sc (.iface t pv)) codes SI bx n k a q [.sc (.int .u8 p.code), .sc (.int .u8 p.id), .sl tp (bs p.data)] ((st.put a [.sc (.int .u8 p.code), .sc (.int .u8 p.id), .sl tp (bs p.data)]).put q [.sl .nil [], .sc (.bool false), .sc (.bool false), .sc (.bool false)]) N := TkI.start hU h hlt ha (by omega) (by omega)
  generalize (st.put a _).put q _ = s0 at I0 ⊢
  clear ha hq
  have ba := I0.ba
  have bq := I0.bq
  simp (maxSteps := 3000000) only [go_sem, ↓reduceIte, ba]
  refine Cal.mk (optParse_v hpb hpl) ?_
  rintro _ _ ⟨rfl, rfl⟩ -
  obtain ⟨L, hL⟩ : ∃ L, L = parseO p.data := ⟨_, rfl⟩
  have hLg : GoodO L.1 := by rw [hL]; exact parseO_good hpb
  have hLl : L.1.length ≤ 1000000 := by rw [hL]; have := parseO_len (L := p.data); omega
  unfold Neg.request at hX
  simp only at hX
  rw [← hL] at hX ⊢
  by_cases c1 : L.2 = 0
  rotate_left
  · rw [if_pos c1] at hX
    subst hX
    simp (maxSteps := 3000000) only [go_sem, ↓reduceIte, decide_eq_true c1, bq]
    have O := (I0.none hU hlt (cs := [.sl .nil [], .sc (.bool false), .sc (.bool false), .sc (.bool false)])).up hU (Nat.le_refl _)
    exact ⟨_, _, Wk.refl _, O.lt.weak, O⟩
  rw [if_neg (show ¬ L.2 ≠ 0 from fun e => e c1)] at hX
  simp (maxSteps := 3000000) only [go_sem, ↓reduceIte, decide_eq_false (show ¬ L.2 ≠ 0 from fun e => e c1)]
  refine Cal.mk (negState_v I0.neg) ?_
  rintro _ _ ⟨rfl, rfl⟩ -
  by_cases c2 : N.s = 4 ∨ N.s = 5 ∨ N.s < 3
  · rw [if_pos c2] at hX
    by_cases e4 : N.s = 4
    · simp (maxSteps := 3000000) only [go_sem, ↓reduceIte, decide_eq_true e4, ba]
      refine Cal.mk (negDo_v hU I0.neg hn hn2) ?_
      rintro _ s8 ⟨rfl, h8, T8⟩ -
      have I8 := I0.step h8 T8
      have ba8 := I8.ba
      simp (maxSteps := 3000000) only [go_sem, ↓reduceIte, ba8]
      refine Cal.mk (negDone_v hU h8 (p := p) (back := zeroC) (tp := tp) (tb := .nil) hp) ?_
      rintro _ s9 O -
      obtain ⟨tv, rfl, bq9, O9⟩ := I8.fin hU hlt O hX.symm
      simp (maxSteps := 3000000) only [go_sem, ↓reduceIte, bq9, outV]
      exact ⟨_, _, Wk.refl _, (O9 _).lt.weak, (O9 _).up hU (Nat.le_refl _)⟩
    by_cases e5 : N.s = 5
    · simp (maxSteps := 3000000) only [go_sem, ↓reduceIte, decide_eq_false e4, decide_eq_true e5, ba]
      refine Cal.mk (negDo_v hU I0.neg hn hn2) ?_
      rintro _ s8 ⟨rfl, h8, T8⟩ -
      have I8 := I0.step h8 T8
      have ba8 := I8.ba
      simp (maxSteps := 3000000) only [go_sem, ↓reduceIte, ba8]
      refine Cal.mk (negDone_v hU h8 (p := p) (back := zeroC) (tp := tp) (tb := .nil) hp) ?_
      rintro _ s9 O -
      obtain ⟨tv, rfl, bq9, O9⟩ := I8.fin hU hlt O hX.symm
      simp (maxSteps := 3000000) only [go_sem, ↓reduceIte, bq9, outV]
      exact ⟨_, _, Wk.refl _, (O9 _).lt.weak, (O9 _).up hU (Nat.le_refl _)⟩
    · have e3 : N.s < 3 := by omega
      simp (maxSteps := 3000000) only [go_sem, ↓reduceIte, decide_eq_false e4, decide_eq_false e5, decide_eq_true e3, ba]
      refine Cal.mk (negDo_v hU I0.neg hn hn2) ?_
      rintro _ s8 ⟨rfl, h8, T8⟩ -
      have I8 := I0.step h8 T8
      have ba8 := I8.ba
      simp (maxSteps := 3000000) only [go_sem, ↓reduceIte, ba8]
      refine Cal.mk (negDone_v hU h8 (p := p) (back := zeroC) (tp := tp) (tb := .nil) hp) ?_
      rintro _ s9 O -
      obtain ⟨tv, rfl, bq9, O9⟩ := I8.fin hU hlt O hX.symm
      simp (maxSteps := 3000000) only [go_sem, ↓reduceIte, bq9, outV]
      exact ⟨_, _, Wk.refl _, (O9 _).lt.weak, (O9 _).up hU (Nat.le_refl _)⟩
  · rw [if_neg c2] at hX
    have e4 : ¬ N.s = 4 := fun e => c2 (.inl e)
    have e5 : ¬ N.s = 5 := fun e => c2 (.inr (.inl e))
    have e3 : ¬ N.s < 3 := fun e => c2 (.inr (.inr e))
    simp (maxSteps := 3000000) only [go_sem, ↓reduceIte, decide_eq_false e4, decide_eq_false e5, decide_eq_false e3, ba]
    refine Cal.mk (negJudge_v hU I0.neg (by omega) hp hLg hLl) ?_
    rintro _ s1 ⟨rfl, h1, T1⟩ -
    have I1 := I0.step h1 T1
    obtain ⟨J, hJ⟩ : ∃ J, J = N.judge U p L.1 := ⟨_, rfl⟩
    rw [← hJ] at hX h1 I1 ⊢
    have ba1 := I1.ba
    have bq1 := I1.bq
    have hsz1 := I1.tn.sz
    cases e1 : J.2.2
    · rw [if_pos e1] at hX
      simp (maxSteps := 3000000) only [go_sem, ↓reduceIte, Ctl.v]
      intro c hc
      have T2 : Tn [] s1 (s1.put c [.sc (.int .u8 J.2.1.code), .sc (.int .u8 J.2.1.id), .sl .no (bs J.2.1.data)]) := tn_new T1.lt hc
      have I2 := I1.step (h1.tn hU T2) (T2.wide (by simp))
      have bc2 : (s1.put c [.sc (.int .u8 J.2.1.code), .sc (.int .u8 J.2.1.id), .sl .no (bs J.2.1.data)]).box c = some [.sc (.int .u8 J.2.1.code), .sc (.int .u8 J.2.1.id), .sl .no (bs J.2.1.data)] := put_box_same
      generalize s1.put c _ = s2 at T2 I2 bc2 ⊢
      have hcn : c ∉ n :: bx := fun hm => by have := h.lt hU hlt c hm; omega
      have ba2 := I2.ba
      simp (maxSteps := 3000000) only [go_sem, ↓reduceIte, ba2, bc2]
      refine Cal.mk (negDo_v hU I2.neg hn hn2) ?_
      rintro _ s8 ⟨rfl, h8, T8⟩ -
      have I8 := I2.step h8 T8
      have ba8 := I8.ba
      have bc8 := T8.box c _ bc2 hcn
      simp (maxSteps := 3000000) only [go_sem, ↓reduceIte, ba8, bc8]
      refine Cal.mk (negDone_v hU h8 (p := p) (back := J.2.1) (tp := tp) (tb := .no) hp) ?_
      rintro _ s9 O -
      obtain ⟨tv, rfl, bq9, O9⟩ := I8.fin hU hlt O hX.symm
      simp (maxSteps := 3000000) only [go_sem, ↓reduceIte, bq9, outV]
      exact ⟨_, _, Wk.refl _, (O9 _).lt.weak, O9 _⟩
    · rw [if_neg (show ¬ J.2.2 = false by rw [e1]; simp)] at hX
      simp (maxSteps := 3000000) only [go_sem, ↓reduceIte, Ctl.v]
      intro c hc
      have T2 : Tn [] s1 (s1.put c [.sc (.int .u8 J.2.1.code), .sc (.int .u8 J.2.1.id), .sl .no (bs J.2.1.data)]) := tn_new T1.lt hc
      have I2 := I1.step (h1.tn hU T2) (T2.wide (by simp))
      have bc2 : (s1.put c [.sc (.int .u8 J.2.1.code), .sc (.int .u8 J.2.1.id), .sl .no (bs J.2.1.data)]).box c = some [.sc (.int .u8 J.2.1.code), .sc (.int .u8 J.2.1.id), .sl .no (bs J.2.1.data)] := put_box_same
      generalize s1.put c _ = s2 at T2 I2 bc2 ⊢
      have hcn : c ∉ n :: bx := fun hm => by have := h.lt hU hlt c hm; omega
      obtain ⟨tn, hbn⟩ := I2.neg.box
      unfold negC at hbn
      simp (maxSteps := 3000000) only [go_sem, ↓reduceIte, hbn]
      refine Ivk.mk hma hca hU.one ?_
      refine Cal.mk (hag (k + 1) s2 J.1.r L.1 .no I2.neg.si (by omega) hLg hLl) ?_
      rintro _ s3 ⟨rfl, si3, T3⟩ -
      have T3' : Tn (n :: bx) s2 s3 := T3.wide (fun b hb => List.mem_cons_of_mem _ hb)
      have I3 := I2.step (I2.neg.rules T3 si3 (Nat.le_refl _)) T3'
      have ba3 := I3.ba
      have bc3 := T3'.box c _ bc2 hcn
      simp (maxSteps := 3000000) only [go_sem, ↓reduceIte, ba3, bc3]
      refine Cal.mk (negDo_v hU I3.neg hn hn2) ?_
      rintro _ s8 ⟨rfl, h8, T8⟩ -
      have I8 := I3.step h8 T8
      have ba8 := I8.ba
      have bc8 := T8.box c _ bc3 hcn
      simp (maxSteps := 3000000) only [go_sem, ↓reduceIte, ba8, bc8]
      refine Cal.mk (negDone_v hU h8 (p := p) (back := J.2.1) (tp := tp) (tb := .no) hp) ?_
      rintro _ s9 O -
      obtain ⟨tv, rfl, bq9, O9⟩ := I8.fin hU hlt O hX.symm
      simp (maxSteps := 3000000) only [go_sem, ↓reduceIte, bq9, outV]
      exact ⟨_, _, Wk.refl _, (O9 _).lt.weak, O9 _⟩
end
end
section
open Go
section
variable {R : Type} {U : Rul R} {t : TypeId} {pv : Value} {SI : Nat → St → R → Prop} {bx : List Nat} {codes : Int} {n k m : Nat} {st s s2 base : St} {N N' : Neg R}
set_option maxRecDepth 100000 in
set_option maxHeartbeats 16000000 in
theorem negAnswered_v (hU : RulC U t pv SI bx) (h : NegI (.sc (.iface t pv)) codes SI bx n k st N) (hk : k + 1 ≤ 1000000000) {now : Int} (hn : 0 ≤ now) (hn2 : now ≤ 1000000000) {p : Ctl} (hp : p.Good) {tp : Tk} :
    VCalls Tryz.prog 87 [ptrV n, .sc (.int .i64 now), p.v tp] st (NOut st (.sc (.iface t pv)) codes SI bx n (k + 1) 5 (N.answered U now p)) := by
  obtain ⟨fn, hmn, hcn, hna⟩ := hU.naked
  obtain ⟨fr, hmr, hcr, hre⟩ := hU.rejected
  obtain ⟨X, hX⟩ : ∃ X, X = N.answered U now p := ⟨_, rfl⟩
  rw [← hX]
  show VCalls Tryz.prog 87 [ptrV n, .sc (.int .i64 now), .agg [.sc (.int .u8 p.code), .sc (.int .u8 p.id), .sl tp (bs p.data)]] st _
  refine vcalls_enter vc87 (Nat.le_of_ble_eq_true rfl) fun hwf hok => ?_
  show Run _ Vc87.body (.fin (finQ Vc87.res _)) _ _
  unfold Vc87 zg zn zo
  have hlt := hwf.lt
  have hpb := hp.b
  have hpl := hp.l
  simp (maxSteps := 3000000) only [go_sem, ↓reduceIte]
  intro a ha q hq
  have I0 : TkI st (.sc (.iface t pv)) codes SI bx n k a q [.sc (.int .u8 p.code), .sc (.int .u8 p.id), .sl tp (bs p.data)] ((st.put a [.sc (.int .u8 p.code), .sc (.int .u8 p.id), .sl tp (bs p.data)]).put q [.sl .nil [], .sc (.bool false), .sc (.bool false), .sc (.bool false)]) N := TkI.start hU h hlt ha (by omega) (by omega)
  generalize (st.put a _).put q _ = s0 at I0 ⊢
  clear ha hq
  have ba := I0.ba
  have bq := I0.bq
  simp (maxSteps := 3000000) only [go_sem, ↓reduceIte, ba]
  refine Cal.mk (optParse_v hpb hpl) ?_
  rintro _ _ ⟨rfl, rfl⟩ -
  obtain ⟨L, hL⟩ : ∃ L, L = parseO p.data := ⟨_, rfl⟩
  have hLg : GoodO L.1 := by rw [hL]; exact parseO_good hpb
  have hLl : L.1.length ≤ 1000000 := by rw [hL]; have := parseO_len (L := p.data); omega
  unfold Neg.answered at hX
  simp only at hX
  rw [← hL] at hX ⊢
  obtain ⟨tn, hbn⟩ := I0.neg.box
  unfold negC at hbn
  have hinj := strOf_inj hpb h.rb
  by_cases c1 : L.2 = 0
  rotate_left
  · rw [if_pos (.inl c1)] at hX
    subst hX
    simp (maxSteps := 3000000) only [go_sem, ↓reduceIte, decide_eq_true c1, bq]
    have O := (I0.none hU hlt (cs := [.sl .nil [], .sc (.bool false), .sc (.bool false), .sc (.bool false)])).up hU (Nat.le_refl _)
    exact ⟨_, _, Wk.refl _, O.lt.weak, O⟩
  have c1' : ¬ L.2 ≠ 0 := fun e => e c1
  by_cases c2 : p.id = N.id
  rotate_left
  · rw [if_pos (.inr (.inl c2))] at hX
    subst hX
    simp (maxSteps := 3000000) only [go_sem, ↓reduceIte, decide_eq_false c1', decide_eq_true c2, bq, ba, hbn]
    have O := (I0.none hU hlt (cs := [.sl .nil [], .sc (.bool false), .sc (.bool false), .sc (.bool false)])).up hU (Nat.le_refl _)
    exact ⟨_, _, Wk.refl _, O.lt.weak, O⟩
  have c2' : ¬ p.id ≠ N.id := fun e => e c2
  by_cases c3 : p.code = 2
  · by_cases c4 : p.data = N.req
    rotate_left
    · rw [if_pos (.inr (.inr ⟨c3, c4⟩))] at hX
      subst hX
      simp (maxSteps := 3000000) only [go_sem, ↓reduceIte, decide_eq_false c1', decide_eq_false c2', decide_eq_true c3, decide_eq_true (show ¬ strOf p.data = strOf N.req from fun e => c4 (hinj.1 e)), u8sOf_bsN, bq, ba, hbn]
      have O := (I0.none hU hlt (cs := [.sl .nil [], .sc (.bool false), .sc (.bool false), .sc (.bool false)])).up hU (Nat.le_refl _)
      exact ⟨_, _, Wk.refl _, O.lt.weak, O⟩
    have e4 : ¬ strOf p.data ≠ strOf N.req := fun e => e (by rw [c4])
    rw [if_neg (fun e => e.elim c1' (fun e => e.elim c2' (fun e => e.2 c4))), if_pos c3] at hX
    simp (maxSteps := 3000000) only [go_sem, ↓reduceIte, decide_eq_false c1', decide_eq_false c2', decide_eq_true c3, decide_eq_false e4, u8sOf_bsN, ba, hbn]
    refine Cal.mk (negDo_v hU I0.neg hn hn2) ?_
    rintro _ s8 ⟨rfl, h8, T8⟩ -
    have I8 := I0.step h8 T8
    have ba8 := I8.ba
    simp (maxSteps := 3000000) only [go_sem, ↓reduceIte, ba8]
    refine Cal.mk (negDone_v hU h8 (p := p) (back := zeroC) (tp := tp) (tb := .nil) hp) ?_
    rintro _ s9 O -
    obtain ⟨tv, rfl, bq9, O9⟩ := I8.fin hU hlt O hX.symm
    simp (maxSteps := 3000000) only [go_sem, ↓reduceIte, bq9, outV]
    exact ⟨_, _, Wk.refl _, (O9 _).lt.weak, (O9 _).up hU (Nat.le_refl _)⟩
  rw [if_neg (fun e => e.elim c1' (fun e => e.elim c2' (fun e => c3 e.1))), if_neg c3] at hX
  by_cases c5 : p.code = 3
  · rw [if_pos c5] at hX
    simp (maxSteps := 3000000) only [go_sem, ↓reduceIte, decide_eq_false c1', decide_eq_false c2', decide_eq_false c3, decide_eq_true c5, ba, hbn]
    refine Ivk.mk hmn hcn hU.one ?_
    refine Cal.mk (hna k s0 N.r L.1 .no I0.neg.si (by omega) hLg hLl) ?_
    rintro _ s3 ⟨rfl, si3, T3⟩ -
    have T3' : Tn (n :: bx) s0 s3 := T3.wide (fun b hb => List.mem_cons_of_mem _ hb)
    have I3 := I0.step (I0.neg.rules T3 si3 (Nat.le_succ _)) T3'
    have ba3 := I3.ba
    simp (maxSteps := 3000000) only [go_sem, ↓reduceIte, ba3]
    refine Cal.mk (negDo_v hU I3.neg hn hn2) ?_
    rintro _ s8 ⟨rfl, h8, T8⟩ -
    have I8 := I3.step h8 T8
    have ba8 := I8.ba
    simp (maxSteps := 3000000) only [go_sem, ↓reduceIte, ba8]
    refine Cal.mk (negDone_v hU h8 (p := p) (back := zeroC) (tp := tp) (tb := .nil) hp) ?_
    rintro _ s9 O -
    obtain ⟨tv, rfl, bq9, O9⟩ := I8.fin hU hlt O hX.symm
    simp (maxSteps := 3000000) only [go_sem, ↓reduceIte, bq9, outV]
    exact ⟨_, _, Wk.refl _, (O9 _).lt.weak, O9 _⟩
  · rw [if_neg c5] at hX
    simp (maxSteps := 3000000) only [go_sem, ↓reduceIte, decide_eq_false c1', decide_eq_false c2', decide_eq_false c3, decide_eq_false c5, ba, hbn]
    refine Ivk.mk hmr hcr hU.one ?_
    refine Cal.mk (hre k s0 N.r L.1 .no I0.neg.si (by omega) hLg hLl) ?_
    rintro _ s3 ⟨rfl, si3, T3⟩ -
    have T3' : Tn (n :: bx) s0 s3 := T3.wide (fun b hb => List.mem_cons_of_mem _ hb)
    have I3 := I0.step (I0.neg.rules T3 si3 (Nat.le_refl _)) T3'
    have ba3 := I3.ba
    cases e6 : (U.rejected N.r L.1).2
    · rw [if_pos e6] at hX
      simp (maxSteps := 3000000) only [go_sem, ↓reduceIte, Bool.not_false]
      refine Cal.mk (negClose_v hU I3.neg hn hn2) ?_
      rintro _ s9 O -
      obtain ⟨tv, rfl, bq9, O9⟩ := I3.fin hU hlt O hX.symm
      simp (maxSteps := 3000000) only [go_sem, ↓reduceIte, bq9, outV]
      exact ⟨_, _, Wk.refl _, (O9 _).lt.weak, (O9 _).up hU (Nat.le_refl _)⟩
    · rw [if_neg (show ¬ (U.rejected N.r L.1).2 = false by rw [e6]; simp)] at hX
      simp (maxSteps := 3000000) only [go_sem, ↓reduceIte, Bool.not_true, ba3]
      refine Cal.mk (negDo_v hU I3.neg hn hn2) ?_
      rintro _ s8 ⟨rfl, h8, T8⟩ -
      have I8 := I3.step h8 T8
      have ba8 := I8.ba
      simp (maxSteps := 3000000) only [go_sem, ↓reduceIte, ba8]
      refine Cal.mk (negDone_v hU h8 (p := p) (back := zeroC) (tp := tp) (tb := .nil) hp) ?_
      rintro _ s9 O -
      obtain ⟨tv, rfl, bq9, O9⟩ := I8.fin hU hlt O hX.symm
      simp (maxSteps := 3000000) only [go_sem, ↓reduceIte, bq9, outV]
      exact ⟨_, _, Wk.refl _, (O9 _).lt.weak, (O9 _).up hU (Nat.le_refl _)⟩
set_option maxRecDepth 100000 in
set_option maxHeartbeats 16000000 in
theorem negTake_v (hU : RulC U t pv SI bx) (h : NegI (.sc (.iface t pv)) codes SI bx n k st N) (hk : k + 1 ≤ 1000000000) {now : Int} (hn : 0 ≤ now) (hn2 : now ≤ 1000000000) {p : Ctl} (hp : p.Good) {tp : Tk} :
    VCalls Tryz.prog 65 [ptrV n, .sc (.int .i64 now), p.v tp] st (NOut st (.sc (.iface t pv)) codes SI bx n (k + 1) 5 (N.take U codes now p)) := by
  obtain ⟨X, hX⟩ : ∃ X, X = N.take U codes now p := ⟨_, rfl⟩
  rw [← hX]
  show VCalls Tryz.prog 65 [ptrV n, .sc (.int .i64 now), .agg [.sc (.int .u8 p.code), .sc (.int .u8 p.id), .sl tp (bs p.data)]] st _
  refine vcalls_enter vc65 (Nat.le_of_ble_eq_true rfl) fun hwf hok => ?_
  show Run _ Vc65.body (.fin (finQ Vc65.res _)) _ _
  unfold Vc65 zg zn zo
  have hlt := hwf.lt
  have hpb := hp.b
  have hpl := hp.l
  simp (maxSteps := 3000000) only [go_sem, ↓reduceIte]
  intro a ha q hq
  have I0 : TkI st (.sc (.iface t pv)) codes SI bx n k a q [.sc (.int .u8 p.code), .sc (.int .u8 p.id), .sl tp (bs p.data)] ((st.put a [.sc (.int .u8 p.code), .sc (.int .u8 p.id), .sl tp (bs p.data)]).put q [.sl .nil [], .sc (.bool false), .sc (.bool false), .sc (.bool false)]) N := TkI.start hU h hlt ha (by omega) (by omega)
  generalize (st.put a _).put q _ = s0 at I0 ⊢
  clear ha hq
  have ba := I0.ba
  have bq := I0.bq
  obtain ⟨tn, hbn⟩ := I0.neg.box
  unfold negC at hbn
  unfold Neg.take at hX
  simp (maxSteps := 3000000) only [go_sem, ↓reduceIte, ba, hbn]
  refine Cal.mk cpKnown_v ?_
  rintro _ _ ⟨rfl, rfl⟩ -
  by_cases c0 : 1 ≤ p.code ∧ p.code ≤ codes
  rotate_left
  · rw [if_pos (by omega)] at hX
    have d0 := decide_eq_false c0
    simp (maxSteps := 3000000) only [go_sem, ↓reduceIte, d0, Bool.not_false, ba]
    refine Cal.mk (negDo_v hU I0.neg hn hn2) ?_
    rintro _ s8 ⟨rfl, h8, T8⟩ -
    have I8 := I0.step h8 T8
    have ba8 := I8.ba
    simp (maxSteps := 3000000) only [go_sem, ↓reduceIte, ba8]
    refine Cal.mk (negDone_v hU h8 (p := p) (back := zeroC) (tp := tp) (tb := .nil) hp) ?_
    rintro _ s9 O -
    obtain ⟨tv, rfl, bq9, O9⟩ := I8.fin hU hlt O hX.symm
    simp (maxSteps := 3000000) only [go_sem, ↓reduceIte, bq9, outV]
    exact ⟨_, _, Wk.refl _, (O9 _).lt.weak, (O9 _).up hU (Nat.le_refl _)⟩
  have d0 := decide_eq_true c0
  rw [if_neg (by omega)] at hX
  by_cases c1 : p.code = 1
  · rw [if_pos c1] at hX
    simp (maxSteps := 3000000) only [go_sem, ↓reduceIte, d0, Bool.not_true, decide_eq_true c1, ba]
    refine Cal.mk (negRequest_v hU I0.neg hk hn hn2 hp) ?_
    rintro _ s9 O -
    obtain ⟨tv, rfl, bq9, O9⟩ := I0.fin hU hlt O hX.symm
    simp (maxSteps := 3000000) only [go_sem, ↓reduceIte, bq9, outV]
    exact ⟨_, _, Wk.refl _, (O9 _).lt.weak, O9 _⟩
  rw [if_neg c1] at hX
  by_cases c4 : p.code ≤ 4
  · rw [if_pos c4] at hX
    simp (maxSteps := 3000000) only [go_sem, ↓reduceIte, d0, Bool.not_true, decide_eq_false c1, decide_eq_true c4, ba]
    refine Cal.mk (negAnswered_v hU I0.neg hk hn hn2 hp) ?_
    rintro _ s9 O -
    obtain ⟨tv, rfl, bq9, O9⟩ := I0.fin hU hlt O hX.symm
    simp (maxSteps := 3000000) only [go_sem, ↓reduceIte, bq9, outV]
    exact ⟨_, _, Wk.refl _, (O9 _).lt.weak, O9 _⟩
  rw [if_neg c4] at hX
  by_cases c5 : p.code = 5
  · rw [evOf, if_pos c5] at hX
    simp (maxSteps := 3000000) only [go_sem, ↓reduceIte, d0, Bool.not_true, decide_eq_false c1, decide_eq_false c4, decide_eq_true c5, ba]
    refine Cal.mk (negDo_v hU I0.neg hn hn2) ?_
    rintro _ s8 ⟨rfl, h8, T8⟩ -
    have I8 := I0.step h8 T8
    have ba8 := I8.ba
    simp (maxSteps := 3000000) only [go_sem, ↓reduceIte, ba8]
    refine Cal.mk (negDone_v hU h8 (p := p) (back := zeroC) (tp := tp) (tb := .nil) hp) ?_
    rintro _ s9 O -
    obtain ⟨tv, rfl, bq9, O9⟩ := I8.fin hU hlt O hX.symm
    simp (maxSteps := 3000000) only [go_sem, ↓reduceIte, bq9, outV]
    exact ⟨_, _, Wk.refl _, (O9 _).lt.weak, (O9 _).up hU (Nat.le_refl _)⟩
  by_cases c6 : p.code = 6
  · rw [evOf, if_neg c5, if_pos c6] at hX
    simp (maxSteps := 3000000) only [go_sem, ↓reduceIte, d0, Bool.not_true, decide_eq_false c1, decide_eq_false c4, decide_eq_false c5, decide_eq_true c6, ba]
    refine Cal.mk (negDo_v hU I0.neg hn hn2) ?_
    rintro _ s8 ⟨rfl, h8, T8⟩ -
    have I8 := I0.step h8 T8
    have ba8 := I8.ba
    simp (maxSteps := 3000000) only [go_sem, ↓reduceIte, ba8]
    refine Cal.mk (negDone_v hU h8 (p := p) (back := zeroC) (tp := tp) (tb := .nil) hp) ?_
    rintro _ s9 O -
    obtain ⟨tv, rfl, bq9, O9⟩ := I8.fin hU hlt O hX.symm
    simp (maxSteps := 3000000) only [go_sem, ↓reduceIte, bq9, outV]
    exact ⟨_, _, Wk.refl _, (O9 _).lt.weak, (O9 _).up hU (Nat.le_refl _)⟩
  by_cases c7 : p.code = 7
  · rcases hD : p.data with _ | ⟨x, D⟩
    · have hl0 : decide ((0 : Int) < (p.data.length : Int)) = false := by rw [hD]; rfl
      rw [evOf, if_neg c5, if_neg c6, if_neg (by rw [hD]; simp), if_pos (.inl c7)] at hX
      simp (maxSteps := 3000000) only [go_sem, ↓reduceIte, d0, Bool.not_true, decide_eq_false c1, decide_eq_false c4, decide_eq_false c5, decide_eq_false c6, decide_eq_true c7, bs_len, hl0, ba]
      refine Cal.mk (negDo_v hU I0.neg hn hn2) ?_
      rintro _ s8 ⟨rfl, h8, T8⟩ -
      have I8 := I0.step h8 T8
      have ba8 := I8.ba
      simp (maxSteps := 3000000) only [go_sem, ↓reduceIte, ba8]
      refine Cal.mk (negDone_v hU h8 (p := p) (back := zeroC) (tp := tp) (tb := .nil) hp) ?_
      rintro _ s9 O -
      obtain ⟨tv, rfl, bq9, O9⟩ := I8.fin hU hlt O hX.symm
      simp (maxSteps := 3000000) only [go_sem, ↓reduceIte, bq9, outV]
      exact ⟨_, _, Wk.refl _, (O9 _).lt.weak, (O9 _).up hU (Nat.le_refl _)⟩
    · have hl0 : decide ((0 : Int) < (p.data.length : Int)) = true := decide_eq_true (by rw [hD]; simp only [List.length_cons]; omega)
      have g0 : (bs p.data)[0]? = some (.sc (.int .u8 x)) := by rw [hD]; rfl
      have hg : p.data.getD 0 0 = x := by rw [hD]; rfl
      by_cases c8 : x ≤ 7
      · rw [evOf, if_neg c5, if_neg c6, if_pos ⟨c7, by rw [hD]; simp, by rw [hg]; exact c8⟩] at hX
        simp (maxSteps := 3000000) only [go_sem, ↓reduceIte, d0, Bool.not_true, decide_eq_false c1, decide_eq_false c4, decide_eq_false c5, decide_eq_false c6, decide_eq_true c7, bs_len, hl0, g0, decide_eq_true c8, ba]
        refine Cal.mk (negDo_v hU I0.neg hn hn2) ?_
        rintro _ s8 ⟨rfl, h8, T8⟩ -
        have I8 := I0.step h8 T8
        have ba8 := I8.ba
        simp (maxSteps := 3000000) only [go_sem, ↓reduceIte, ba8]
        refine Cal.mk (negDone_v hU h8 (p := p) (back := zeroC) (tp := tp) (tb := .nil) hp) ?_
        rintro _ s9 O -
        obtain ⟨tv, rfl, bq9, O9⟩ := I8.fin hU hlt O hX.symm
        simp (maxSteps := 3000000) only [go_sem, ↓reduceIte, bq9, outV]
        exact ⟨_, _, Wk.refl _, (O9 _).lt.weak, (O9 _).up hU (Nat.le_refl _)⟩
      · rw [evOf, if_neg c5, if_neg c6, if_neg (by rw [hg]; exact fun e => c8 e.2.2), if_pos (.inl c7)] at hX
        simp (maxSteps := 3000000) only [go_sem, ↓reduceIte, d0, Bool.not_true, decide_eq_false c1, decide_eq_false c4, decide_eq_false c5, decide_eq_false c6, decide_eq_true c7, bs_len, hl0, g0, decide_eq_false c8, ba]
        refine Cal.mk (negDo_v hU I0.neg hn hn2) ?_
        rintro _ s8 ⟨rfl, h8, T8⟩ -
        have I8 := I0.step h8 T8
        have ba8 := I8.ba
        simp (maxSteps := 3000000) only [go_sem, ↓reduceIte, ba8]
        refine Cal.mk (negDone_v hU h8 (p := p) (back := zeroC) (tp := tp) (tb := .nil) hp) ?_
        rintro _ s9 O -
        obtain ⟨tv, rfl, bq9, O9⟩ := I8.fin hU hlt O hX.symm
        simp (maxSteps := 3000000) only [go_sem, ↓reduceIte, bq9, outV]
        exact ⟨_, _, Wk.refl _, (O9 _).lt.weak, (O9 _).up hU (Nat.le_refl _)⟩
  by_cases c8 : p.code = 8
  · rw [evOf, if_neg c5, if_neg c6, if_neg (fun e => c7 e.1), if_pos (.inr c8)] at hX
    simp (maxSteps := 3000000) only [go_sem, ↓reduceIte, d0, Bool.not_true, decide_eq_false c1, decide_eq_false c4, decide_eq_false c5, decide_eq_false c6, decide_eq_false c7, decide_eq_true c8, ba]
    refine Cal.mk (negDo_v hU I0.neg hn hn2) ?_
    rintro _ s8 ⟨rfl, h8, T8⟩ -
    have I8 := I0.step h8 T8
    have ba8 := I8.ba
    simp (maxSteps := 3000000) only [go_sem, ↓reduceIte, ba8]
    refine Cal.mk (negDone_v hU h8 (p := p) (back := zeroC) (tp := tp) (tb := .nil) hp) ?_
    rintro _ s9 O -
    obtain ⟨tv, rfl, bq9, O9⟩ := I8.fin hU hlt O hX.symm
    simp (maxSteps := 3000000) only [go_sem, ↓reduceIte, bq9, outV]
    exact ⟨_, _, Wk.refl _, (O9 _).lt.weak, (O9 _).up hU (Nat.le_refl _)⟩
  · rw [evOf, if_neg c5, if_neg c6, if_neg (fun e => c7 e.1), if_neg (fun e => e.elim c7 c8)] at hX
    simp (maxSteps := 3000000) only [go_sem, ↓reduceIte, d0, Bool.not_true, decide_eq_false c1, decide_eq_false c4, decide_eq_false c5, decide_eq_false c6, decide_eq_false c7, decide_eq_false c8, ba]
    refine Cal.mk (negDo_v hU I0.neg hn hn2) ?_
    rintro _ s8 ⟨rfl, h8, T8⟩ -
    have I8 := I0.step h8 T8
    have ba8 := I8.ba
    simp (maxSteps := 3000000) only [go_sem, ↓reduceIte, ba8]
    refine Cal.mk (negDone_v hU h8 (p := p) (back := zeroC) (tp := tp) (tb := .nil) hp) ?_
    rintro _ s9 O -
    obtain ⟨tv, rfl, bq9, O9⟩ := I8.fin hU hlt O hX.symm
    simp (maxSteps := 3000000) only [go_sem, ↓reduceIte, bq9, outV]
    exact ⟨_, _, Wk.refl _, (O9 _).lt.weak, (O9 _).up hU (Nat.le_refl _)⟩
end
end
section
open Go
def lrC (d : Nat) (r : Lr) : List V := [.sc (.int .u16 r.w.mru), .sc (.bool r.w.auth), .sc (.int .u32 r.w.magic), .sc (.bool r.w.pfc), .sc (.bool r.w.acfc), .sc (.int .u16 r.g.mru), .sc (.bool r.g.auth), .sc (.int .u32 r.g.magic), .sc (.bool r.g.pfc), .sc (.bool r.g.acfc), .sc (.pointer (some ⟨d, 0, none⟩)), .sc (.int .i64 r.guard)]
structure LcI (q d k : Nat) (st : St) (r : Lr) : Prop where
  bq : st.box q = some (lrC d r)
  dr : DrB st d r.ds r.k
  dg : DrG r.ds r.k
  wg : r.w.Good
  gg : r.g.Good
  g0 : 0 ≤ r.guard
  g1 : r.guard ≤ k
  ne : q ≠ d
  lq : q < st.sz
  ld : d < st.sz
theorem judgeF_good {own draw : Int} : ∀ {l : List Opt} {a : List Opt × List Opt × List Int}, GoodO l → GoodO a.1 → GoodO a.2.1 → GoodO (l.foldl (judgeStep own draw) a).1 ∧ GoodO (l.foldl (judgeStep own draw) a).2.1
  | [], a, _, h1, h2 => ⟨h1, h2⟩
  | o :: l, a, hl, h1, h2 => by
    have ho := hl o (by simp)
    refine judgeF_good (l := l) (fun x hx => hl x (by simp [hx])) ?_ ?_
    · unfold judgeStep
      split
      · exact h1.append (.one ho.1 ho.2.1 ho.2.2.1 ho.2.2.2)
      · exact h1
    · unfold judgeStep
      split
      · exact h2
      · refine h2.append ?_
        unfold betterO
        split
        · exact .one (by show (0 : Int) ≤ 1; decide) (by show (1 : Int) < 256; decide) (beL_isB _ _) (by rw [beL_len]; decide)
        split
        · exact .one (by show (0 : Int) ≤ 5; decide) (by show (5 : Int) < 256; decide) (beL_isB _ _) (by rw [beL_len]; decide)
        · exact .nil
theorem judgeL_good {own draw : Int} {l : List Opt} (h : GoodO l) (hl : l.length ≤ 1000000) : 0 ≤ (judgeL l own draw).1 ∧ (judgeL l own draw).1 < 256 ∧ GoodO (judgeL l own draw).2 ∧ (judgeL l own draw).2.length ≤ 1000000 := by
  have hg := judgeF_good (own := own) (draw := draw) (a := ([], [], [])) h .nil .nil
  have hn := judgeF_len (own := own) (draw := draw) l l.length (Nat.le_refl _)
  rw [List.take_length] at hn
  unfold judgeL
  simp only
  unfold judgeF at *
  split
  · exact ⟨by show (0 : Int) ≤ 4; decide, by show (4 : Int) < 256; decide, hg.1, by have := hn.1; simp only; omega⟩
  split
  · exact ⟨by show (0 : Int) ≤ 3; decide, by show (3 : Int) < 256; decide, hg.2, by have := hn.2; simp only; omega⟩
  · exact ⟨by show (0 : Int) ≤ 2; decide, by show (2 : Int) < 256; decide, h, hl⟩
theorem theirN_rng {l : List Opt} (h : GoodO l) : 0 ≤ theirN l ∧ theirN l < 4294967296 := by
  unfold theirN
  split
  · rename_i d hd
    simp only [findO, Option.map_eq_some_iff] at hd
    obtain ⟨o, ho, rfl⟩ := hd
    exact num4_rng (h o (List.mem_of_find?_eq_some ho)).2.2.1
  · exact ⟨by decide, by decide⟩
theorem findO_isB {l : List Opt} {t : Int} {d : List Int} (h : GoodO l) (hd : findO l t = some d) : IsB d := by
  simp only [findO, Option.map_eq_some_iff] at hd
  obtain ⟨o, ho, rfl⟩ := hd
  exact (h o (List.mem_of_find?_eq_some ho)).2.2.1
section
variable {q d k : Nat} {st s : St} {r r' : Lr} {l : List Opt} {tk : Tk}
theorem LcI.write (h : LcI q d k st r) {k' : Nat} (e1 : r'.ds = r.ds) (e2 : r'.k = r.k) (wg : r'.w.Good) (gg : r'.g.Good) (g0 : 0 ≤ r'.guard) (g1 : r'.guard ≤ k') : LcI q d k' (st.put q (lrC d r')) r' := by
  obtain ⟨tk, hd⟩ := h.dr
  refine ⟨put_box_same, ⟨tk, ?_⟩, by rw [e1, e2]; exact h.dg, wg, gg, g0, g1, h.ne, by have := h.lq; simp only [put_sz]; omega, by have := h.ld; simp only [put_sz]; omega⟩
  rw [put_box_ne h.ne.symm, e1, e2]; exact hd
theorem LcI.drawn (h : LcI q d k st r) (hd : DrB s d r.draw.1.ds r.draw.1.k) (T : Tn [d] st s) : LcI q d k s r.draw.1 := by
  obtain ⟨k1, k2, k3⟩ := draw_keep (r := r)
  have hg := (draw_good h.dg).1
  refine ⟨?_, hd, hg, by rw [k1]; exact h.wg, by rw [k2]; exact h.gg, by rw [k3]; exact h.g0, by rw [k3]; exact h.g1, h.ne, by have := h.lq; have := T.sz; omega, by have := h.ld; have := T.sz; omega⟩
  have := T.box q _ h.bq (by simp [h.ne])
  rw [this]
  simp only [lrC, k1, k2, k3]
theorem LcI.more (h : LcI q d k st r) : LcI q d (k + 1) st r := { h with g1 := by have := h.g1; omega }
theorem rules_req (h : LcI q d k st r) : VCalls Tryz.prog 160 [ptrV q] st fun x s => x = .sl .no (opts (optsW r.w)) ∧ st = s := by
  refine vcalls_enterq pc160 (Nat.le_of_ble_eq_true rfl) rfl fun hwf hok => ?_
  show Run _ Pc160.body (.fin (finP Pc160.res _)) _ _
  unfold Pc160 zo
  have hb := h.bq
  unfold lrC at hb
  simp (maxSteps := 3000000) only [go_sem, ↓reduceIte, hb]
  refine Cal.mk (loptOptions_v h.wg) ?_
  rintro _ _ ⟨rfl, rfl⟩ -
  simp (maxSteps := 3000000) only [go_sem, ↓reduceIte]
  exact ⟨_, _, Wk.refl _, hwf.weak, rfl, rfl⟩
theorem rules_agreed (h : LcI q d k st r) (hG : GoodO l) (hl : l.length ≤ 1000000) : VCalls Tryz.prog 156 [ptrV q, .sl tk (opts l)] st fun x s => x = .tup [] ∧ LcI q d k s { r with g := ofL l } ∧ Tn [q, d] st s := by
  refine vcalls_enterq pc156 (Nat.le_of_ble_eq_true rfl) rfl fun hwf hok => ?_
  show Run _ Pc156.body (.fin (finP Pc156.res _)) _ _
  unfold Pc156 zn zo
  have hb := h.bq
  unfold lrC at hb
  have hw := h.write (r' := { r with g := ofL l }) rfl rfl h.wg (ofL_good hG) h.g0 h.g1
  simp (maxSteps := 3000000) only [go_sem]
  refine Cal.mk (loptOf_v hG hl) ?_
  rintro _ _ ⟨rfl, rfl⟩ -
  simp (maxSteps := 3000000) only [go_sem, ↓reduceIte, hb, Want.cells]
  have T : Tn [q, d] st (st.put q (lrC d { r with g := ofL l })) := (Tn.refl hwf.lt).put (.inl (by simp)) hwf.lt
  exact ⟨_, _, Wk.refl _, T.lt.weak, rfl, hw, T⟩
theorem LcI.see (h : LcI q d k st r) {own x : Int} : LcI q d (k + 1) (st.put q (lrC d (r.see own x))) (r.see own x) := by
  have h0 := h.g0
  have h1 := h.g1
  refine h.write rfl rfl h.wg h.gg ?_ ?_
  · show 0 ≤ (if own ≠ 0 ∧ own = x then r.guard + 1 else 0)
    split <;> omega
  · show (if own ≠ 0 ∧ own = x then r.guard + 1 else 0) ≤ ((k + 1 : Nat) : Int)
    split <;> omega
theorem rules_see (h : LcI q d k st r) (hk : k ≤ 1000000000) {own x : Int} : VCalls Tryz.prog 162 [.sc (.pointer (some ⟨q, 11, none⟩)), .sc (.int .u32 own), .sc (.int .u32 x)] st fun v s =>
    v = .sc (.bool (decide (own ≠ 0 ∧ own = x))) ∧ LcI q d (k + 1) s (r.see own x) ∧ Tn [q, d] st s := by
  have hb := h.bq
  unfold lrC at hb
  have h0 := h.g0
  have h1 := h.g1
  refine VCalls.wf fun hwf => (guardSee_v hb h0 (by omega)).mono fun v s ⟨e1, e2⟩ => ⟨e1, ?_, ?_⟩
  · rw [e2]; exact h.see
  · rw [e2]; exact (Tn.refl hwf.lt).put (.inl (by simp)) hwf.lt
theorem theirN_some {D : List Int} (h : findO l 5 = some D) : theirN l = num4 D := by unfold theirN; rw [h]
theorem theirN_none (h : findO l 5 = none) : theirN l = 0 := by unfold theirN; rw [h]
set_option maxRecDepth 100000 in
set_option maxHeartbeats 4000000 in
theorem rules_judge (h : LcI q d k st r) (hk : k ≤ 1000000000) (hG : GoodO l) (hl : l.length ≤ 1000000) : VCalls Tryz.prog 157 [ptrV q, .sl tk (opts l)] st fun x s =>
    (∃ t2, x = .tup [.sc (.int .u8 (r.judge l).2.1), .sl t2 (opts (r.judge l).2.2)]) ∧ LcI q d (k + 1) s (r.judge l).1 ∧ Tn [q, d] st s := by
  refine vcalls_enterq pc157 (Nat.le_of_ble_eq_true rfl) rfl fun hwf hok => ?_
  show Run _ Pc157.body (.fin (finP Pc157.res _)) _ _
  unfold Pc157 zg zn zo
  have hb := h.bq
  unfold lrC at hb
  obtain ⟨X, hX⟩ : ∃ X, X = r.judge l := ⟨_, rfl⟩
  rw [← hX]
  unfold Lr.judge at hX
  simp (maxSteps := 3000000) only [go_sem, ↓reduceIte]
  refine Cal.mk (optFind_v hl hG) ?_
  rintro _ _ ⟨rfl, rfl⟩ -
  simp (maxSteps := 3000000) only [go_sem, ↓reduceIte]
  refine If.cut [6, 17, 18] (fun B s => s = st ∧ B 6 = .sc (.int .u32 (theirN l))) rfl ?_ ?_
  · cases hf : findO l 5 with
    | none =>
      simp (maxSteps := 3000000) only [go_sem, ↓reduceIte, Option.isSome_none, at_cutk_n]
      rw [theirN_none hf]
    | some D =>
      simp (maxSteps := 3000000) only [go_sem, ↓reduceIte, Option.isSome_some, Option.getD]
      refine Cal.mk (Get32_n (findO_isB hG hf)) ?_
      rintro _ _ ⟨rfl, rfl⟩ -
      simp (maxSteps := 3000000) only [go_sem, ↓reduceIte, at_cutk_n]
      rw [theirN_some hf]
  · rintro B s ⟨rfl, h6⟩
    have hT := theirN_rng hG
    generalize theirN l = x at h6 hT hX
    simp (maxSteps := 3000000) only [go_sem, ↓reduceIte, hb, h6]
    refine Cal.mk (rules_see h hk) ?_
    rintro _ s1 ⟨rfl, h1, T1⟩ -
    have hwm : (r.see r.w.magic x).w = r.w := rfl
    generalize r.see r.w.magic x = R1 at h1 hX hwm
    have hb1 := h1.bq
    unfold lrC at hb1
    rw [hwm] at hb1
    by_cases c : (r.w.magic ≠ 0 ∧ r.w.magic = x) ∨ x = 0
    · simp only [if_pos c] at hX
      have step : ∀ {Z : Prop}, (decide (r.w.magic ≠ 0 ∧ r.w.magic = x) = true → Z) → (decide (r.w.magic ≠ 0 ∧ r.w.magic = x) = false → decide (x = 0) = true → Z) → Z := fun z1 z2 => by
        by_cases c1 : r.w.magic ≠ 0 ∧ r.w.magic = x
        · exact z1 (decide_eq_true c1)
        · exact z2 (decide_eq_false c1) (decide_eq_true (c.resolve_left c1))
      have hdg := draw_good h1.dg
      obtain ⟨w1, w2, w3⟩ := draw_keep (r := R1)
      refine step (fun e1 => ?_) (fun e1 e2 => ?_)
      · simp (maxSteps := 3000000) only [go_sem, ↓reduceIte, e1, hb1]
        refine Cal.mk (drSome_v h1.dr h1.dg) ?_
        rintro _ s2 ⟨rfl, d2, T2⟩ -
        have h2 := h1.drawn d2 T2
        have hb2 := h2.bq
        unfold lrC at hb2
        rw [w1, hwm] at hb2
        simp (maxSteps := 3000000) only [go_sem, ↓reduceIte, hb2]
        refine Cal.mk (loptJudge_v hG hl (Int.le_of_lt hdg.2.1) hdg.2.2) ?_
        rintro _ _ ⟨⟨t2, rfl⟩, rfl⟩ -
        simp (maxSteps := 3000000) only [go_sem, ↓reduceIte]
        exact ⟨_, _, Wk.refl _, T2.lt.weak, by rw [hX]; exact ⟨_, rfl⟩, by rw [hX]; exact h2, T1.trans (T2.wide (by simp))⟩
      · simp (maxSteps := 3000000) only [go_sem, ↓reduceIte, e1, e2, hb1, h6]
        refine Cal.mk (drSome_v h1.dr h1.dg) ?_
        rintro _ s2 ⟨rfl, d2, T2⟩ -
        have h2 := h1.drawn d2 T2
        have hb2 := h2.bq
        unfold lrC at hb2
        rw [w1, hwm] at hb2
        simp (maxSteps := 3000000) only [go_sem, ↓reduceIte, hb2]
        refine Cal.mk (loptJudge_v hG hl (Int.le_of_lt hdg.2.1) hdg.2.2) ?_
        rintro _ _ ⟨⟨t2, rfl⟩, rfl⟩ -
        simp (maxSteps := 3000000) only [go_sem, ↓reduceIte]
        exact ⟨_, _, Wk.refl _, T2.lt.weak, by rw [hX]; exact ⟨_, rfl⟩, by rw [hX]; exact h2, T1.trans (T2.wide (by simp))⟩
    · simp only [if_neg c] at hX
      have e1 : decide (r.w.magic ≠ 0 ∧ r.w.magic = x) = false := decide_eq_false fun e => c (.inl e)
      have e2 : decide (x = 0) = false := decide_eq_false fun e => c (.inr e)
      simp (maxSteps := 3000000) only [go_sem, ↓reduceIte, e1, e2, hb1, h6]
      refine Cal.mk (loptJudge_v hG hl (by decide) (by decide)) ?_
      rintro _ _ ⟨⟨t2, rfl⟩, rfl⟩ -
      simp (maxSteps := 3000000) only [go_sem, ↓reduceIte]
      exact ⟨_, _, Wk.refl _, T1.lt.weak, by rw [hX]; exact ⟨_, rfl⟩, by rw [hX]; exact h1, T1⟩
set_option maxRecDepth 100000 in
set_option maxHeartbeats 4000000 in
theorem rules_naked (h : LcI q d k st r) (hk : k ≤ 1000000000) (hG : GoodO l) (hl : l.length ≤ 1000000) : VCalls Tryz.prog 158 [ptrV q, .sl tk (opts l)] st fun x s =>
    x = .tup [] ∧ LcI q d (k + 1) s (r.naked l) ∧ Tn [q, d] st s := by
  refine vcalls_enterq pc158 (Nat.le_of_ble_eq_true rfl) rfl fun hwf hok => ?_
  show Run _ Pc158.body (.fin (finP Pc158.res _)) _ _
  unfold Pc158 zg zn zo
  have hlt := hwf.lt
  have hb := h.bq
  unfold lrC at hb
  obtain ⟨X, hX⟩ : ∃ X, X = r.naked l := ⟨_, rfl⟩
  rw [← hX]
  unfold Lr.naked at hX
  simp (maxSteps := 3000000) only [go_sem, ↓reduceIte, hb]
  refine Cal.mk (loptNaked_v (w0 := r.w) hG hl) ?_
  rintro _ _ ⟨rfl, rfl⟩ -
  have hw := nakedL_good h.wg hG
  have h1 := h.write (r' := { r with w := nakedL r.w l }) rfl rfl hw h.gg h.g0 h.g1
  have T1 : Tn [q, d] st (st.put q (lrC d { r with w := nakedL r.w l })) := (Tn.refl hlt).put (.inl (by simp)) hlt
  unfold lrC at h1 T1
  simp only at h1 T1
  simp (maxSteps := 3000000) only [go_sem, ↓reduceIte, hb, Want.cells]
  refine Cal.mk (optFind_v hl hG) ?_
  rintro _ _ ⟨rfl, rfl⟩ -
  cases hf : findO l 5 with
  | none =>
    simp only [hf] at hX
    simp (maxSteps := 3000000) only [go_sem, ↓reduceIte, Option.isSome_none]
    exact ⟨_, _, Wk.refl _, T1.lt.weak, rfl, by rw [hX]; exact h1.more, T1⟩
  | some D =>
    simp only [hf] at hX
    simp (maxSteps := 3000000) only [go_sem, ↓reduceIte, Option.isSome_some, Option.getD]
    refine Cal.mk (Get32_n (findO_isB hG hf)) ?_
    rintro _ _ ⟨rfl, rfl⟩ -
    simp (maxSteps := 3000000) only [go_sem, ↓reduceIte]
    refine Cal.mk (rules_see h1 hk) ?_
    rintro _ s2 ⟨rfl, h2, T2⟩ -
    generalize Lr.see { r with w := nakedL r.w l } r.w.magic (num4 D) = R1 at h2 hX
    have hb2 := h2.bq
    unfold lrC at hb2
    by_cases c : r.w.magic ≠ 0 ∧ r.w.magic = num4 D
    · rw [if_pos c] at hX
      simp (maxSteps := 3000000) only [go_sem, ↓reduceIte, decide_eq_true c, hb2]
      refine Cal.mk (drSome_v h2.dr h2.dg) ?_
      rintro _ s3 ⟨rfl, d3, T3⟩ -
      have hdg := draw_good h2.dg
      have h3 := h2.drawn d3 T3
      have h4 := h3.write (r' := { R1.draw.1 with w := { R1.draw.1.w with magic := R1.draw.2 } }) rfl rfl ⟨h3.wg.m0, h3.wg.m1, Int.le_of_lt hdg.2.1, hdg.2.2⟩ h3.gg h3.g0 h3.g1
      have T4 : Tn [q, d] st (s3.put q (lrC d { R1.draw.1 with w := { R1.draw.1.w with magic := R1.draw.2 } })) := ((T1.trans T2).trans (T3.wide (by simp))).put (.inl (by simp)) hlt
      have hb3 := h3.bq
      unfold lrC at hb3 h4 T4
      simp only at h4 T4
      simp (maxSteps := 3000000) only [go_sem, ↓reduceIte, hb3]
      exact ⟨_, _, Wk.refl _, T4.lt.weak, rfl, by rw [hX]; exact h4, T4⟩
    · rw [if_neg c] at hX
      simp (maxSteps := 3000000) only [go_sem, ↓reduceIte, decide_eq_false c]
      exact ⟨_, _, Wk.refl _, T2.lt.weak, rfl, by rw [hX]; exact h2, T1.trans T2⟩
set_option maxRecDepth 100000 in
theorem rules_rejected (h : LcI q d k st r) (hG : GoodO l) (hl : l.length ≤ 1000000) : VCalls Tryz.prog 159 [ptrV q, .sl tk (opts l)] st fun x s =>
    x = .sc (.bool (rejectedL r.w l).2) ∧ LcI q d k s { r with w := (rejectedL r.w l).1 } ∧ Tn [q, d] st s := by
  refine vcalls_enterq pc159 (Nat.le_of_ble_eq_true rfl) rfl fun hwf hok => ?_
  show Run _ Pc159.body (.fin (finP Pc159.res _)) _ _
  unfold Pc159 zn zo
  have hlt := hwf.lt
  have hb := h.bq
  unfold lrC at hb
  simp (maxSteps := 3000000) only [go_sem, ↓reduceIte, hb]
  refine Cal.mk (loptRejected_v (w0 := r.w) hG hl) ?_
  rintro _ _ ⟨rfl, rfl⟩ -
  have h1 := h.write (r' := { r with w := (rejectedL r.w l).1 }) rfl rfl (rejectedL_good h.wg) h.gg h.g0 h.g1
  have T1 : Tn [q, d] st (st.put q (lrC d { r with w := (rejectedL r.w l).1 })) := (Tn.refl hlt).put (.inl (by simp)) hlt
  unfold lrC at h1 T1
  simp only at h1 T1
  simp (maxSteps := 3000000) only [go_sem, ↓reduceIte, hb, Want.cells]
  exact ⟨_, _, Wk.refl _, T1.lt.weak, rfl, h1, T1⟩
theorem lcp_rules : RulC lcpU 69 (.pointer (some ⟨q, 0, none⟩)) (LcI q d) [q, d] where
  one := rfl
  req := ⟨160, by kernel_rfl, by kernel_rfl, fun k st r h => rules_req h⟩
  reqG := fun k st r h => ⟨optsW_good r.w, Nat.le_trans (optsW_len r.w) (by decide)⟩
  judge := ⟨157, by kernel_rfl, by kernel_rfl, fun k st r l tk h hk hG hl => rules_judge h hk hG hl⟩
  judgeG := fun k st r l h hG hl => judgeL_good hG hl
  agreed := ⟨156, by kernel_rfl, by kernel_rfl, fun k st r l tk h hk hG hl => rules_agreed h hG hl⟩
  naked := ⟨158, by kernel_rfl, by kernel_rfl, fun k st r l tk h hk hG hl => rules_naked h hk hG hl⟩
  rejected := ⟨159, by kernel_rfl, by kernel_rfl, fun k st r l tk h hk hG hl => rules_rejected h hG hl⟩
  stay := fun k st s r h hs hz => by
    obtain ⟨tk, hd⟩ := h.dr
    exact ⟨hs q _ h.bq (by simp), ⟨tk, hs d _ hd (by simp)⟩, h.dg, h.wg, h.gg, h.g0, h.g1, h.ne, Nat.lt_of_lt_of_le h.lq hz, Nat.lt_of_lt_of_le h.ld hz⟩
  more := fun k st r h => h.more
  lt := fun k st r h b hb => by
    rcases List.mem_cons.1 hb with rfl | hb
    · exact h.lq
    · simp only [List.mem_singleton] at hb; subst hb; exact h.ld
end
end
section
open Go
theorem AppSt.transL {a b c : St} {x y z : V} (hw : a.Lt) (h : AppSt a x b y) (k : AppSt b y c z) : AppSt a x c z :=
  ⟨k.box.trans h.box, fun hh => k.lt (h.lt hh), Nat.le_trans h.sz k.sz, fun g m hg hne => k.own g m (h.own g m hg hne) (fun l q e => by
    rcases h.tok g q l e with ⟨l', h2⟩ | h2
    · exact hne l' q h2
    · exact absurd (hw.own g m hg) (by omega)), fun g q l e => by
    rcases k.tok g q l e with ⟨l', h2⟩ | h2
    · rcases h.tok g q l' h2 with h3 | h3
      · exact .inl h3
      · exact .inr h3
    · exact .inr (Nat.le_trans h.sz h2)⟩
structure LcpI (a n q d k : Nat) (st : St) (N : Neg Lr) : Prop where
  ba : st.box a = some [ptrV n, ptrV q]
  ng : NegI (.sc (.iface 69 (.pointer (some ⟨q, 0, none⟩)))) 11 (LcI q d) [q, d] n k st N
  na : a ∉ n :: [q, d]
  la : a < st.sz
section
variable {a n q d k m : Nat} {st s s2 : St} {N : Neg Lr}
theorem LcpI.of (h : LcpI a n q d k st N) {N' : Neg Lr} {k' : Nat} (hn : NegI (.sc (.iface 69 (.pointer (some ⟨q, 0, none⟩)))) 11 (LcI q d) [q, d] n k' s N') (T : Tn (n :: [q, d]) st s) : LcpI a n q d k' s N' :=
  ⟨T.box a _ h.ba h.na, hn, h.na, Nat.lt_of_lt_of_le h.la T.sz⟩
theorem LcpI.tn (h : LcpI a n q d k st N) (T : Tn [] st s) : LcpI a n q d k s N := h.of (h.ng.tn lcp_rules T) (T.wide (by simp))
def LOut (st : St) (a n q d k m : Nat) (X : Neg Lr × Nout) (r : V) (s : St) : Prop :=
  ∃ tv, r = outV tv X.2 ∧ RO 3 st.bare s (.sl tv (ctls X.2.P)) (ctls X.2.P) ∧ LcpI a n q d k s X.1 ∧ Tn (n :: [q, d]) st s ∧ X.2.P.length ≤ m
theorem LOut.of (h : LcpI a n q d k st N) {k' : Nat} {X : Neg Lr × Nout} {r : V} (o : NOut st (.sc (.iface 69 (.pointer (some ⟨q, 0, none⟩)))) 11 (LcI q d) [q, d] n k' m X r s) : LOut st a n q d k' m X r s := by
  obtain ⟨tv, e, h1, h2, h3, h4⟩ := o
  exact ⟨tv, e, h1, h.of h2 h3, h3, h4⟩
theorem lcpStart_v (h : LcpI a n q d k st N) {now : Int} (hn : 0 ≤ now) (hn2 : now ≤ 1000000000) : VCalls Tryz.prog 38 [ptrV a, .sc (.int .i64 now)] st (LOut st a n q d k 10 (N.start lcpU now)) := by
  refine vcalls_enterq pc38 (Nat.le_of_ble_eq_true rfl) rfl fun hwf hok => ?_
  show Run _ Pc38.body (.fin (finP Pc38.res _)) _ _
  unfold Pc38 zo
  have ba := h.ba
  simp (maxSteps := 3000000) only [go_sem, ↓reduceIte, ba]
  refine Cal.mk (negStart_v lcp_rules h.ng hn hn2) ?_
  intro r s o _
  have o := LOut.of h o
  obtain ⟨tv, rfl, o1, o2, o3, o4⟩ := o
  simp (maxSteps := 3000000) only [go_sem, ↓reduceIte, outV]
  exact ⟨_, _, Wk.refl _, o3.lt.weak, tv, rfl, o1, o2, o3, o4⟩
theorem lcpClose_v (h : LcpI a n q d k st N) {now : Int} (hn : 0 ≤ now) (hn2 : now ≤ 1000000000) : VCalls Tryz.prog 36 [ptrV a, .sc (.int .i64 now)] st (LOut st a n q d k 5 (N.close lcpU now)) := by
  refine vcalls_enterq pc36 (Nat.le_of_ble_eq_true rfl) rfl fun hwf hok => ?_
  show Run _ Pc36.body (.fin (finP Pc36.res _)) _ _
  unfold Pc36 zo
  have ba := h.ba
  simp (maxSteps := 3000000) only [go_sem, ↓reduceIte, ba]
  refine Cal.mk (negClose_v lcp_rules h.ng hn hn2) ?_
  intro r s o _
  have o := LOut.of h o
  obtain ⟨tv, rfl, o1, o2, o3, o4⟩ := o
  simp (maxSteps := 3000000) only [go_sem, ↓reduceIte, outV]
  exact ⟨_, _, Wk.refl _, o3.lt.weak, tv, rfl, o1, o2, o3, o4⟩
theorem lcpState_v (h : LcpI a n q d k st N) : VCalls Tryz.prog 11 [ptrV a] st fun r s => r = .sc (.int .i64 N.s) ∧ st = s := by
  refine vcalls_enterq pc11 (Nat.le_of_ble_eq_true rfl) rfl fun hwf hok => ?_
  show Run _ Pc11.body (.fin (finP Pc11.res _)) _ _
  unfold Pc11 zo
  have ba := h.ba
  simp (maxSteps := 3000000) only [go_sem, ↓reduceIte, ba]
  refine Cal.mk (Q := fun r s => r = .sc (.int .i64 N.s) ∧ st = s) ?_ ?_
  · clear hok hwf
    refine vcalls_enterq pc43 (Nat.le_of_ble_eq_true rfl) rfl fun hwf hok => ?_
    show Run _ Pc43.body (.fin (finP Pc43.res _)) _ _
    unfold Pc43 zo
    simp (maxSteps := 3000000) only [go_sem, ↓reduceIte]
    refine Cal.mk (negState_v h.ng) ?_
    rintro _ _ ⟨rfl, rfl⟩ -
    simp (maxSteps := 3000000) only [go_sem, ↓reduceIte]
    exact ⟨_, _, Wk.refl _, hwf.weak, rfl, rfl⟩
  · rintro _ _ ⟨rfl, rfl⟩ -
    simp (maxSteps := 3000000) only [go_sem, ↓reduceIte]
    exact ⟨_, _, Wk.refl _, hwf.weak, rfl, rfl⟩
theorem autoOpen_v (h : LcpI a n q d k st N) : VCalls Tryz.prog 69 [ptrV n] st fun r s => r = .sc (.bool (decide (N.s = 9))) ∧ st = s := by
  refine vcalls_enterq pc69 (Nat.le_of_ble_eq_true rfl) rfl fun hwf hok => ?_
  show Run _ Pc69.body (.fin (finP Pc69.res _)) _ _
  unfold Pc69 zo
  obtain ⟨tk, hb⟩ := h.ng.box
  unfold negC at hb
  simp (maxSteps := 3000000) only [go_sem, ↓reduceIte, hb]
  exact ⟨_, _, Wk.refl _, hwf.weak, rfl, rfl⟩
theorem lcpOpen_v (h : LcpI a n q d k st N) : VCalls Tryz.prog 12 [ptrV a] st fun r s => r = .sc (.bool (decide (N.s = 9))) ∧ st = s := by
  refine vcalls_enterq pc12 (Nat.le_of_ble_eq_true rfl) rfl fun hwf hok => ?_
  show Run _ Pc12.body (.fin (finP Pc12.res _)) _ _
  unfold Pc12 zo
  have ba := h.ba
  simp (maxSteps := 3000000) only [go_sem, ↓reduceIte, ba]
  refine Cal.mk (Q := fun r s => r = .sc (.bool (decide (N.s = 9))) ∧ st = s) ?_ ?_
  · clear hok hwf
    refine vcalls_enterq pc44 (Nat.le_of_ble_eq_true rfl) rfl fun hwf hok => ?_
    show Run _ Pc44.body (.fin (finP Pc44.res _)) _ _
    unfold Pc44 zo
    simp (maxSteps := 3000000) only [go_sem, ↓reduceIte]
    refine Cal.mk (autoOpen_v h) ?_
    rintro _ _ ⟨rfl, rfl⟩ -
    simp (maxSteps := 3000000) only [go_sem, ↓reduceIte]
    exact ⟨_, _, Wk.refl _, hwf.weak, rfl, rfl⟩
  · rintro _ _ ⟨rfl, rfl⟩ -
    simp (maxSteps := 3000000) only [go_sem, ↓reduceIte]
    exact ⟨_, _, Wk.refl _, hwf.weak, rfl, rfl⟩
theorem lcpMine_v (h : LcpI a n q d k st N) : VCalls Tryz.prog 13 [ptrV a] st fun r s => r = .agg N.r.w.cells ∧ st = s := by
  refine vcalls_enterq pc13 (Nat.le_of_ble_eq_true rfl) rfl fun hwf hok => ?_
  show Run _ Pc13.body (.fin (finP Pc13.res _)) _ _
  unfold Pc13 zo
  have ba := h.ba
  have bq := h.ng.si.bq
  unfold lrC at bq
  simp (maxSteps := 3000000) only [go_sem, ↓reduceIte, ba, bq]
  exact ⟨_, _, Wk.refl _, hwf.weak, rfl, rfl⟩
def mostL (w : Want) : Int := min (if w.mru = 0 then 1500 else w.mru) 1592
theorem guardLoopR (h : LcpI a n q d k st N) : VCalls Tryz.prog 67 [.sc (.pointer (some ⟨q, 11, none⟩))] st fun r s => r = .sc (.bool (decide (4 ≤ N.r.guard))) ∧ s = st := by
  have bq := h.ng.si.bq
  unfold lrC at bq
  exact guardLoop_v bq
theorem LcpI.calm (h : LcpI a n q d k st N) (hlt : st.Lt) : LcpI a n q d k (st.put q (lrC d { N.r with guard := 0 })) { N with r := { N.r with guard := 0 } } ∧ Tn (n :: [q, d]) st (st.put q (lrC d { N.r with guard := 0 })) := by
  have T : Tn [q, d] st (st.put q (lrC d { N.r with guard := 0 })) := (Tn.refl hlt).put (.inl (by simp)) hlt
  have hw := h.ng.si.write (r' := { N.r with guard := 0 }) (k' := k) rfl rfl h.ng.si.wg h.ng.si.gg (Int.le_refl 0) (by simp only; omega)
  have T' := T.wide (by' := n :: [q, d]) (fun b hb => List.mem_cons_of_mem _ hb)
  exact ⟨h.of (h.ng.rules T hw (Nat.le_refl _)) T', T'⟩
theorem LcpI.app (h : LcpI a n q d k s N) {base : St} {x r : V} {l : List V} (R : RO 3 base.bare s x l) (K : AppSt s x s2 r) (hl : s2.Lt) : LcpI a n q d k s2 N :=
  ⟨by rw [K.box]; exact h.ba, h.ng.ex (base := base) lcp_rules ⟨fun b cs hb => by rw [K.box]; exact hb, fun g m hg hl => K.own g m hg (fun l k e => by have := R.tok g k l e; simp only [St.bare] at this; omega), K.sz, hl⟩, h.na, Nat.lt_of_lt_of_le h.la K.sz⟩
set_option maxRecDepth 100000 in
set_option maxHeartbeats 16000000 in
theorem lcpTake_v (h : LcpI a n q d k st N) (hk : k + 1 ≤ 1000000000) {now : Int} (hn : 0 ≤ now) (hn2 : now ≤ 1000000000) {p : Ctl} (hp : p.Good) {tp : Tk} :
    VCalls Tryz.prog 41 [ptrV a, .sc (.int .i64 now), p.v tp] st (LOut st a n q d (k + 1) 20 (lcpTake N now p)) := by
  show VCalls Tryz.prog 41 [ptrV a, .sc (.int .i64 now), .agg [.sc (.int .u8 p.code), .sc (.int .u8 p.id), .sl tp (bs p.data)]] st _
  refine vcalls_enterq pc41 (Nat.le_of_ble_eq_true rfl) rfl fun hwf hok => ?_
  show Run _ Pc41.body (.fin (finP Pc41.res _)) _ _
  unfold Pc41 zg zn zo
  have hlt := hwf.lt
  have ba := h.ba
  simp (maxSteps := 3000000) only [go_sem, ↓reduceIte, ba]
  refine Cal.mk (negTake_v lcp_rules h.ng hk hn hn2 hp) ?_
  intro r s o _
  obtain ⟨tv, rfl, o1, o2, o3, o4⟩ := LOut.of h o
  obtain ⟨X, hX⟩ : ∃ X, X = lcpTake N now p := ⟨_, rfl⟩
  rw [← hX]
  unfold lcpTake at hX
  generalize N.take lcpU 11 now p = Y at o1 o2 o3 o4 hX
  obtain ⟨N1, P, up, down, over⟩ := Y
  simp only at o1 o2 o3 o4 hX
  have ba1 := o2.ba
  have bq1 := o2.ng.si.bq
  unfold lrC at bq1
  have hwg := o2.ng.si.wg
  obtain ⟨E, hE⟩ : ∃ E : Bool, E = decide (p.code = 9 ∧ N1.s = 9 ∧ 4 ≤ p.data.length ∧ num4 p.data ≠ N1.r.w.magic) := ⟨_, rfl⟩
  simp (maxSteps := 3000000) only [go_sem, ↓reduceIte, outV]
  refine Grd.cut [20, 21, 22, 23, 24, 25, 26, 27, 28, 29, 30, 31, 32, 33, 34, 35, 36, 37, 38, 39, 40, 41, 42, 43] (fun B => B 43 = .sc (.bool E)) rfl ?_ ?_
  · have ge : ∀ L : List Int, decide ((4 : Int) ≤ (L.length : Int)) = decide (4 ≤ L.length) := fun L => by
      by_cases e : 4 ≤ L.length
      · rw [decide_eq_true e, decide_eq_true (by omega)]
      · rw [decide_eq_false e, decide_eq_false (by omega)]
    by_cases c9 : p.code = 9
    · simp (maxSteps := 3000000) only [go_sem, ↓reduceIte, decide_eq_true c9]
      refine Cal.mk (lcpOpen_v o2) ?_
      rintro _ _ ⟨rfl, rfl⟩ -
      by_cases s9 : N1.s = 9
      · by_cases l4 : 4 ≤ p.data.length
        · simp (maxSteps := 3000000) only [go_sem, ↓reduceIte, decide_eq_true s9, bs_len, ge, decide_eq_true l4, ba1, bq1]
          refine Cal.mk (Get32_n hp.b) ?_
          rintro _ _ ⟨rfl, rfl⟩ -
          simp (maxSteps := 3000000) only [go_sem, ↓reduceIte, ba1, bq1, at_cut]
          rw [hE]
          simp only [c9, s9, l4, true_and, decide_not, ne_eq]
        · simp (maxSteps := 3000000) only [go_sem, ↓reduceIte, decide_eq_true s9, bs_len, ge, decide_eq_false l4, at_cut]
          rw [hE, decide_eq_false fun e => l4 e.2.2.1]
      · simp (maxSteps := 3000000) only [go_sem, ↓reduceIte, decide_eq_false s9, at_cut]
        rw [hE, decide_eq_false fun e => s9 e.2.1]
    · simp (maxSteps := 3000000) only [go_sem, ↓reduceIte, decide_eq_false c9, at_cut]
      rw [hE, decide_eq_false fun e => c9 e.1]
  · intro B h43
    simp (maxSteps := 3000000) only [go_sem, ↓reduceIte, h43]
    refine If.cut [7, 8, 45, 46, 47, 48, 49, 50, 51, 52, 54, 55, 56, 58, 60, 62, 63, 64] (fun B s2 => ∃ t2, B 7 = .agg [.sl t2 (ctls (lcpEcho N1 p P)), .sc (.bool up), .sc (.bool down), .sc (.bool over)] ∧ RO 3 st.bare s2 (.sl t2 (ctls (lcpEcho N1 p P))) (ctls (lcpEcho N1 p P)) ∧ LcpI a n q d (k + 1) s2 N1 ∧ Tn (n :: [q, d]) st s2 ∧ (lcpEcho N1 p P).length ≤ 6) rfl ?_ ?_
    · cases E with
      | false =>
        have hc := of_decide_eq_false hE.symm
        rw [lcpEcho, if_neg hc]
        simp (maxSteps := 3000000) only [go_sem, ↓reduceIte, at_cutk_n]
        exact ⟨tv, rfl, o1, o2, o3, by omega⟩
      | true =>
        have hc := of_decide_eq_true hE.symm
        rw [lcpEcho, if_pos hc]
        have l4 := hc.2.2.1
        simp (maxSteps := 3000000) only [go_sem, ↓reduceIte, ba1, bq1, allSz_bs', bs_len, bs_drop]
        repeat (apply And.intro; focus (first | omega | (simp; done)))
        refine Cal.mk (Put32_v (L := []) own_nil (by simp) hwg.g0 hwg.g1) ?_
        rintro r2 s2 ⟨k1, k2⟩ -
        rw [List.nil_append] at k1
        obtain ⟨t2, rfl⟩ := own_sl k1
        simp (maxSteps := 3000000) only [go_sem, ↓reduceIte]
        refine App.mk (bytes := 1) (ys := bs (p.data.drop 4)) k1 (allSz_bs _) (by have := hp.l; simp only [bs_len, beL_len, List.length_drop]; unfold maxLen; omega) (by have := hp.l; simp only [bs_len, beL_len, List.length_drop]; omega) ?_
        intro r3 s3 k3 k4
        rw [bs_append] at k3
        obtain ⟨t3, rfl⟩ := own_sl k3
        have K := AppSt.transL o1.lt k2 k4
        have R3 := o1.beside K noOwn
        have T3 : Tn [] s s3 := (Tn.refl o1.lt).app K noOwn o1.lt
        simp (maxSteps := 3000000) only [go_sem, ↓reduceIte]
        refine App.mk (bytes := 32) (l := ctls P) (ys := ctls [⟨10, p.id, beL N1.r.w.magic 4 ++ p.data.drop 4⟩]) R3.own (allSz_ctls _) (by simp only [ctls_len, List.length_cons, List.length_nil]; unfold maxLen; omega) (by simp only [ctls_len, List.length_cons, List.length_nil]; omega) ?_
        intro r4 s4 k5 k6
        have R4 := R3.app k5 k6
        rw [ctls_append] at R4
        obtain ⟨t4, rfl⟩ := R4.sl
        have E4 : Tn (n :: [q, d]) st s4 := (o3.trans (T3.wide (by simp))).app k6 (fun g k l e => R3.tok g k l e) hlt
        have I4 := (o2.tn T3).app R3 k6 R4.lt
        simp (maxSteps := 3000000) only [go_sem, ↓reduceIte, at_cutk_n]
        exact ⟨t4, rfl, R4, I4, E4, by simp only [List.length_append, List.length_cons, List.length_nil]; omega⟩
    · rintro B2 s2 ⟨t2, h7, R2, I2, T2, hl2⟩
      have ba2 := I2.ba
      simp (maxSteps := 3000000) only [go_sem, ↓reduceIte, ba2]
      refine Cal.mk (guardLoopR I2) ?_
      rintro _ _ ⟨rfl, rfl⟩ -
      by_cases c : 4 ≤ N1.r.guard
      · rw [if_pos c] at hX
        obtain ⟨I3, T3⟩ := I2.calm R2.lt
        have bq2 := I2.ng.si.bq
        unfold lrC at bq2 I3 T3
        simp only at I3 T3
        have R3 := R2.tn (T3.wide (by' := n :: [q, d]) (fun b hb => hb)) (fun b hb => rfl)
        simp (maxSteps := 3000000) only [go_sem, ↓reduceIte, decide_eq_true c, ba2, bq2]
        refine Cal.mk (lcpClose_v I3 hn hn2) ?_
        rintro r4 s4 ⟨t4, rfl, R4, I4, T4, hl4⟩ -
        have R34 := R3.tn T4 (fun b hb => rfl)
        generalize Neg.close lcpU _ now = Z at R4 I4 hl4 hX
        obtain ⟨N4, P4, u4, d4, v4⟩ := Z
        simp only at R4 I4 hl4 hX
        simp (maxSteps := 3000000) only [go_sem, ↓reduceIte, outV, h7]
        refine App.mk (bytes := 32) (l := ctls (lcpEcho N1 p P)) (ys := ctls P4) R34.own (allSz_ctls _) (by simp only [ctls_len]; unfold maxLen; omega) (by simp only [ctls_len]; omega) ?_
        intro r5 s5 k5 k6
        have R5 := R34.app k5 k6
        rw [ctls_append] at R5
        obtain ⟨t5, rfl⟩ := R5.sl
        have I5 := I4.app R34 k6 R5.lt
        have T5 : Tn (n :: [q, d]) st s5 := ((T2.trans T3).trans T4).app k6 (fun g k l e => R34.tok g k l e) hlt
        cases down <;> cases over
        all_goals
          simp (maxSteps := 3000000) only [go_sem, ↓reduceIte, h7]
          exact ⟨_, _, Wk.refl _, T5.lt.weak, t5, by rw [hX]; rfl, by rw [hX]; exact R5, by rw [hX]; exact I5, T5, by rw [hX]; simp only [List.length_append]; omega⟩
      · rw [if_neg c] at hX
        simp (maxSteps := 3000000) only [go_sem, ↓reduceIte, decide_eq_false c, h7]
        exact ⟨_, _, Wk.refl _, T2.lt.weak, t2, by rw [hX]; rfl, by rw [hX]; exact R2, by rw [hX]; exact I2, T2, by rw [hX]; simp only; omega⟩
structure DrO (base s : St) (d : Nat) (ds : List Int) (c : Int) : Prop where
  ex : ∃ tk, s.box d = some [.sl tk (w4s ds), .sc (.int .u32 c)] ∧ RO 1 base s (.sl tk (w4s ds)) (w4s ds)
  sd : base.sz ≤ d
theorem DrO.b {base : St} {ds : List Int} {c : Int} (h : DrO base s d ds c) : DrB s d ds c := by
  obtain ⟨tk, h1, _⟩ := h.ex; exact ⟨tk, h1⟩
set_option maxRecDepth 100000 in
theorem drAdd_v {base : St} {ds : List Int} {c x : Int} (hb : DrO base st d ds c) (hl : ds.length < 64) : VCalls Tryz.prog 30 [ptrV d, .sc (.int .u32 x)] st fun r s =>
    r = .sc (.bool true) ∧ DrO base s d (ds ++ [x]) c := by
  refine vcalls_enterq pc30 (Nat.le_of_ble_eq_true rfl) rfl fun hwf hok => ?_
  show Run _ Pc30.body (.fin (finP Pc30.res _)) _ _
  unfold Pc30 zn zo
  have hlt := hwf.lt
  have sd := hb.sd
  obtain ⟨tk, hb, R⟩ := hb.ex
  simp (maxSteps := 3000000) only [go_sem, ↓reduceIte, hb, w4s_len, decide_eq_false (show ¬ (64 : Int) ≤ (ds.length : Int) by omega)]
  refine App.mk (bytes := 4) (l := w4s ds) (ys := w4s [x]) R.own (allSz_w4s _) (by simp only [w4s_len, List.length_cons, List.length_nil]; unfold maxLen; omega) (by simp only [w4s_len, List.length_cons, List.length_nil]; omega) ?_
  intro r2 s2 k1 k2
  have R2 := R.app k1 k2
  rw [w4s_append] at R2
  obtain ⟨t2, rfl⟩ := R2.sl
  rw [← k2.box] at hb
  simp (maxSteps := 3000000) only [go_sem, ↓reduceIte, hb]
  exact ⟨_, _, Wk.refl _, R2.lt.put.weak, rfl, ⟨t2, put_box_same, R2.put sd⟩, sd⟩
set_option maxRecDepth 100000 in
theorem law37Draws_v {L : List Int} (hl : L.length ≤ 64) {tk : Tk} : VCalls Tryz.prog 7 [.sl tk (w4s L)] st fun r s => ∃ d, r = ptrV d ∧ DrB s d L 0 ∧ st.sz ≤ d ∧ st.weak s ∧ s.Lt := by
  refine vcalls_enterq pc7 (Nat.le_of_ble_eq_true rfl) rfl fun hwf hok => ?_
  show Run _ Pc7.body (.fin (finP Pc7.res _)) _ _
  unfold Pc7 zg zo
  have hlt := hwf.lt
  simp (maxSteps := 3000000) only [go_sem, ↓reduceIte]
  intro d hd
  have D0 : DrO st (st.put d [.sl .nil [], .sc (.int .u32 0)]) d [] 0 := ⟨⟨.nil, put_box_same, RO.nil (weak_put hlt.weak hd) hlt.put⟩, hd⟩
  generalize st.put d _ = s0 at D0 ⊢
  refine run_loop [4, 9, 10, 12, 13, 14, 16, 20, 21, 22] (fun B s => ∃ i : Nat, i ≤ L.length ∧ B 4 = .sc (.int .i64 i) ∧ DrO st s d (L.take i) 0) (fun B _ => L.length - vnat (B 4)) rfl ?_ ?_
  · exact ⟨0, by omega, rfl, D0⟩
  · rintro B s ⟨i, hi, h4, D⟩
    have hw : st.weak s := by obtain ⟨tk, _, R⟩ := D.ex; exact R.weak
    have hL : s.Lt := by obtain ⟨tk, _, R⟩ := D.ex; exact R.lt
    by_cases c : i < L.length
    · have hg : (w4s L)[i]? = some (.sc (.int .u32 L[i])) := by simp [w4s, c]
      have hs : L.take (i + 1) = L.take i ++ [L[i]] := by rw [List.take_add_one, List.getElem?_eq_getElem c]; rfl
      simp (maxSteps := 3000000) only [go_sem, ↓reduceIte, h4, w4s_len, decide_eq_true (show (i : Int) < (L.length : Int) by omega), decide_eq_true (show (i : Int) < 64 by omega), hg]
      repeat (apply And.intro; focus (first | omega | (simp; done)))
      refine Cal.mk (drAdd_v (x := L[i]) D (by simp only [List.length_take]; omega)) ?_
      rintro _ s2 ⟨rfl, D2⟩ -
      rw [← hs] at D2
      simp (maxSteps := 3000000) only [go_sem, ↓reduceIte, h4]
      repeat (apply And.intro; focus (first | omega | (simp; done)))
      exact ⟨⟨i + 1, by omega, by simp, D2⟩, by omega⟩
    · obtain rfl : i = L.length := by omega
      rw [List.take_length] at D
      simp (maxSteps := 3000000) only [go_sem, ↓reduceIte, h4, w4s_len]
      exact ⟨_, _, Wk.refl _, hL.weak, d, rfl, D.b, hd, hw, hL⟩
end
section
variable {d : Nat} {st : St} {ds : List Int}
theorem negNew_v {R : Type} (r0 : R) {t : TypeId} {pv : Value} {c : Int} : VCalls Tryz.prog 29 [.sc (.iface t pv), .sc (.int .u8 c)] st fun r s => ∃ n, r = ptrV n ∧ st.sz ≤ n ∧ s = st.put n (negC (.sc (.iface t pv)) c (⟨0, 0, 0, 0, [], 0, r0⟩ : Neg R) .nil) := by
  refine vcalls_enterq pc29 (Nat.le_of_ble_eq_true rfl) rfl fun hwf hok => ?_
  show Run _ Pc29.body (.fin (finP Pc29.res _)) _ _
  unfold Pc29 zo
  simp (maxSteps := 3000000) only [go_sem, ↓reduceIte]
  intro n hn
  exact ⟨_, _, Wk.refl _, hwf.lt.put.weak, n, rfl, hn, rfl⟩
theorem NegI.new {R : Type} {U : Rul R} {t : TypeId} {pv : Value} {SI : Nat → St → R → Prop} {bx : List Nat} {codes : Int} {n k : Nat} {r : R} (hU : RulC U t pv SI bx) (h : SI k st r) (hl : st.Lt) (hn : st.sz ≤ n) :
    NegI (.sc (.iface t pv)) codes SI bx n k (st.put n (negC (.sc (.iface t pv)) codes (⟨0, 0, 0, 0, [], 0, r⟩ : Neg R) .nil)) (⟨0, 0, 0, 0, [], 0, r⟩ : Neg R) :=
  ⟨⟨.nil, put_box_same⟩, hU.stay k st _ r h (fun b cs hb _ => (tn_new hl hn).box b cs hb (by simp)) (tn_new (cs := []) hl hn).sz, fun hm => by have := hU.lt k st r h n hm; omega, Int.le_refl 0, (show (0 : Int) ≤ 10 by decide), Int.le_refl 0, (show (0 : Int) < 256 by decide), Int.le_refl 0, Int.natCast_nonneg k, IsB.nil'⟩
set_option maxRecDepth 100000 in
theorem lcpNew_v (hb : DrB st d ds 0) (hG : DrG ds 0) (ld : d < st.sz) : VCalls Tryz.prog 6 [ptrV d] st fun r s =>
    ∃ a n q, r = ptrV a ∧ LcpI a n q d 0 s (lcpNew ds) ∧ Tn [d] st s ∧ st.sz ≤ a ∧ st.sz ≤ n ∧ st.sz ≤ q := by
  refine vcalls_enterq pc6 (Nat.le_of_ble_eq_true rfl) rfl fun hwf hok => ?_
  show Run _ Pc6.body (.fin (finP Pc6.res _)) _ _
  unfold Pc6 zo
  have hlt := hwf.lt
  obtain ⟨r, hr⟩ : ∃ r : Lr, r = ⟨.zero, .zero, ds, 0, 0⟩ := ⟨_, rfl⟩
  have hN : lcpNew ds = ⟨0, 0, 0, 0, [], 0, { r.draw.1 with w := ⟨1400, true, r.draw.2, false, false⟩ }⟩ := by rw [hr]; rfl
  rw [hN]
  have hb' : DrB st d r.ds r.k := by rw [hr]; exact hb
  have hG' : DrG r.ds r.k := by rw [hr]; exact hG
  have hdg := draw_good hG'
  obtain ⟨w1, w2, w3⟩ := draw_keep (r := r)
  have w2' : r.draw.1.g = Want.zero := by rw [w2, hr]
  have w3' : r.draw.1.guard = 0 := by rw [w3, hr]
  clear hN hr
  simp (maxSteps := 3000000) only [go_sem, ↓reduceIte]
  refine Cal.mk (drSome_v hb' hG') ?_
  rintro _ s1 ⟨rfl, d1, T1⟩ -
  generalize r.draw = z at d1 hdg w2' w3' ⊢
  obtain ⟨r1, x⟩ := z
  simp only at d1 hdg w2' w3' ⊢
  simp (maxSteps := 3000000) only [go_sem, ↓reduceIte]
  intro q hq
  have T2 : Tn [] s1 (s1.put q (lrC d { r1 with w := ⟨1400, true, x, false, false⟩ })) := tn_new T1.lt hq
  have hqd : q ≠ d := by have := T1.sz; omega
  have I1 : LcI q d 0 (s1.put q (lrC d { r1 with w := ⟨1400, true, x, false, false⟩ })) { r1 with w := ⟨1400, true, x, false, false⟩ } := by
    obtain ⟨tk, d1⟩ := d1
    refine ⟨put_box_same, ⟨tk, T2.box d _ d1 (by simp)⟩, hdg.1, ⟨by show (0 : Int) ≤ 1400; decide, by show (1400 : Int) < 65536; decide, Int.le_of_lt hdg.2.1, hdg.2.2⟩, by rw [w2']; exact Want.zero_good, by rw [w3']; exact Int.le_refl 0, by rw [w3']; exact Int.le_refl 0, hqd, ?_, ?_⟩
    · simp only [put_sz]; omega
    · have := T1.sz; simp only [put_sz]; omega
  unfold lrC at I1 T2
  rw [w2', w3'] at I1 T2
  simp only [Want.zero] at I1 T2
  generalize s1.put q _ = s2 at I1 T2 ⊢
  obtain ⟨r2, hr2⟩ : ∃ r2 : Lr, r2 = { r1 with w := ⟨1400, true, x, false, false⟩ } := ⟨_, rfl⟩
  have I1 : LcI q d 0 s2 r2 := by rw [hr2, w2', w3']; exact I1
  refine Cal.mk (negNew_v r2) ?_
  rintro _ _ ⟨n, rfl, hn, rfl⟩ -
  have sz1 := T1.sz
  have sz2 := T2.sz
  have T3 := tn_new (cs := negC (.sc (.iface 69 (.pointer (some ⟨q, 0, none⟩)))) 11 (⟨0, 0, 0, 0, [], 0, r2⟩ : Neg Lr) .nil) T2.lt hn
  have I3 := NegI.new (codes := 11) lcp_rules I1 T2.lt hn
  rw [← hr2]
  generalize s2.put n _ = s3 at I3 T3 ⊢
  simp (maxSteps := 3000000) only [go_sem, ↓reduceIte]
  intro a ha
  have sz3 := T3.sz
  have hl3 := I3.lt lcp_rules T3.lt
  have T4 := tn_new (cs := [ptrV n, ptrV q]) T3.lt ha
  have I4 := I3.tn lcp_rules T4
  have hna : a ∉ n :: [q, d] := fun hm => by have := hl3 a hm; omega
  exact ⟨_, _, Wk.refl _, T4.lt.weak, a, n, q, rfl, ⟨put_box_same, I4, hna, by simp only [put_sz]; omega⟩, T1.trans ((T2.trans (T3.trans T4)).wide (by simp)), by omega, by omega, by omega⟩
end
end
section
open Go
section
variable {R : Type} {U : Rul R} {N : Neg R}
theorem done_keep {act : Int} {again : Bool} {p back : Ctl} : (N.done U act again p back).1.r = N.r ∧ (N.done U act again p back).1.s = N.s ∧ (N.done U act again p back).1.left = N.left ∧ (N.done U act again p back).1.at_ = N.at_ := by
  simp only [Neg.done, Neg.d1, Neg.d3, Neg.d5, Neg.d6, Neg.asked, Neg.bump]
  cases hasA act 64 <;> cases hasA act 512 <;> cases hasA act 2048 <;> cases hasA act 2 <;> exact ⟨rfl, rfl, rfl, rfl⟩
theorem event_keep {now e : Int} {p back : Ctl} : (N.event U now e p back).1.r = N.r ∧ (N.event U now e p back).1.s = (stepF N.s e).1 := by
  have := done_keep (U := U) (N := N.step now e) (act := (stepF N.s e).2) (again := false) (p := p) (back := back)
  exact ⟨this.1, this.2.1⟩
end
theorem step00 : stepF 0 0 = (2, 0) := by decide
theorem step22 : stepF 2 2 = (6, 80) := by decide
theorem step66 : stepF 6 6 = (8, 128) := by decide
theorem step67 : stepF 6 7 = (6, 256) := by decide
theorem step63 : stepF 6 3 = (4, 528) := by decide
theorem step4a : stepF 4 10 = (4, 1024) := by decide
theorem step4b : stepF 4 11 = (2, 8) := by decide
theorem acts0 : hasA 0 1 = false ∧ hasA 0 2 = false ∧ hasA 0 8 = false ∧ hasA 0 64 = false ∧ hasA 0 384 = false ∧ hasA 0 512 = false ∧ hasA 0 1024 = false ∧ hasA 0 2048 = false := by decide
theorem acts80 : hasA 80 1 = false ∧ hasA 80 2 = false ∧ hasA 80 8 = false ∧ hasA 80 64 = true ∧ hasA 80 384 = false ∧ hasA 80 512 = false ∧ hasA 80 1024 = false ∧ hasA 80 2048 = false := by decide
theorem acts256 : hasA 256 1 = false ∧ hasA 256 2 = false ∧ hasA 256 8 = false ∧ hasA 256 64 = false ∧ hasA 256 384 = true ∧ hasA 256 512 = false ∧ hasA 256 1024 = false ∧ hasA 256 2048 = false := by decide
theorem acts528 : hasA 528 1 = false ∧ hasA 528 2 = false ∧ hasA 528 8 = false ∧ hasA 528 64 = false ∧ hasA 528 384 = false ∧ hasA 528 512 = true ∧ hasA 528 1024 = false ∧ hasA 528 2048 = false := by decide
theorem acts1024 : hasA 1024 1 = false ∧ hasA 1024 2 = false ∧ hasA 1024 8 = false ∧ hasA 1024 64 = false ∧ hasA 1024 384 = false ∧ hasA 1024 512 = false ∧ hasA 1024 1024 = true ∧ hasA 1024 2048 = false := by decide
theorem acts8 : hasA 8 1 = false ∧ hasA 8 2 = false ∧ hasA 8 8 = true ∧ hasA 8 64 = false ∧ hasA 8 384 = false ∧ hasA 8 512 = false ∧ hasA 8 1024 = false ∧ hasA 8 2048 = false := by decide
def reqB (x : Int) : List Int := [1, 4, 5, 120, 3, 5, 194, 35, 5, 5, 6] ++ beL x 4
theorem beL4 (x : Int) : beL x 4 = [x / 16777216 % 256, x / 65536 % 256, x / 256 % 256, x % 256] := by simp [beL]
theorem reqB_eq {x : Int} (hx : 0 < x) : buildO (optsW ⟨1400, true, x, false, false⟩) = reqB x := by
  have : x ≠ 0 := by omega
  simp [optsW, buildO, reqB, oneO, beL4, this]
  simp [beL]
theorem num4_beL {x : Int} (h0 : 0 ≤ x) (h1 : x < 4294967296) : num4 (beL x 4) = x := by
  rw [beL4]
  simp [num4, numL]
  omega
theorem num2_beL {x : Int} (h0 : 0 ≤ x) (h1 : x < 65536) : num2 (beL x 2) = x := by
  simp [num2, numL, beL]
  omega
theorem reqB_parse (x : Int) : parseO (reqB x) = ([(1, [5, 120]), (3, [194, 35, 5]), (5, beL x 4)], 0) := by
  rw [reqB, beL4]
  rfl
theorem start_new {ds : List Int} (h : DrG ds 0) : ∃ x r, 0 < x ∧ x < 4294967296 ∧ r.w = ⟨1400, true, x, false, false⟩ ∧ r.g = .zero ∧ r.guard = 0 ∧ (lcpNew ds).r = r ∧ ((lcpNew ds).start lcpU 0).1.r = r ∧ ((lcpNew ds).start lcpU 0).1.s = 6 ∧ ((lcpNew ds).start lcpU 0).1.id = 1 ∧ ((lcpNew ds).start lcpU 0).2 = ⟨[⟨1, 1, reqB x⟩], false, false, false⟩ := by
  obtain ⟨w1, w2, w3⟩ := draw_keep (r := ⟨.zero, .zero, ds, 0, 0⟩)
  have hd := draw_good (r := ⟨.zero, .zero, ds, 0, 0⟩) h
  have hN : lcpNew ds = ⟨0, 0, 0, 0, [], 0, { (Lr.draw ⟨.zero, .zero, ds, 0, 0⟩).1 with w := ⟨1400, true, (Lr.draw ⟨.zero, .zero, ds, 0, 0⟩).2, false, false⟩ }⟩ := rfl
  rw [hN]
  generalize Lr.draw ⟨.zero, .zero, ds, 0, 0⟩ = z at w1 w2 w3 hd
  obtain ⟨r, x⟩ := z
  simp only at w1 w2 w3 hd ⊢
  refine ⟨x, { r with w := ⟨1400, true, x, false, false⟩ }, hd.2.1, hd.2.2, rfl, w2, w3, rfl, ?_, ?_, ?_, ?_⟩
  · simp only [Neg.start, event_keep]
  · simp only [Neg.start, event_keep, step00, step22]
  · simp [Neg.start, Neg.event, Neg.step, Neg.done, Neg.d1, Neg.d3, Neg.d5, Neg.d6, Neg.asked, step00, step22, acts0, acts80]
  · have hr : buildO (lcpU.request { r with w := ⟨1400, true, x, false, false⟩ }) = reqB x := reqB_eq hd.2.1
    simp [Neg.start, Neg.event, Neg.step, Neg.done, Neg.d1, Neg.d2, Neg.d3, Neg.d4, Neg.d5, Neg.d6, Neg.asked, Nout.both, step00, step22, acts0, acts80, hr]
section
variable {N : Neg Lr} {x : Int}
def authO : List Opt := [(3, [194, 35, 5])]
def authB : List Int := [3, 5, 194, 35, 5]
theorem event256 {R : Type} {U : Rul R} {N : Neg R} {now e s' : Int} {p back : Ctl} (h : stepF N.s e = (s', 256)) : N.event U now e p back = (N.step now e, ⟨[back], false, false, false⟩) := by
  simp [Neg.event, Neg.done, Neg.d1, Neg.d2, Neg.d3, Neg.d4, Neg.d5, Neg.d6, h, acts256]
theorem event528 {R : Type} {U : Rul R} {N : Neg R} {now e s' : Int} {p back : Ctl} (h : stepF N.s e = (s', 528)) : N.event U now e p back = ((N.step now e).bump, ⟨[⟨5, (N.id + 1) % 256, []⟩], false, false, false⟩) := by
  simp [Neg.event, Neg.done, Neg.d1, Neg.d2, Neg.d3, Neg.d4, Neg.d5, Neg.d6, h, acts528, Neg.bump, Neg.step]
theorem event1024 {R : Type} {U : Rul R} {N : Neg R} {now e s' : Int} {p back : Ctl} (h : stepF N.s e = (s', 1024)) : N.event U now e p back = (N.step now e, ⟨[⟨6, p.id, []⟩], false, false, false⟩) := by
  simp [Neg.event, Neg.done, Neg.d1, Neg.d2, Neg.d3, Neg.d4, Neg.d5, Neg.d6, h, acts1024]
theorem event8 {R : Type} {U : Rul R} {N : Neg R} {now e s' : Int} {p back : Ctl} (h : stepF N.s e = (s', 8)) : N.event U now e p back = (N.step now e, ⟨[], false, false, true⟩) := by
  simp [Neg.event, Neg.done, Neg.d1, Neg.d2, Neg.d3, Neg.d4, Neg.d5, Neg.d6, h, acts8]
theorem lcpTake_of {now : Int} {p : Ctl} {Y : Neg Lr × Nout} (hN : N.take lcpU 11 now p = Y) (hc : p.code ≠ 9) (hg : Y.1.r.guard < 4) : lcpTake N now p = Y := by
  have hE : lcpEcho Y.1 p Y.2.P = Y.2.P := by rw [lcpEcho, if_neg (fun e => hc e.1)]
  simp only [lcpTake, hN, hE]
  rw [if_neg (by omega)]
theorem hears1 (hs : N.s = 6) (hw : N.r.w = ⟨1400, true, x, false, false⟩) (hg : N.r.guard = 0) (h0 : 0 < x) (h1 : x < 4294967296) :
    ∃ N', lcpTake N 1 ⟨1, 1, reqB x⟩ = (N', ⟨[⟨4, 1, authB⟩], false, false, false⟩) ∧ N'.s = 6 ∧ N'.id = N.id ∧ N'.r.w = N.r.w ∧ N'.r.guard = 1 := by
  have hn := num4_beL (Int.le_of_lt h0) h1
  have hfi : findO [((1 : Int), [(5 : Int), 120]), (3, [194, 35, 5]), (5, beL x 4)] 5 = some (beL x 4) := rfl
  have hth : theirN [((1 : Int), [(5 : Int), 120]), (3, [194, 35, 5]), (5, beL x 4)] = x := by rw [theirN, hfi]; exact hn
  have hj : ∀ dr, judgeL [((1 : Int), [(5 : Int), 120]), (3, [194, 35, 5]), (5, beL x 4)] x dr = (4, authO) := fun dr => by
    simp [judgeL, judgeF, judgeStep, sizeT, betterO, beL_len, hn, num2, numL, authO]
  have hx : ¬ x = 0 := by omega
  have hju : lcpU.judge N.r [((1 : Int), [(5 : Int), 120]), (3, [194, 35, 5]), (5, beL x 4)] = ((N.r.see x x).draw.1, 4, authO) := by
    show N.r.judge _ = _
    simp only [Lr.judge, hw, hth]
    rw [if_pos (.inl ⟨hx, trivial⟩), hj]
  obtain ⟨w1, w2, w3⟩ := draw_keep (r := N.r.see x x)
  have g1 : (N.r.see x x).draw.1.guard = 1 := by rw [w3]; simp [Lr.see, hg, hx]
  have g2 : (N.r.see x x).draw.1.w = N.r.w := by rw [w1]; rfl
  generalize (N.r.see x x).draw.1 = r1 at hju g1 g2
  refine ⟨Neg.step { N with r := r1 } 1 7, lcpTake_of ?_ (show (1 : Int) ≠ 9 by decide) ?_, ?_, rfl, g2, g1⟩
  · have h67 : stepF (Neg.mk N.s N.left N.at_ N.id N.req N.naks r1).s 7 = (6, 256) := by rw [← step67, ← hs]
    rw [← event256 (U := lcpU) (p := ⟨1, 1, reqB x⟩) (back := ⟨4, 1, authB⟩) (now := 1) h67]
    simp only [Neg.take, Neg.request, reqB_parse, hs, Neg.judge, hju]
    rfl
  · show r1.guard < 4; omega
  · show (stepF N.s 7).1 = 6
    rw [hs, step67]
theorem hears2 (hs : N.s = 6) (hi : N.id = 1) (hw : N.r.w.auth = true) (hg : N.r.guard = 1) :
    ∃ N', lcpTake N 1 ⟨4, 1, authB⟩ = (N', ⟨[⟨5, 2, []⟩], false, false, false⟩) ∧ N'.s = 4 ∧ N'.r.guard = 1 := by
  obtain ⟨s, left, at_, id, req, naks, r⟩ := N
  simp only at hs hi hw hg
  subst hs hi
  have hr : lcpU.rejected r authO = (r, false) := by
    show ({ r with w := (rejectedL r.w authO).1 }, (rejectedL r.w authO).2) = _
    simp [rejectedL, authO, hw]
  have hp : parseO authB = (authO, 0) := rfl
  refine ⟨((Neg.mk 6 left at_ 1 req naks r).step 1 3).bump, lcpTake_of ?_ (show (4 : Int) ≠ 9 by decide) ?_, ?_, hg⟩
  · have h63 : stepF (Neg.mk 6 left at_ 1 req naks r).s 3 = (4, 528) := step63
    have := event528 (U := lcpU) (p := zeroC) (back := zeroC) (now := 1) h63
    rw [show (((Neg.mk 6 left at_ 1 req naks r).id + 1) % 256) = 2 from rfl] at this
    rw [← this]
    simp only [Neg.take, Neg.answered, hp, hr]
    rfl
  · show r.guard < 4; omega
  · show (stepF 6 3).1 = 4
    rw [step63]
theorem hears3 (hs : N.s = 4) (hg : N.r.guard = 1) : ∃ N', lcpTake N 1 ⟨5, 2, []⟩ = (N', ⟨[⟨6, 2, []⟩], false, false, false⟩) ∧ N'.s = 4 ∧ N'.r.guard = 1 := by
  refine ⟨N.step 1 10, lcpTake_of ?_ (show (5 : Int) ≠ 9 by decide) ?_, ?_, hg⟩
  · have h4 : stepF N.s 10 = (4, 1024) := by rw [← step4a, ← hs]
    rw [← event1024 (U := lcpU) (p := ⟨5, 2, []⟩) (back := zeroC) (now := 1) h4]
    rfl
  · show N.r.guard < 4; omega
  · show (stepF N.s 10).1 = 4
    rw [hs, step4a]
theorem hears4 (hs : N.s = 4) (hg : N.r.guard = 1) : ∃ N', lcpTake N 1 ⟨6, 2, []⟩ = (N', ⟨[], false, false, true⟩) ∧ N'.s = 2 := by
  refine ⟨N.step 1 11, lcpTake_of ?_ (show (6 : Int) ≠ 9 by decide) ?_, ?_⟩
  · have h4 : stepF N.s 11 = (2, 8) := by rw [← step4b, ← hs]
    rw [← event8 (U := lcpU) (p := ⟨6, 2, []⟩) (back := zeroC) (now := 1) h4]
    rfl
  · show N.r.guard < 4; omega
  · show (stepF N.s 11).1 = 2
    rw [hs, step4b]
theorem takes_mru {m : Int} (hs : N.s = 6) (hg : N.r.guard = 0) (h0 : 128 ≤ m) (h1 : m ≤ 1500) : (lcpTake N 1 ⟨1, 1, buildO [(1, beL m 2)]⟩).1.r.g.mru = m := by
  have hn := num2_beL (x := m) (by omega) (by omega)
  have hp : parseO (buildO [(1, beL m 2)]) = ([(1, beL m 2)], 0) := rfl
  have hth : theirN [((1 : Int), beL m 2)] = 0 := rfl
  have hj : ∀ own dr, judgeL [((1 : Int), beL m 2)] own dr = (2, [(1, beL m 2)]) := fun own dr => by
    have n1 : ¬ num2 (beL m 2) < 128 := by omega
    have n2 : ¬ 1500 < num2 (beL m 2) := by omega
    simp [judgeL, judgeF, judgeStep, sizeT, betterO, beL_len, n1, n2]
  obtain ⟨r1, hju⟩ : ∃ r1, lcpU.judge N.r [((1 : Int), beL m 2)] = (r1, 2, [(1, beL m 2)]) ∧ r1.guard = 0 := by
    obtain ⟨w1, w2, w3⟩ := draw_keep (r := N.r.see N.r.w.magic 0)
    refine ⟨(N.r.see N.r.w.magic 0).draw.1, ?_, ?_⟩
    · show N.r.judge _ = _
      simp only [Lr.judge, hth]
      rw [if_pos (.inr trivial), hj]
    · rw [w3]
      simp [Lr.see]
  obtain ⟨hju, hg1⟩ := hju
  obtain ⟨Y, hY⟩ : ∃ Y, Y = N.take lcpU 11 1 ⟨1, 1, buildO [(1, beL m 2)]⟩ := ⟨_, rfl⟩
  have hYe : Y = Neg.event lcpU { N with r := { r1 with g := ofL [(1, beL m 2)] }, naks := 0 } 1 6 ⟨1, 1, buildO [(1, beL m 2)]⟩ ⟨2, 1, buildO [(1, beL m 2)]⟩ := by
    rw [hY]
    simp only [Neg.take, Neg.request, hp, hs, Neg.judge, hju]
    rfl
  have hr : Y.1.r = { r1 with g := ofL [(1, beL m 2)] } := by rw [hYe, event_keep.1]
  rw [lcpTake_of hY.symm (show (1 : Int) ≠ 9 by decide) (by rw [hr]; show r1.guard < 4; omega), hr]
  show (ofL [(1, beL m 2)]).mru = m
  simp [ofL, ofStep, hn]
end
end
section
open Go
section
variable {tk tk' : Tk} {L M : List Int} {st : St}
theorem pow256_le {k : Nat} (h : k ≤ 7) : (256 : Int) ^ k ≤ 72057594037927936 := by
  have h7 : ∀ k : Nat, k ≤ 7 → (256 : Int) ^ k ≤ 72057594037927936 := by decide
  exact h7 _ h
theorem rNum_v (hB : IsB L) (hl : L.length ≤ 8) : VCalls Tryz.prog 53 [.sl tk (bs L)] st fun r st' => r = .sc (.int .u64 (numL L)) ∧ st = st' := by
  refine vcalls_enter vc53 (Nat.le_of_ble_eq_true rfl) fun hwf hok => ?_
  show Run _ Vc53.body (.fin (finQ Vc53.res _)) _ _
  unfold Vc53 zo
  simp (config := {maxSteps := 3000000}) (disch := ((fail_if_success refine selfNe ?_); omega)) only [go_sem]
  refine run_loop [3, 4, 5, 6, 7, 8, 9, 10, 11, 12, 13, 14, 15, 16, 17, 18] (fun B s => st = s ∧ ∃ i : Nat, i ≤ L.length ∧ B 4 = .sc (.int .i64 i) ∧ B 3 = .sc (.int .u64 (numL (L.take i)))) (fun B _ => L.length - vnat (B 4)) rfl ?_ ?_
  · simp (config := {maxSteps := 3000000}) (disch := ((fail_if_success refine selfNe ?_); omega)) only [go_sem, ↓reduceIte]
    exact ⟨0, by omega, by simp, by simp [numL_nil]⟩
  · rintro B s ⟨rfl, i, hi, h4, h3⟩
    by_cases hlt : i < L.length
    · obtain ⟨c, hc⟩ := get_ex hlt
      have bc := hB.get hc
      have hr := numL_range _ (L.take i) rfl (hB.take i)
      have hpw := pow256_le (k := (L.take i).length) (by simp; omega)
      have hsn : numL (L.take (i + 1)) = 256 * numL (L.take i) + c := by rw [List.take_add_one, hc]; exact numL_snoc _ _
      simp (config := {maxSteps := 3000000}) (disch := ((fail_if_success refine selfNe ?_); omega)) only [go_sem, ↓reduceIte, h4, h3, bs_len, decide_eq_true (show (i : Int) < (L.length : Int) by omega), bs_get, hc, emod_small]
      repeat (apply And.intro; focus (first | omega | (simp; done)))
      exact ⟨⟨i + 1, by omega, by simp, by rw [hsn]⟩, by omega⟩
    · obtain rfl : i = L.length := by omega
      have ht : L.take L.length = L := List.take_of_length_le (Nat.le_refl _)
      rw [ht] at h3
      simp (config := {maxSteps := 3000000}) (disch := ((fail_if_success refine selfNe ?_); omega)) only [go_sem, ↓reduceIte, h4, h3, bs_len]
      exact ⟨_, _, Wk.refl _, hwf.weak, rfl, rfl⟩
theorem eqB_v : VCalls Tryz.prog 54 [.sl tk (bs L), .sl tk' (bs M)] st fun r st' => r = .sc (.bool (decide (L = M))) ∧ st = st' := by
  refine vcalls_enter vc54 (Nat.le_of_ble_eq_true rfl) fun hwf hok => ?_
  show Run _ Vc54.body (.fin (finQ Vc54.res _)) _ _
  unfold Vc54 zo
  have hL := vlen_max (hok _ (List.mem_cons_self ..))
  rw [bs_len] at hL
  by_cases hl : L.length = M.length
  · simp (config := {maxSteps := 3000000}) (disch := ((fail_if_success refine selfNe ?_); omega)) only [go_sem, ↓reduceIte, bs_len, decide_eq_false (show ¬ ¬ (L.length : Int) = (M.length : Int) by omega)]
    refine run_loop [4, 5, 13, 14, 15, 16, 17, 18, 19, 20, 21, 22, 23, 24, 25] (fun B s => st = s ∧ ∃ i : Nat, i ≤ L.length ∧ B 13 = .sc (.int .i64 i) ∧ L.take i = M.take i) (fun B _ => L.length - vnat (B 13)) rfl ?_ ?_
    · simp (config := {maxSteps := 3000000}) (disch := ((fail_if_success refine selfNe ?_); omega)) only [go_sem, ↓reduceIte]
      exact ⟨0, by omega, by simp, by simp⟩
    · rintro B s ⟨rfl, i, hi, h13, he⟩
      by_cases hlt : i < L.length
      · obtain ⟨c, hc⟩ := get_ex hlt
        obtain ⟨d, hd⟩ := get_ex (L := M) (i := i) (by omega)
        simp (config := {maxSteps := 3000000}) (disch := ((fail_if_success refine selfNe ?_); omega)) only [go_sem, ↓reduceIte, h13, decide_eq_true (show (i : Int) < (L.length : Int) by omega), bs_get, hc, hd]
        repeat (apply And.intro; focus (first | omega | (simp; done)))
        refine If.dec (fun h => ?_) (fun h => ?_)
        · simp (config := {maxSteps := 3000000}) (disch := ((fail_if_success refine selfNe ?_); omega)) only [go_sem, ↓reduceIte]
          exact ⟨_, _, Wk.refl _, hwf.weak, by rw [decide_eq_false]; rintro rfl; rw [hc] at hd; cases hd; exact h rfl, rfl⟩
        · obtain rfl : c = d := by omega
          simp (config := {maxSteps := 3000000}) (disch := ((fail_if_success refine selfNe ?_); omega)) only [go_sem, ↓reduceIte, h13]
          repeat (apply And.intro; focus (first | omega | (simp; done)))
          exact ⟨⟨i + 1, by omega, by simp, by rw [List.take_add_one, List.take_add_one, hc, hd, he]⟩, by omega⟩
      · obtain rfl : i = L.length := by omega
        simp (config := {maxSteps := 3000000}) (disch := ((fail_if_success refine selfNe ?_); omega)) only [go_sem, ↓reduceIte, h13]
        rw [List.take_of_length_le (Nat.le_refl _), List.take_of_length_le (by omega)] at he
        exact ⟨_, _, Wk.refl _, hwf.weak, by rw [decide_eq_true he], rfl⟩
  · simp (config := {maxSteps := 3000000}) (disch := ((fail_if_success refine selfNe ?_); omega)) only [go_sem, ↓reduceIte, bs_len, decide_eq_true (show ¬ (L.length : Int) = (M.length : Int) by omega)]
    exact ⟨_, _, Wk.refl _, hwf.weak, by rw [decide_eq_false]; rintro rfl; exact hl rfl, rfl⟩
theorem Own.put {size : Nat} {st : St} {v : V} {l : List V} (h : Own size st v l) {b : Nat} {cs : List V} : Own size (st.put b cs) v l := by
  rcases h with h | ⟨g, h1, h2, h3⟩
  · exact .inl h
  · exact .inr ⟨g, h1, h2, by simp only [put_sz]; omega⟩
theorem bs_zeros (k : Nat) : (List.replicate k [V.sc (.int .u8 0)]).flatten = bs (List.replicate k 0) := by
  induction k with
  | zero => rfl
  | succ k ih => rw [List.replicate_succ, List.flatten_cons, ih, List.replicate_succ, bs_cons]; rfl
theorem splice_bs {m : Nat} {T : List Int} {x : Int} : splice (bs (List.replicate (m + 1) 0 ++ T)) m [.sc (.int .u8 x)] = bs (List.replicate m 0 ++ x :: T) := by
  unfold splice
  have e : List.replicate (m + 1) (0 : Int) ++ T = List.replicate m 0 ++ (0 :: T) := by rw [List.replicate_succ', List.append_assoc]; rfl
  have hl : (bs (List.replicate m 0)).length = m := by simp [bs_len]
  rw [e, ← bs_append, ← bs_append, List.take_append_of_le_length (by omega), List.take_of_length_le (by omega), List.drop_append, hl]
  rw [List.drop_of_length_le (by simp; omega), show m + [V.sc (.int .u8 x)].length - m = 1 by simp]
  simp [bs_cons]
theorem bs_flat (L : List Int) : (bs L).flatMap V.cells = bs L := by
  induction L with
  | nil => rfl
  | cons x L ih => rw [bs_cons, List.flatMap_cons, ih]; rfl
theorem St.weak.trans {a b c : St} (h : a.weak b) (k : b.weak c) : a.weak c :=
  ⟨fun x cs hx => ⟨(k.box x cs (h.box x cs hx).1).1, (h.box x cs hx).2⟩, fun g m hg => ⟨(k.own g m (h.own g m hg).1).1, (h.own g m hg).2⟩, Nat.le_trans h.sz k.sz⟩
structure New (st st' : St) (r : V) : Prop where
  weak : st.weak st'
  lt : st'.Lt
  tok : ∀ g k l, r = .sl (.own g k) l → st.sz ≤ g
theorem AppSt.keeps {s s' : St} {x r : V} (h : AppSt s x s' r) {t : St} (hw : t.weak s) (hx : ∀ g k l, x = .sl (.own g k) l → t.sz ≤ g) : t.weak s' :=
  ⟨fun b cs hb => ⟨by rw [h.box]; exact (hw.box b cs hb).1, (hw.box b cs hb).2⟩, fun g m hg => ⟨h.own g m (hw.own g m hg).1 (fun l k e => by have := hx g k l e; have := (hw.own g m hg).2; omega), (hw.own g m hg).2⟩, Nat.le_trans hw.sz h.sz⟩
theorem AppSt.fresh {s s' : St} {x r : V} (h : AppSt s x s' r) {t : St} (hs : t.sz ≤ s.sz) (hx : ∀ g k l, x = .sl (.own g k) l → t.sz ≤ g) : ∀ g k l, r = .sl (.own g k) l → t.sz ≤ g := fun g k l e => by
  rcases h.tok g k l e with ⟨l', e'⟩ | h2
  · exact hx g k l' e'
  · omega
theorem rPut_v {n size : Int} (hB : IsB L) (hl : L.length ≤ 1000000000000) (h0 : 0 ≤ n) (h1 : n ≤ 18446744073709551615) : VCalls Tryz.prog 16 [.sl tk (bs L), .sc (.int .u64 n), .sc (.int .i64 size)] st fun r st' =>
    Own 1 st' r (bs (if size < 1 ∨ 8 < size then L else L ++ beL n size.toNat)) ∧ New st st' r := by
  refine vcalls_enter vc16 (Nat.le_of_ble_eq_true rfl) fun hwf hok => ?_
  show Run _ Vc16.body (.fin (finQ Vc16.res _)) _ _
  unfold Vc16 zg zn zo
  simp (config := {maxSteps := 3000000}) (disch := ((fail_if_success refine selfNe ?_); omega)) only [go_sem]
  refine Bo.own (by simp [allLen]) ?_
  intro g hg
  simp (config := {maxSteps := 3000000}) (disch := ((fail_if_success refine selfNe ?_); omega)) only [go_sem, ↓reduceIte]
  refine App.mk (l := []) (.inr ⟨g, rfl, by simp [St.use], by simp only [St.use]; omega⟩) (allSz_bs _) (by simp [bs_len, maxLen]; omega) (by simp [bs_len]; omega) ?_
  intro r1 s1 k1 k2
  rw [List.nil_append] at k1
  have hx0 : ∀ g' k l, V.sl (.own g 1) [] = .sl (.own g' k) l → st.sz ≤ g' := fun g' k l e => by cases e; exact hg
  have w1 : st.weak s1 := k2.keeps (weak_use hwf.weak hg) hx0
  have l1 : s1.Lt := hwf.lt.use.app k2
  have f1 := k2.fresh (t := st) (by simp only [use_sz]; omega) hx0
  by_cases c1 : size < 1
  · simp (config := {maxSteps := 3000000}) (disch := ((fail_if_success refine selfNe ?_); omega)) only [go_sem, ↓reduceIte, c1]
    exact ⟨_, _, Wk.refl _, l1.weak, k1, w1, l1, f1⟩
  by_cases c2 : 8 < size
  · simp (config := {maxSteps := 3000000}) (disch := ((fail_if_success refine selfNe ?_); omega)) only [go_sem, ↓reduceIte, c1, c2]
    exact ⟨_, _, Wk.refl _, l1.weak, k1, w1, l1, f1⟩
  rw [if_neg (by omega)]
  simp (config := {maxSteps := 3000000}) (disch := ((fail_if_success refine selfNe ?_); omega)) only [go_sem, ↓reduceIte, decide_eq_false c1, decide_eq_false c2]
  repeat (apply And.intro; focus (first | omega | (simp; done)))
  intro b hb
  rw [bs_zeros]
  obtain ⟨sz, hsz⟩ : ∃ k : Nat, size = k := ⟨size.toNat, by omega⟩
  subst hsz
  rw [Int.toNat_natCast]
  have hsz8 : sz ≤ 8 := by omega
  refine run_loop [1, 9, 22, 23, 24, 25, 26, 27, 28, 29, 30, 31, 32, 33, 34, 35, 36, 37] (fun B s => ∃ i : Nat, i ≤ sz ∧ B 9 = .sc (.int .i64 i) ∧ B 1 = .sc (.int .u64 (n / 256 ^ i)) ∧ s = s1.put b (bs (List.replicate (sz - i) 0 ++ beL n i))) (fun B _ => sz - vnat (B 9)) rfl ?_ ?_
  · simp (config := {maxSteps := 3000000}) (disch := ((fail_if_success refine selfNe ?_); omega)) only [go_sem, ↓reduceIte]
    exact ⟨0, by omega, by simp, by simp, by simp [beL]⟩
  · rintro B s ⟨i, hi, h9, h1', rfl⟩
    have hdiv : 0 ≤ n / 256 ^ i := Int.ediv_nonneg h0 (by have := pow256_pos i; omega)
    by_cases hlt : i < sz
    · have hdd : n / 256 ^ i / 256 = n / 256 ^ (i + 1) := by rw [Int.pow_succ, Int.ediv_ediv_of_nonneg (by have := pow256_pos i; omega)]
      have hle : n / 256 ^ i ≤ n := Int.ediv_le_self _ h0
      obtain ⟨m, hm⟩ : ∃ m, sz - i = m + 1 := ⟨sz - i - 1, by omega⟩
      have hm2 : ((sz : Int) - 1 - i).toNat = m := by omega
      rw [hm]
      simp (config := {maxSteps := 3000000}) (disch := ((fail_if_success refine selfNe ?_); omega)) only [go_sem, ↓reduceIte, h9, h1', decide_eq_true (show (i : Int) < (sz : Int) by omega), hm2, bs_len, List.length_append, List.length_replicate, beL_len, emod_small]
      repeat (apply And.intro; focus (first | omega | (simp; done)))
      have hsp := splice_bs (m := m) (T := beL n i) (x := n / 256 ^ i % 256)
      simp only [splice, List.length_cons, List.length_nil, Nat.zero_add] at hsp
      exact ⟨⟨i + 1, by omega, by simp, by rw [hdd], by rw [hsp, show sz - (i + 1) = m by omega]; rfl⟩, by omega⟩
    · obtain rfl : i = sz := by omega
      simp (config := {maxSteps := 3000000}) (disch := ((fail_if_success refine selfNe ?_); omega)) only [go_sem, ↓reduceIte, h9, Nat.sub_self, List.replicate_zero]
      obtain ⟨tk1, rfl⟩ := k1.sl
      refine App.box (b := b) (cs := bs (beL n i)) (ys := bs (beL n i)) k1.put put_box_same (by simp [bs_len, beL_len]) (by simp [bs_len, beL_len]) (by rw [bs_flat, List.drop_zero, Nat.mul_one]; exact List.take_of_length_le (by simp [bs_len, beL_len])) (of_eq_true mono_bs) (allSz_bs _) (by simp [bs_len, maxLen]; omega) (by simp [bs_len]; omega) ?_
      intro r2 s2 k3 k4
      simp (config := {maxSteps := 3000000}) (disch := ((fail_if_success refine selfNe ?_); omega)) only [go_sem, ↓reduceIte]
      have hx1 : ∀ g' k l, V.sl tk1 (bs L) = .sl (.own g' k) l → st.sz ≤ g' := f1
      exact ⟨_, _, Wk.refl _, (l1.put.app k4).weak, by rw [← bs_append]; exact k3, k4.keeps (weak_put w1 (by have := w1.sz; omega)) hx1, l1.put.app k4, k4.fresh (by have := w1.sz; simp only [put_sz]; omega) hx1⟩
end
end
section
open Go
section
variable {st : St} {tk tk2 : Tk} {L : List Int} {p q : Ctl}
set_option maxRecDepth 100000 in
theorem r15First_v {m : Int} (hl : L.length ≤ 1000000000) : VCalls Tryz.prog 81 [.sl tk (bs L), .sc (.int .i64 m)] st fun r s => r = .sl .no (bs (L.take m.toNat)) ∧ st = s := by
  refine vcalls_enterq pc81 (Nat.le_of_ble_eq_true rfl) rfl fun hwf hok => ?_
  show Run _ Pc81.body (.fin (finP Pc81.res _)) _ _
  unfold Pc81 zg zo
  simp (maxSteps := 3000000) only [go_sem]
  refine run_loop [5, 6, 9, 10, 12, 13, 14, 15, 17, 21, 22, 23, 24] (fun B s => ∃ (i : Nat) (t : Tk), i ≤ L.length ∧ (i : Int) ≤ max m 0 ∧ B 6 = .sc (.int .i64 i) ∧ B 5 = .sl t (bs (L.take i)) ∧ RO 1 st s (.sl t (bs (L.take i))) (bs (L.take i))) (fun B _ => L.length - vnat (B 6)) rfl ?_ ?_
  · exact ⟨0, .nil, by omega, by omega, rfl, rfl, RO.nil hwf.weak hwf.lt⟩
  · rintro B s ⟨i, t, hi, hm, h6, h5, R⟩
    have fin : ∀ {v : V}, L.take i = L.take m.toNat → ∃ r st', Wk (.sl t (bs (L.take i))) r ∧ st'.weak s ∧ r = .sl .no (bs (L.take m.toNat)) ∧ st = st' := fun e => ⟨_, _, Wk.no, R.weak, by rw [e], rfl⟩
    by_cases c1 : i < L.length
    · by_cases c2 : (i : Int) < m
      · obtain ⟨c, hc⟩ := get_ex c1
        have hs : L.take (i + 1) = L.take i ++ [c] := take_snoc hc
        simp (maxSteps := 3000000) only [go_sem, ↓reduceIte, h6, h5, bs_len, decide_eq_true (show (i : Int) < (L.length : Int) by omega), decide_eq_true c2, bs_get, hc]
        repeat (apply And.intro; focus (first | omega | (simp; done)))
        refine App.mk (bytes := 1) (ys := bs [c]) R.own (allSz_bs _) (by simp only [bs_len, List.length_cons, List.length_nil, List.length_take]; unfold maxLen; omega) (by simp only [bs_len, List.length_cons, List.length_nil, List.length_take]; omega) ?_
        intro r2 s2 k1 k2
        have R2 := R.app k1 k2
        rw [bs_append, ← hs] at R2
        obtain ⟨t2, rfl⟩ := R2.sl
        simp (maxSteps := 3000000) only [go_sem, ↓reduceIte, h6]
        repeat (apply And.intro; focus (first | omega | (simp; done)))
        exact ⟨⟨i + 1, t2, by omega, by omega, by simp, rfl, R2⟩, by omega⟩
      · simp (maxSteps := 3000000) only [go_sem, ↓reduceIte, h6, h5, bs_len, decide_eq_true (show (i : Int) < (L.length : Int) by omega), decide_eq_false c2]
        exact fin (v := .any) (by rw [show i = m.toNat by omega])
    · simp (maxSteps := 3000000) only [go_sem, ↓reduceIte, h6, h5, bs_len, decide_eq_false (show ¬ (i : Int) < (L.length : Int) by omega)]
      exact fin (v := .any) (by rw [List.take_of_length_le (by omega), List.take_of_length_le (by omega)])
theorem r15Same_v (hp : IsB p.data) (hq : IsB q.data) : VCalls Tryz.prog 17 [p.v tk, q.v tk2] st fun r s => r = .sc (.bool (decide (p = q))) ∧ st = s := by
  obtain ⟨c, i, D⟩ := p
  obtain ⟨c2, i2, E⟩ := q
  show VCalls Tryz.prog 17 [.agg [.sc (.int .u8 c), .sc (.int .u8 i), .sl tk (bs D)], .agg [.sc (.int .u8 c2), .sc (.int .u8 i2), .sl tk2 (bs E)]] st _
  refine vcalls_enterq pc17 (Nat.le_of_ble_eq_true rfl) rfl fun hwf hok => ?_
  show Run _ Pc17.body (.fin (finP Pc17.res _)) _ _
  unfold Pc17 zg zn zo
  have hinj := strOf_inj hp hq
  simp only at hinj
  repeat' first | simp (maxSteps := 3000000) only [go_sem, ↓reduceIte, u8sOf_bsN] | (refine If.dec (fun h => ?_) (fun h => ?_) <;> first | simp only [decide_eq_true h] | simp only [decide_eq_false h] | skip) | (refine Grd.decd (fun h => ?_) (fun h => ?_) <;> first | simp only [decide_eq_true h] | simp only [decide_eq_false h] | skip) | (refine If.mk (fun h => ?_) (fun h => ?_) <;> first | simp only [h] | skip) | (refine Grd.two (fun h => ?_) (fun h => ?_) <;> first | simp only [h] | skip) | (apply And.intro; focus (first | omega | (simp; done)))
  all_goals refine ⟨_, _, Wk.refl _, hwf.weak, ?_, rfl⟩
  all_goals (congr 2; simp [Ctl.mk.injEq, *])
end
end
section
open Go
theorem DrG.nil : DrG [] 0 := ⟨(fun x h => by cases h), by simp, by decide, by decide⟩
theorem weak_tnF {bx : List Nat} {base s t : St} (hl : base.Lt) (h : base.weak s) (T : Tn bx s t) (hb : ∀ b ∈ bx, base.sz ≤ b) : base.weak t := weak_tn h T fun b hm => by
  cases hx : base.box b with
  | none => rfl
  | some cs => have := hl.box b cs hx; have := hb b hm; omega
theorem ctls_at {l : List Ctl} {i : Nat} {p : Ctl} (h : l[i]? = some p) : (ctls l)[i]? = some (.agg [.sc (.int .u8 p.code), .sc (.int .u8 p.id), .sl .no (bs p.data)]) := by rw [ctls_get, h]; rfl
inductive Ph (x : Int) : Nat → Neg Lr → List Ctl → Prop where
  | a (N : Neg Lr) (hs : N.s = 6) (hi : N.id = 1) (hw : N.r.w = ⟨1400, true, x, false, false⟩) (hg : N.r.guard = 0) : Ph x 0 N [⟨1, 1, reqB x⟩]
  | b (N : Neg Lr) (hs : N.s = 6) (hi : N.id = 1) (hw : N.r.w.auth = true) (hg : N.r.guard = 1) : Ph x 1 N [⟨4, 1, authB⟩]
  | c (N : Neg Lr) (hs : N.s = 4) (hg : N.r.guard = 1) : Ph x 2 N [⟨5, 2, []⟩]
  | d (N : Neg Lr) (hs : N.s = 4) (hg : N.r.guard = 1) : Ph x 3 N [⟨6, 2, []⟩]
  | e (N : Neg Lr) (hs : N.s = 2) : Ph x 4 N []
theorem reqB_good (x : Int) : Ctl.Good ⟨1, 1, reqB x⟩ := ⟨(by decide : (0 : Int) ≤ 1), (by decide : (1 : Int) < 256), (by decide : (0 : Int) ≤ 1), (by decide : (1 : Int) < 256), (show IsB ([1, 4, 5, 120, 3, 5, 194, 35, 5, 5, 6] ++ beL x 4) from IsB.append (by intro y hy; simp at hy; omega) (beL_isB _ _)), by simp [reqB, beL_len]⟩
theorem Ph.next {x : Int} (h0 : 0 < x) (h1 : x < 4294967296) {i : Nat} {N : Neg Lr} {P : List Ctl} (h : Ph x i N P) (hi : i < 4) : ∃ p X, P = [p] ∧ p.Good ∧ X = lcpTake N 1 p ∧ Ph x (i + 1) X.1 X.2.P ∧ X.1.s ≠ 9 := by
  cases h with
  | a _ hs hi hw hg =>
    obtain ⟨N', e, k1, k2, k3, k4⟩ := hears1 hs hw hg h0 h1
    exact ⟨_, _, rfl, reqB_good x, e.symm, .b _ k1 (k2.trans hi) (by rw [k3, hw]) k4, by rw [k1]; decide⟩
  | b _ hs hi hw hg =>
    obtain ⟨N', e, k1, k2⟩ := hears2 hs hi hw hg
    exact ⟨_, _, rfl, ⟨(by decide : (0 : Int) ≤ 4), (by decide : (4 : Int) < 256), (by decide : (0 : Int) ≤ 1), (by decide : (1 : Int) < 256), by intro y hy; simp [authB] at hy; omega, by simp [authB]⟩, e.symm, .c _ k1 k2, by rw [k1]; decide⟩
  | c _ hs hg =>
    obtain ⟨N', e, k1, k2⟩ := hears3 hs hg
    exact ⟨_, _, rfl, ⟨(by decide : (0 : Int) ≤ 5), (by decide : (5 : Int) < 256), (by decide : (0 : Int) ≤ 2), (by decide : (2 : Int) < 256), IsB.nil', by simp⟩, e.symm, .d _ k1 k2, by rw [k1]; decide⟩
  | d _ hs hg =>
    obtain ⟨N', e, k1⟩ := hears4 hs hg
    exact ⟨_, _, rfl, ⟨(by decide : (0 : Int) ≤ 6), (by decide : (6 : Int) < 256), (by decide : (0 : Int) ≤ 2), (by decide : (2 : Int) < 256), IsB.nil', by simp⟩, e.symm, .e _ k1, by rw [k1]; decide⟩
  | e _ hs => omega
theorem Ph.len {x : Int} {i : Nat} {N : Neg Lr} {P : List Ctl} (h : Ph x i N P) : i ≤ 4 ∧ (i = 4 → P = [] ∧ N.s = 2) := by
  cases h <;> simp_all
section
variable {st : St}
theorem newDraws {d : Nat} (hwf : st.Wf) (hd : st.sz ≤ d) : DrB (st.put d [.sl .nil [], .sc (.int .u32 0)]) d [] 0 := ⟨.nil, put_box_same⟩
set_option maxRecDepth 100000 in
theorem lcpAlive_v : VCalls Tryz.prog 19 [] st fun r s => r = .sc (.bool true) ∧ st = s := by
  refine vcalls_enterq pc19 (Nat.le_of_ble_eq_true rfl) rfl fun hwf hok => ?_
  show Run _ Pc19.body (.fin (finP Pc19.res _)) _ _
  unfold Pc19 zg zn zo
  have hlt := hwf.lt
  simp (maxSteps := 3000000) only [go_sem, ↓reduceIte]
  intro d hd
  have hD := newDraws hwf hd
  have T0 := tn_new (cs := [.sl .nil [], .sc (.int .u32 0)]) hlt hd
  have ld : d < (st.put d [.sl .nil [], .sc (.int .u32 0)]).sz := by simp only [put_sz]; omega
  generalize st.put d _ = s0 at hD T0 ld ⊢
  refine Cal.mk (lcpNew_v hD DrG.nil ld) ?_
  rintro _ s1 ⟨a, n, q, rfl, I1, T1, sa, sn, sq⟩ -
  have S0 := T0.sz
  obtain ⟨x, r, h0, h1, hw, hg, hgd, e1, e2, e3, e4, e5⟩ := start_new DrG.nil
  simp (maxSteps := 3000000) only [go_sem, ↓reduceIte]
  refine Cal.mk (lcpStart_v I1 (Int.le_refl 0) (by decide)) ?_
  rintro r2 s2 ⟨tv, rfl, R2, I2, T2, l2⟩ -
  rw [e5] at R2 ⊢
  have hl : (reqB x).length = 15 := by simp [reqB, beL_len]
  have g0 : (ctls [⟨1, 1, reqB x⟩])[0]? = some (.agg [.sc (.int .u8 1), .sc (.int .u8 1), .sl .no (bs (reqB x))]) := rfl
  have hW : ((lcpNew []).start lcpU 0).1.r.w = ⟨1400, true, x, false, false⟩ := by rw [e2, hw]
  simp (maxSteps := 3000000) only [go_sem, ↓reduceIte, outV, ctls_len, List.length_cons, List.length_nil, g0, bs_len, hl, show decide (((1 : Nat) : Int) = 1) = true from rfl, show decide (((15 : Nat) : Int) = 15) = true from rfl]
  refine Cal.mk (lcpMine_v I2) ?_
  rintro _ _ ⟨rfl, rfl⟩ -
  simp (maxSteps := 3000000) only [go_sem, ↓reduceIte, hW, Want.cells]
  refine Cal.mk (lcpMine_v I2) ?_
  rintro _ _ ⟨rfl, rfl⟩ -
  simp (maxSteps := 3000000) only [go_sem, ↓reduceIte, hW, Want.cells]
  have W : st.weak s2 := weak_tnF hlt (weak_tnF hlt (T0.weak hlt) T1 (by simp only [List.mem_singleton]; omega)) T2 (by simp only [List.mem_cons, List.not_mem_nil, or_false]; omega)
  exact ⟨_, _, Wk.refl _, W, rfl, rfl⟩
set_option maxRecDepth 100000 in
set_option maxHeartbeats 4000000 in
end
end
section
open Go
section
variable {st s s2 : St} {b : Nat} {a' l t : Int} {rest : List V}
theorem fsmTimed_v {x : Int} : VCalls Tryz.prog 99 [.sc (.int .i64 x)] st fun r s => r = .sc (.bool (decide (4 ≤ x ∧ x ≤ 8))) ∧ st = s := by
  refine vcalls_enterq pc99 (Nat.le_of_ble_eq_true rfl) rfl fun hwf hok => ?_
  show Run _ Pc99.body (.fin (finP Pc99.res _)) _ _
  unfold Pc99 zg zo
  repeat' first | simp (maxSteps := 3000000) only [go_sem, ↓reduceIte] | (refine If.dec (fun h => ?_) (fun h => ?_) <;> first | simp only [decide_eq_true h] | simp only [decide_eq_false h] | skip) | (refine Grd.decd (fun h => ?_) (fun h => ?_) <;> first | simp only [decide_eq_true h] | simp only [decide_eq_false h] | skip) | (refine If.mk (fun h => ?_) (fun h => ?_) <;> first | simp only [h] | skip) | (refine Grd.two (fun h => ?_) (fun h => ?_) <;> first | simp only [h] | skip) | (apply And.intro; focus (first | omega | (simp; done)))
  all_goals first | (exfalso; omega) | exact ⟨_, _, Wk.refl _, hwf.weak, by simp [*], rfl⟩
set_option maxRecDepth 100000 in
theorem autoTick_v {now : Int} (hb : st.box b = some (.sc (.int .i64 a') :: .sc (.int .i64 l) :: .sc (.int .i64 t) :: rest)) (h0 : 0 ≤ l) (h1 : l ≤ 10) (hn : 0 ≤ now) (hn2 : now ≤ 1000000000) :
    VCalls Tryz.prog 77 [ptrV b, .sc (.int .i64 now)] st fun r s => r = .sc (.int .u16 (tickA a' l t now).2.2.2) ∧ s = st.put b (.sc (.int .i64 (tickA a' l t now).1) :: .sc (.int .i64 (tickA a' l t now).2.1) :: .sc (.int .i64 (tickA a' l t now).2.2.1) :: rest) := by
  refine vcalls_enterq pc77 (Nat.le_of_ble_eq_true rfl) rfl fun hwf hok => ?_
  show Run _ Pc77.body (.fin (finP Pc77.res _)) _ _
  unfold Pc77 zg zn zo
  have hlt := hwf.lt
  have self : st.put b (.sc (.int .i64 a') :: .sc (.int .i64 l) :: .sc (.int .i64 t) :: rest) = st := put_selfR hb (hlt.box b _ hb)
  simp (maxSteps := 3000000) only [go_sem, ↓reduceIte, hb]
  refine Cal.mk fsmTimed_v ?_
  rintro _ _ ⟨rfl, rfl⟩ -
  by_cases c1 : 4 ≤ a' ∧ a' ≤ 8
  rotate_left
  · have e : tickA a' l t now = (a', l, t, 0) := by unfold tickA; rw [if_pos (by omega)]
    simp (maxSteps := 3000000) only [go_sem, ↓reduceIte, decide_eq_false c1, Bool.not_false]
    rw [e]
    exact ⟨_, _, Wk.refl _, hwf.weak, rfl, self.symm⟩
  by_cases c2 : now < t
  · have e : tickA a' l t now = (a', l, t, 0) := by unfold tickA; rw [if_pos (by omega)]
    simp (maxSteps := 3000000) only [go_sem, ↓reduceIte, decide_eq_true c1, Bool.not_true, hb, decide_eq_true c2]
    rw [e]
    exact ⟨_, _, Wk.refl _, hwf.weak, rfl, self.symm⟩
  have e : tickA a' l t now = ((stepF a' (if 0 < l then 4 else 5)).1, cntA (stepF a' (if 0 < l then 4 else 5)).2 l, atA (stepF a' (if 0 < l then 4 else 5)).2 now (now + 3), (stepF a' (if 0 < l then 4 else 5)).2) := by unfold tickA; rw [if_neg (by omega)]
  by_cases c3 : 0 < l
  · rw [if_pos c3] at e
    simp (maxSteps := 3000000) only [go_sem, ↓reduceIte, decide_eq_true c1, Bool.not_true, hb, decide_eq_false c2, decide_eq_true c3, put_box_same]
    repeat (apply And.intro; focus (first | omega | (simp; done)))
    refine Cal.mk (autoDo_v (e := 4) put_box_same h0 h1 hn hn2) ?_
    rintro _ _ ⟨rfl, rfl⟩ -
    simp (maxSteps := 3000000) only [go_sem, ↓reduceIte]
    rw [e]
    exact ⟨_, _, Wk.refl _, (hlt.put (b := b)).weak, rfl, rfl⟩
  · rw [if_neg c3] at e
    simp (maxSteps := 3000000) only [go_sem, ↓reduceIte, decide_eq_true c1, Bool.not_true, hb, decide_eq_false c2, decide_eq_false c3, put_box_same]
    repeat (apply And.intro; focus (first | omega | (simp; done)))
    refine Cal.mk (autoDo_v (e := 5) put_box_same h0 h1 hn hn2) ?_
    rintro _ _ ⟨rfl, rfl⟩ -
    simp (maxSteps := 3000000) only [go_sem, ↓reduceIte]
    rw [e]
    exact ⟨_, _, Wk.refl _, (hlt.put (b := b)).weak, rfl, rfl⟩
end
section
variable {R : Type} {U : Rul R} {t : TypeId} {pv : Value} {SI : Nat → St → R → Prop} {bx : List Nat} {codes : Int} {n k m : Nat} {st s s2 base : St} {N N' : Neg R}
theorem tickA_rng' {a left t now : Int} (h0 : 0 ≤ left) (h1 : left ≤ 10) : 0 ≤ (tickA a left t now).2.1 ∧ (tickA a left t now).2.1 ≤ 10 := by
  unfold tickA
  split
  · exact ⟨h0, h1⟩
  · exact cntA_rng (act := (stepF a (if 0 < left then 4 else 5)).2) h0 h1
theorem NOut.upT {iv : V} {X : Neg R × Nout} {r : V} {s0 : St} (T : Tn (n :: bx) st s0) (h : NOut s0 iv codes SI bx n k m X r s) : NOut st iv codes SI bx n k m X r s := by
  obtain ⟨tv, e, h1, h2, h3, h4⟩ := h
  exact ⟨tv, e, h1.down T.sz, h2, T.trans h3, h4⟩
theorem negTick_v (hU : RulC U t pv SI bx) (h : NegI (.sc (.iface t pv)) codes SI bx n k st N) {now : Int} (hn : 0 ≤ now) (hn2 : now ≤ 1000000000) :
    VCalls Tryz.prog 58 [ptrV n, .sc (.int .i64 now)] st (NOut st (.sc (.iface t pv)) codes SI bx n k 5 (N.tick U now)) := by
  refine vcalls_enterq pc58 (Nat.le_of_ble_eq_true rfl) rfl fun hwf hok => ?_
  show Run _ Pc58.body (.fin (finP Pc58.res _)) _ _
  unfold Pc58 zo
  have hlt := hwf.lt
  obtain ⟨tk, hb⟩ := h.box
  have hr := tickA_rng' (a := N.s) (t := N.at_) (now := now) h.l0 h.l1
  have h1 : NegI (.sc (.iface t pv)) codes SI bx n k (st.put n (negC (.sc (.iface t pv)) codes { N with s := (tickA N.s N.left N.at_ now).1, left := (tickA N.s N.left N.at_ now).2.1, at_ := (tickA N.s N.left N.at_ now).2.2.1 } tk)) { N with s := (tickA N.s N.left N.at_ now).1, left := (tickA N.s N.left N.at_ now).2.1, at_ := (tickA N.s N.left N.at_ now).2.2.1 } :=
    h.write hU rfl hr.1 hr.2 h.i0 h.i1 h.a0 h.a1 h.rb
  have T1 : Tn (n :: bx) st (st.put n (negC (.sc (.iface t pv)) codes { N with s := (tickA N.s N.left N.at_ now).1, left := (tickA N.s N.left N.at_ now).2.1, at_ := (tickA N.s N.left N.at_ now).2.2.1 } tk)) := (Tn.refl hlt).put (.inl (by simp)) hlt
  unfold negC at hb h1 T1
  simp (maxSteps := 3000000) only [go_sem, ↓reduceIte]
  refine Cal.mk (autoTick_v hb h.l0 h.l1 hn hn2) ?_
  rintro _ _ ⟨rfl, rfl⟩ -
  simp only at h1 T1
  generalize st.put n _ = s1 at h1 T1 ⊢
  simp (maxSteps := 3000000) only [go_sem, ↓reduceIte]
  refine Cal.mk (negDone_v hU h1 (p := zeroC) (back := zeroC) (tp := .nil) (tb := .nil) zeroC_good) ?_
  rintro r s2 o -
  have O := o.upT T1
  obtain ⟨tv, rfl, _⟩ := o
  simp (maxSteps := 3000000) only [go_sem, ↓reduceIte]
  exact ⟨_, _, Wk.refl _, O.lt.weak, O⟩
end
section
variable {a n q d k m : Nat} {st s s2 : St} {N : Neg Lr}
theorem lcpTick_v (h : LcpI a n q d k st N) {now : Int} (hn : 0 ≤ now) (hn2 : now ≤ 1000000000) : VCalls Tryz.prog 34 [ptrV a, .sc (.int .i64 now)] st (LOut st a n q d k 5 (N.tick lcpU now)) := by
  refine vcalls_enterq pc34 (Nat.le_of_ble_eq_true rfl) rfl fun hwf hok => ?_
  show Run _ Pc34.body (.fin (finP Pc34.res _)) _ _
  unfold Pc34 zo
  have ba := h.ba
  simp (maxSteps := 3000000) only [go_sem, ↓reduceIte, ba]
  refine Cal.mk (negTick_v lcp_rules h.ng hn hn2) ?_
  intro r s o _
  have o := LOut.of h o
  obtain ⟨tv, rfl, o1, o2, o3, o4⟩ := o
  simp (maxSteps := 3000000) only [go_sem, ↓reduceIte, outV]
  exact ⟨_, _, Wk.refl _, o3.lt.weak, tv, rfl, o1, o2, o3, o4⟩
theorem lcpTheirs_v (h : LcpI a n q d k st N) : VCalls Tryz.prog 14 [ptrV a] st fun r s => r = .agg N.r.g.cells ∧ st = s := by
  refine vcalls_enterq pc14 (Nat.le_of_ble_eq_true rfl) rfl fun hwf hok => ?_
  show Run _ Pc14.body (.fin (finP Pc14.res _)) _ _
  unfold Pc14 zo
  have ba := h.ba
  have bq := h.ng.si.bq
  unfold lrC at bq
  simp (maxSteps := 3000000) only [go_sem, ↓reduceIte, ba, bq]
  exact ⟨_, _, Wk.refl _, hwf.weak, rfl, rfl⟩
theorem lcpAsk_v (h : LcpI a n q d k st N) {id : Int} : VCalls Tryz.prog 18 [ptrV a, .sc (.int .u8 id)] st fun r s => r = (⟨9, id, beL N.r.w.magic 4⟩ : Ctl).v ∧ st = s := by
  refine vcalls_enterq pc18 (Nat.le_of_ble_eq_true rfl) rfl fun hwf hok => ?_
  show Run _ Pc18.body (.fin (finP Pc18.res _)) _ _
  unfold Pc18 zo
  have ba := h.ba
  have bq := h.ng.si.bq
  have hw := h.ng.si.wg
  unfold lrC at bq
  simp (maxSteps := 3000000) only [go_sem, ↓reduceIte, ba, bq]
  refine Cal.mk (Put32_v (L := []) own_nil (by simp) hw.g0 hw.g1) ?_
  rintro r s1 ⟨o1, o2⟩ -
  have R1 := (RO.nil hwf.lt.weak hwf.lt).app o1 o2
  obtain ⟨t1, rfl⟩ := R1.sl
  simp (maxSteps := 3000000) only [go_sem, ↓reduceIte]
  exact ⟨_, _, Wk.agg (.cons (.refl _) (.cons (.refl _) (.cons .no .nil))), R1.weak, rfl, rfl⟩
end
end
section
open Go
section
variable {st : St} {tk : Tk} {l : List Opt} {L : List Int}
set_option maxRecDepth 100000 in
set_option maxHeartbeats 4000000 in
theorem r10Build_v (hG : GoodO l) (hl : l.length ≤ 1000000000) : VCalls Tryz.prog 79 [.sl tk (opts l)] st fun r s => r = .sl .no (bs (buildO l)) ∧ st = s := by
  refine vcalls_enterq pc79 (Nat.le_of_ble_eq_true rfl) rfl fun hwf hok => ?_
  show Run _ Pc79.body (.fin (finP Pc79.res _)) _ _
  unfold Pc79 zo
  simp (maxSteps := 3000000) only [go_sem]
  refine run_loop [3, 4, 5, 8, 9, 11, 14, 15, 16, 17, 19, 23, 24, 25, 27, 28, 29, 30, 34, 35, 36, 38, 39] (fun B s => ∃ (i : Nat) (t : Tk), i ≤ l.length ∧ B 4 = .sc (.int .i64 i) ∧ B 3 = .sl t (bs (buildO (l.take i))) ∧ RO 1 st s (.sl t (bs (buildO (l.take i)))) (bs (buildO (l.take i)))) (fun B _ => l.length - vnat (B 4)) rfl ?_ ?_
  · exact ⟨0, .nil, by omega, rfl, rfl, RO.nil hwf.weak hwf.lt⟩
  · rintro B s ⟨i, t, hi, h4, h3, R⟩
    have hbl := buildO_len (l.take i)
    have hln : (l.take i).length ≤ i := by simp only [List.length_take]; omega
    by_cases c1 : i < l.length
    · obtain ⟨⟨T, D⟩, ho⟩ := get_ex c1
      obtain ⟨o0, o1, oB, oL⟩ := hG.get ho
      simp only at o0 o1 oB oL
      have hs := buildO_snoc ho
      simp only at hs
      have fin : ∀ (m : Nat), m = (D.take 253).length → ∀ k : Int, k = m → App Tryz.prog 1 1 (.sl t (bs (buildO (l.take i)))) (.sl .no [.sc (.int .u8 T), .sc (.int .u8 ((k + 2) % 256))]) (some 30) [] [] (.fin fun _ _ _ => True) (fun _ => .und) s := fun m hm k hk => by
        refine App.mk (bytes := 1) (ys := bs [T, (k + 2) % 256]) R.own (allSz_bs _) (by simp only [bs_len, List.length_cons, List.length_nil]; unfold maxLen; omega) (by simp only [bs_len, List.length_cons, List.length_nil]; omega) ?_
        intro r2 s2 k1 k2
        exact ⟨trivial, trivial⟩
      clear fin
      by_cases c2 : 253 < D.length
      · have hm : (D.take 253).length = 253 := by simp only [List.length_take]; omega
        rw [hm] at hs
        simp (maxSteps := 3000000) only [go_sem, ↓reduceIte, h4, h3, opts_len, opts_at ho, bs_len, decide_eq_true (show (i : Int) < (l.length : Int) by omega), decide_eq_true (show (253 : Int) < (D.length : Int) by omega)]
        repeat (apply And.intro; focus (first | omega | (simp; done)))
        refine App.mk (bytes := 1) (ys := bs [T, 255]) R.own (allSz_bs _) (by simp only [bs_len, List.length_cons, List.length_nil]; unfold maxLen; omega) (by simp only [bs_len, List.length_cons, List.length_nil]; omega) ?_
        intro r2 s2 k1 k2
        have R2 := R.app k1 k2
        rw [bs_append] at R2
        obtain ⟨t2, rfl⟩ := R2.sl
        simp (maxSteps := 3000000) only [go_sem, ↓reduceIte, h4, opts_at ho, bs_take, allSz_bs', bs_len]
        repeat (apply And.intro; focus (first | omega | (simp; done)))
        refine App.mk (bytes := 1) (ys := bs (D.take 253)) R2.own (allSz_bs _) (by simp only [bs_len, List.length_append, List.length_cons, List.length_nil, hm]; unfold maxLen; omega) (by simp only [bs_len, List.length_append, List.length_cons, List.length_nil, hm]; omega) ?_
        intro r3 s3 k3 k4
        have R3 := R2.app k3 k4
        rw [bs_append, ← show ((253 : Nat) : Int) + 2 = 255 from rfl, ← hs] at R3
        obtain ⟨t3, rfl⟩ := R3.sl
        simp (maxSteps := 3000000) only [go_sem, ↓reduceIte, h4]
        repeat (apply And.intro; focus (first | omega | (simp; done)))
        exact ⟨⟨i + 1, t3, by omega, by simp, rfl, R3⟩, by omega⟩
      · have hm : D.take 253 = D := List.take_of_length_le (by omega)
        rw [hm] at hs
        have e1 : ((D.length : Int) + 2) % 256 = (D.length : Int) + 2 := by omega
        have e2 : D.take D.length = D := List.take_length
        simp (maxSteps := 3000000) only [go_sem, ↓reduceIte, h4, h3, opts_len, opts_at ho, bs_len, decide_eq_true (show (i : Int) < (l.length : Int) by omega), decide_eq_false (show ¬ (253 : Int) < (D.length : Int) by omega), e1]
        repeat (apply And.intro; focus (first | omega | (simp; done)))
        refine App.mk (bytes := 1) (ys := bs [T, (D.length : Int) + 2]) R.own (allSz_bs _) (by simp only [bs_len, List.length_cons, List.length_nil]; unfold maxLen; omega) (by simp only [bs_len, List.length_cons, List.length_nil]; omega) ?_
        intro r2 s2 k1 k2
        have R2 := R.app k1 k2
        rw [bs_append] at R2
        obtain ⟨t2, rfl⟩ := R2.sl
        simp (maxSteps := 3000000) only [go_sem, ↓reduceIte, h4, opts_at ho, bs_take, allSz_bs', bs_len, e2]
        repeat (apply And.intro; focus (first | omega | (simp; done)))
        refine App.mk (bytes := 1) (ys := bs D) R2.own (allSz_bs _) (by simp only [bs_len, List.length_append, List.length_cons, List.length_nil]; unfold maxLen; omega) (by simp only [bs_len, List.length_append, List.length_cons, List.length_nil]; omega) ?_
        intro r3 s3 k3 k4
        have R3 := R2.app k3 k4
        rw [bs_append, ← hs] at R3
        obtain ⟨t3, rfl⟩ := R3.sl
        simp (maxSteps := 3000000) only [go_sem, ↓reduceIte, h4]
        repeat (apply And.intro; focus (first | omega | (simp; done)))
        exact ⟨⟨i + 1, t3, by omega, by simp, rfl, R3⟩, by omega⟩
    · obtain rfl : i = l.length := by omega
      rw [List.take_length] at R h3
      simp (maxSteps := 3000000) only [go_sem, ↓reduceIte, h4, h3, opts_len]
      exact ⟨_, _, Wk.no, R.weak, rfl, rfl⟩
theorem findO_take {l : List Opt} {t : Int} {i : Nat} {o : Opt} (h : l[i]? = some o) (ht : o.1 = t) (hn : ∀ x ∈ l.take i, x.1 ≠ t) : findO l t = some o.2 := by
  have hd : l.drop i = o :: l.drop (i + 1) := by rw [List.drop_eq_getElem_cons (List.getElem?_eq_some_iff.1 h).1, (List.getElem?_eq_some_iff.1 h).2]
  have hl : l = l.take i ++ o :: l.drop (i + 1) := by rw [← hd, List.take_append_drop]
  unfold findO
  rw [hl, List.find?_append, List.find?_eq_none.2 (by intro x hx; simpa using hn x hx)]
  simp [ht]
theorem findO_none {l : List Opt} {t : Int} (hn : ∀ x ∈ l, x.1 ≠ t) : findO l t = none := by
  unfold findO
  rw [List.find?_eq_none.2 (by intro x hx; simpa using hn x hx)]; rfl
theorem r10Find_v {t : Int} (hl : l.length ≤ 1000000) : VCalls Tryz.prog 91 [.sl tk (opts l), .sc (.int .u8 t)] st fun r s => (∃ n : Int, r = .sc (.int .i64 n) ∧ (n = -1 ∧ findO l t = none ∨ ∃ (i : Nat) (D : List Int), n = i ∧ l[i]? = some (t, D) ∧ findO l t = some D)) ∧ st = s := by
  refine vcalls_enterq pc91 (Nat.le_of_ble_eq_true rfl) rfl fun hwf hok => ?_
  show Run _ Pc91.body (.fin (finP Pc91.res _)) _ _
  unfold Pc91 zo
  simp (maxSteps := 3000000) only [go_sem]
  refine run_loop [4, 5, 8, 9, 11, 14, 15, 16, 18] (fun B s => s = st ∧ ∃ i : Nat, i ≤ l.length ∧ B 5 = .sc (.int .i64 i) ∧ ∀ x ∈ l.take i, x.1 ≠ t) (fun B _ => l.length - vnat (B 5)) rfl ?_ ?_
  · exact ⟨rfl, 0, by omega, rfl, by simp⟩
  · rintro B s ⟨rfl, i, hi, h5, hn⟩
    by_cases c1 : i < l.length
    · obtain ⟨⟨T, D⟩, ho⟩ := get_ex c1
      by_cases c2 : T = t
      · subst c2
        simp (maxSteps := 3000000) only [go_sem, ↓reduceIte, h5, opts_len, opts_at ho, decide_eq_true (show (i : Int) < (l.length : Int) by omega), decide_eq_true trivial]
        exact ⟨by omega, _, _, Wk.refl _, hwf.weak, ⟨_, rfl, .inr ⟨i, D, rfl, ho, findO_take ho rfl hn⟩⟩, rfl⟩
      · simp (maxSteps := 3000000) only [go_sem, ↓reduceIte, h5, opts_len, opts_at ho, decide_eq_true (show (i : Int) < (l.length : Int) by omega), decide_eq_false c2]
        repeat (apply And.intro; focus (first | omega | (simp; done)))
        refine ⟨⟨i + 1, by omega, by simp, fun x hx => ?_⟩, by omega⟩
        rw [take_snoc ho] at hx
        rcases List.mem_append.1 hx with hx | hx
        · exact hn x hx
        · simp only [List.mem_singleton] at hx; subst hx; exact c2
    · obtain rfl : i = l.length := by omega
      rw [List.take_length] at hn
      simp (maxSteps := 3000000) only [go_sem, ↓reduceIte, h5, opts_len]
      exact ⟨_, _, Wk.refl _, hwf.weak, ⟨_, rfl, .inl ⟨rfl, findO_none hn⟩⟩, rfl⟩
end
end
section
open Go
section
variable {st : St} {L : List Int}
theorem New.nil (h : st.weak st) (hl : st.Lt) : New st st (.sl .nil []) := ⟨h, hl, fun g k l e => by cases e⟩
theorem New.app {s s' : St} {x r : V} (h : New st s x) (k : AppSt s x s' r) : New st s' r :=
  ⟨k.keeps h.weak h.tok, h.lt.app k, k.fresh h.weak.sz h.tok⟩
theorem split03_v {c : Int} (hB : IsB L) (hl : L.length ≤ 1000000) : VCalls Tryz.prog 127 [.sc (.string (strOf L)), .sc (.int .u8 c)] st fun r st' => Own 1 st' r (ss (splL c L)) ∧ New st st' r := by
  refine vcalls_enter vc127 (Nat.le_of_ble_eq_true rfl) fun hwf hok => ?_
  show Run _ Vc127.body (.fin (finQ Vc127.res _)) _ _
  unfold Vc127 zo
  simp (maxSteps := 3000000) only [go_sem]
  refine run_loop [5, 6, 7, 8, 9, 10, 11, 12, 13, 14, 15, 16, 17, 18, 19, 20, 21, 22, 23, 24, 25, 26, 27, 28, 29] (fun B s => ∃ i : Nat, i ≤ L.length ∧ B 7 = .sc (.int .i64 i) ∧ B 6 = .sc (.string (strOf (splF c (L.take i)).2)) ∧ Own 1 s (B 5) (ss (splF c (L.take i)).1) ∧ New st s (B 5)) (fun B _ => L.length - vnat (B 7)) rfl ?_ ?_
  · simp (maxSteps := 3000000) only [go_sem, ↓reduceIte]
    exact ⟨0, by omega, by simp, by simp [splF, strOf_nil], .inl ⟨rfl, by simp [splF, ss]⟩, .nil hwf.weak hwf.lt⟩
  · rintro B s ⟨i, hi, h7, h6, ho, hn⟩
    have hlen := splF_len c (L.take i) ([], [])
    have hln : (L.take i).length ≤ i := by simp; omega
    simp only [List.length_nil, Nat.zero_add] at hlen
    by_cases hlt : i < L.length
    · obtain ⟨x, hx⟩ := get_ex hlt
      have bx := hB.get hx
      have hsn : splF c (L.take (i + 1)) = splS c (splF c (L.take i)) x := by rw [List.take_add_one, hx]; exact splF_snoc _ _ _
      have hlt' := decide_eq_true (show (i : Int) < (L.length : Int) by omega)
      change (splF c (L.take i)).1.length ≤ _ ∧ (splF c (L.take i)).2.length ≤ _ at hlen
      generalize splF c (L.take i) = q at *
      obtain ⟨acc, one⟩ := q
      simp only at h6 ho hlen
      by_cases c1 : x = c
      · have hst : splS c (acc, one) x = (acc ++ [one], []) := if_pos c1
        simp (maxSteps := 3000000) only [go_sem, ↓reduceIte, h7, h6, strOf_size, hlt', bytesOf_strOf hB, hx, decide_eq_true c1]
        repeat (apply And.intro; focus (first | omega | (simp; done)))
        refine App.mk (l := ss acc) ho (ys := ss [one]) (allSz_ss _) (by simp [ss_len, maxLen]; omega) (by simp [ss_len]; omega) ?_
        intro r s1 k1 k2
        rw [ss_append] at k1
        simp (maxSteps := 3000000) only [go_sem, ↓reduceIte, h7]
        repeat (apply And.intro; focus (first | omega | (simp; done)))
        exact ⟨⟨i + 1, by omega, by simp, by rw [hsn, hst, strOf_nil], by rw [hsn, hst]; exact k1, hn.app k2⟩, by omega⟩
      · have hst : splS c (acc, one) x = (acc, one ++ [x]) := if_neg c1
        simp (maxSteps := 3000000) only [go_sem, ↓reduceIte, h7, h6, strOf_size, hlt', bytesOf_strOf hB, hx, decide_eq_false c1, u8sOf, strOf_append]
        repeat (apply And.intro; focus (first | omega | (simp; done)))
        exact ⟨⟨i + 1, by omega, by simp, by rw [hsn, hst], by rw [hsn, hst]; exact ho, hn⟩, by omega⟩
    · obtain rfl : i = L.length := by omega
      rw [List.take_of_length_le (Nat.le_refl _)] at h6 ho hlen
      change (splF c L).1.length ≤ _ ∧ (splF c L).2.length ≤ _ at hlen
      simp (maxSteps := 3000000) only [go_sem, ↓reduceIte, h7, h6, strOf_size]
      refine App.mk (l := ss (splF c L).1) ho (ys := ss [(splF c L).2]) (allSz_ss _) (by simp [ss_len, maxLen]; omega) (by simp [ss_len]; omega) ?_
      intro r s1 k1 k2
      rw [ss_append] at k1
      have hn2 := hn.app k2
      simp (maxSteps := 3000000) only [go_sem, ↓reduceIte]
      exact ⟨_, _, Wk.refl _, hn2.lt.weak, k1, hn2⟩
theorem words03_v (hB : IsB L) (hl : L.length ≤ 1000000) : VCalls Tryz.prog 115 [.sc (.string (strOf L))] st fun r st' => Own 1 st' r (ss (wordsL L)) ∧ New st st' r := by
  refine vcalls_enter vc115 (Nat.le_of_ble_eq_true rfl) fun hwf hok => ?_
  show Run _ Vc115.body (.fin (finQ Vc115.res _)) _ _
  unfold Vc115 zo
  simp (maxSteps := 3000000) only [go_sem, ↓reduceIte]
  refine Cal.mk (split03_v hB hl) ?_
  rintro r s0 ⟨k1, k2⟩ -
  obtain ⟨tk, rfl⟩ := k1.sl
  have hQ : ∀ M ∈ splL 32 L, IsB M := splL_isB hB
  have hQl := splL_len 32 L
  have hW : wordsL L = (splL 32 L).filter fun M => M ≠ [] := rfl
  generalize splL 32 L = Q at *
  simp (maxSteps := 3000000) only [go_sem, ↓reduceIte]
  refine run_loop [3, 5, 8, 9, 10, 11, 12, 13, 14, 15, 16, 17, 18, 19, 20, 21, 22, 23, 24, 25] (fun B s => ∃ i : Nat, i ≤ Q.length ∧ B 5 = .sc (.int .i64 i) ∧ Own 1 s (B 3) (ss ((Q.take i).filter fun M => M ≠ [])) ∧ New st s (B 3)) (fun B _ => Q.length - vnat (B 5)) rfl ?_ ?_
  · simp (maxSteps := 3000000) only [go_sem, ↓reduceIte]
    exact ⟨0, by omega, by simp, .inl ⟨rfl, by simp [ss]⟩, k2.weak, k2.lt, fun g k l e => by cases e⟩
  · rintro B s ⟨i, hi, h5, ho, hn⟩
    by_cases hlt : i < Q.length
    · obtain ⟨M, hM⟩ := get_ex hlt
      have bM := hQ M (List.mem_of_getElem? hM)
      have hsn : (Q.take (i + 1)).filter (fun M => M ≠ []) = (Q.take i).filter (fun M => M ≠ []) ++ (if M = [] then [] else [M]) := by
        rw [List.take_add_one, hM, List.filter_append]
        by_cases h : M = [] <;> simp [h]
      have hlt' := decide_eq_true (show (i : Int) < (Q.length : Int) by omega)
      have hfl : ((Q.take i).filter fun M => M ≠ []).length ≤ i := Nat.le_trans (List.length_filter_le _ _) (by simp; omega)
      have hdec := strOf_inj bM isB_nil
      by_cases c1 : M = []
      · rw [if_pos c1, List.append_nil] at hsn
        simp (maxSteps := 3000000) only [go_sem, ↓reduceIte, h5, ss_len, ss_get, hM, hlt', strOf_nil, decide_eq_false (show ¬ ¬ strOf M = strOf [] from fun h => h (hdec.2 c1))]
        repeat (apply And.intro; focus (first | omega | (simp; done)))
        exact ⟨⟨i + 1, by omega, by simp, by rw [hsn]; exact ho, hn⟩, by omega⟩
      · rw [if_neg c1] at hsn
        simp (maxSteps := 3000000) only [go_sem, ↓reduceIte, h5, ss_len, ss_get, hM, hlt', strOf_nil, decide_eq_true (show ¬ strOf M = strOf [] from fun h => c1 (hdec.1 h))]
        repeat (apply And.intro; focus (first | omega | (simp; done)))
        refine App.mk (l := ss ((Q.take i).filter fun M => M ≠ [])) ho (ys := ss [M]) (allSz_ss _) (by simp only [ss_len, maxLen, List.length_cons, List.length_nil]; omega) (by simp only [ss_len, List.length_cons, List.length_nil]; omega) ?_
        intro r s1 k1 k2
        rw [ss_append, ← hsn] at k1
        simp (maxSteps := 3000000) only [go_sem, ↓reduceIte, h5]
        repeat (apply And.intro; focus (first | omega | (simp; done)))
        exact ⟨⟨i + 1, by omega, by simp, k1, hn.app k2⟩, by omega⟩
    · obtain rfl : i = Q.length := by omega
      rw [List.take_of_length_le (Nat.le_refl _)] at ho
      simp (maxSteps := 3000000) only [go_sem, ↓reduceIte, h5, ss_len]
      exact ⟨_, _, Wk.refl _, hn.lt.weak, by rw [hW]; exact ho, hn⟩
end
end
section
open Go
def rowB : Nat → List Int
  | 0 => [50, 32, 54, 105, 114, 32, 46, 32, 46, 32, 46, 32, 46, 32, 46, 32, 46, 32, 46, 32, 46]
  | 1 => [46, 32, 46, 32, 48, 32, 49, 115, 32, 48, 32, 49, 32, 49, 32, 49, 32, 49, 32, 49, 100]
  | 2 => [49, 115, 32, 49, 32, 54, 105, 114, 32, 51, 32, 53, 32, 53, 32, 54, 32, 55, 32, 56, 32, 57]
  | 3 => [48, 32, 48, 102, 32, 50, 32, 50, 32, 52, 32, 52, 32, 52, 105, 116, 32, 52, 105, 116, 32, 52, 105, 116, 32, 52, 100, 105, 116]
  | 4 => [46, 32, 46, 32, 46, 32, 46, 32, 52, 116, 32, 53, 116, 32, 54, 114, 32, 54, 114, 32, 56, 114, 32, 46]
  | 5 => [46, 32, 46, 32, 46, 32, 46, 32, 50, 102, 32, 51, 102, 32, 51, 102, 32, 51, 102, 32, 51, 102, 32, 46]
  | 6 => [46, 32, 46, 32, 50, 107, 32, 56, 105, 114, 97, 32, 52, 32, 53, 32, 56, 97, 32, 57, 97, 117, 32, 56, 97, 32, 56, 100, 114, 97]
  | 7 => [46, 32, 46, 32, 50, 107, 32, 54, 105, 114, 110, 32, 52, 32, 53, 32, 54, 110, 32, 55, 110, 32, 54, 110, 32, 54, 100, 114, 110]
  | 8 => [46, 32, 46, 32, 50, 107, 32, 51, 107, 32, 52, 32, 53, 32, 55, 105, 32, 54, 114, 32, 57, 105, 117, 32, 54, 100, 114]
  | 9 => [46, 32, 46, 32, 50, 107, 32, 51, 107, 32, 52, 32, 53, 32, 54, 105, 114, 32, 54, 114, 32, 56, 105, 114, 32, 54, 100, 114]
  | 10 => [46, 32, 46, 32, 50, 107, 32, 51, 107, 32, 52, 107, 32, 53, 107, 32, 54, 107, 32, 54, 107, 32, 54, 107, 32, 53, 100, 122, 107]
  | 11 => [46, 32, 46, 32, 50, 32, 51, 32, 50, 102, 32, 51, 102, 32, 54, 32, 54, 32, 56, 32, 54, 100, 114]
  | 12 => [46, 32, 46, 32, 50, 106, 32, 51, 106, 32, 52, 106, 32, 53, 106, 32, 54, 106, 32, 55, 106, 32, 56, 106, 32, 57, 106]
  | 13 => [46, 32, 46, 32, 50, 32, 51, 32, 52, 32, 53, 32, 54, 32, 54, 32, 56, 32, 57]
  | 14 => [46, 32, 46, 32, 50, 102, 32, 51, 102, 32, 50, 102, 32, 51, 102, 32, 51, 102, 32, 51, 102, 32, 51, 102, 32, 53, 100, 105, 116]
  | 15 => [46, 32, 46, 32, 50, 32, 51, 32, 52, 32, 53, 32, 54, 32, 55, 32, 56, 32, 57, 101]
  | _ => []
def placeS : List Int := [117, 100, 115, 102, 105, 122, 114, 97, 110, 116, 107, 106, 101]
def placeN (c : Int) : Nat := (placeS.findIdx? fun x => decide (x = c)).getD 0
def actW (w : List Int) : Int := (w.drop 1).foldl (fun a c => a + 2 ^ placeN c) 0
def stepW (s : Int) (w : List Int) : Int × Int := if w = [46] then (s, 0) else (w.headD 0 - 48, actW w)
set_option maxRecDepth 100000 in
set_option maxHeartbeats 4000000 in
theorem step_words : ∀ e : Nat, e < 16 → ∀ s : Nat, s < 10 → ((wordsL (rowB e))[s]?).map (stepW (s : Int)) = some (stepF (s : Int) (e : Int)) := by decide
set_option maxRecDepth 100000 in
theorem words_ok : ∀ e : Nat, e < 16 → ∀ w ∈ wordsL (rowB e), 0 < w.length ∧ w.length ≤ 5 ∧ (w = [46] ∨ ∀ c ∈ w, 0 ≤ c ∧ c < 256) := by decide
theorem take_snocI {α : Type} {l : List α} {i : Nat} {o : α} (h : l[i]? = some o) : l.take (i + 1) = l.take i ++ [o] := by rw [List.take_add_one, h]; rfl
section
variable {st : St}
set_option maxRecDepth 100000 in
theorem r21Row_v {e : Nat} (he : e < 16) : VCalls Tryz.prog 116 [.sc (.int .i64 e)] st fun r s => r = .sc (.string (strOf (rowB e))) ∧ st = s := by
  have hc : e = 0 ∨ e = 1 ∨ e = 2 ∨ e = 3 ∨ e = 4 ∨ e = 5 ∨ e = 6 ∨ e = 7 ∨ e = 8 ∨ e = 9 ∨ e = 10 ∨ e = 11 ∨ e = 12 ∨ e = 13 ∨ e = 14 ∨ e = 15 := by omega
  rcases hc with rfl | rfl | rfl | rfl | rfl | rfl | rfl | rfl | rfl | rfl | rfl | rfl | rfl | rfl | rfl | rfl
  all_goals
    refine vcalls_enterq pc116 (Nat.le_of_ble_eq_true rfl) rfl fun hwf hok => ?_
    show Run _ Pc116.body (.fin (finP Pc116.res _)) _ _
    unfold Pc116 zn zo
    simp (maxSteps := 3000000) only [go_sem, ↓reduceIte]
    intro b hb
    exact ⟨⟨by decide, by decide⟩, _, _, Wk.refl _, weak_put hwf.weak hb, by kernel_rfl, rfl⟩
theorem placeB : strOf placeS = ⟨#[117, 100, 115, 102, 105, 122, 114, 97, 110, 116, 107, 106, 101]⟩ := by kernel_rfl
theorem placeS_isB : IsB placeS := fun x hx => by simp only [placeS, List.mem_cons, List.not_mem_nil, or_false] at hx; omega
theorem findIdx_at {l : List Int} {c : Int} : ∀ {i : Nat}, l[i]? = some c → c ∉ l.take i → l.findIdx? (fun x => decide (x = c)) = some i := by
  induction l with
  | nil => intro i h; simp at h
  | cons y l ih =>
    intro i h hn
    cases i with
    | zero => simp at h; subst h; simp [List.findIdx?_cons]
    | succ i =>
      simp only [List.getElem?_cons_succ] at h
      simp only [List.take_succ_cons, List.mem_cons, not_or] at hn
      have := ih h hn.2
      rw [List.findIdx?_cons, this]
      simp [show ¬ y = c from fun e => hn.1 e.symm]
theorem findIdx_no {l : List Int} {c : Int} (h : c ∉ l) : l.findIdx? (fun x => decide (x = c)) = none := by
  rw [List.findIdx?_eq_none_iff]
  intro x hx
  simp only [decide_eq_false_iff_not]
  rintro rfl; exact h hx
theorem placeN_lt (c : Int) : placeN c < 13 := by
  unfold placeN
  cases h : placeS.findIdx? (fun x => decide (x = c)) with
  | none => simp
  | some i => simp only [Option.getD_some]; exact (List.findIdx?_eq_some_iff_findIdx_eq.1 h).1
set_option maxRecDepth 100000 in
theorem r21Place_v {c : Int} : VCalls Tryz.prog 117 [.sc (.int .u8 c)] st fun r s => r = .sc (.int .i64 (placeN c)) ∧ st = s := by
  refine vcalls_enterq pc117 (Nat.le_of_ble_eq_true rfl) rfl fun hwf hok => ?_
  show Run _ Pc117.body (.fin (finP Pc117.res _)) _ _
  unfold Pc117 zo
  simp (maxSteps := 3000000) only [go_sem]
  rw [← placeB]
  refine run_loop [2, 4, 7, 8, 10, 13, 15] (fun B s => s = st ∧ ∃ i : Nat, i ≤ 13 ∧ B 4 = .sc (.int .i64 i) ∧ c ∉ placeS.take i) (fun B _ => 13 - vnat (B 4)) rfl ?_ ?_
  · exact ⟨rfl, 0, by omega, rfl, by simp⟩
  · rintro B s ⟨rfl, i, hi, h4, hn⟩
    have hl : placeS.length = 13 := rfl
    by_cases c1 : i < 13
    · obtain ⟨x, hx⟩ := get_ex (L := placeS) (i := i) (by omega)
      have hd := decide_eq_true (show (i : Int) < ((13 : Nat) : Int) by omega)
      by_cases c2 : x = c
      · subst c2
        have : placeN x = i := by rw [placeN, findIdx_at hx hn]; rfl
        simp (maxSteps := 3000000) only [go_sem, ↓reduceIte, h4, strOf_size, hl, hd, bytesOf_strOf placeS_isB, hx, decide_eq_true trivial]
        exact ⟨by omega, _, _, Wk.refl _, hwf.weak, by rw [this], rfl⟩
      · simp (maxSteps := 3000000) only [go_sem, ↓reduceIte, h4, strOf_size, hl, hd, bytesOf_strOf placeS_isB, hx, decide_eq_false c2]
        repeat (apply And.intro; focus (first | omega | (simp; done)))
        refine ⟨⟨i + 1, by omega, by simp, ?_⟩, by omega⟩
        rw [take_snocI hx]
        simp only [List.mem_append, List.mem_singleton, not_or]
        exact ⟨hn, fun e => c2 e.symm⟩
    · obtain rfl : i = 13 := by omega
      have : placeN c = 0 := by
        rw [placeN, findIdx_no (by simpa [hl] using (show c ∉ placeS from hn))]; rfl
      simp (maxSteps := 3000000) only [go_sem, ↓reduceIte, h4, strOf_size, hl]
      exact ⟨_, _, Wk.refl _, hwf.weak, by rw [this]; rfl, rfl⟩
theorem strDot : (⟨#[46]⟩ : ByteArray) = strOf [46] := by kernel_rfl
def accW (w : List Int) (k : Nat) : Int := ((w.take k).drop 1).foldl (fun a c => a + 2 ^ placeN c) 0
theorem accW_next {w : List Int} {k : Nat} {c : Int} (h : w[k]? = some c) (hk : 1 ≤ k) : accW w (k + 1) = accW w k + 2 ^ placeN c := by
  have hl := (List.getElem?_eq_some_iff.1 h).1
  unfold accW
  rw [take_snocI h, List.drop_append_of_le_length (by simp only [List.length_take]; omega), List.foldl_append]
  rfl
theorem accW_rng {w : List Int} : ∀ {k : Nat}, k ≤ w.length → 0 ≤ accW w k ∧ accW w k ≤ k * 4096
  | 0, _ => by simp [accW]
  | k + 1, h => by
    have ih := @accW_rng w k (by omega)
    obtain ⟨c, hc⟩ := get_ex (L := w) (i := k) (by omega)
    have hp := placeN_lt c
    have h2 : (2 : Int) ^ placeN c ≤ 4096 ∧ (0 : Int) < 2 ^ placeN c := by
      generalize placeN c = p at hp
      have : ∀ p : Nat, p < 13 → (2 : Int) ^ p ≤ 4096 ∧ (0 : Int) < 2 ^ p := by decide
      exact this p hp
    by_cases hk : 1 ≤ k
    · rw [accW_next hc hk]; omega
    · obtain rfl : k = 0 := by omega
      have : accW w 1 = 0 := by
        unfold accW
        rw [take_snocI hc]; rfl
      rw [this]; omega
set_option maxRecDepth 100000 in
set_option maxHeartbeats 4000000 in
theorem r21Step_v {s e : Int} : VCalls Tryz.prog 94 [.sc (.int .i64 s), .sc (.int .i64 e)] st fun r s' => r = .tup [.sc (.int .i64 (stepF s e).1), .sc (.int .i64 (stepF s e).2)] ∧ st = s' := by
  refine vcalls_enterq pc94 (Nat.le_of_ble_eq_true rfl) rfl fun hwf hok => ?_
  show Run _ Pc94.body (.fin (finP Pc94.res _)) _ _
  unfold Pc94 zg zo
  by_cases c1 : s < 0
  · simp (maxSteps := 3000000) only [go_sem, ↓reduceIte, decide_eq_true c1]
    exact ⟨_, _, Wk.refl _, hwf.weak, by simp [stepF, c1], rfl⟩
  by_cases c2 : 9 < s
  · simp (maxSteps := 3000000) only [go_sem, ↓reduceIte, decide_eq_false c1, decide_eq_true c2]
    exact ⟨_, _, Wk.refl _, hwf.weak, by simp [stepF, c2], rfl⟩
  by_cases c3 : e < 0
  · simp (maxSteps := 3000000) only [go_sem, ↓reduceIte, decide_eq_false c1, decide_eq_false c2, decide_eq_true c3]
    exact ⟨_, _, Wk.refl _, hwf.weak, by simp [stepF, c3], rfl⟩
  by_cases c4 : 15 < e
  · simp (maxSteps := 3000000) only [go_sem, ↓reduceIte, decide_eq_false c1, decide_eq_false c2, decide_eq_false c3, decide_eq_true c4]
    exact ⟨_, _, Wk.refl _, hwf.weak, by simp [stepF, c4], rfl⟩
  obtain ⟨i, rfl⟩ : ∃ i : Nat, s = i := ⟨s.toNat, by omega⟩
  obtain ⟨j, rfl⟩ : ∃ j : Nat, e = j := ⟨e.toNat, by omega⟩
  have hj : j < 16 := by omega
  have hst := step_words j hj i (by omega)
  cases hW : (wordsL (rowB j))[i]? with
  | none => rw [hW] at hst; cases hst
  | some w =>
    rw [hW] at hst
    simp only [Option.map_some, Option.some.injEq] at hst
    rw [← hst]
    obtain ⟨wl, wl5, wb⟩ := words_ok j hj w (List.mem_of_getElem? hW)
    have hB : IsB w := by
      rcases wb with rfl | wb
      · intro x hx; simp at hx; omega
      · exact wb
    have hR : IsB (rowB j) ∧ (rowB j).length ≤ 1000000 := by
      have : ∀ j : Nat, j < 16 → (∀ x ∈ rowB j, 0 ≤ x ∧ x < 256) ∧ (rowB j).length ≤ 1000000 := by decide
      exact this j hj
    simp (maxSteps := 3000000) only [go_sem, ↓reduceIte, decide_eq_false c1, decide_eq_false c2, decide_eq_false c3, decide_eq_false c4]
    refine Cal.mk (r21Row_v hj) ?_
    rintro _ _ ⟨rfl, rfl⟩ -
    simp (maxSteps := 3000000) only [go_sem, ↓reduceIte]
    refine Cal.mk (words03_v hR.1 hR.2) ?_
    rintro r2 s2 ⟨k1, k2⟩ -
    obtain ⟨tk, rfl⟩ := k1.sl
    have W2 := k2.weak
    have hdot := strOf_inj hB (show IsB [46] from by intro x hx; simp at hx; omega)
    rw [strDot]
    by_cases cd : w = [46]
    · have : stepW (i : Int) w = ((i : Int), 0) := if_pos cd
      rw [this]
      simp (maxSteps := 3000000) only [go_sem, ↓reduceIte, ss_get, hW, decide_eq_true (hdot.2 cd)]
      exact ⟨by omega, _, _, Wk.refl _, W2, rfl, rfl⟩
    · have hsw : stepW (i : Int) w = (w.headD 0 - 48, accW w w.length) := by rw [stepW, if_neg cd, accW, List.take_length]; rfl
      rw [hsw]
      have hsz := strOf_size w
      simp (maxSteps := 3000000) only [go_sem, ↓reduceIte, ss_get, hW, decide_eq_false (fun h => cd (hdot.1 h))]
      refine ⟨by omega, ?_⟩
      refine run_loop [7, 8, 35, 36, 38, 42, 43, 44, 45] (fun B s => s = s2 ∧ ∃ k : Nat, 1 ≤ k ∧ k ≤ w.length ∧ B 8 = .sc (.int .i64 k) ∧ B 7 = .sc (.int .i64 (accW w k))) (fun B _ => 6 - vnat (B 8)) rfl ?_ ?_
      · refine ⟨rfl, 1, by omega, by omega, rfl, ?_⟩
        have : accW w 1 = 0 := by
          obtain ⟨c, hc⟩ := get_ex (L := w) (i := 0) (by omega)
          unfold accW
          rw [take_snocI hc]; rfl
        rw [this]; rfl
      · rintro B s ⟨rfl, k, hk1, hk, h8, h7⟩
        have hr := accW_rng hk
        by_cases c5 : k < w.length
        · obtain ⟨c, hc⟩ := get_ex c5
          have hn := accW_next hc hk1
          have hp := placeN_lt c
          have h2 : (2 : Int) ^ placeN c ≤ 4096 ∧ (0 : Int) < 2 ^ placeN c := by
            have : ∀ p : Nat, p < 13 → (2 : Int) ^ p ≤ 4096 ∧ (0 : Int) < 2 ^ p := by decide
            exact this _ hp
          simp (maxSteps := 3000000) only [go_sem, ↓reduceIte, h8, hsz, decide_eq_true (show (k : Int) < (w.length : Int) by omega), bytesOf_strOf hB, hc]
          refine ⟨by omega, ?_⟩
          refine Cal.mk r21Place_v ?_
          rintro _ _ ⟨rfl, rfl⟩ -
          generalize placeN c = p at hn hp h2
          have hmin : (if p ≤ 64 then p else 64) = p := if_pos (by omega)
          simp (maxSteps := 3000000) only [go_sem, ↓reduceIte, h8, h7, hmin]
          rw [Int.one_mul]
          generalize (2 : Int) ^ p = z at hn h2
          exact ⟨⟨by omega, by omega, by omega⟩, ⟨by omega, by omega⟩, ⟨by omega, by omega⟩, ⟨k + 1, by omega, by omega, by simp, by rw [hn]⟩, by omega⟩
        · obtain rfl : k = w.length := by omega
          obtain ⟨c, hc⟩ := get_ex (L := w) (i := 0) (by omega)
          have hh : w.headD 0 = c := by cases w with
            | nil => simp at hc
            | cons x l => simp at hc; subst hc; rfl
          have hcb := hB.get hc
          simp (maxSteps := 3000000) only [go_sem, ↓reduceIte, h8, h7, hsz, bytesOf_strOf hB, hc]
          exact ⟨⟨by omega, by omega⟩, ⟨by omega, by omega⟩, _, _, Wk.refl _, W2, by rw [hh], rfl⟩
end
end
section
open Go
theorem acts_all : ∀ e : Nat, e < 16 → ∀ s : Nat, s < 10 → 0 ≤ (stepF (s : Int) (e : Int)).2 ∧ (stepF (s : Int) (e : Int)).2 < 8192 := by decide
theorem acts_rng (s e : Int) : 0 ≤ (stepF s e).2 ∧ (stepF s e).2 < 8192 := by
  by_cases c : s < 0 ∨ 9 < s ∨ e < 0 ∨ 15 < e
  · have : stepF s e = (s, 0) := by unfold stepF; rw [if_pos c]
    rw [this]; exact ⟨Int.le_refl 0, by show (0 : Int) < 8192; decide⟩
  · have := acts_all e.toNat (by omega) s.toNat (by omega)
    have e1 : (s.toNat : Int) = s := by omega
    have e2 : (e.toNat : Int) = e := by omega
    rw [e1, e2] at this; exact this
def bitA (act : Int) (n : Nat) : Bool := decide (act / 2 ^ n % 2 = 1)
theorem hasA_nat {a l : Nat} (ha : a < 65536) (hl : l < 65536) : hasA (a : Int) (l : Int) = decide (a &&& l ≠ 0) := by
  have e16 : ∀ x : Nat, x < 65536 → (BitVec.ofInt 16 (x : Int)).toNat = x := fun x h => by rw [BitVec.toNat_ofInt]; omega
  have hx : a &&& l < 2 ^ 16 := Nat.and_lt_two_pow _ (by omega)
  have g : ibit .and .u16 (a : Int) (l : Int) = IntKind.u16.wrap ((BitVec.ofInt 16 (a : Int) &&& BitVec.ofInt 16 (l : Int)).toNat : Int) := rfl
  have f : (BitVec.ofInt 16 (a : Int) &&& BitVec.ofInt 16 (l : Int)).toNat = a &&& l := by rw [BitVec.toNat_and, e16 a ha, e16 l hl]
  unfold hasA
  rw [g, f]
  generalize a &&& l = n at hx
  have : IntKind.u16.wrap (n : Int) = (n : Int) := by
    simp only [IntKind.wrap, IntKind.signed, IntKind.bits, Bool.false_and, Bool.false_eq_true, ↓reduceIte]; omega
  rw [this]
  by_cases h : n = 0
  · simp [h]
  · have : ¬ (n : Int) = 0 := by omega
    simp [h]
theorem bit_has {a n : Nat} (ha : a < 65536) (hn : n < 16) : bitA (a : Int) n = hasA (a : Int) ((2 ^ n : Nat) : Int) := by
  rw [hasA_nat ha (by have := Nat.pow_lt_pow_right (a := 2) (by decide) hn; simpa using this)]
  have h1 : bitA (a : Int) n = a.testBit n := by
    unfold bitA
    rw [Nat.testBit_eq_decide_div_mod_eq]
    have : ((a : Int) / 2 ^ n % 2 = 1) ↔ (a / 2 ^ n % 2 = 1) := by
      have e : ((a / 2 ^ n % 2 : Nat) : Int) = (a : Int) / 2 ^ n % 2 := by simp
      omega
    simp only [this]
  have h2 : a &&& 2 ^ n = if a.testBit n = true then 2 ^ n else 0 := by
    refine Nat.eq_of_testBit_eq fun i => ?_
    rw [Nat.testBit_and, Nat.testBit_two_pow]
    by_cases e : n = i
    · subst e
      cases a.testBit n <;> simp []
    · cases a.testBit n <;> simp [e]
  rw [h1, h2]
  have : 0 < 2 ^ n := Nat.pow_pos (by decide)
  cases a.testBit n
  · simp
  · simp
theorem has_or {a l m : Nat} (ha : a < 65536) (hl : l < 65536) (hm : m < 65536) : hasA (a : Int) ((l ||| m : Nat) : Int) = (hasA (a : Int) (l : Int) || hasA (a : Int) (m : Int)) := by
  rw [hasA_nat ha (Nat.or_lt_two_pow (n := 16) hl hm), hasA_nat ha hl, hasA_nat ha hm, Nat.and_or_distrib_left]
  simp only [ne_eq, Nat.or_eq_zero_iff]
  by_cases h1 : a &&& l = 0 <;> by_cases h2 : a &&& m = 0 <;> simp [h1, h2]
theorem iand1 {x : Int} (h0 : 0 ≤ x) (h1 : x < 65536) : ibit .and .i64 x 1 = x % 2 := by
  have e64 : (BitVec.ofInt 64 x).toNat = x.toNat := by rw [BitVec.toNat_ofInt]; congr 1; omega
  have g : ibit .and .i64 x 1 = IntKind.i64.wrap ((BitVec.ofInt 64 x &&& BitVec.ofInt 64 1).toNat : Int) := rfl
  have f : (BitVec.ofInt 64 x &&& BitVec.ofInt 64 1).toNat = x.toNat % 2 := by rw [BitVec.toNat_and, e64, ← Nat.and_one_is_mod]; rfl
  rw [g, f, IntWalk.i64_in _ (by omega)]
  omega
section
variable {st : St} {b : Nat} {s l t : Int} {rest : List V}
theorem r33Bit_v {act : Int} {n : Nat} (h0 : 0 ≤ act) (h1 : act < 65536) (hn : n < 16) : VCalls Tryz.prog 78 [.sc (.int .i64 act), .sc (.int .i64 n)] st fun r s' => r = .sc (.bool (hasA act ((2 ^ n : Nat) : Int))) ∧ st = s' := by
  obtain ⟨a, rfl⟩ : ∃ a : Nat, act = a := ⟨act.toNat, by omega⟩
  rw [← bit_has (by omega) hn]
  unfold bitA
  have hmin : (if n ≤ 64 then n else 64) = n := if_pos (by omega)
  have hq : 0 ≤ (a : Int) / 2 ^ n ∧ (a : Int) / 2 ^ n < 65536 := by
    have : 0 < (2 : Int) ^ n := Int.pow_pos (by decide)
    refine ⟨Int.ediv_nonneg (by omega) (by omega), Int.lt_of_le_of_lt (Int.ediv_le_self _ (by omega)) (by omega)⟩
  have h2 := iand1 hq.1 hq.2
  refine vcalls_enterq pc78 (Nat.le_of_ble_eq_true rfl) rfl fun hwf hok => ?_
  show Run _ Pc78.body (.fin (finP Pc78.res _)) _ _
  unfold Pc78 zo
  repeat' first | simp (maxSteps := 3000000) only [go_sem, ↓reduceIte, hmin, h2] | (refine If.dec (fun h => ?_) (fun h => ?_) <;> first | simp only [decide_eq_true h] | simp only [decide_eq_false h] | skip) | (refine Grd.decd (fun h => ?_) (fun h => ?_) <;> first | simp only [decide_eq_true h] | simp only [decide_eq_false h] | skip) | (refine If.mk (fun h => ?_) (fun h => ?_) <;> first | simp only [h] | skip) | (refine Grd.two (fun h => ?_) (fun h => ?_) <;> first | simp only [h] | skip) | (apply And.intro; focus (first | omega | (simp; done)))
  all_goals exact ⟨_, _, Wk.refl _, hwf.weak, rfl, rfl⟩
theorem cnt_bits (act l : Int) : cntA act l = (let l1 := if hasA act 16 && hasA act 512 then 2 else if hasA act 16 then 10 else if hasA act 32 then 0 else l
  if hasA act 576 then max (l1 - 1) 0 else l1) := rfl
set_option maxRecDepth 100000 in
set_option maxHeartbeats 16000000 in
theorem r33Do_v {now e : Int} (hb : st.box b = some (.sc (.int .i64 s) :: .sc (.int .i64 l) :: .sc (.int .i64 t) :: rest)) (h0 : 0 ≤ l) (h1 : l ≤ 10) (hn : 0 ≤ now) (hn2 : now ≤ 1000000000) :
    VCalls Tryz.prog 73 [ptrV b, .sc (.int .i64 now), .sc (.int .i64 e)] st fun r s' => r = .sc (.int .i64 (stepF s e).2) ∧ s' = st.put b (.sc (.int .i64 (stepF s e).1) :: .sc (.int .i64 (cntA (stepF s e).2 l)) :: .sc (.int .i64 (atA (stepF s e).2 now t)) :: rest) := by
  have ha := acts_rng s e
  have B := fun (n : Nat) (hn : n < 16) (st : St) => r33Bit_v (st := st) ha.1 (show (stepF s e).2 < 65536 by omega) hn
  have B4 := fun st => B 4 (by decide) st
  have B5 := fun st => B 5 (by decide) st
  have B6 := fun st => B 6 (by decide) st
  have B9 := fun st => B 9 (by decide) st
  have e576 : hasA (stepF s e).2 576 = (hasA (stepF s e).2 512 || hasA (stepF s e).2 64) := by
    obtain ⟨a, hA⟩ : ∃ a : Nat, (stepF s e).2 = a := ⟨(stepF s e).2.toNat, by omega⟩
    rw [hA]; exact has_or (l := 512) (m := 64) (by omega) (by decide) (by decide)
  have e608 : hasA (stepF s e).2 608 = (hasA (stepF s e).2 576 || hasA (stepF s e).2 32) := by
    obtain ⟨a, hA⟩ : ∃ a : Nat, (stepF s e).2 = a := ⟨(stepF s e).2.toNat, by omega⟩
    rw [hA]; exact has_or (l := 576) (m := 32) (by omega) (by decide) (by decide)
  have hc : cntA (stepF s e).2 l = (if (hasA (stepF s e).2 512 || hasA (stepF s e).2 64) = true then max ((if hasA (stepF s e).2 16 = true ∧ hasA (stepF s e).2 512 = true then 2 else if hasA (stepF s e).2 16 = true then 10 else if hasA (stepF s e).2 32 = true then 0 else l) - 1) 0 else (if hasA (stepF s e).2 16 = true ∧ hasA (stepF s e).2 512 = true then 2 else if hasA (stepF s e).2 16 = true then 10 else if hasA (stepF s e).2 32 = true then 0 else l)) := by
    rw [cntA, e576]; simp only [Bool.and_eq_true]
  have ht : atA (stepF s e).2 now t = if ((hasA (stepF s e).2 512 || hasA (stepF s e).2 64) || hasA (stepF s e).2 32) = true then now + 3 else t := by rw [atA, e608, e576]
  rw [hc, ht]
  refine vcalls_enterq pc73 (Nat.le_of_ble_eq_true rfl) rfl fun hwf hok => ?_
  show Run _ Pc73.body (.fin (finP Pc73.res _)) _ _
  unfold Pc73 zg zn zo
  have hlt := hwf.lt
  simp (maxSteps := 3000000) only [go_sem, ↓reduceIte, hb]
  refine Cal.mk r21Step_v ?_
  rintro _ _ ⟨rfl, rfl⟩ -
  generalize (stepF s e).1 = s' at *
  generalize hA : (stepF s e).2 = act at *
  have B4' : ∀ st, VCalls Tryz.prog 78 [.sc (.int .i64 act), .sc (.int .i64 4)] st fun r s' => r = .sc (.bool (hasA act 16)) ∧ st = s' := B4
  have B5' : ∀ st, VCalls Tryz.prog 78 [.sc (.int .i64 act), .sc (.int .i64 5)] st fun r s' => r = .sc (.bool (hasA act 32)) ∧ st = s' := B5
  have B6' : ∀ st, VCalls Tryz.prog 78 [.sc (.int .i64 act), .sc (.int .i64 6)] st fun r s' => r = .sc (.bool (hasA act 64)) ∧ st = s' := B6
  have B9' : ∀ st, VCalls Tryz.prog 78 [.sc (.int .i64 act), .sc (.int .i64 9)] st fun r s' => r = .sc (.bool (hasA act 512)) ∧ st = s' := B9
  clear B B4 B5 B6 B9 e576 e608 hc ht
  generalize hasA act 16 = b16 at *
  generalize hasA act 32 = b32 at *
  generalize hasA act 64 = b64 at *
  generalize hasA act 512 = b512 at *
  cases b16 <;> cases b32 <;> cases b64 <;> cases b512
  all_goals
    repeat' first | simp (maxSteps := 3000000) only [go_sem, ↓reduceIte, hb, put_box_same, put_put, Bool.or_true, Bool.or_false, and_self, and_true, true_and, and_false] | (refine If.dec (fun h => ?_) (fun h => ?_) <;> first | simp only [decide_eq_true h] | simp only [decide_eq_false h] | skip) | (refine Grd.decd (fun h => ?_) (fun h => ?_) <;> first | simp only [decide_eq_true h] | simp only [decide_eq_false h] | skip) | (refine If.mk (fun h => ?_) (fun h => ?_) <;> first | simp only [h] | skip) | (refine Grd.two (fun h => ?_) (fun h => ?_) <;> first | simp only [h] | skip) | (apply And.intro; focus (first | omega | (simp; done))) | (refine Cal.mk (B4' _) ?_; rintro _ _ ⟨rfl, rfl⟩ -) | (refine Cal.mk (B5' _) ?_; rintro _ _ ⟨rfl, rfl⟩ -) | (refine Cal.mk (B6' _) ?_; rintro _ _ ⟨rfl, rfl⟩ -) | (refine Cal.mk (B9' _) ?_; rintro _ _ ⟨rfl, rfl⟩ -)
  all_goals exact ⟨_, _, Wk.refl _, (hlt.put (b := b)).weak, rfl, by first | rfl | (rw [show max (l - 1) 0 = l - 1 by omega]) | (rw [show max (l - 1) 0 = l by omega])⟩
set_option maxRecDepth 100000 in
set_option maxHeartbeats 16000000 in
theorem r33Tick_v {now : Int} (hb : st.box b = some (.sc (.int .i64 s) :: .sc (.int .i64 l) :: .sc (.int .i64 t) :: rest)) (h0 : 0 ≤ l) (h1 : l ≤ 10) (hn : 0 ≤ now) (hn2 : now ≤ 1000000000) :
    VCalls Tryz.prog 60 [ptrV b, .sc (.int .i64 now)] st fun r s' => r = .sc (.int .i64 (tickA s l t now).2.2.2) ∧ s' = st.put b (.sc (.int .i64 (tickA s l t now).1) :: .sc (.int .i64 (tickA s l t now).2.1) :: .sc (.int .i64 (tickA s l t now).2.2.1) :: rest) := by
  refine vcalls_enterq pc60 (Nat.le_of_ble_eq_true rfl) rfl fun hwf hok => ?_
  show Run _ Pc60.body (.fin (finP Pc60.res _)) _ _
  unfold Pc60 zg zn zo
  have hlt := hwf.lt
  by_cases c : s < 4 ∨ 8 < s ∨ now < t
  · have e : tickA s l t now = (s, l, t, 0) := by rw [tickA, if_pos c]
    rw [e]
    have hp : st.put b (.sc (.int .i64 s) :: .sc (.int .i64 l) :: .sc (.int .i64 t) :: rest) = st := put_selfR hb (hwf.box b _ hb)
    have fin : ∃ (r : V) (st' : St), Wk (.sc (.int .i64 0)) r ∧ st'.weak st ∧ r = .sc (.int .i64 0) ∧ st' = st.put b (.sc (.int .i64 s) :: .sc (.int .i64 l) :: .sc (.int .i64 t) :: rest) := ⟨_, _, Wk.refl _, hwf.weak, rfl, hp.symm⟩
    repeat' first | simp (maxSteps := 3000000) only [go_sem, ↓reduceIte, hb] | (refine If.dec (fun h => ?_) (fun h => ?_) <;> first | simp only [decide_eq_true h] | simp only [decide_eq_false h] | skip) | (refine Grd.decd (fun h => ?_) (fun h => ?_) <;> first | simp only [decide_eq_true h] | simp only [decide_eq_false h] | skip) | (refine If.mk (fun h => ?_) (fun h => ?_) <;> first | simp only [h] | skip) | (refine Grd.two (fun h => ?_) (fun h => ?_) <;> first | simp only [h] | skip) | (apply And.intro; focus (first | omega | (simp; done)))
    all_goals first | exact fin | (exfalso; omega)
  · have e : tickA s l t now = ((stepF s (if 0 < l then 4 else 5)).1, cntA (stepF s (if 0 < l then 4 else 5)).2 l, atA (stepF s (if 0 < l then 4 else 5)).2 now (now + 3), (stepF s (if 0 < l then 4 else 5)).2) := by rw [tickA, if_neg c]
    rw [e]
    simp (maxSteps := 3000000) only [go_sem, ↓reduceIte, hb, decide_eq_false (show ¬ s < 4 by omega), decide_eq_false (show ¬ 8 < s by omega), decide_eq_false (show ¬ now < t by omega), put_box_same]
    repeat (apply And.intro; focus (first | omega | (simp; done)))
    by_cases cl : 0 < l
    · simp only [if_pos cl]
      simp (maxSteps := 3000000) only [go_sem, ↓reduceIte, decide_eq_true cl]
      refine Cal.mk (r33Do_v (b := b) (rest := rest) put_box_same h0 h1 hn hn2) ?_
      rintro _ _ ⟨rfl, rfl⟩ -
      simp (maxSteps := 3000000) only [go_sem, ↓reduceIte, put_put]
      exact ⟨_, _, Wk.refl _, (hlt.put (b := b)).weak, rfl, rfl⟩
    · simp only [if_neg cl]
      simp (maxSteps := 3000000) only [go_sem, ↓reduceIte, decide_eq_false cl]
      refine Cal.mk (r33Do_v (b := b) (rest := rest) put_box_same h0 h1 hn hn2) ?_
      rintro _ _ ⟨rfl, rfl⟩ -
      simp (maxSteps := 3000000) only [go_sem, ↓reduceIte, put_put]
      exact ⟨_, _, Wk.refl _, (hlt.put (b := b)).weak, rfl, rfl⟩
end
end
section
open Go
theorem AppSt.transL' {a b c : St} {x y z : V} (hw : a.Lt) (h : AppSt a x b y) (k : AppSt b y c z) : AppSt a x c z :=
  ⟨k.box.trans h.box, fun hh => k.lt (h.lt hh), Nat.le_trans h.sz k.sz, fun g m hg hne => k.own g m (h.own g m hg hne) (fun l q e => by
    rcases h.tok g q l e with ⟨l', h2⟩ | h2
    · exact hne l' q h2
    · exact absurd (hw.own g m hg) (by omega)), fun g q l e => by
    rcases k.tok g q l e with ⟨l', h2⟩ | h2
    · rcases h.tok g q l' h2 with h3 | h3
      · exact .inl h3
      · exact .inr h3
    · exact .inr (Nat.le_trans h.sz h2)⟩
def refC {R : Type} (kind codes : Int) (N : Neg R) (tk : Tk) (T : V) (tl : Tk) (last : List Opt) (r2 : List V) : List V :=
  .sc (.int .i64 N.s) :: .sc (.int .i64 N.left) :: .sc (.int .i64 N.at_) :: .sc (.int .i64 kind) :: .sc (.int .u8 codes) :: .sc (.int .u8 N.id) :: .sl tk (bs N.req) :: .sc (.int .i64 N.naks) :: T :: .sl tl (opts last) :: r2
structure RefI {R : Type} (SI : Nat → St → R → V → List Opt → List V → Prop) (bx : List Nat) (kind codes : Int) (n k : Nat) (st : St) (N : Neg R) : Prop where
  ex : ∃ tk T tl last r2, st.box n = some (refC kind codes N tk T tl last r2) ∧ SI k st N.r T last r2
  nn : n ∉ bx
  l0 : 0 ≤ N.left
  l1 : N.left ≤ 10
  i0 : 0 ≤ N.id
  i1 : N.id < 256
  a0 : 0 ≤ N.naks
  a1 : N.naks ≤ k
  rb : IsB N.req
  rl : N.req.length ≤ 1000000
structure RefR {R : Type} (U : Rul R) (SI : Nat → St → R → V → List Opt → List V → Prop) (bx : List Nat) (kind codes : Int) (n : Nat) : Prop where
  req : ∀ (k : Nat) (st : St) (N : Neg R), RefI SI bx kind codes n k st N → VCalls Tryz.prog 80 [ptrV n] st fun x s => x = .sl .no (opts (U.request N.r)) ∧ st = s
  reqG : ∀ (k : Nat) (st : St) (N : Neg R), RefI SI bx kind codes n k st N → GoodO (U.request N.r) ∧ (U.request N.r).length ≤ 100
  judge : ∀ (k : Nat) (st : St) (N : Neg R) (l : List Opt) (tk : Tk), RefI SI bx kind codes n k st N → k ≤ 1000000000 → GoodO l → l.length ≤ 1000000 →
    VCalls Tryz.prog 90 [ptrV n, .sl tk (opts l)] st fun x s => (∃ t2, x = .tup [.sc (.int .u8 (U.judge N.r l).2.1), .sl t2 (opts (U.judge N.r l).2.2)]) ∧ RefI SI bx kind codes n (k + 1) s { N with r := (U.judge N.r l).1 } ∧ Tn (n :: bx) st s
  judgeG : ∀ (k : Nat) (st : St) (N : Neg R) (l : List Opt), RefI SI bx kind codes n k st N → GoodO l → l.length ≤ 1000000 → 0 ≤ (U.judge N.r l).2.1 ∧ (U.judge N.r l).2.1 < 256 ∧ GoodO (U.judge N.r l).2.2 ∧ (U.judge N.r l).2.2.length ≤ 1000000
  agreed : ∀ (k : Nat) (st : St) (r : R) (T : V) (last l : List Opt) (r2 : List V), SI k st r T last r2 → GoodO l → l.length ≤ 1000000 → SI k st (U.agreed r l) T l r2
  naked : ∀ (k : Nat) (st : St) (N : Neg R) (l : List Opt) (tk : Tk), RefI SI bx kind codes n k st N → k ≤ 1000000000 → GoodO l → l.length ≤ 1000000 →
    VCalls Tryz.prog 92 [ptrV n, .sl tk (opts l)] st fun x s => x = .tup [] ∧ RefI SI bx kind codes n (k + 1) s { N with r := U.naked N.r l } ∧ Tn (n :: bx) st s
  rejected : ∀ (k : Nat) (st : St) (N : Neg R) (l : List Opt) (tk : Tk), RefI SI bx kind codes n k st N → k ≤ 1000000000 → GoodO l → l.length ≤ 1000000 →
    VCalls Tryz.prog 93 [ptrV n, .sl tk (opts l)] st fun x s => x = .sc (.bool (U.rejected N.r l).2) ∧ RefI SI bx kind codes n k s { N with r := (U.rejected N.r l).1 } ∧ Tn (n :: bx) st s
  stay : ∀ (k : Nat) (st s : St) (r : R) (T : V) (last : List Opt) (r2 : List V), SI k st r T last r2 → (∀ b cs, st.box b = some cs → b ∈ bx → s.box b = some cs) → st.sz ≤ s.sz → SI k s r T last r2
  more : ∀ (k : Nat) (st : St) (r : R) (T : V) (last : List Opt) (r2 : List V), SI k st r T last r2 → SI (k + 1) st r T last r2
  lt : ∀ (k : Nat) (st : St) (r : R) (T : V) (last : List Opt) (r2 : List V), SI k st r T last r2 → ∀ b ∈ bx, b < st.sz
section
variable {R : Type} {U : Rul R} {SI : Nat → St → R → V → List Opt → List V → Prop} {bx : List Nat} {kind codes : Int} {n k m : Nat} {st s s2 base : St} {N N' : Neg R}
theorem RefI.write (hU : RefR U SI bx kind codes n) (h : RefI SI bx kind codes n k st N) {N' : Neg R} {tk tl : Tk} {T : V} {last : List Opt} {r2 : List V} (hs : SI k st N.r T last r2) (hr : N'.r = N.r) (l0 : 0 ≤ N'.left) (l1 : N'.left ≤ 10) (i0 : 0 ≤ N'.id) (i1 : N'.id < 256) (a0 : 0 ≤ N'.naks) (a1 : N'.naks ≤ k) (rb : IsB N'.req) (rl : N'.req.length ≤ 1000000) :
    RefI SI bx kind codes n k (st.put n (refC kind codes N' tk T tl last r2)) N' :=
  ⟨⟨tk, T, tl, last, r2, put_box_same, by
    rw [hr]
    refine hU.stay k st _ _ _ _ _ hs (fun b cs hb hm => ?_) (by simp only [put_sz]; omega)
    rw [put_box_ne (fun e => h.nn (by subst e; exact hm))]; exact hb⟩, h.nn, l0, l1, i0, i1, a0, a1, rb, rl⟩
theorem RefI.tnx (hU : RefR U SI bx kind codes n) (h : RefI SI bx kind codes n k st N) {cs : List Nat} (T : Tn cs st s) (hd : ∀ b ∈ n :: bx, b ∉ cs) : RefI SI bx kind codes n k s N :=
  ⟨by
    obtain ⟨tk, T0, tl, last, r2, hb, hs⟩ := h.ex
    exact ⟨tk, T0, tl, last, r2, T.box n _ hb (hd n (by simp)), hU.stay k st s _ _ _ _ hs (fun b cs hb hm => T.box b cs hb (hd b (by simp [hm]))) T.sz⟩, h.nn, h.l0, h.l1, h.i0, h.i1, h.a0, h.a1, h.rb, h.rl⟩
theorem RefI.tn (hU : RefR U SI bx kind codes n) (h : RefI SI bx kind codes n k st N) (T : Tn [] st s) : RefI SI bx kind codes n k s N := h.tnx hU T (by simp)
theorem RefI.lt (hU : RefR U SI bx kind codes n) (h : RefI SI bx kind codes n k st N) (hs : st.Lt) : ∀ b ∈ n :: bx, b < st.sz := fun b hb => by
  obtain ⟨tk, T0, tl, last, r2, hx, hi⟩ := h.ex
  rcases List.mem_cons.1 hb with rfl | hb
  · exact hs.box b _ hx
  · exact hU.lt k st _ _ _ _ hi b hb
theorem RefI.more (hU : RefR U SI bx kind codes n) (h : RefI SI bx kind codes n k st N) : RefI SI bx kind codes n (k + 1) st N :=
  ⟨by
    obtain ⟨tk, T0, tl, last, r2, hb, hs⟩ := h.ex
    exact ⟨tk, T0, tl, last, r2, hb, hU.more k st _ _ _ _ hs⟩, h.nn, h.l0, h.l1, h.i0, h.i1, h.a0, by have := h.a1; omega, h.rb, h.rl⟩
theorem RefI.app (hU : RefR U SI bx kind codes n) (h : RefI SI bx kind codes n k s N) {x r : V} {l : List V} (RO3 : RO 3 base.bare s x l) (K : AppSt s x s2 r) : RefI SI bx kind codes n k s2 N :=
  ⟨by
    obtain ⟨tk, T0, tl, last, r2, hb, hs⟩ := h.ex
    exact ⟨tk, T0, tl, last, r2, by rw [K.box]; exact hb, hU.stay k s s2 _ _ _ _ hs (fun b cs hb hm => by rw [K.box]; exact hb) K.sz⟩, h.nn, h.l0, h.l1, h.i0, h.i1, h.a0, h.a1, h.rb, h.rl⟩
def ROut (st : St) (SI : Nat → St → R → V → List Opt → List V → Prop) (bx : List Nat) (kind codes : Int) (n k m : Nat) (X : Neg R × Nout) (r : V) (s : St) : Prop :=
  ∃ tv, r = .agg [.sl tv (ctls X.2.P), .sc (.bool X.2.up), .sc (.bool X.2.down), .sc (.bool X.2.over)] ∧ RO 3 st.bare s (.sl tv (ctls X.2.P)) (ctls X.2.P) ∧ RefI SI bx kind codes n k s X.1 ∧ Tn (n :: bx) st s ∧ X.2.P.length ≤ m
structure Dn (st : St) (SI : Nat → St → R → V → List Opt → List V → Prop) (bx : List Nat) (kind codes : Int) (n k m : Nat) (N : Neg R) (P : List Ctl) (t : Tk) (s : St) : Prop where
  row : RO 3 st.bare s (.sl t (ctls P)) (ctls P)
  neg : RefI SI bx kind codes n k s N
  tn : Tn (n :: bx) st s
  len : P.length ≤ m
theorem Dn.app (hU : RefR U SI bx kind codes n) (hlt : st.Lt) {P : List Ctl} {t : Tk} (D : Dn st SI bx kind codes n k m N P t s) (hm : m ≤ 100) (o : Ctl) {d : Option Nat} {rest : List VO} {kk : Kt} {A : Nat → V} (hk : ∀ t2 s2, Dn st SI bx kind codes n k (m + 1) N (P ++ [o]) t2 s2 → Ops Tryz.prog rest kk (putV A d (.sl t2 (ctls (P ++ [o])))) s2) :
    App Tryz.prog 3 32 (.sl t (ctls P)) (.sl .no [.agg [.sc (.int .u8 o.code), .sc (.int .u8 o.id), .sl .no (bs o.data)]]) d [] rest kk A s := by
  have := D.len
  refine App.mk (bytes := 32) (l := ctls P) (ys := ctls [o]) D.row.own (allSz_ctls _) (by simp only [ctls_len, List.length_cons, List.length_nil]; unfold maxLen; omega) (by simp only [ctls_len, List.length_cons, List.length_nil]; omega) ?_
  intro r2 s2 k1 k2
  have R2 := D.row.app k1 k2
  rw [ctls_append] at R2
  obtain ⟨t2, rfl⟩ := R2.sl
  exact ⟨trivial, hk t2 s2 ⟨R2, D.neg.app hU D.row k2, D.tn.app k2 (fun g k l e => D.row.tok g k l e) hlt, by simp only [List.length_append, List.length_cons, List.length_nil]; omega⟩⟩
theorem Dn.tn0 (hU : RefR U SI bx kind codes n) {P : List Ctl} {t : Tk} (D : Dn st SI bx kind codes n k m N P t s) (T : Tn [] s s2) : Dn st SI bx kind codes n k m N P t s2 :=
  ⟨D.row.tn T (by simp), D.neg.tn hU T, D.tn.trans (T.wide (by simp)), D.len⟩
theorem Dn.le {m' : Nat} {P : List Ctl} {t : Tk} (D : Dn st SI bx kind codes n k m N P t s) (h : m ≤ m') : Dn st SI bx kind codes n k m' N P t s := ⟨D.row, D.neg, D.tn, Nat.le_trans D.len h⟩
theorem Dn.write (hU : RefR U SI bx kind codes n) (hlt : st.Lt) {P : List Ctl} {t : Tk} (D : Dn st SI bx kind codes n k m N P t s) {N' : Neg R} {tk tl : Tk} {T : V} {last : List Opt} {r2 : List V} (hs : SI k s N.r T last r2) (hr : N'.r = N.r) (hl : N'.left = N.left) (i0 : 0 ≤ N'.id) (i1 : N'.id < 256) (a0 : 0 ≤ N'.naks) (a1 : N'.naks ≤ k) (rb : IsB N'.req) (rl : N'.req.length ≤ 1000000) :
    Dn st SI bx kind codes n k m N' P t (s.put n (refC kind codes N' tk T tl last r2)) :=
  ⟨D.row.tn ((Tn.refl (bx := [n]) D.row.lt).put (.inl (by simp)) D.row.lt) (fun _ _ => rfl), D.neg.write hU hs hr (by rw [hl]; exact D.neg.l0) (by rw [hl]; exact D.neg.l1) i0 i1 a0 a1 rb rl, D.tn.put (.inl (by simp)) hlt, D.len⟩
set_option maxRecDepth 100000 in
theorem r15Build_v {p : Ctl} {tk : Tk} (hp : p.Good) : VCalls Tryz.prog 82 [.agg [.sc (.int .u8 p.code), .sc (.int .u8 p.id), .sl tk (bs p.data)]] st fun r s => ∃ t, r = .sl t (bs (buildC p)) ∧ RO 1 st s (.sl t (bs (buildC p))) (bs (buildC p)) := by
  refine vcalls_enterq pc82 (Nat.le_of_ble_eq_true rfl) rfl fun hwf hok => ?_
  show Run _ Pc82.body (.fin (finP Pc82.res _)) _ _
  unfold Pc82 zn zo
  have hlt := hwf.lt
  have hl := hp.l
  simp (maxSteps := 3000000) only [go_sem, ↓reduceIte]
  refine Cal.mk (r15First_v (by omega)) ?_
  rintro _ _ ⟨rfl, rfl⟩ -
  rw [show ((65531 : Int)).toNat = 65531 from rfl]
  have hD : (p.data.take 65531).length ≤ 65531 := by simp only [List.length_take]; omega
  have hbc : buildC p = [p.code, p.id] ++ beL (((p.data.take 65531).length : Int) + 4) 2 ++ p.data.take 65531 := rfl
  rw [hbc]
  generalize p.data.take 65531 = X at hD ⊢
  have e1 : (4 + (X.length : Int)) % 18446744073709551616 = (X.length : Int) + 4 := by omega
  simp (maxSteps := 3000000) only [go_sem, ↓reduceIte]
  refine Bo.own (by simp [allLen, V.cells]) ?_
  intro g hg
  have W1 : st.weak (st.use g 2) := weak_use hlt.weak hg
  have L1 : (st.use g 2).Lt := hlt.use
  simp (maxSteps := 3000000) only [go_sem, ↓reduceIte, bs_len, e1]
  repeat (apply And.intro; focus (first | omega | (simp; done)))
  generalize st.use g 2 = s1 at W1 L1 ⊢
  refine Cal.mk (rPut_v (L := [p.code, p.id]) (tk := .own g 1) (n := (X.length : Int) + 4) (size := 2) (by intro y hy; simp only [List.mem_cons, List.not_mem_nil, or_false] at hy; have := hp.c0; have := hp.c1; have := hp.i0; have := hp.i1; omega) (by simp) (by omega) (by omega)) ?_
  rintro r2 s2 ⟨o2, n2⟩ -
  rw [if_neg (by decide)] at o2
  have R2 : RO 1 s1 s2 r2 (bs ([p.code, p.id] ++ beL ((X.length : Int) + 4) 2)) := ⟨o2, n2.weak, n2.lt, n2.tok⟩
  obtain ⟨t2, rfl⟩ := R2.sl
  simp (maxSteps := 3000000) only [go_sem, ↓reduceIte]
  refine App.mk (bytes := 1) (ys := bs X) R2.own (allSz_bs _) (by simp only [bs_len, List.length_append, List.length_cons, List.length_nil, beL_len]; unfold maxLen; omega) (by simp only [bs_len, List.length_append, List.length_cons, List.length_nil, beL_len]; omega) ?_
  intro r3 s3 k3 k4
  have R3 := R2.app k3 k4
  rw [bs_append] at R3
  obtain ⟨t3, rfl⟩ := R3.sl
  simp (maxSteps := 3000000) only [go_sem, ↓reduceIte]
  exact ⟨_, _, Wk.refl _, R3.lt.weak, t3, rfl, R3.own, weak_tr W1 R3.weak, R3.lt, fun g k l e => Nat.le_trans W1.sz (R3.tok g k l e)⟩
set_option maxRecDepth 100000 in
set_option maxHeartbeats 16000000 in
theorem r36Done_v (hU : RefR U SI bx kind codes n) (h : RefI SI bx kind codes n k st N) {act : Int} (ha : 0 ≤ act ∧ act < 8192) {again : Bool} {p back : Ctl} (hp : p.Good) {tp tb : Tk} :
    VCalls Tryz.prog 59 [ptrV n, .sc (.int .i64 act), .sc (.bool again), .agg [.sc (.int .u8 p.code), .sc (.int .u8 p.id), .sl tp (bs p.data)], .agg [.sc (.int .u8 back.code), .sc (.int .u8 back.id), .sl tb (bs back.data)]] st
      (ROut st SI bx kind codes n k 5 (N.done U act again p back)) := by
  have B := fun (n : Nat) (hn : n < 16) (st : St) => r33Bit_v (st := st) ha.1 (show act < 65536 by omega) hn
  have B0 : ∀ st, VCalls Tryz.prog 78 [.sc (.int .i64 act), .sc (.int .i64 0)] st fun r s' => r = .sc (.bool (hasA act 1)) ∧ st = s' := B 0 (by decide)
  have B1 : ∀ st, VCalls Tryz.prog 78 [.sc (.int .i64 act), .sc (.int .i64 1)] st fun r s' => r = .sc (.bool (hasA act 2)) ∧ st = s' := B 1 (by decide)
  have B3 : ∀ st, VCalls Tryz.prog 78 [.sc (.int .i64 act), .sc (.int .i64 3)] st fun r s' => r = .sc (.bool (hasA act 8)) ∧ st = s' := B 3 (by decide)
  have B6 : ∀ st, VCalls Tryz.prog 78 [.sc (.int .i64 act), .sc (.int .i64 6)] st fun r s' => r = .sc (.bool (hasA act 64)) ∧ st = s' := B 6 (by decide)
  have B7 : ∀ st, VCalls Tryz.prog 78 [.sc (.int .i64 act), .sc (.int .i64 7)] st fun r s' => r = .sc (.bool (hasA act 128)) ∧ st = s' := B 7 (by decide)
  have B8 : ∀ st, VCalls Tryz.prog 78 [.sc (.int .i64 act), .sc (.int .i64 8)] st fun r s' => r = .sc (.bool (hasA act 256)) ∧ st = s' := B 8 (by decide)
  have B9 : ∀ st, VCalls Tryz.prog 78 [.sc (.int .i64 act), .sc (.int .i64 9)] st fun r s' => r = .sc (.bool (hasA act 512)) ∧ st = s' := B 9 (by decide)
  have B10 : ∀ st, VCalls Tryz.prog 78 [.sc (.int .i64 act), .sc (.int .i64 10)] st fun r s' => r = .sc (.bool (hasA act 1024)) ∧ st = s' := B 10 (by decide)
  have B11 : ∀ st, VCalls Tryz.prog 78 [.sc (.int .i64 act), .sc (.int .i64 11)] st fun r s' => r = .sc (.bool (hasA act 2048)) ∧ st = s' := B 11 (by decide)
  have e384 : hasA act 384 = (hasA act 128 || hasA act 256) := by
    obtain ⟨a, rfl⟩ : ∃ a : Nat, act = a := ⟨act.toNat, by omega⟩
    exact has_or (l := 128) (m := 256) (by omega) (by decide) (by decide)
  clear B
  refine vcalls_enterq pc59 (Nat.le_of_ble_eq_true rfl) rfl fun hwf hok => ?_
  show Run _ Pc59.body (.fin (finP Pc59.res _)) _ _
  unfold Pc59 zg zn zo
  have hlt := hwf.lt
  obtain ⟨A1, hA1⟩ : ∃ A, A = N.d1 U act again := ⟨_, rfl⟩
  obtain ⟨P2, hP2⟩ : ∃ P, P = Neg.d2 act back A1.2 := ⟨_, rfl⟩
  obtain ⟨A3, hA3⟩ : ∃ A, A = A1.1.d3 act P2 := ⟨_, rfl⟩
  obtain ⟨P4, hP4⟩ : ∃ P, P = Neg.d4 act p A3.2 := ⟨_, rfl⟩
  obtain ⟨A5, hA5⟩ : ∃ A, A = A3.1.d5 act p P4 := ⟨_, rfl⟩
  have hX : N.done U act again p back = (A5.1.d6 act, ⟨A5.2, hasA act 1, hasA act 2, hasA act 8⟩) := by rw [hA5, hP4, hA3, hP2, hA1]; rfl
  rw [hX]
  simp (maxSteps := 3000000) only [go_sem, ↓reduceIte]
  refine Cal.mk (B0 _) ?_
  rintro _ _ ⟨rfl, rfl⟩ -
  simp (maxSteps := 3000000) only [go_sem, ↓reduceIte]
  refine Cal.mk (B1 _) ?_
  rintro _ _ ⟨rfl, rfl⟩ -
  simp (maxSteps := 3000000) only [go_sem, ↓reduceIte]
  refine Cal.mk (B3 _) ?_
  rintro _ _ ⟨rfl, rfl⟩ -
  generalize hasA act 1 = up
  generalize hasA act 8 = ov
  generalize hdn : hasA act 2 = dn
  simp (maxSteps := 3000000) only [go_sem, ↓reduceIte]
  refine Cal.mk (B6 _) ?_
  rintro _ _ ⟨rfl, rfl⟩ -
  have D0 : Dn st SI bx kind codes n k 0 N [] .nil st := ⟨RO.nil (bare_weak (Nat.le_refl _)) hlt, h, Tn.refl hlt, by simp⟩
  simp (maxSteps := 3000000) only [go_sem, ↓reduceIte]
  refine If.cut [11, 12, 22, 23, 24, 25, 26, 27, 28, 29, 30, 31, 32, 33, 34, 35, 36, 37, 38, 39, 40, 41, 42, 43, 44, 45, 46, 47, 48, 49, 50, 51, 52, 53, 54, 55, 56, 57, 58] (fun B s => ∃ t, B 11 = .agg [.sl t (ctls A1.2), .sc (.bool up), .sc (.bool dn), .sc (.bool ov)] ∧ Dn st SI bx kind codes n k 1 A1.1 A1.2 t s) rfl ?_ ?_
  · cases h64 : hasA act 64 with
    | false =>
      have e : A1 = (N, []) := by rw [hA1, Neg.d1, if_neg (by rw [h64]; simp)]
      rw [e]
      simp (maxSteps := 3000000) only [go_sem, ↓reduceIte, at_cutk_n]
      exact ⟨.nil, rfl, D0.le (by omega)⟩
    | true =>
      have e : A1 = (N.asked U again, [⟨1, (N.asked U again).id, buildO (U.request N.r)⟩]) := by rw [hA1, Neg.d1, if_pos h64]
      rw [e]
      obtain ⟨gG, gl⟩ := hU.reqG k st N h
      obtain ⟨tk, T0, tl, last, r2, hb, hs⟩ := h.ex
      unfold refC at hb
      have hbB := buildO_isB gG
      have hbl := buildO_len (U.request N.r)
      simp (maxSteps := 3000000) only [go_sem, ↓reduceIte]
      refine Cal.mk (hU.req k st N h) ?_
      rintro _ _ ⟨rfl, rfl⟩ -
      simp (maxSteps := 3000000) only [go_sem, ↓reduceIte]
      refine Cal.mk (r10Build_v gG (by omega)) ?_
      rintro _ _ ⟨rfl, rfl⟩ -
      have hask : N.asked U again = { N with id := if again = true ∧ buildO (U.request N.r) = N.req then N.id else (N.id + 1) % 256, req := buildO (U.request N.r) } := rfl
      rw [hask]
      generalize buildO (U.request N.r) = X at hbB hbl ⊢
      have hinj := strOf_inj hbB h.rb
      have fin : ∀ (id : Int), 0 ≤ id → id < 256 → (if again = true ∧ X = N.req then N.id else (N.id + 1) % 256) = id → ∀ {d : Option Nat} {rest : List VO} {kk : Kt} {A : Nat → V}, (∀ t2 s2, Dn st SI bx kind codes n k 1 { N with id := id, req := X } [⟨1, id, X⟩] t2 s2 → Ops Tryz.prog rest kk (putV A d (.sl t2 (ctls [⟨1, id, X⟩]))) s2) → App Tryz.prog 3 32 (.sl .nil []) (.sl .no [.agg [.sc (.int .u8 1), .sc (.int .u8 id), .sl .no (bs X)]]) d [] rest kk A (st.put n (refC kind codes { N with id := id, req := X } .no T0 tl last r2)) := fun id i0 i1 _ {d rest kk A} hk =>
        Dn.app (P := []) hU hlt (D0.write hU hlt (N' := { N with id := id, req := X }) (tk := .no) (tl := tl) hs rfl rfl i0 i1 h.a0 h.a1 hbB (by simp only; omega)) (by omega) ⟨1, id, X⟩ hk
      have hi := h.i0
      have hi2 := h.i1
      by_cases c1 : again = true ∧ X = N.req
      · rw [if_pos c1]
        have Hc : (if again = true ∧ X = N.req then N.id else (N.id + 1) % 256) = N.id := if_pos c1
        obtain ⟨rfl, c2⟩ := c1
        have e1 : decide (strOf X ≠ strOf N.req) = false := by rw [c2]; simp
        simp (maxSteps := 3000000) only [go_sem, ↓reduceIte, hb, u8sOf_bsN, e1, put_box_same]
        refine fin N.id hi hi2 Hc fun t2 s2 D2 => ?_
        simp (maxSteps := 3000000) only [go_sem, ↓reduceIte, at_cutk_n]
        exact ⟨t2, rfl, D2⟩
      · rw [if_neg c1]
        have Hc : (if again = true ∧ X = N.req then N.id else (N.id + 1) % 256) = (N.id + 1) % 256 := if_neg c1
        have hcond : again = false ∨ again = true ∧ decide (strOf X ≠ strOf N.req) = true := by
          cases again
          · exact .inl rfl
          · exact .inr ⟨rfl, decide_eq_true (fun e => c1 ⟨rfl, hinj.1 e⟩)⟩
        rcases hcond with rfl | ⟨rfl, e1⟩
        · simp (maxSteps := 3000000) only [go_sem, ↓reduceIte, hb, put_box_same, put_put]
          refine fin ((N.id + 1) % 256) (by omega) (by omega) Hc fun t2 s2 D2 => ?_
          simp (maxSteps := 3000000) only [go_sem, ↓reduceIte, at_cutk_n]
          exact ⟨t2, rfl, D2⟩
        · simp (maxSteps := 3000000) only [go_sem, ↓reduceIte, hb, u8sOf_bsN, e1, put_box_same, put_put]
          refine fin ((N.id + 1) % 256) (by omega) (by omega) Hc fun t2 s2 D2 => ?_
          simp (maxSteps := 3000000) only [go_sem, ↓reduceIte, at_cutk_n]
          exact ⟨t2, rfl, D2⟩
  · rintro B1 s1 ⟨t1, h11, D1⟩
    clear hA1
    obtain ⟨N1, P1⟩ := A1
    simp only at D1 h11 hP2 hA3
    simp (maxSteps := 3000000) only [go_sem, ↓reduceIte]
    refine Cal.mk (B7 _) ?_
    rintro _ _ ⟨rfl, rfl⟩ -
    simp (maxSteps := 3000000) only [go_sem, ↓reduceIte]
    refine Grd.cut [62, 63, 64] (fun B => B 64 = .sc (.bool (hasA act 384))) rfl ?_ ?_
    · rw [e384]
      cases hasA act 128 with
      | true => simp (maxSteps := 3000000) only [go_sem, ↓reduceIte, at_cut, Bool.true_or]
      | false =>
        simp (maxSteps := 3000000) only [go_sem, ↓reduceIte]
        refine Cal.mk (B8 _) ?_
        rintro _ _ ⟨rfl, rfl⟩ -
        simp (maxSteps := 3000000) only [go_sem, ↓reduceIte, at_cut]
    intro B2 h64
    simp (maxSteps := 3000000) only [go_sem, ↓reduceIte, h64]
    refine If.cut [11, 65, 66, 67, 68, 69, 70] (fun B s => ∃ t, B 11 = .agg [.sl t (ctls P2), .sc (.bool up), .sc (.bool dn), .sc (.bool ov)] ∧ Dn st SI bx kind codes n k 2 N1 P2 t s) rfl ?_ ?_
    · cases h384 : hasA act 384 with
      | false =>
        have e : P2 = P1 := by rw [hP2, Neg.d2, if_neg (by rw [h384]; simp)]
        rw [e]
        simp (maxSteps := 3000000) only [go_sem, ↓reduceIte, at_cutk_n, h11]
        exact ⟨t1, rfl, D1.le (by omega)⟩
      | true =>
        have e : P2 = P1 ++ [back] := by rw [hP2, Neg.d2, if_pos h384]
        rw [e]
        simp (maxSteps := 3000000) only [go_sem, ↓reduceIte, h11]
        refine D1.app hU hlt (by omega) back fun t2 s2 D2 => ?_
        simp (maxSteps := 3000000) only [go_sem, ↓reduceIte, at_cutk_n, h11]
        exact ⟨t2, rfl, D2⟩
    rintro B3 s3 ⟨t3, h11, D2⟩
    clear hP2
    simp (maxSteps := 3000000) only [go_sem, ↓reduceIte]
    refine Cal.mk (B9 _) ?_
    rintro _ _ ⟨rfl, rfl⟩ -
    simp (maxSteps := 3000000) only [go_sem, ↓reduceIte]
    refine If.cut [11, 73, 74, 75, 76, 77, 78, 79, 80, 81, 82, 83, 84, 85, 86, 87, 88, 89] (fun B s => ∃ t, B 11 = .agg [.sl t (ctls A3.2), .sc (.bool up), .sc (.bool dn), .sc (.bool ov)] ∧ Dn st SI bx kind codes n k 3 A3.1 A3.2 t s) rfl ?_ ?_
    · cases h512 : hasA act 512 with
      | false =>
        have e : A3 = (N1, P2) := by rw [hA3, Neg.d3, if_neg (by rw [h512]; simp)]
        rw [e]
        simp (maxSteps := 3000000) only [go_sem, ↓reduceIte, at_cutk_n, h11]
        exact ⟨t3, rfl, D2.le (by omega)⟩
      | true =>
        have e : A3 = (N1.bump, P2 ++ [⟨5, N1.bump.id, []⟩]) := by rw [hA3, Neg.d3, if_pos h512]
        rw [e]
        obtain ⟨tk, T0, tl, last, r2, hb, hs⟩ := D2.neg.ex
        unfold refC at hb
        have hW := D2.write hU hlt (N' := N1.bump) (tk := tk) (tl := tl) hs rfl rfl (by simp only [Neg.bump]; omega) (by simp only [Neg.bump]; omega) D2.neg.a0 D2.neg.a1 D2.neg.rb D2.neg.rl
        simp (maxSteps := 3000000) only [go_sem, ↓reduceIte, hb, h11, put_box_same]
        refine hW.app hU hlt (by omega) ⟨5, N1.bump.id, []⟩ fun t2 s2 D3 => ?_
        simp (maxSteps := 3000000) only [go_sem, ↓reduceIte, at_cutk_n, h11]
        exact ⟨t2, rfl, D3⟩
    rintro B4 s4 ⟨t4, h11, D3⟩
    clear hA3
    obtain ⟨N3, P3⟩ := A3
    simp only at D3 h11 hP4 hA5
    simp (maxSteps := 3000000) only [go_sem, ↓reduceIte]
    refine Cal.mk (B10 _) ?_
    rintro _ _ ⟨rfl, rfl⟩ -
    simp (maxSteps := 3000000) only [go_sem, ↓reduceIte]
    refine If.cut [11, 92, 93, 94, 95, 96, 97, 98, 99] (fun B s => ∃ t, B 11 = .agg [.sl t (ctls P4), .sc (.bool up), .sc (.bool dn), .sc (.bool ov)] ∧ Dn st SI bx kind codes n k 4 N3 P4 t s) rfl ?_ ?_
    · cases h1024 : hasA act 1024 with
      | false =>
        have e : P4 = P3 := by rw [hP4, Neg.d4, if_neg (by rw [h1024]; simp)]
        rw [e]
        simp (maxSteps := 3000000) only [go_sem, ↓reduceIte, at_cutk_n, h11]
        exact ⟨t4, rfl, D3.le (by omega)⟩
      | true =>
        have e : P4 = P3 ++ [⟨6, p.id, []⟩] := by rw [hP4, Neg.d4, if_pos h1024]
        rw [e]
        simp (maxSteps := 3000000) only [go_sem, ↓reduceIte, h11]
        refine D3.app hU hlt (by omega) ⟨6, p.id, []⟩ fun t2 s2 D4 => ?_
        simp (maxSteps := 3000000) only [go_sem, ↓reduceIte, at_cutk_n, h11]
        exact ⟨t2, rfl, D4⟩
    rintro B5 s5 ⟨t5, h11, D4⟩
    clear hP4
    simp (maxSteps := 3000000) only [go_sem, ↓reduceIte]
    refine Cal.mk (B11 _) ?_
    rintro _ _ ⟨rfl, rfl⟩ -
    simp (maxSteps := 3000000) only [go_sem, ↓reduceIte]
    refine If.cut [11, 102, 103, 104, 105, 106, 107, 108, 109, 110, 111, 112, 113, 114, 115, 116, 117, 118, 119, 120, 121] (fun B s => ∃ t, B 11 = .agg [.sl t (ctls A5.2), .sc (.bool up), .sc (.bool dn), .sc (.bool ov)] ∧ Dn st SI bx kind codes n k 5 A5.1 A5.2 t s) rfl ?_ ?_
    · cases h2048 : hasA act 2048 with
      | false =>
        have e : A5 = (N3, P4) := by rw [hA5, Neg.d5, if_neg (by rw [h2048]; simp)]
        rw [e]
        simp (maxSteps := 3000000) only [go_sem, ↓reduceIte, at_cutk_n, h11]
        exact ⟨t5, rfl, D4.le (by omega)⟩
      | true =>
        have e : A5 = (N3.bump, P4 ++ [rejC N3.bump.id p 1400]) := by rw [hA5, Neg.d5, if_pos h2048]
        rw [e]
        obtain ⟨tk, T0, tl, last, r2, hb, hs⟩ := D4.neg.ex
        unfold refC at hb
        have hW := D4.write hU hlt (N' := N3.bump) (tk := tk) (tl := tl) hs rfl rfl (by simp only [Neg.bump]; omega) (by simp only [Neg.bump]; omega) D4.neg.a0 D4.neg.a1 D4.neg.rb D4.neg.rl
        have hbW : (s5.put n (refC kind codes N3.bump tk T0 tl last r2)).box n = some (refC kind codes N3.bump tk T0 tl last r2) := put_box_same
        obtain ⟨s6, hs6⟩ : ∃ s6, s6 = s5.put n (refC kind codes N3.bump tk T0 tl last r2) := ⟨_, rfl⟩
        rw [← hs6] at hW hbW
        unfold refC at hs6 hbW
        simp (maxSteps := 3000000) only [go_sem, ↓reduceIte, hb, h11, put_box_same]
        generalize hq6 : s5.put n _ = q6
        obtain rfl : q6 = s6 := by rw [hs6, ← hq6]; rfl
        refine Cal.mk (r15Build_v hp) ?_
        rintro r7 s7 ⟨t7, rfl, R7⟩ -
        have hD7 := hW.tn0 hU (Tn.ofWeak (bx := []) R7.weak R7.lt)
        have hb7 := (R7.weak.box n _ hbW).1
        have hbl : (buildC p).length ≤ 65535 := buildC_len p
        rw [show N3.bump.id = (N3.id + 1) % 256 from rfl] at hb7
        simp (maxSteps := 3000000) only [go_sem, ↓reduceIte, hb7]
        refine Cal.mk (r15First_v (L := buildC p) (by omega)) ?_
        rintro _ _ ⟨rfl, rfl⟩ -
        simp (maxSteps := 3000000) only [go_sem, ↓reduceIte, hb7]
        refine hD7.app hU hlt (by omega) (rejC N3.bump.id p 1400) fun t2 s2 D5 => ?_
        simp (maxSteps := 3000000) only [go_sem, ↓reduceIte, at_cutk_n, h11]
        exact ⟨t2, rfl, D5⟩
    rintro B6 s6 ⟨t6, h11, D5⟩
    clear hA5
    obtain ⟨N5, P5⟩ := A5
    simp only at D5 h11
    have hd6 : N5.d6 act = if dn = true then { N5 with naks := 0 } else N5 := by rw [Neg.d6, hdn]
    rw [hd6]
    cases dn with
    | false =>
      simp (maxSteps := 3000000) only [go_sem, ↓reduceIte, h11]
      exact ⟨_, _, Wk.refl _, D5.row.lt.weak, t6, rfl, D5.row, D5.neg, D5.tn, D5.len⟩
    | true =>
      obtain ⟨tk, T0, tl, last, r2, hb, hs⟩ := D5.neg.ex
      unfold refC at hb
      have hW := D5.write hU hlt (N' := { N5 with naks := 0 }) (tk := tk) (tl := tl) hs rfl rfl D5.neg.i0 D5.neg.i1 (Int.le_refl 0) (Int.natCast_nonneg k) D5.neg.rb D5.neg.rl
      simp (maxSteps := 3000000) only [go_sem, ↓reduceIte, hb, h11]
      exact ⟨_, _, Wk.refl _, hW.row.lt.weak, t6, rfl, hW.row, hW.neg, hW.tn, hW.len⟩
end
end
section
open Go
section
variable {R : Type} {U : Rul R} {SI : Nat → St → R → V → List Opt → List V → Prop} {bx : List Nat} {kind codes : Int} {n k m : Nat} {st s s2 base : St} {N N' : Neg R}
theorem r36Do_v (hU : RefR U SI bx kind codes n) (h : RefI SI bx kind codes n k st N) {now e : Int} (hn : 0 ≤ now) (hn2 : now ≤ 1000000000) :
    VCalls Tryz.prog 73 [ptrV n, .sc (.int .i64 now), .sc (.int .i64 e)] st fun r s => r = .sc (.int .i64 (stepF N.s e).2) ∧ RefI SI bx kind codes n k s (N.step now e) ∧ Tn (n :: bx) st s := by
  obtain ⟨tk, T0, tl, last, r2, hb, hs⟩ := h.ex
  refine VCalls.wf fun hwf => (r33Do_v (e := e) hb h.l0 h.l1 hn hn2).mono fun r s ⟨e1, e2⟩ => ⟨e1, ?_, ?_⟩
  · have hc := cntA_rng (act := (stepF N.s e).2) h.l0 h.l1
    rw [e2]
    exact h.write hU (N' := N.step now e) (tk := tk) (tl := tl) hs rfl hc.1 hc.2 h.i0 h.i1 h.a0 h.a1 h.rb h.rl
  · rw [e2]
    exact (Tn.refl hwf.lt).put (.inl (by simp)) hwf.lt
theorem tickA_rng {a left t now : Int} (h0 : 0 ≤ left) (h1 : left ≤ 10) : 0 ≤ (tickA a left t now).2.1 ∧ (tickA a left t now).2.1 ≤ 10 ∧ 0 ≤ (tickA a left t now).2.2.2 ∧ (tickA a left t now).2.2.2 < 8192 := by
  unfold tickA
  split
  · exact ⟨h0, h1, Int.le_refl 0, (show (0 : Int) < 8192 by decide)⟩
  · have := cntA_rng (act := (stepF a (if 0 < left then 4 else 5)).2) h0 h1
    exact ⟨this.1, this.2, acts_rng _ _⟩
theorem r36MTick_v (hU : RefR U SI bx kind codes n) (h : RefI SI bx kind codes n k st N) {now : Int} (hn : 0 ≤ now) (hn2 : now ≤ 1000000000) :
    VCalls Tryz.prog 60 [ptrV n, .sc (.int .i64 now)] st fun r s => r = .sc (.int .i64 (tickA N.s N.left N.at_ now).2.2.2) ∧ RefI SI bx kind codes n k s { N with s := (tickA N.s N.left N.at_ now).1, left := (tickA N.s N.left N.at_ now).2.1, at_ := (tickA N.s N.left N.at_ now).2.2.1 } ∧ Tn (n :: bx) st s := by
  obtain ⟨tk, T0, tl, last, r2, hb, hs⟩ := h.ex
  refine VCalls.wf fun hwf => (r33Tick_v hb h.l0 h.l1 hn hn2).mono fun r s ⟨e1, e2⟩ => ⟨e1, ?_, ?_⟩
  · have hc := tickA_rng (a := N.s) (t := N.at_) (now := now) h.l0 h.l1
    rw [e2]
    exact h.write hU (N' := { N with s := (tickA N.s N.left N.at_ now).1, left := (tickA N.s N.left N.at_ now).2.1, at_ := (tickA N.s N.left N.at_ now).2.2.1 }) (tk := tk) (tl := tl) hs rfl hc.1 hc.2.1 h.i0 h.i1 h.a0 h.a1 h.rb h.rl
  · rw [e2]
    exact (Tn.refl hwf.lt).put (.inl (by simp)) hwf.lt
theorem ROut.lt {X : Neg R × Nout} {r : V} (h : ROut st SI bx kind codes n k m X r s) : s.Lt := by
  obtain ⟨_, _, _, _, T, _⟩ := h; exact T.lt
theorem RO.downR {size : Nat} {st s1 s : St} {r : V} {l : List V} (h : RO size s1.bare s r l) (hs : st.sz ≤ s1.sz) : RO size st.bare s r l :=
  ⟨h.own, bare_weak (by have := h.weak.sz; exact Nat.le_trans hs this), h.lt, fun g k l' e => Nat.le_trans hs (h.tok g k l' e)⟩
theorem ROut.up {X : Neg R × Nout} {r : V} {s0 : St} (T : Tn (n :: bx) st s0) (h : ROut s0 SI bx kind codes n k m X r s) : ROut st SI bx kind codes n k m X r s := by
  obtain ⟨tv, e, h1, h2, h3, h4⟩ := h
  exact ⟨tv, e, h1.downR T.sz, h2, T.trans h3, h4⟩
theorem ROut.le {X : Neg R × Nout} {r : V} {m' k' : Nat} (hU : RefR U SI bx kind codes n) (h : ROut st SI bx kind codes n k m X r s) (hm : m ≤ m') (hk : k' = k ∨ k' = k + 1) : ROut st SI bx kind codes n k' m' X r s := by
  obtain ⟨tv, e, h1, h2, h3, h4⟩ := h
  refine ⟨tv, e, h1, ?_, h3, Nat.le_trans h4 hm⟩
  rcases hk with rfl | rfl
  · exact h2
  · exact h2.more hU
theorem r36Event_v (hU : RefR U SI bx kind codes n) (h : RefI SI bx kind codes n k st N) {now e : Int} (hn : 0 ≤ now) (hn2 : now ≤ 1000000000) :
    VCalls Tryz.prog 62 [ptrV n, .sc (.int .i64 now), .sc (.int .i64 e)] st (ROut st SI bx kind codes n k 5 (N.event U now e zeroC zeroC)) := by
  refine vcalls_enterq pc62 (Nat.le_of_ble_eq_true rfl) rfl fun hwf hok => ?_
  show Run _ Pc62.body (.fin (finP Pc62.res _)) _ _
  unfold Pc62 zo
  simp (maxSteps := 3000000) only [go_sem, ↓reduceIte]
  refine Cal.mk (r36Do_v hU h hn hn2) ?_
  rintro _ s1 ⟨rfl, h1, T1⟩ -
  simp (maxSteps := 3000000) only [go_sem, ↓reduceIte]
  refine Cal.mk (r36Done_v hU h1 (acts_rng _ _) (p := zeroC) (back := zeroC) (tp := .nil) (tb := .nil) zeroC_good) ?_
  intro r s2 o _
  have O := o.up T1
  obtain ⟨tv, rfl, _⟩ := o
  simp (maxSteps := 3000000) only [go_sem, ↓reduceIte]
  exact ⟨_, _, Wk.refl _, O.lt.weak, O⟩
theorem r36Close_v (hU : RefR U SI bx kind codes n) (h : RefI SI bx kind codes n k st N) {now : Int} (hn : 0 ≤ now) (hn2 : now ≤ 1000000000) :
    VCalls Tryz.prog 37 [ptrV n, .sc (.int .i64 now)] st (ROut st SI bx kind codes n k 5 (N.close U now)) := by
  refine vcalls_enterq pc37 (Nat.le_of_ble_eq_true rfl) rfl fun hwf hok => ?_
  show Run _ Pc37.body (.fin (finP Pc37.res _)) _ _
  unfold Pc37 zo
  simp (maxSteps := 3000000) only [go_sem, ↓reduceIte]
  refine Cal.mk (r36Event_v hU h hn hn2) ?_
  intro r s2 O _
  obtain ⟨tv, rfl, h1⟩ := id O
  simp (maxSteps := 3000000) only [go_sem, ↓reduceIte]
  exact ⟨_, _, Wk.refl _, O.lt.weak, O⟩
theorem r36Tick_v (hU : RefR U SI bx kind codes n) (h : RefI SI bx kind codes n k st N) {now : Int} (hn : 0 ≤ now) (hn2 : now ≤ 1000000000) :
    VCalls Tryz.prog 35 [ptrV n, .sc (.int .i64 now)] st (ROut st SI bx kind codes n k 5 (N.tick U now)) := by
  refine vcalls_enterq pc35 (Nat.le_of_ble_eq_true rfl) rfl fun hwf hok => ?_
  show Run _ Pc35.body (.fin (finP Pc35.res _)) _ _
  unfold Pc35 zo
  simp (maxSteps := 3000000) only [go_sem, ↓reduceIte]
  refine Cal.mk (r36MTick_v hU h hn hn2) ?_
  rintro _ s1 ⟨rfl, h1, T1⟩ -
  have hr := tickA_rng (a := N.s) (t := N.at_) (now := now) h.l0 h.l1
  simp (maxSteps := 3000000) only [go_sem, ↓reduceIte]
  refine Cal.mk (r36Done_v hU h1 hr.2.2 (p := zeroC) (back := zeroC) (tp := .nil) (tb := .nil) zeroC_good) ?_
  intro r s2 o _
  have O := o.up T1
  obtain ⟨tv, rfl, _⟩ := o
  simp (maxSteps := 3000000) only [go_sem, ↓reduceIte]
  exact ⟨_, _, Wk.refl _, O.lt.weak, O⟩
set_option maxRecDepth 100000 in
theorem r36Both_v {X Y : Nout} {ta tb : Tk} (hx : X.P.length ≤ 1000) (hy : Y.P.length ≤ 1000) :
    VCalls Tryz.prog 64 [outV ta X, outV tb Y] st fun r s => ∃ tv, r = outV tv (X.both Y) ∧ RO 3 st s (.sl tv (ctls (X.both Y).P)) (ctls (X.both Y).P) := by
  obtain ⟨P, u, d, v⟩ := X
  obtain ⟨P2, u2, d2, v2⟩ := Y
  simp only at hx hy
  show VCalls Tryz.prog 64 [.agg [.sl ta (ctls P), .sc (.bool u), .sc (.bool d), .sc (.bool v)], .agg [.sl tb (ctls P2), .sc (.bool u2), .sc (.bool d2), .sc (.bool v2)]] st fun r s => ∃ tv, r = .agg [.sl tv (ctls (P ++ P2)), .sc (.bool (u || u2)), .sc (.bool (d || d2)), .sc (.bool (v || v2))] ∧ RO 3 st s (.sl tv (ctls (P ++ P2))) (ctls (P ++ P2))
  refine vcalls_enterq pc64 (Nat.le_of_ble_eq_true rfl) rfl fun hwf hok => ?_
  show Run _ Pc64.body (.fin (finP Pc64.res _)) _ _
  unfold Pc64 zg zn zo
  have hlt := hwf.lt
  simp (maxSteps := 3000000) only [go_sem, ↓reduceIte]
  refine Bo.own (by simp [allLen]) ?_
  intro g hg
  have R0 : RO 3 st (st.use g 0) (.sl (.own g 3) (ctls [])) (ctls []) := RO.use0' hlt.weak hlt hg
  cases u <;> cases d <;> cases v
  all_goals
    simp (maxSteps := 3000000) only [go_sem, ↓reduceIte, List.length_nil]
    refine App.mk (bytes := 32) (l := ctls []) (ys := ctls P) R0.own (allSz_ctls _) (by simp only [ctls_len, List.length_nil]; unfold maxLen; omega) (by simp only [ctls_len, List.length_nil]; omega) ?_
    intro r1 s1 k1 k2
    have R1 := R0.app k1 k2
    rw [ctls_append, List.nil_append] at R1
    obtain ⟨t1, rfl⟩ := R1.sl
    simp (maxSteps := 3000000) only [go_sem, ↓reduceIte]
    refine App.mk (bytes := 32) (l := ctls P) (ys := ctls P2) R1.own (allSz_ctls _) (by simp only [ctls_len]; unfold maxLen; omega) (by simp only [ctls_len]; omega) ?_
    intro r2 s2 k3 k4
    have R2 := R1.app k3 k4
    rw [ctls_append] at R2
    obtain ⟨t2, rfl⟩ := R2.sl
    simp (maxSteps := 3000000) only [go_sem, ↓reduceIte]
    exact ⟨_, _, Wk.refl _, R2.lt.weak, t2, rfl, R2⟩
theorem r36Start_v (hU : RefR U SI bx kind codes n) (h : RefI SI bx kind codes n k st N) {now : Int} (hn : 0 ≤ now) (hn2 : now ≤ 1000000000) :
    VCalls Tryz.prog 39 [ptrV n, .sc (.int .i64 now)] st (ROut st SI bx kind codes n k 10 (N.start U now)) := by
  refine vcalls_enterq pc39 (Nat.le_of_ble_eq_true rfl) rfl fun hwf hok => ?_
  show Run _ Pc39.body (.fin (finP Pc39.res _)) _ _
  unfold Pc39 zo
  have hlt := hwf.lt
  simp (maxSteps := 3000000) only [go_sem, ↓reduceIte]
  refine Cal.mk (r36Event_v hU h hn hn2) ?_
  rintro _ s1 ⟨ta, rfl, R1, h1, T1, l1⟩ -
  have hst : N.start U now = (((N.event U now 0 zeroC zeroC).1.event U now 2 zeroC zeroC).1, (N.event U now 0 zeroC zeroC).2.both ((N.event U now 0 zeroC zeroC).1.event U now 2 zeroC zeroC).2) := rfl
  rw [hst]
  generalize N.event U now 0 zeroC zeroC = A at R1 h1 l1 ⊢
  simp (maxSteps := 3000000) only [go_sem, ↓reduceIte]
  refine Cal.mk (r36Event_v hU h1 hn hn2) ?_
  rintro _ s2 ⟨tb, rfl, R2, h2, T2, l2⟩ -
  generalize A.1.event U now 2 zeroC zeroC = B at R2 h2 l2 ⊢
  simp (maxSteps := 3000000) only [go_sem, ↓reduceIte]
  refine Cal.mk (r36Both_v (X := A.2) (Y := B.2) (ta := ta) (tb := tb) (by omega) (by omega)) ?_
  rintro _ s3 ⟨tv, rfl, R3⟩ -
  have T3 : Tn [] s2 s3 := Tn.ofWeak R3.weak R3.lt
  have T13 := (T1.trans T2).trans (T3.wide (by simp))
  simp (maxSteps := 3000000) only [go_sem, ↓reduceIte, outV]
  exact ⟨_, _, Wk.refl _, R3.lt.weak, tv, rfl, ⟨R3.own, bare_weak T13.sz, R3.lt, fun g k l e => Nat.le_trans (T1.trans T2).sz (R3.tok g k l e)⟩, h2.tn hU T3, T13, by simp only [Nout.both, List.length_append]; omega⟩
end
end
section
open Go
section
variable {st : St} {tk : Tk} {L : List Int}
theorem drop_two {L : List Int} {i : Nat} {a b : Int} (h1 : L[i]? = some a) (h2 : L[i + 1]? = some b) : L.drop i = a :: b :: L.drop (i + 2) := by
  rw [List.drop_eq_getElem_cons (List.getElem?_eq_some_iff.1 h1).1, (List.getElem?_eq_some_iff.1 h1).2, List.drop_eq_getElem_cons (List.getElem?_eq_some_iff.1 h2).1, (List.getElem?_eq_some_iff.1 h2).2]
theorem drop_take_snoc {L : List Int} {i j : Nat} {c : Int} (h : L[i + j]? = some c) : (L.drop i).take (j + 1) = (L.drop i).take j ++ [c] := take_snoc (by rw [List.getElem?_drop]; exact h)
set_option maxRecDepth 100000 in
set_option maxHeartbeats 16000000 in
theorem r10Parse_v (hB : IsB L) (hl : L.length ≤ 1000000) : VCalls Tryz.prog 89 [.sl tk (bs L)] st fun r s => r = .tup [.sl .no (opts (parseO L).1), .sc (.int .i64 (parseO L).2)] ∧ st = s := by
  refine vcalls_enterq pc89 (Nat.le_of_ble_eq_true rfl) rfl fun hwf hok => ?_
  show Run _ Pc89.body (.fin (finP Pc89.res _)) _ _
  unfold Pc89 zo
  simp (maxSteps := 3000000) only [go_sem]
  refine run_loop [2, 3, 4, 5, 6, 7, 8, 11, 12, 14, 16, 17, 20, 21, 22, 23, 25, 28, 30, 31, 33, 37, 38, 40, 44, 45, 46, 47, 51, 52, 54, 55, 56, 59] (fun B s => ∃ (i k : Nat) (out : List Opt) (t : Tk), i ≤ L.length ∧ L.length ≤ i + k ∧ out.length ≤ i ∧ B 5 = .sc (.int .i64 i) ∧ B 4 = .sl t (opts out) ∧ RO 2 st s (.sl t (opts out)) (opts out) ∧ parseO L = parseF k (L.drop i) out) (fun B _ => L.length - vnat (B 5)) rfl ?_ ?_
  · exact ⟨0, L.length, [], .nil, by omega, by omega, by simp, rfl, rfl, RO.nil hwf.weak hwf.lt, rfl⟩
  · rintro B s ⟨i, k, out, t, hi, hk, ho, h5, h4, R, hp⟩
    rw [hp]
    have bad : ∀ (e : Int), parseF k (L.drop i) out = ([], e) → ∃ (r : V) (st' : St), Wk (.tup [.sl .nil [], .sc (.int .i64 e)]) r ∧ st'.weak s ∧ r = .tup [.sl .no (opts (parseF k (L.drop i) out).1), .sc (.int .i64 (parseF k (L.drop i) out).2)] ∧ st = st' := fun e he => by
      rw [he]
      exact ⟨_, _, Wk.tup (.cons .no (.cons (.refl _) .nil)), R.weak, rfl, rfl⟩
    by_cases c1 : i < L.length
    rotate_left
    · obtain rfl : i = L.length := by omega
      rw [List.drop_length, parseF_nil]
      simp (maxSteps := 3000000) only [go_sem, ↓reduceIte, h5, h4, bs_len]
      exact ⟨_, _, Wk.tup (.cons .no (.cons (.refl _) .nil)), R.weak, rfl, rfl⟩
    · obtain ⟨a, ha⟩ := get_ex c1
      have hil := decide_eq_true (show (i : Int) < (L.length : Int) by omega)
      obtain ⟨k, rfl⟩ : ∃ k', k = k' + 1 := ⟨k - 1, by omega⟩
      by_cases c2 : i + 1 = L.length
      · have hd : L.drop i = [a] := by
          rw [List.drop_eq_getElem_cons c1, (List.getElem?_eq_some_iff.1 ha).2, List.drop_of_length_le (by omega)]
        have B10 := bad 10 (by rw [hd]; rfl)
        simp (maxSteps := 3000000) only [go_sem, ↓reduceIte, h5, bs_len, hil, decide_eq_true (show (i : Int) + 1 = (L.length : Int) by omega)]
        repeat (apply And.intro; focus (first | omega | (simp; done)))
        exact B10
      · obtain ⟨m, hm⟩ := get_ex (L := L) (i := i + 1) (by omega)
        have hm2 := hB.get hm
        have hd := drop_two ha hm
        have ti : ((i : Int) + 1).toNat = i + 1 := by omega
        have hne := decide_eq_false (show ¬ (i : Int) + 1 = (L.length : Int) by omega)
        by_cases c3 : m < 2
        · have B11 := bad 11 (by rw [hd]; show (if m < 2 then _ else _) = _; rw [if_pos c3])
          simp (maxSteps := 3000000) only [go_sem, ↓reduceIte, h5, bs_len, hil, hne, ti, bs_get, hm, decide_eq_true c3]
          repeat (apply And.intro; focus (first | omega | (simp; done)))
          exact B11
        · by_cases c4 : (L.length : Int) - i < m
          · have B10 := bad 10 (by rw [hd]; show (if m < 2 then _ else if ((L.drop (i + 2)).length : Int) + 2 < m then _ else _) = _; rw [if_neg c3, if_pos (by simp only [List.length_drop]; omega)])
            simp (maxSteps := 3000000) only [go_sem, ↓reduceIte, h5, bs_len, hil, hne, ti, bs_get, hm, decide_eq_false c3, decide_eq_true c4]
            repeat (apply And.intro; focus (first | omega | (simp; done)))
            exact B10
          · obtain ⟨w, rfl⟩ : ∃ w : Nat, m = w := ⟨m.toNat, by omega⟩
            have hgo : parseF (k + 1) (L.drop i) out = parseF k (L.drop (i + w)) (out ++ [(a, (L.drop (i + 2)).take (w - 2))]) := by
              rw [hd]
              show (if (w : Int) < 2 then _ else if ((L.drop (i + 2)).length : Int) + 2 < (w : Int) then _ else parseF k ((L.drop (i + 2)).drop ((w : Int) - 2).toNat) (out ++ [(a, (L.drop (i + 2)).take ((w : Int) - 2).toNat)])) = _
              rw [if_neg c3, if_neg (by simp only [List.length_drop]; omega), List.drop_drop, show ((w : Int) - 2).toNat = w - 2 by omega, show i + 2 + (w - 2) = i + w by omega]
            rw [hgo]
            simp (maxSteps := 3000000) only [go_sem, ↓reduceIte, h5, bs_len, hil, hne, ti, bs_get, hm, decide_eq_false c3, decide_eq_false c4]
            repeat (apply And.intro; focus (first | omega | (simp; done)))
            refine run_loop [7, 8, 37, 38, 40, 44, 45, 46, 47] (fun B s => ∃ (j : Nat) (u : Tk), j + 2 ≤ w ∧ B 8 = .sc (.int .i64 ((i + 2 + j : Nat) : Int)) ∧ B 7 = .sl u (bs ((L.drop (i + 2)).take j)) ∧ RO 2 st s (.sl t (opts out)) (opts out) ∧ RO 1 st s (.sl u (bs ((L.drop (i + 2)).take j))) (bs ((L.drop (i + 2)).take j)) ∧ Apart u t) (fun B _ => i + w - vnat (B 8)) rfl ?_ ?_
            · exact ⟨0, .nil, by omega, rfl, rfl, R, RO.nil R.weak R.lt, .nil⟩
            · rintro B2 s2 ⟨j, u, hj, h8, h7, R2, RU, hap⟩
              by_cases c5 : j + 2 < w
              · obtain ⟨c, hc⟩ := get_ex (L := L) (i := i + 2 + j) (by omega)
                have hsn := drop_take_snoc hc
                simp (maxSteps := 3000000) only [go_sem, ↓reduceIte, h5, h8, h7, decide_eq_true (show ((i + 2 + j : Nat) : Int) < (i : Int) + (w : Int) by omega), bs_get, hc]
                repeat (apply And.intro; focus (first | omega | (simp; done)))
                have hx : ((L.drop (i + 2)).take j).length ≤ j := by simp only [List.length_take]; omega
                refine App.mk (bytes := 1) (ys := bs [c]) RU.own (allSz_bs _) (by simp only [bs_len, List.length_cons, List.length_nil]; unfold maxLen; omega) (by simp only [bs_len, List.length_cons, List.length_nil]; omega) ?_
                intro r3 s3 k1 k2
                rw [bs_append, ← hsn] at k1
                obtain ⟨t3, rfl⟩ := own_sl k1
                obtain ⟨RU3, R3, hap3⟩ := RU.two R2 hap k1 k2
                simp (maxSteps := 3000000) only [go_sem, ↓reduceIte, h8]
                repeat (apply And.intro; focus (first | omega | (simp; done)))
                exact ⟨⟨j + 1, t3, by omega, by congr 2, rfl, R3, RU3, hap3⟩, by omega⟩
              · obtain rfl : w = j + 2 := by omega
                rw [show j + 2 - 2 = j by omega] at hgo ⊢
                simp (maxSteps := 3000000) only [go_sem, ↓reduceIte, h5, h4, h8, h7, decide_eq_false (show ¬ ((i + 2 + j : Nat) : Int) < (i : Int) + ((j + 2 : Nat) : Int) by omega), bs_get, ha]
                repeat (apply And.intro; focus (first | omega | (simp; done)))
                refine App.mk (bytes := 32) (l := opts out) (ys := opts [(a, (L.drop (i + 2)).take j)]) R2.own (allSz_opts _) (by simp only [opts_len, List.length_cons, List.length_nil]; unfold maxLen; omega) (by simp only [opts_len, List.length_cons, List.length_nil]; omega) ?_
                intro r3 s3 k1 k2
                have R3 := R2.app k1 k2
                rw [opts_append] at R3
                obtain ⟨t3, rfl⟩ := R3.sl
                simp (maxSteps := 3000000) only [go_sem, ↓reduceIte, h5]
                repeat (apply And.intro; focus (first | omega | (simp; done)))
                refine ⟨⟨i + (j + 2), k, out ++ [(a, (L.drop (i + 2)).take j)], t3, by omega, by omega, by simp only [List.length_append, List.length_cons, List.length_nil]; omega, by congr 2, rfl, R3, ?_⟩, by omega⟩
                rw [← hgo]
end
end
section
open Go
def evC (codes : Int) (p : Ctl) : Int := if p.code < 1 ∨ codes < p.code then 12 else evOf p
section
variable {R : Type} {U : Rul R} {SI : Nat → St → R → V → List Opt → List V → Prop} {bx : List Nat} {kind codes : Int} {n k m : Nat} {st s s2 base : St} {N N' : Neg R}
set_option maxRecDepth 100000 in
set_option maxHeartbeats 4000000 in
theorem r36EventOf_v {p : Ctl} {tp : Tk} (hp : p.Good) : VCalls Tryz.prog 74 [.agg [.sc (.int .u8 p.code), .sc (.int .u8 p.id), .sl tp (bs p.data)], .sc (.int .u8 codes)] st fun r s => r = .sc (.int .i64 (evC codes p)) ∧ st = s := by
  obtain ⟨c, i, D⟩ := p
  have c0 := hp.c0
  simp only at c0
  obtain ⟨v, hv⟩ : ∃ v, v = evC codes ⟨c, i, D⟩ := ⟨_, rfl⟩
  rw [← hv]
  unfold evC evOf at hv
  simp only at hv
  cases D with
  | nil =>
    simp only [List.length_nil, Nat.lt_irrefl, false_and, and_false, ↓reduceIte] at hv
    refine vcalls_enterq pc74 (Nat.le_of_ble_eq_true rfl) rfl fun hwf hok => ?_
    show Run _ Pc74.body (.fin (finP Pc74.res _)) _ _
    unfold Pc74 zg zn zo
    repeat' first | simp (maxSteps := 3000000) only [go_sem, ↓reduceIte, bs_len, List.length_nil] | (refine If.dec (fun h => ?_) (fun h => ?_) <;> first | simp only [decide_eq_true h] | simp only [decide_eq_false h] | skip) | (refine Grd.decd (fun h => ?_) (fun h => ?_) <;> first | simp only [decide_eq_true h] | simp only [decide_eq_false h] | skip) | (refine If.mk (fun h => ?_) (fun h => ?_) <;> first | simp only [h] | skip) | (refine Grd.two (fun h => ?_) (fun h => ?_) <;> first | simp only [h] | skip) | (apply And.intro; focus (first | omega | (simp; done)))
    all_goals first | (exfalso; omega) | exact ⟨_, _, Wk.refl _, hwf.weak, by rw [hv]; (try dsimp only); (repeat' split) <;> first | rfl | (exfalso; omega) | simp_all, rfl⟩
  | cons x D =>
    have hx : (x :: D)[0]? = some x := rfl
    simp only [List.length_cons, Nat.zero_lt_succ, true_and, List.getD_cons_zero] at hv
    refine vcalls_enterq pc74 (Nat.le_of_ble_eq_true rfl) rfl fun hwf hok => ?_
    show Run _ Pc74.body (.fin (finP Pc74.res _)) _ _
    unfold Pc74 zg zn zo
    repeat' first | simp (maxSteps := 3000000) only [go_sem, ↓reduceIte, bs_len, List.length_cons, bs_get, hx] | (refine If.dec (fun h => ?_) (fun h => ?_) <;> first | simp only [decide_eq_true h] | simp only [decide_eq_false h] | skip) | (refine Grd.decd (fun h => ?_) (fun h => ?_) <;> first | simp only [decide_eq_true h] | simp only [decide_eq_false h] | skip) | (refine If.mk (fun h => ?_) (fun h => ?_) <;> first | simp only [h] | skip) | (refine Grd.two (fun h => ?_) (fun h => ?_) <;> first | simp only [h] | skip) | (apply And.intro; focus (first | omega | (simp; done)))
    all_goals first | (exfalso; omega) | exact ⟨_, _, Wk.refl _, hwf.weak, by rw [hv]; (try dsimp only); (repeat' split) <;> first | rfl | (exfalso; omega) | simp_all, rfl⟩
theorem ROut.up' {X : Neg R × Nout} {r : V} {s0 : St} (T : Tn (n :: bx) st s0) (h : ROut s0 SI bx kind codes n k m X r s) : ∃ tv, r = .agg [.sl tv (ctls X.2.P), .sc (.bool X.2.up), .sc (.bool X.2.down), .sc (.bool X.2.over)] ∧ ROut st SI bx kind codes n k m X r s := by
  obtain ⟨tv, e, _⟩ := id h
  exact ⟨tv, e, h.up T⟩
theorem RefI.rules {r : R} {k' : Nat} {s' : St} {N1 : Neg R} (h : RefI SI bx kind codes n k' s' N1) (e : N1 = { N with r := r }) : RefI SI bx kind codes n k' s' { N with r := r } := e ▸ h
set_option maxRecDepth 100000 in
set_option maxHeartbeats 16000000 in
theorem r36Asked_v (hU : RefR U SI bx kind codes n) (h : RefI SI bx kind codes n k st N) (hk : k + 1 ≤ 1000000000) {now : Int} (hn : 0 ≤ now) (hn2 : now ≤ 1000000000) {p : Ctl} (hp : p.Good) {tp : Tk} :
    VCalls Tryz.prog 71 [ptrV n, .sc (.int .i64 now), .agg [.sc (.int .u8 p.code), .sc (.int .u8 p.id), .sl tp (bs p.data)]] st (ROut st SI bx kind codes n (k + 1) 5 (N.request U now p)) := by
  obtain ⟨X, hX⟩ : ∃ X, X = N.request U now p := ⟨_, rfl⟩
  rw [← hX]
  refine vcalls_enterq pc71 (Nat.le_of_ble_eq_true rfl) rfl fun hwf hok => ?_
  show Run _ Pc71.body (.fin (finP Pc71.res _)) _ _
  unfold Pc71 zg zn zo
  have hlt := hwf.lt
  have hpb := hp.b
  have hpl := hp.l
  simp (maxSteps := 3000000) only [go_sem, ↓reduceIte]
  refine Cal.mk (r10Parse_v hpb hpl) ?_
  rintro _ _ ⟨rfl, rfl⟩ -
  obtain ⟨L, hL⟩ : ∃ L, L = parseO p.data := ⟨_, rfl⟩
  have hLg : GoodO L.1 := by rw [hL]; exact parseO_good hpb
  have hLl : L.1.length ≤ 1000000 := by rw [hL]; have := parseO_len (L := p.data); omega
  unfold Neg.request at hX
  simp only at hX
  rw [← hL] at hX ⊢
  obtain ⟨l, e⟩ := L
  simp only at hX hLg hLl
  clear hL
  by_cases c1 : e = 0
  rotate_left
  · rw [if_pos c1] at hX
    subst hX
    simp (maxSteps := 3000000) only [go_sem, ↓reduceIte, decide_eq_true c1]
    exact ⟨_, _, Wk.refl _, hwf.weak, .nil, rfl, RO.nil (bare_weak (Nat.le_refl _)) hlt, h.more hU, Tn.refl hlt, by simp [Nout.no]⟩
  rw [if_neg (show ¬ e ≠ 0 from fun x => x c1)] at hX
  obtain ⟨tk, T0, tl, last, r2, hb, hs⟩ := h.ex
  unfold refC at hb
  simp (maxSteps := 3000000) only [go_sem, ↓reduceIte, decide_eq_false (show ¬ e ≠ 0 from fun x => x c1), hb]
  refine Grd.cut [30, 31, 32, 33, 34, 35, 36, 38, 39, 40, 41, 42, 43, 44] (fun B => B 44 = .sc (.bool (decide (N.s = 4 ∨ N.s = 5 ∨ N.s < 3)))) rfl ?_ ?_
  · by_cases e3 : N.s < 3
    · simp (maxSteps := 3000000) only [go_sem, ↓reduceIte, decide_eq_true e3, at_cut]
      simp only [e3, or_true, decide_true]
    · by_cases e4 : N.s = 4
      · simp (maxSteps := 3000000) only [go_sem, ↓reduceIte, decide_eq_false e3, decide_eq_true e4, at_cut, hb]
        simp only [e4, true_or, decide_true]
      · simp (maxSteps := 3000000) only [go_sem, ↓reduceIte, decide_eq_false e3, decide_eq_false e4, at_cut, hb]
        simp only [e3, e4, false_or, or_false]
  intro B1 h44
  by_cases c2 : N.s = 4 ∨ N.s = 5 ∨ N.s < 3
  · rw [if_pos c2] at hX
    subst hX
    simp (maxSteps := 3000000) only [go_sem, ↓reduceIte, h44, decide_eq_true c2]
    refine Cal.mk (r36Do_v hU h hn hn2) ?_
    rintro _ s1 ⟨rfl, h1, T1⟩ -
    simp (maxSteps := 3000000) only [go_sem, ↓reduceIte]
    refine Cal.mk (r36Done_v hU h1 (acts_rng _ _) (p := p) (back := zeroC) (tp := tp) (tb := .nil) hp) ?_
    rintro _ s2 O -
    obtain ⟨tv, rfl, O2⟩ := O.up' T1
    simp (maxSteps := 3000000) only [go_sem, ↓reduceIte]
    exact ⟨_, _, Wk.refl _, O2.lt.weak, O2.le hU (Nat.le_refl _) (.inr rfl)⟩
  rw [if_neg c2] at hX
  simp (maxSteps := 3000000) only [go_sem, ↓reduceIte, h44, decide_eq_false c2]
  refine Cal.mk (hU.judge k st N l .no h (by omega) hLg hLl) ?_
  rintro _ s1 ⟨⟨t2, rfl⟩, h1, T1⟩ -
  obtain ⟨g1, g2, g3, g4⟩ := hU.judgeG k st N l h hLg hLl
  unfold Neg.judge at hX
  simp only at hX
  generalize U.judge N.r l = j at hX h1 g1 g2 g3 g4 ⊢
  obtain ⟨rr, code, out⟩ := j
  simp only at hX h1 g1 g2 g3 g4 ⊢
  have a0 := h.a0
  have a1 := h.a1
  simp (maxSteps := 3000000) only [go_sem, ↓reduceIte]
  obtain ⟨N1, hN1⟩ : ∃ N1 : Neg R, N1 = { N with r := rr, naks := if code = 3 then N.naks + 1 else N.naks } := ⟨_, rfl⟩
  refine If.cut [63, 64, 65, 66, 67, 68] (fun B s => RefI SI bx kind codes n (k + 1) s N1 ∧ Tn (n :: bx) st s) rfl ?_ ?_
  · obtain ⟨tk, T0, tl, last, r2, hb, hs⟩ := h1.ex
    by_cases c3 : code = 3
    · have hW := h1.write hU (N' := N1) (tk := tk) (tl := tl) hs (by rw [hN1]) (by rw [hN1]; exact h.l0) (by rw [hN1]; exact h.l1) (by rw [hN1]; exact h.i0) (by rw [hN1]; exact h.i1) (by rw [hN1]; simp only [if_pos c3]; omega) (by rw [hN1]; simp only [if_pos c3]; omega) (by rw [hN1]; exact h.rb) (by rw [hN1]; exact h.rl)
      have TW := T1.put (b := n) (cs := refC kind codes N1 tk T0 tl last r2) (.inl (by simp)) hlt
      unfold refC at hb
      rw [hN1] at hW TW
      unfold refC at hW TW
      simp only [if_pos c3] at hW TW
      simp only at hb
      simp (maxSteps := 3000000) only [go_sem, ↓reduceIte, decide_eq_true c3, hb, at_cutk_n]
      rw [hN1]
      simp only [if_pos c3]
      refine ⟨by omega, hW, TW⟩
    · have e : N1 = { N with r := rr } := by rw [hN1, if_neg c3]
      simp (maxSteps := 3000000) only [go_sem, decide_eq_false c3, at_cutk_n]
      rw [e]
      exact ⟨h1, T1⟩
  rintro B2 s2 ⟨h2, T2⟩
  have eN : N1.naks = if code = 3 then N.naks + 1 else N.naks := by rw [hN1]
  obtain ⟨ov, hov⟩ : ∃ ov : Bool, ov = decide (code = 3 ∧ 5 < N1.naks) := ⟨_, rfl⟩
  rw [← eN, ← hov] at hX
  obtain ⟨tk, T0, tl, last, r2, hb, hs⟩ := h2.ex
  unfold refC at hb
  simp (maxSteps := 3000000) only [go_sem, ↓reduceIte]
  refine Grd.cut [72, 73, 74, 75, 76, 77] (fun B => B 77 = .sc (.bool ov)) rfl ?_ ?_
  · rw [hov]
    by_cases c3 : code = 3
    · simp (maxSteps := 3000000) only [go_sem, ↓reduceIte, decide_eq_true c3, at_cut, hb]
      simp only [c3, true_and]
    · simp (maxSteps := 3000000) only [go_sem, ↓reduceIte, decide_eq_false c3, at_cut]
      simp only [c3, false_and, decide_false]
  intro B3 h77
  simp (maxSteps := 3000000) only [go_sem, ↓reduceIte, h77]
  obtain ⟨code2, hc2⟩ : ∃ c : Int, c = if ov = true then 4 else code := ⟨_, rfl⟩
  obtain ⟨out2, ho2⟩ : ∃ o, o = if ov = true then theirsO l out else out := ⟨_, rfl⟩
  rw [← hc2, ← ho2] at hX
  have hg2 : GoodO out2 := by rw [ho2]; split; exact theirsO_good hLg; exact g3
  have hl2 : out2.length ≤ 1000000 := by rw [ho2]; split; have := theirsO_len l out; omega; exact g4
  refine If.cut [9, 10, 11, 12, 80, 81, 83, 87, 88, 89, 90, 91, 95, 96, 97, 98] (fun B s => B 9 = .sc (.int .u8 code2) ∧ (∃ t, B 10 = .sl t (opts out2)) ∧ RefI SI bx kind codes n (k + 1) s N1 ∧ Tn (n :: bx) st s) rfl ?_ ?_
  · cases ov with
    | false =>
      simp (maxSteps := 3000000) only [go_sem, ↓reduceIte, at_cutk_n]
      exact ⟨by rw [hc2]; rfl, ⟨t2, by rw [ho2]; rfl⟩, h2, T2⟩
    | true =>
      simp only [↓reduceIte] at hc2 ho2
      simp (maxSteps := 3000000) only [go_sem]
      refine run_loop [11, 12, 80, 81, 83, 87, 88, 89, 90, 91, 95, 96, 97, 98] (fun B s => ∃ (i : Nat) (u : Tk), i ≤ l.length ∧ B 12 = .sc (.int .i64 i) ∧ B 11 = .sl u (opts (theirsO (l.take i) out)) ∧ RO 2 s2 s (.sl u (opts (theirsO (l.take i) out))) (opts (theirsO (l.take i) out))) (fun B _ => l.length - vnat (B 12)) rfl ?_ ?_
      · exact ⟨0, .nil, by omega, rfl, rfl, RO.nil T2.lt.weak T2.lt⟩
      · rintro B s ⟨i, u, hi, h12, h11, R⟩
        by_cases c1 : i < l.length
        · obtain ⟨⟨T, D⟩, ho⟩ := get_ex c1
          have hsn := theirsO_snoc (like := out) ho
          have htl := theirsO_len (l.take i) out
          have htl2 : (l.take i).length ≤ l.length := by simp only [List.length_take]; omega
          simp (maxSteps := 3000000) only [go_sem, ↓reduceIte, h12, opts_len, opts_at ho, decide_eq_true (show (i : Int) < (l.length : Int) by omega)]
          repeat (apply And.intro; focus (first | omega | (simp; done)))
          refine Cal.mk (r10Find_v (t := T) g4) ?_
          rintro _ _ ⟨⟨x, rfl, hx⟩, rfl⟩ -
          rcases hx with ⟨rfl, hf⟩ | ⟨a, D2, rfl, _, hf⟩
          · rw [hf] at hsn
            simp only [Option.isSome_none, Bool.false_eq_true, ↓reduceIte, List.append_nil] at hsn
            simp (maxSteps := 3000000) only [go_sem, ↓reduceIte, h12]
            repeat (apply And.intro; focus (first | omega | (simp; done)))
            exact ⟨⟨i + 1, u, by omega, by simp, by rw [hsn]; exact h11, by rw [hsn]; exact R⟩, by omega⟩
          · rw [hf] at hsn
            simp only [Option.isSome_some, ↓reduceIte] at hsn
            simp (maxSteps := 3000000) only [go_sem, ↓reduceIte, h12, h11, opts_at ho, decide_eq_true (show (0 : Int) ≤ (a : Int) by omega)]
            repeat (apply And.intro; focus (first | omega | (simp; done)))
            refine App.mk (bytes := 32) (l := opts (theirsO (l.take i) out)) (ys := opts [(T, D)]) R.own (allSz_opts _) (by simp only [opts_len, List.length_cons, List.length_nil]; unfold maxLen; omega) (by simp only [opts_len, List.length_cons, List.length_nil]; omega) ?_
            intro r2 s3 k1 k2
            have R2 := R.app k1 k2
            rw [opts_append, ← hsn] at R2
            obtain ⟨t3, rfl⟩ := R2.sl
            simp (maxSteps := 3000000) only [go_sem, ↓reduceIte, h12]
            repeat (apply And.intro; focus (first | omega | (simp; done)))
            exact ⟨⟨i + 1, t3, by omega, by simp, rfl, R2⟩, by omega⟩
        · obtain rfl : i = l.length := by omega
          rw [List.take_length] at R h11
          simp (maxSteps := 3000000) only [go_sem, ↓reduceIte, h12, h11, opts_len, at_cutk_n]
          have TR : Tn [] s2 s := Tn.ofWeak R.weak R.lt
          exact ⟨by rw [hc2], ⟨u, by rw [ho2]⟩, h2.tn hU TR, T2.trans (TR.wide (by simp))⟩
  rintro B4 s4 ⟨h9, ⟨t3, h10⟩, h4, T4⟩
  simp (maxSteps := 3000000) only [go_sem, ↓reduceIte, h10]
  refine Cal.mk (r10Build_v hg2 (by omega)) ?_
  rintro _ _ ⟨rfl, rfl⟩ -
  by_cases c5 : code2 = 2
  rotate_left
  · rw [if_pos (by simp only [decide_eq_false_iff_not]; exact c5)] at hX
    have eX : X = N1.event U now 7 p ⟨code2, p.id, buildO out2⟩ := by rw [hX, hN1]; simp only [if_neg c5]
    rw [eX]
    simp (maxSteps := 3000000) only [go_sem, ↓reduceIte, h9, decide_eq_true (show code2 ≠ 2 from c5)]
    refine Cal.mk (r36Do_v hU h4 hn hn2) ?_
    rintro _ s5 ⟨rfl, h5, T5⟩ -
    simp (maxSteps := 3000000) only [go_sem, ↓reduceIte]
    refine Cal.mk (r36Done_v hU h5 (acts_rng _ _) (p := p) (back := ⟨code2, p.id, buildO out2⟩) (tp := tp) (tb := .no) hp) ?_
    rintro _ s6 O -
    obtain ⟨tv, rfl, O2⟩ := O.up' (T4.trans T5)
    simp (maxSteps := 3000000) only [go_sem, ↓reduceIte]
    exact ⟨_, _, Wk.refl _, O2.lt.weak, O2⟩
  · rw [if_neg (by simp only [decide_eq_false_iff_not]; exact fun x => x c5)] at hX
    have eX : X = Neg.event U { N1 with naks := 0, r := U.agreed rr l } now 6 p ⟨code2, p.id, buildO out2⟩ := by rw [hX, hN1]; simp only [if_pos c5]
    rw [eX]
    obtain ⟨tk, T0, tl, last, r2, hb, hs⟩ := h4.ex
    have hs' := hU.agreed (k + 1) s4 N1.r T0 last l r2 hs hLg hLl
    have hrr : N1.r = rr := by rw [hN1]
    rw [hrr] at hs'
    obtain ⟨N5, hN5⟩ : ∃ N5 : Neg R, N5 = { N1 with naks := 0, r := U.agreed rr l } := ⟨_, rfl⟩
    rw [← hN5]
    have h45 : RefI SI bx kind codes n (k + 1) (s4.put n (refC kind codes N5 tk T0 .no l r2)) N5 :=
      ⟨⟨tk, T0, .no, l, r2, put_box_same, by
        rw [hN5]
        exact hU.stay (k + 1) s4 _ _ _ _ _ hs' (fun b cs hb hm => by rw [put_box_ne (fun e => h.nn (by subst e; exact hm))]; exact hb) (by simp only [put_sz]; omega)⟩, h.nn, by rw [hN5]; exact h4.l0, by rw [hN5]; exact h4.l1, by rw [hN5]; exact h4.i0, by rw [hN5]; exact h4.i1, by rw [hN5]; exact Int.le_refl 0, by rw [hN5]; exact Int.natCast_nonneg _, by rw [hN5]; exact h4.rb, by rw [hN5]; exact h4.rl⟩
    have T45 := T4.put (b := n) (cs := refC kind codes N5 tk T0 .no l r2) (.inl (by simp)) hlt
    unfold refC at hb
    rw [c5] at h9
    simp (maxSteps := 3000000) only [go_sem, ↓reduceIte, h9, hb, put_box_same, put_put]
    generalize hq : s4.put n _ = q
    obtain rfl : q = s4.put n (refC kind codes N5 tk T0 .no l r2) := by rw [← hq, hN5]; rfl
    refine Cal.mk (r36Do_v hU h45 hn hn2) ?_
    rintro _ s5 ⟨rfl, h5, T5⟩ -
    simp (maxSteps := 3000000) only [go_sem, ↓reduceIte]
    rw [c5]
    refine Cal.mk (r36Done_v hU h5 (acts_rng _ _) (p := p) (back := ⟨2, p.id, buildO out2⟩) (tp := tp) (tb := .no) hp) ?_
    rintro _ s6 O -
    obtain ⟨tv, rfl, O2⟩ := O.up' (T45.trans T5)
    simp (maxSteps := 3000000) only [go_sem, ↓reduceIte]
    exact ⟨_, _, Wk.refl _, O2.lt.weak, O2⟩
end
end
section
open Go
section
variable {R : Type} {U : Rul R} {SI : Nat → St → R → V → List Opt → List V → Prop} {bx : List Nat} {kind codes : Int} {n k m : Nat} {st s s2 base : St} {N N' : Neg R}
set_option maxRecDepth 100000 in
set_option maxHeartbeats 16000000 in
theorem r36Answered_v (hU : RefR U SI bx kind codes n) (h : RefI SI bx kind codes n k st N) (hk : k + 1 ≤ 1000000000) {now : Int} (hn : 0 ≤ now) (hn2 : now ≤ 1000000000) {p : Ctl} (hp : p.Good) {tp : Tk} :
    VCalls Tryz.prog 72 [ptrV n, .sc (.int .i64 now), .agg [.sc (.int .u8 p.code), .sc (.int .u8 p.id), .sl tp (bs p.data)]] st (ROut st SI bx kind codes n (k + 1) 5 (N.answered U now p)) := by
  obtain ⟨X, hX⟩ : ∃ X, X = N.answered U now p := ⟨_, rfl⟩
  rw [← hX]
  refine vcalls_enterq pc72 (Nat.le_of_ble_eq_true rfl) rfl fun hwf hok => ?_
  show Run _ Pc72.body (.fin (finP Pc72.res _)) _ _
  unfold Pc72 zg zn zo
  have hlt := hwf.lt
  have hpb := hp.b
  have hpl := hp.l
  simp (maxSteps := 3000000) only [go_sem, ↓reduceIte]
  refine Cal.mk (r10Parse_v hpb hpl) ?_
  rintro _ _ ⟨rfl, rfl⟩ -
  obtain ⟨L, hL⟩ : ∃ L, L = parseO p.data := ⟨_, rfl⟩
  have hLg : GoodO L.1 := by rw [hL]; exact parseO_good hpb
  have hLl : L.1.length ≤ 1000000 := by rw [hL]; have := parseO_len (L := p.data); omega
  unfold Neg.answered at hX
  simp only at hX
  rw [← hL] at hX ⊢
  obtain ⟨l, e⟩ := L
  simp only at hX hLg hLl
  clear hL
  obtain ⟨tk, T0, tl, last, r2, hb, hs⟩ := h.ex
  unfold refC at hb
  have hs1 : strOf p.data = strOf N.req ↔ p.data = N.req := strOf_inj hpb h.rb
  obtain ⟨bad, hbad⟩ : ∃ b : Bool, b = decide (e ≠ 0 ∨ p.id ≠ N.id ∨ p.code = 2 ∧ p.data ≠ N.req) := ⟨_, rfl⟩
  simp (maxSteps := 3000000) only [go_sem, ↓reduceIte]
  refine Grd.cut [19, 20, 21, 22, 23, 24, 25, 28, 29, 30, 32, 33, 34, 35, 36, 37, 38, 39, 40, 41] (fun B => B 41 = .sc (.bool bad)) rfl ?_ ?_
  · by_cases c1 : e = 0
    rotate_left
    · simp (maxSteps := 3000000) only [go_sem, ↓reduceIte, decide_eq_true c1, at_cut]
      rw [hbad, decide_eq_true (.inl c1)]
    by_cases c2 : p.id = N.id
    rotate_left
    · simp (maxSteps := 3000000) only [go_sem, ↓reduceIte, decide_eq_false (show ¬ e ≠ 0 from fun x => x c1), decide_eq_true (show p.id ≠ N.id from c2), at_cut, hb]
      rw [hbad, decide_eq_true (.inr (.inl c2))]
    by_cases c3 : p.code = 2
    rotate_left
    · simp (maxSteps := 3000000) only [go_sem, ↓reduceIte, decide_eq_false (show ¬ e ≠ 0 from fun x => x c1), decide_eq_false (show ¬ p.id ≠ N.id from fun x => x c2), decide_eq_false c3, at_cut, hb]
      rw [hbad]
      simp only [c1, c2, c3, ne_eq, not_true_eq_false, false_and, or_self, decide_false]
    simp (maxSteps := 3000000) only [go_sem, ↓reduceIte, decide_eq_false (show ¬ e ≠ 0 from fun x => x c1), decide_eq_false (show ¬ p.id ≠ N.id from fun x => x c2), decide_eq_true c3, at_cut, hb, u8sOf_bsN]
    rw [hbad]
    simp only [c1, c2, c3, ne_eq, not_true_eq_false, true_and, false_or, hs1]
  intro B1 h41
  cases bad with
  | true =>
    rw [if_pos (of_decide_eq_true hbad.symm)] at hX
    subst hX
    simp (maxSteps := 3000000) only [go_sem, ↓reduceIte, h41]
    exact ⟨_, _, Wk.refl _, hwf.weak, .nil, rfl, RO.nil (bare_weak (Nat.le_refl _)) hlt, h.more hU, Tn.refl hlt, by simp [Nout.no]⟩
  | false =>
    rw [if_neg (of_decide_eq_false hbad.symm)] at hX
    by_cases c2 : p.code = 2
    · rw [if_pos c2] at hX
      subst hX
      simp (maxSteps := 3000000) only [go_sem, ↓reduceIte, h41, decide_eq_true c2]
      refine Cal.mk (r36Do_v hU h hn hn2) ?_
      rintro _ s1 ⟨rfl, h1, T1⟩ -
      simp (maxSteps := 3000000) only [go_sem, ↓reduceIte]
      refine Cal.mk (r36Done_v hU h1 (acts_rng _ _) (p := p) (back := zeroC) (tp := tp) (tb := .nil) hp) ?_
      rintro _ s2 O -
      obtain ⟨tv, rfl, O2⟩ := O.up' T1
      simp (maxSteps := 3000000) only [go_sem, ↓reduceIte]
      exact ⟨_, _, Wk.refl _, O2.lt.weak, O2.le hU (Nat.le_refl _) (.inr rfl)⟩
    rw [if_neg c2] at hX
    by_cases c3 : p.code = 3
    · rw [if_pos c3] at hX
      subst hX
      simp (maxSteps := 3000000) only [go_sem, ↓reduceIte, h41, decide_eq_false c2, decide_eq_true c3]
      refine Cal.mk (hU.naked k st N l .no h (by omega) hLg hLl) ?_
      rintro _ s0 ⟨rfl, h0, T0⟩ -
      simp (maxSteps := 3000000) only [go_sem, ↓reduceIte]
      refine Cal.mk (r36Do_v hU h0 hn hn2) ?_
      rintro _ s1 ⟨rfl, h1, T1⟩ -
      simp (maxSteps := 3000000) only [go_sem, ↓reduceIte]
      refine Cal.mk (r36Done_v hU h1 (acts_rng _ _) (p := p) (back := zeroC) (tp := tp) (tb := .nil) hp) ?_
      rintro _ s2 O -
      obtain ⟨tv, rfl, O2⟩ := O.up' (T0.trans T1)
      simp (maxSteps := 3000000) only [go_sem, ↓reduceIte]
      exact ⟨_, _, Wk.refl _, O2.lt.weak, O2⟩
    rw [if_neg c3] at hX
    simp (maxSteps := 3000000) only [go_sem, ↓reduceIte, h41, decide_eq_false c2, decide_eq_false c3]
    refine Cal.mk (hU.rejected k st N l .no h (by omega) hLg hLl) ?_
    rintro _ s0 ⟨rfl, h0, T0⟩ -
    cases hr : (U.rejected N.r l).2 with
    | false =>
      rw [if_pos hr] at hX
      subst hX
      simp (maxSteps := 3000000) only [go_sem, ↓reduceIte, Bool.not_false]
      refine Cal.mk (r36Close_v hU h0 hn hn2) ?_
      rintro _ s2 O -
      obtain ⟨tv, rfl, O2⟩ := O.up' T0
      simp (maxSteps := 3000000) only [go_sem, ↓reduceIte]
      exact ⟨_, _, Wk.refl _, O2.lt.weak, O2.le hU (Nat.le_refl _) (.inr rfl)⟩
    | true =>
      rw [if_neg (by rw [hr]; simp)] at hX
      subst hX
      simp (maxSteps := 3000000) only [go_sem, ↓reduceIte, Bool.not_true]
      refine Cal.mk (r36Do_v hU h0 hn hn2) ?_
      rintro _ s1 ⟨rfl, h1, T1⟩ -
      simp (maxSteps := 3000000) only [go_sem, ↓reduceIte]
      refine Cal.mk (r36Done_v hU h1 (acts_rng _ _) (p := p) (back := zeroC) (tp := tp) (tb := .nil) hp) ?_
      rintro _ s2 O -
      obtain ⟨tv, rfl, O2⟩ := O.up' (T0.trans T1)
      simp (maxSteps := 3000000) only [go_sem, ↓reduceIte]
      exact ⟨_, _, Wk.refl _, O2.lt.weak, O2.le hU (Nat.le_refl _) (.inr rfl)⟩
set_option maxRecDepth 100000 in
set_option maxHeartbeats 16000000 in
theorem r36Take_v (hU : RefR U SI bx kind codes n) (h : RefI SI bx kind codes n k st N) (hk : k + 1 ≤ 1000000000) (hc : 4 ≤ codes) {now : Int} (hn : 0 ≤ now) (hn2 : now ≤ 1000000000) {p : Ctl} (hp : p.Good) {tp : Tk} :
    VCalls Tryz.prog 52 [ptrV n, .sc (.int .i64 now), .agg [.sc (.int .u8 p.code), .sc (.int .u8 p.id), .sl tp (bs p.data)]] st (ROut st SI bx kind codes n (k + 1) 5 (N.take U codes now p)) := by
  obtain ⟨X, hX⟩ : ∃ X, X = N.take U codes now p := ⟨_, rfl⟩
  rw [← hX]
  unfold Neg.take at hX
  refine vcalls_enterq pc52 (Nat.le_of_ble_eq_true rfl) rfl fun hwf hok => ?_
  show Run _ Pc52.body (.fin (finP Pc52.res _)) _ _
  unfold Pc52 zg zn zo
  have hlt := hwf.lt
  have c0 := hp.c0
  obtain ⟨tk, T0, tl, last, r2, hb, hs⟩ := h.ex
  unfold refC at hb
  by_cases c1 : p.code = 1
  · rw [if_neg (by omega), if_pos c1] at hX
    subst hX
    simp (maxSteps := 3000000) only [go_sem, ↓reduceIte, decide_eq_true c1, hb, decide_eq_true (show (1 : Int) ≤ codes by omega)]
    refine Cal.mk (r36Asked_v hU h hk hn hn2 hp) ?_
    rintro _ s1 O -
    obtain ⟨tv, rfl, _⟩ := id O
    simp (maxSteps := 3000000) only [go_sem, ↓reduceIte]
    exact ⟨_, _, Wk.refl _, O.lt.weak, O⟩
  by_cases c2 : 2 ≤ p.code ∧ p.code ≤ 4
  · rw [if_neg (by omega), if_neg c1, if_pos c2.2] at hX
    subst hX
    simp (maxSteps := 3000000) only [go_sem, ↓reduceIte, decide_eq_false c1, hb, decide_eq_true c2.1, decide_eq_true c2.2, decide_eq_true (show p.code ≤ codes by omega)]
    refine Cal.mk (r36Answered_v hU h hk hn hn2 hp) ?_
    rintro _ s1 O -
    obtain ⟨tv, rfl, _⟩ := id O
    simp (maxSteps := 3000000) only [go_sem, ↓reduceIte]
    exact ⟨_, _, Wk.refl _, O.lt.weak, O⟩
  have eX : X = N.event U now (evC codes p) p zeroC := by
    rw [hX, evC]
    by_cases c3 : p.code < 1 ∨ codes < p.code
    · rw [if_pos c3, if_pos c3]
    · rw [if_neg c3, if_neg c3, if_neg c1, if_neg (by omega)]
  rw [eX]
  by_cases c3 : 2 ≤ p.code
  · simp (maxSteps := 3000000) only [go_sem, ↓reduceIte, decide_eq_false c1, hb, decide_eq_true c3, decide_eq_false (show ¬ p.code ≤ 4 by omega)]
    refine Cal.mk (r36EventOf_v hp) ?_
    rintro _ _ ⟨rfl, rfl⟩ -
    simp (maxSteps := 3000000) only [go_sem, ↓reduceIte]
    refine Cal.mk (r36Do_v hU h hn hn2) ?_
    rintro _ s1 ⟨rfl, h1, T1⟩ -
    simp (maxSteps := 3000000) only [go_sem, ↓reduceIte]
    refine Cal.mk (r36Done_v hU h1 (acts_rng _ _) (p := p) (back := zeroC) (tp := tp) (tb := .nil) hp) ?_
    rintro _ s2 O -
    obtain ⟨tv, rfl, O2⟩ := O.up' T1
    simp (maxSteps := 3000000) only [go_sem, ↓reduceIte]
    exact ⟨_, _, Wk.refl _, O2.lt.weak, O2.le hU (Nat.le_refl _) (.inr rfl)⟩
  · simp (maxSteps := 3000000) only [go_sem, ↓reduceIte, decide_eq_false c1, hb, decide_eq_false c3]
    refine Cal.mk (r36EventOf_v hp) ?_
    rintro _ _ ⟨rfl, rfl⟩ -
    simp (maxSteps := 3000000) only [go_sem, ↓reduceIte]
    refine Cal.mk (r36Do_v hU h hn hn2) ?_
    rintro _ s1 ⟨rfl, h1, T1⟩ -
    simp (maxSteps := 3000000) only [go_sem, ↓reduceIte]
    refine Cal.mk (r36Done_v hU h1 (acts_rng _ _) (p := p) (back := zeroC) (tp := tp) (tb := .nil) hp) ?_
    rintro _ s2 O -
    obtain ⟨tv, rfl, O2⟩ := O.up' T1
    simp (maxSteps := 3000000) only [go_sem, ↓reduceIte]
    exact ⟨_, _, Wk.refl _, O2.lt.weak, O2.le hU (Nat.le_refl _) (.inr rfl)⟩
end
end
end Go.Proofs.YtmmapbojjgpggaaGreat
