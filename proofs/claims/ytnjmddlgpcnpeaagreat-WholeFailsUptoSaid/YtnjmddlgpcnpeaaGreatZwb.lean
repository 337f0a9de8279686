/- Steps of the proof, joined: E10, ES, WTab, Wf0. -/
import Derived.Test.YtnjmddlgpcnpeaaGreatZwa
import Derived.Test.YtnjmddlgpcnpeaaGreatVc
import Derived.KernelRfl
namespace Go.Proofs.YtnjmddlgpcnpeaaGreat
open Go
attribute [local go_sem] run_skip run_reg run_seq run_blk run_exit run_ret run_cond if_true if_false at_code_n at_code_x at_code_r at_blk_n at_blk_x at_blk_r at_rnd_n at_rnd_x at_rnd_r at_fin_n at_fin_r ops_nil ops_grd grd_und grd_tt grd_ff grd_tf grd_ft ops_mv ops_pick ops_bin ops_binZ ops_un ops_binb ops_eqs ops_isnil ops_pnil ops_b2s ops_s2b ops_b2sB ops_s2a ops_slcA ops_aidx vaidx vb2sB vs2a vslcA ops_sidx vs2b vsidx srcX ops_appx apx_mk ops_mks ops_mko mks_int mko_int vbinb veqs visnil vpnil vb2s ops_conv ops_fld ops_ix ops_ixa ops_load ops_nilck ops_ext ops_len ops_slen ops_mn ops_mx ops_bld ops_bsl ops_slc ops_sslc ops_box ops_alc ops_alcX ops_boxX ops_bslo ops_store ops_app ops_call ev_t ev_c put_get put_none opv_mk stb_some sto_ptr over_get rel_mk vnat Bx Stp vbld vbsl put_box_same put_box_ne put_sz put_own use_box use_sz put_put args0 List.getD_cons_zero List.getD_cons_succ List.getD_nil vpick vbin vbinZ vbinI vbinS vun vconv norm vfld vnil vlen vslen vext vmm vix vixa vload takeV takeB mono_nil mono_two mono_sc mono_any mono_und mono_sl mono_agg mono_ep vmlk vmlen vmnil vinil vent vmfn allSc vslc3 kOk fitsV ops_mlk ops_mlen ops_mnil ops_inil ops_ent ops_mfn ops_slc3 ops_mkm ops_mup mup_map mub_some ops_mdel mdl_nil mdl_map mdb_some ops_rng rng_none rng_map rgb_some ops_nxt ops_ment met_map meb_some ops_est est_map esb_some ops_clr clr_nil clr_box clb_some ops_calv clv_func vslc vsslc fillV splice V.cells strip strip1 allLen ptrV obsOk shAmt IntKind.bits List.map_cons List.map_nil List.length_cons List.length_nil List.getElem?_cons_zero List.getElem?_cons_succ List.take_succ_cons List.take_zero List.drop_succ_cons List.drop_zero List.cons_append List.nil_append List.append_nil List.take_nil List.drop_nil Option.map_some Option.map_none and_true true_and Int.toNat_natCast Nat.min_def Nat.zero_add Nat.add_zero Nat.zero_mul Nat.mul_one Nat.one_mul vret rvAll rvVal resv_1 resv_2 decide_true decide_false Int.lt_irrefl Bool.not_true Bool.not_false ne_eq not_true_eq_false not_false_eq_true eq_self Bool.true_eq_false Bool.false_eq_true List.contains_cons List.contains_nil Bool.false_or Bool.true_or Bool.or_false Bool.or_true List.mem_cons List.not_mem_nil or_false or_true true_or false_or mono_bs ops_aidxn vaidxn ops_fv vfv ops_mki vmki ops_inv ops_cpy cpy_box cpb_some
section
namespace Ev
open Go
section
variable {ρ:Rn} {a b r w:W} {a' b':V} {s0:S0} {st:St} {H H2:Hp} {A A2:En} {A':Nat→V} {P:Program} {call:Cl} {meth:TypeId→String→Option FuncId} {e:VEx}
theorem lsame_eq {f:W→W→Bool} {l m:List W} {l' m':List V} (ih:∀ a ∈ l,∀ b a' b',f a b=true→R ρ a a'→R ρ b b'→a'=b') (h:lsame f l m=true) (hl:RL ρ l l') (hm:RL ρ m m'):l'=m':=by
  induction l generalizing m l' m' with
  | nil =>
    cases m with
    | nil=>rw [hl.nil_inv,hm.nil_inv]
    | cons=>cases h
  | cons x l IH =>
    cases m with
    | nil=>cases h
    | cons y m =>
      obtain ⟨b1,l2,rfl,r1,hl2⟩:=hl.cons_inv
      obtain ⟨b2,m2,rfl,r2,hm2⟩:=hm.cons_inv
      obtain ⟨h1,h2⟩:=and_t h
      rw [ih x (by simp) y b1 b2 h1 r1 r2,IH (fun a ha=>ih a (List.mem_cons_of_mem _ ha)) h2 hl2 hm2]
theorem tksame_eq {t t':Tk} {u u':Tk} (h:tksame t t'=true) (h1:RT ρ t u) (h2:RT ρ t' u'):u=u':=by
  cases h1 <;> cases h2 <;> first | rfl | (cases h; done) | skip
  rename_i g k b hb g' k' b' hb'
  obtain ⟨e1,e2⟩:=and_t h
  have e1:=beq_t e1; have e2:=beq_t e2
  subst e1; subst e2
  rw [hb] at hb'; cases hb'; rfl
theorem same_eq:∀ (n:Nat) {a b:W} {a' b':V},wsame n a b=true→R ρ a a'→R ρ b b'→a'=b'
  | 0,a,b,a',b',h,_,_=>by cases h
  | n + 1,a,b,a',b',h,ha,hb=>by
    have h:wsame1 (wsame n) a b=true:=h
    have ih:=fun (l:List W)=>(fun a (_:a ∈ l) b a' b' (h1:wsame n a b=true) (r1:R ρ a a') (r2:R ρ b b')=>same_eq n h1 r1 r2)
    unfold wsame1 at h
    split at h
    · cases ha.int_inv; cases hb.int_inv
      obtain ⟨h1,h2⟩:=and_t h
      rw [ieq_eq,decide_eq_true_eq] at h2
      rw [keq_eq h1,h2]
    · cases ha.bool_inv; cases hb.bool_inv
      rw [beqb_eq] at h
      have:=beq_iff_eq.1 h
      rw [this]
    · cases ha; cases hb; rfl
    · cases ha; cases hb; rfl
    · cases ha; cases hb; rfl
    · cases ha; cases hb; rfl
    · obtain ⟨h1,h2⟩:=and_t h
      have e1:=beq_t h1; have e2:=beq_t h2
      subst e1; subst e2
      obtain ⟨b1,k1,rfl⟩:=ha.ptr_inv
      obtain ⟨b2,k2,rfl⟩:=hb.ptr_inv
      rw [k1] at k2; cases k2; rfl
    · have e1:=beq_t h
      subst e1
      obtain ⟨b1,k1,rfl⟩:=ha.map_inv
      obtain ⟨b2,k2,rfl⟩:=hb.map_inv
      rw [k1] at k2; cases k2; rfl
    · rw [leq_eq,decide_eq_true_eq] at h
      subst h
      rw [ha.str_inv.2,hb.str_inv.2]
    · obtain ⟨h1,h2⟩:=and_t h
      obtain ⟨t1,l1,rfl,k1,k2⟩:=ha.sl_inv
      obtain ⟨t2,l2,rfl,k3,k4⟩:=hb.sl_inv
      rw [tksame_eq h1 k1 k3,lsame_eq (ih _) h2 k2 k4]
    · obtain ⟨h1,h2⟩:=and_t h
      obtain ⟨h3,h4⟩:=and_t h1
      have e1:=beq_t h3; have e2:=beq_t h4; have e3:=beq_t h2
      subst e1; subst e2; subst e3
      obtain ⟨b1,c1,k1,k2,k3,rfl⟩:=ha.osl_inv
      obtain ⟨b2,c2,k4,k5,k6,rfl⟩:=hb.osl_inv
      rw [k1] at k4; cases k4
      rw [k2] at k5; cases k5; rfl
    · obtain ⟨h1,h2⟩:=and_t h
      obtain ⟨h3,h4⟩:=and_t h1
      obtain ⟨h5,h6⟩:=and_t h3
      have e1:=beq_t h5; have e2:=beq_t h6; have e3:=beq_t h4; have e4:=beq_t h2
      subst e1; subst e2; subst e3; subst e4
      obtain ⟨b1,c1,k1,k2,k3,rfl⟩:=ha.bsl_inv
      obtain ⟨b2,c2,k4,k5,k6,rfl⟩:=hb.bsl_inv
      rw [k1] at k4; cases k4
      have q1:=k3 _ rfl; have q2:=k6 _ rfl
      subst q1; subst q2; rfl
    · obtain ⟨h1,h2⟩:=and_t h
      have e1:=beq_t h1
      subst e1
      cases ha with
      | iface _ _ v hv _=>cases hb with
        | iface _ _ u hu _ =>
          have:=same_eq n h2 hv hu
          cases this; rfl
    · obtain ⟨l1,rfl,k1⟩:=ha.agg_inv
      obtain ⟨l2,rfl,k2⟩:=hb.agg_inv
      rw [lsame_eq (ih _) h k1 k2]
    · obtain ⟨h1,h2⟩:=and_t h
      have e1:=beq_t h1
      subst e1
      obtain ⟨l1,rfl,k1⟩:=ha.ep_inv
      obtain ⟨l2,rfl,k2⟩:=hb.ep_inv
      rw [lsame_eq (ih _) h2 k1 k2]
    · obtain ⟨k,z,e1,e2⟩:=sySame_eq (show sySame (.sy _ _ _ _ _ _) (.sy _ _ _ _ _ _)=true from h) ha hb
      rw [e1,e2]
    · cases h
theorem obs_R (hS:Sim s0 ρ H st) (hA:EnR ρ A A'):∀ {l:List (Option Nat × X × Nat)},eobs A H l=true→obsOk st A' l
  | [],_=>trivial
  | (n,x,d) :: rest,h=>by
    obtain ⟨h1,h2⟩:=and_t h
    refine ⟨?_,obs_R hS hA h2⟩
    have hd:=hA d
    have hx:=hA.ev x
    have h1:eobs1 H n (A.at d) ((cX x).f A)=true:=h1
    generalize A.at d=wd at h1 hd
    generalize A' d=vd at hd ⊢
    cases wd with
    | und=>cases hd; trivial
    | _ =>
      have key:∃ w,eload H n ((cX x).f A)=some w∧∃ wv,wsame 9 wv w=true∧R ρ wv vd:=by
        cases hl:eload H n ((cX x).f A) with
        | none=>simp only [eobs1,hl] at h1; cases h1
        | some w=>exact ⟨w,rfl,_,by simpa only [eobs1,hl] using h1,hd⟩
      obtain ⟨w,k1,wv,k2,k3⟩:=key
      obtain ⟨k4,k5⟩:=load_R hS k1 hx
      have:=same_eq 9 k2 k3 k5
      split
      · trivial
      · exact ⟨k4,this.symm⟩
noncomputable def En.puto (A:En) (d:Option Nat) (w:W):En:=match d with
  | none=>A
  | some d=>A.put d w
def RunR (P:Program) (s0:S0) (c:VC) (A:En) (H:Hp) (e:VEx) (A2:En) (H2:Hp):Prop :=
  ∀ (ρ:Rn) (A':Nat→V) (st:St) (Q:VQ),Sim s0 ρ H st→EnR ρ A A'→(∀ ρ' A2' st',ρ.le ρ'→Sim s0 ρ' H2 st'→EnR ρ' A2 A2'→Q e A2' st')→vwp P c Q A' st
theorem cP_eq {d:Option Nat} {k:En→Rs}:(cP d).f A w k=k (A.puto d w):=by
  cases d with
  | none=>rfl
  | some d=>exact cS_eq d A w k
theorem EnR.putO (hA:EnR ρ A A') {d:Option Nat} {v:V} (hv:R ρ w v):EnR ρ (A.puto d w) (putV A' d v):=by
  cases d with
  | none=>exact hA
  | some d=>exact hA.put hv
theorem cPO_ok {d:Option Nat} {obs:List (Option Nat × X × Nat)} {x:Ro} {k:En→Hp→Rs} (h:(cPO d obs).f A x k=.ok e A2 H2):∃ w H1,x=.ok w H1∧eobs A H1 obs=true∧k (A.puto d w) H1=.ok e A2 H2:=by
  cases x with
  | bad c=>cases obs <;> cases h
  | ok w H1 =>
    cases obs with
    | nil =>
      have g:(cP d).f A w (fun A=>k A H1)=.ok e A2 H2:=h
      rw [cP_eq] at g
      exact ⟨w,H1,rfl,rfl,g⟩
    | cons o obs =>
      have g:bi (eobs A H1 (o :: obs)) ((cP d).f A w fun A=>k A H1) (.bad [code d,8888])=.ok e A2 H2:=h
      cases hb:eobs A H1 (o :: obs) with
      | false=>rw [hb] at g; cases g
      | true =>
        rw [hb,bi_t,cP_eq] at g
        exact ⟨w,H1,rfl,hb,g⟩
theorem ops_R (hC:CallR P s0 call) (hM:MethR P meth) {hint:Hint}:∀ (l:List VO) {A:En} {H:Hp},(cOs meth hint l).f call A H=.ok e A2 H2→e=.normal ∧
    ∀ (ρ:Rn) (A':Nat→V) (st:St) (K:(Nat→V)→St→Prop),Sim s0 ρ H st→EnR ρ A A'→(∀ ρ' A2' st',ρ.le ρ'→Sim s0 ρ' H2 st'→EnR ρ' A2 A2'→K A2' st')→vops P K l A' st
  | [],A,H,h=>by cases h; exact ⟨rfl,fun ρ A' st K hS hA hK=>hK ρ A' st Rn.rfl' hS hA⟩
  | o :: rest,A,H,h=>by
    have go:∀ {A:En} {H:Hp},(cPO o.dst o.obs).f A ((cO meth (hint (code o.dst)) o.op).f call A H) ((cOs meth hint rest).f call)=.ok e A2 H2→e=.normal ∧
        ∀ (ρ:Rn) (A':Nat→V) (st:St) (K:(Nat→V)→St→Prop),Sim s0 ρ H st→EnR ρ A A'→(∀ ρ' A2' st',ρ.le ρ'→Sim s0 ρ' H2 st'→EnR ρ' A2 A2'→K A2' st') →
          vop P o.op st A' fun r st'=>obsOk st' A' o.obs∧vops P K rest (putV A' o.dst r) st':=fun g=>by
      obtain ⟨w,H1,h1,h2,h3⟩:=cPO_ok g
      obtain ⟨k1,k2⟩:=ops_R hC hM rest h3
      refine ⟨k1,fun ρ A' st K hS hA hK=>op_K hC hM hS hA h1 fun ρ' v st' hle hS' hv=>⟨obs_R hS' (hA.mono hle) h2,?_⟩⟩
      exact k2 ρ' _ st' K hS' ((hA.mono hle).putO hv) fun ρ2 A2' st2 hle2=>hK ρ2 A2' st2 (fun i x e=>hle2 _ _ (hle _ _ e))
    have skip:∀ {A:En} {H:Hp},(cP o.dst).f A .und (fun A=>(cOs meth hint rest).f call A H)=.ok e A2 H2→e=.normal ∧
        ∀ (ρ:Rn) (A':Nat→V) (st:St) (K:(Nat→V)→St→Prop),Sim s0 ρ H st→EnR ρ A A'→(∀ ρ' A2' st',ρ.le ρ'→Sim s0 ρ' H2 st'→EnR ρ' A2 A2'→K A2' st')→vops P K rest (putV A' o.dst .und) st:=fun g=>by
      rw [cP_eq] at g
      obtain ⟨k1,k2⟩:=ops_R hC hM rest g
      exact ⟨k1,fun ρ A' st K hS hA hK=>k2 ρ _ st K hS (hA.putO .und) hK⟩
    unfold cOs at h
    split at h
    · rename_i hg
      obtain ⟨k1,k2⟩:=go h
      refine ⟨k1,fun ρ A' st K hS hA hK=>?_⟩
      simp only [vops,hg,vguard]
      exact k2 ρ A' st K hS hA hK
    · rename_i s want hg
      have h':egrd (A.at s) want (fun _=>(cPO o.dst o.obs).f A ((cO meth (hint (code o.dst)) o.op).f call A H) ((cOs meth hint rest).f call)) (fun _=>(cP o.dst).f A .und fun A=>(cOs meth hint rest).f call A H)=.ok e A2 H2:=h
      cases hs:A.at s with
      | und =>
        rw [hs] at h'
        obtain ⟨k1,k2⟩:=skip h'
        refine ⟨k1,fun ρ A' st K hS hA hK=>?_⟩
        have:=hA s
        rw [hs] at this
        have hu:A' s=.und:=by generalize A' s=z at this; cases this; rfl
        simp only [vops,hg,vguard,hu]
        exact k2 ρ A' st K hS hA hK
      | bool t =>
        rw [hs] at h'
        have hb:∀ {ρ:Rn} {A':Nat→V},EnR ρ A A'→A' s=.sc (.bool t):=fun hA=>by
          have:=hA s
          rw [hs] at this
          exact this.bool_inv
        cases t <;> cases want
        · obtain ⟨k1,k2⟩:=go h'
          refine ⟨k1,fun ρ A' st K hS hA hK=>?_⟩
          simp only [vops,hg,vguard,hb hA]
          exact ⟨fun _=>k2 ρ A' st K hS hA hK,fun h=>absurd rfl h⟩
        · obtain ⟨k1,k2⟩:=skip h'
          refine ⟨k1,fun ρ A' st K hS hA hK=>?_⟩
          simp only [vops,hg,vguard,hb hA]
          exact ⟨fun h=>(by cases h),fun _=>k2 ρ A' st K hS hA hK⟩
        · obtain ⟨k1,k2⟩:=skip h'
          refine ⟨k1,fun ρ A' st K hS hA hK=>?_⟩
          simp only [vops,hg,vguard,hb hA]
          exact ⟨fun h=>(by cases h),fun _=>k2 ρ A' st K hS hA hK⟩
        · obtain ⟨k1,k2⟩:=go h'
          refine ⟨k1,fun ρ A' st K hS hA hK=>?_⟩
          simp only [vops,hg,vguard,hb hA]
          exact ⟨fun _=>k2 ρ A' st K hS hA hK,fun h=>absurd rfl h⟩
      | _=>rw [hs] at h'; cases h'
theorem eseq_ok {x:Rs} {k:En→Hp→Rs} (h:eseq x k=.ok e A2 H2):(∃ A1 H1,x=.ok .normal A1 H1∧k A1 H1=.ok e A2 H2) ∨ (e ≠ .normal∧x=.ok e A2 H2):=by
  cases x with
  | bad c=>cases h
  | ok e1 A1 H1 =>
    cases e1 with
    | normal=>exact .inl ⟨A1,H1,rfl,h⟩
    | exit i=>cases h; exact .inr ⟨(fun h=>by cases h),rfl⟩
    | ret=>cases h; exact .inr ⟨(fun h=>by cases h),rfl⟩
theorem VQ.seq_ne {Q:VQ} {K:(Nat→V)→St→Prop} {e:VEx} {A:Nat→V} {st:St} (hne:e ≠ .normal) (h:Q e A st):Q.seq K e A st:=by
  cases e with
  | normal=>exact absurd rfl hne
  | _=>exact h
inductive Rounds (P:Program) (s0:S0) (f:En→Hp→Rs):Nat→En→Hp→VEx→En→Hp→Prop where
  | stop (A:En) (H:Hp) (e:VEx) (A2:En) (H2:Hp) (hne:e ≠ .normal) (h:f A H=.ok e A2 H2):Rounds P s0 f 0 A H e A2 H2
  | more (n:Nat) (A A1:En) (H H1:Hp) (e:VEx) (A2:En) (H2:Hp) (h:f A H=.ok .normal A1 H1) (t:Rounds P s0 f n A1 H1 e A2 H2):Rounds P s0 f (n + 1) A H e A2 H2
theorem loopB_rounds {f:En→Hp→Rs}:∀ (k:Nat) {A:En} {H:Hp} {e:VEx} {A1:En} {H1:Hp},eloopB f k A H=.ok e A1 H1 →
    (e=.normal∧∀ (m:Nat) (e2:VEx) (A2:En) (H2:Hp),Rounds P s0 f m A1 H1 e2 A2 H2→∃ m',Rounds P s0 f m' A H e2 A2 H2) ∨ (e ≠ .normal∧∃ m,Rounds P s0 f m A H e A1 H1)
  | 0,A,H,e,A1,H1,h=>by
    have h:f A H=.ok e A1 H1:=h
    by_cases he:e=.normal
    · subst he; exact .inl ⟨rfl,fun m e2 A2 H2 hm=>⟨_,.more m A A1 H H1 e2 A2 H2 h hm⟩⟩
    · exact .inr ⟨he,0,.stop _ _ _ _ _ he h⟩
  | k + 1,A,H,e,A1,H1,h=>by
    rcases eseq_ok (show eseq (eloopB f k A H) (eloopB f k)=.ok e A1 H1 from h) with ⟨A3,H3,h1,h2⟩ | ⟨hne,h1⟩
    · rcases loopB_rounds k h1 with ⟨_,g1⟩ | ⟨g,_⟩
      · rcases loopB_rounds k h2 with ⟨he,g2⟩ | ⟨he,m,g2⟩
        · exact .inl ⟨he,fun m e2 A2 H2 hm=>let ⟨m',hm'⟩:=g2 m e2 A2 H2 hm; g1 m' e2 A2 H2 hm'⟩
        · exact .inr ⟨he,g1 m e A1 H1 g2⟩
      · exact absurd rfl g
    · rcases loopB_rounds k h1 with ⟨he,_⟩ | ⟨_,m,g⟩
      · exact absurd he hne
      · exact .inr ⟨hne,m,g⟩
theorem loop_rounds {f:En→Hp→Rs} {A:En} {H:Hp} (h:eloop f A H=.ok e A2 H2):∃ m,Rounds P s0 f m A H e A2 H2:=by
  rcases eseq_ok (show eseq (eloopB f 17 A H) (fun _ _=>.bad [6004])=.ok e A2 H2 from h) with ⟨A1,H1,h1,h2⟩ | ⟨hne,h1⟩
  · cases h2
  · rcases loopB_rounds 17 h1 with ⟨he,_⟩ | ⟨_,m,g⟩
    · exact absurd he hne
    · exact ⟨m,g⟩
theorem least {p:Nat→Prop} (h:∃ n,p n):∃ n,p n∧∀ m,p m→n≤m:=by
  obtain ⟨n,hn⟩:=h
  induction n using Nat.strongRecOn with
  | _ n ih =>
    by_cases h2:∃ m,m < n∧p m
    · obtain ⟨m,h3,h4⟩:=h2; exact ih m h3 h4
    · exact ⟨n,hn,fun m hm=>Nat.le_of_not_lt fun h3=>h2 ⟨m,h3,hm⟩⟩
theorem run_R (hC:CallR P s0 call) (hM:MethR P meth) {hint:Hint}:∀ (c:VC) {A:En} {H:Hp} {e:VEx} {A2:En} {H2:Hp},(cC meth hint c).f call A H=.ok e A2 H2→RunR P s0 c A H e A2 H2:=by
  intro c
  induction c with
  | skip=>intro A H e A2 H2 h; cases h; exact fun ρ A' st Q hS hA hQ=>hQ ρ A' st Rn.rfl' hS hA
  | reg ops =>
    intro A H e A2 H2 h
    obtain ⟨rfl,k2⟩:=ops_R hC hM ops (show (cOs meth hint ops).f call A H=_ from h)
    exact fun ρ A' st Q hS hA hQ=>k2 ρ A' st _ hS hA hQ
  | seq x y ihx ihy =>
    intro A H e A2 H2 h
    rcases eseq_ok (show eseq ((cC meth hint x).f call A H) ((cC meth hint y).f call)=.ok e A2 H2 from h) with ⟨A1,H1,h1,h2⟩ | ⟨hne,h1⟩
    · exact fun ρ A' st Q hS hA hQ=>ihx h1 ρ A' st _ hS hA fun ρ' A1' st' hle hS' hA1=>ihy h2 ρ' A1' st' Q hS' hA1 fun ρ2 A2' st2 hle2=>hQ ρ2 A2' st2 (fun i z e=>hle2 _ _ (hle _ _ e))
    · exact fun ρ A' st Q hS hA hQ=>ihx h1 ρ A' st _ hS hA fun ρ' A1' st' hle hS' hA1=>VQ.seq_ne hne (hQ ρ' A1' st' hle hS' hA1)
  | cond c x y ihx ihy =>
    intro A H e A2 H2 h
    have g:econd ((cX c).f A) (fun _=>(cC meth hint x).f call A H) (fun _=>(cC meth hint y).f call A H)=.ok e A2 H2:=h
    cases hw:(cX c).f A with
    | bool t =>
      rw [hw] at g
      refine fun ρ A' st Q hS hA hQ=>?_
      have hc:=hA.ev c
      rw [hw] at hc
      simp only [vwp,hc.bool_inv]
      cases t
      · exact ⟨fun h=>(by cases h),fun _=>ihy (show (cC meth hint y).f call A H=_ from g) ρ A' st Q hS hA hQ⟩
      · exact ⟨fun _=>ihx (show (cC meth hint x).f call A H=_ from g) ρ A' st Q hS hA hQ,fun h=>(by cases h)⟩
    | _=>rw [hw] at g; cases g
  | blk id c ih =>
    intro A H e A2 H2 h
    have g:eblk id ((cC meth hint c).f call A H)=.ok e A2 H2:=h
    cases hx:(cC meth hint c).f call A H with
    | bad l=>rw [hx] at g; cases g
    | ok e1 A1 H1 =>
      rw [hx] at g
      refine fun ρ A' st Q hS hA hQ=>ih hx ρ A' st _ hS hA fun ρ' A1' st' hle hS' hA1=>?_
      cases e1 with
      | normal=>cases g; exact hQ ρ' A1' st' hle hS' hA1
      | ret=>cases g; exact hQ ρ' A1' st' hle hS' hA1
      | exit i =>
        have g:bi (Nat.beq i id) (.ok .normal A1 H1) (.ok (.exit i) A1 H1)=Rs.ok e A2 H2:=g
        simp only [VQ.blk]
        by_cases hi:i=id
        · subst hi
          rw [beq_dec,decide_eq_true rfl] at g
          cases g
          rw [if_pos rfl]; exact hQ ρ' A1' st' hle hS' hA1
        · rw [beq_dec,decide_eq_false hi] at g
          cases g
          rw [if_neg hi]; exact hQ ρ' A1' st' hle hS' hA1
  | loop c ih =>
    intro A H e A2 H2 h
    obtain ⟨m,hm⟩:=loop_rounds (P:=P) (s0:=s0) (show eloop ((cC meth hint c).f call) A H=.ok e A2 H2 from h)
    refine fun ρ A' st Q hS hA hQ=>?_
    let J:Nat→(Nat→V)→St→Prop:=fun n B s=>∃ (σ:Rn) (A1:En) (H1:Hp),ρ.le σ∧Sim s0 σ H1 s∧EnR σ A1 B∧Rounds P s0 ((cC meth hint c).f call) n A1 H1 e A2 H2
    have hJ:∀ B s,(∃ n,J n B s)→∃ n,J n B s∧∀ k,J k B s→n≤k:=fun B s h=>least h
    obtain ⟨M,hMu⟩:∃ M:(Nat→V)→St→Nat,∀ B s (h:∃ n,J n B s),M B s=Classical.choose (hJ B s h) :=
      ⟨fun B s=>@dite Nat (∃ n,J n B s) (Classical.propDecidable _) (fun h=>Classical.choose (hJ B s h)) fun _=>0,fun B s h=>dif_pos h⟩
    refine ⟨fun B s=>∃ n,J n B s,M,⟨m,ρ,A,H,Rn.rfl',hS,hA,hm⟩,?_⟩
    intro B s hI
    have hsp:=Classical.choose_spec (hJ B s hI)
    have hmu:=hMu B s hI
    rw [hmu]
    generalize Classical.choose (hJ B s hI)=n at hsp
    obtain ⟨⟨σ,A1,H1,hle,hS1,hA1,hR⟩,_⟩:=hsp
    cases hR with
    | stop _ _ _ _ _ hne h1=>exact ih h1 σ B s _ hS1 hA1 fun ρ' B' s' hle' hS' hB'=>VQ.seq_ne hne (hQ ρ' B' s' (fun i z e=>hle' _ _ (hle _ _ e)) hS' hB')
    | more k _ A3 _ H3 _ _ _ h1 ht =>
      refine ih h1 σ B s _ hS1 hA1 fun ρ' B' s' hle' hS' hB'=>?_
      have hx:J k B' s':=⟨ρ',A3,H3,fun i z e=>hle' _ _ (hle _ _ e),hS',hB',ht⟩
      have hI':∃ n,J n B' s':=⟨k,hx⟩
      refine ⟨hI',?_⟩
      rw [hMu B' s' hI']
      have:=(Classical.choose_spec (hJ B' s' hI')).2 k hx
      omega
  | exit id=>intro A H e A2 H2 h; cases h; exact fun ρ A' st Q hS hA hQ=>hQ ρ A' st Rn.rfl' hS hA
  | ret=>intro A H e A2 H2 h; cases h; exact fun ρ A' st Q hS hA hQ=>hQ ρ A' st Rn.rfl' hS hA
theorem res_R (hS:Sim s0 ρ H st) (hA:EnR ρ A A') {q:RV} (h:eres H A q=some r):(rvVal st A' q).1∧R ρ r (rvVal st A' q).2:=by
  cases q with
  | tmp t=>cases h; exact ⟨trivial,hA t⟩
  | cell t n=>exact load_R hS (show eload H n (A.at t)=some r from h) (hA t)
theorem resL_R (hS:Sim s0 ρ H st) (hA:EnR ρ A A'):∀ {rs:List RV} {l:List W},eresL H A rs=some l→rvAll st A' rs∧RL ρ l (rs.map fun q=>(rvVal st A' q).2)
  | [],l,h=>by cases h; exact ⟨trivial,.nil⟩
  | q :: rs,l,h=>by
    unfold eresL at h
    split at h
    · rename_i a b h1 h2
      cases h
      obtain ⟨k1,k2⟩:=res_R hS hA h1
      obtain ⟨k3,k4⟩:=resL_R hS hA h2
      exact ⟨⟨k1,k3⟩,.cons k2 k4⟩
    · cases h
theorem resV_R (hS:Sim s0 ρ H st) (hA:EnR ρ A A') {rs:List RV} (h:eresV H A rs=.ok r H2):H2=H∧rvAll st A' rs∧R ρ r (resV st A' rs):=by
  unfold eresV at h
  split at h
  · obtain ⟨h1,h2⟩:=of_ok h
    obtain ⟨k1,k2⟩:=res_R hS hA h1
    exact ⟨h2,⟨k1,trivial⟩,k2⟩
  · rename_i hne
    split at h
    · rename_i l hl
      cases h
      obtain ⟨k1,k2⟩:=resL_R hS hA hl
      refine ⟨rfl,k1,?_⟩
      unfold resV
      split
      · rename_i q
        exact absurd rfl (hne q)
      · exact k2.mkTup
    · cases h
theorem args_R:∀ {l:List W} {n:Nat} {A:En},∃ A2,eargs l n A=A2∧∀ t,t < 576→A2.at t=if n≤t∧t - n < l.length then (l[t - n]?).getD .und else A.at t
  | [],n,A=>⟨A,rfl,fun t _=>by simp⟩
  | a :: l,n,A=>by
    obtain ⟨A2,h1,h2⟩:=args_R (l:=l) (n:=n + 1) (A:=A.put n a)
    refine ⟨A2,?_,fun t ht=>?_⟩
    · show (cS n).f A a (fun A=>eargs l (Nat.succ n) A)=A2
      rw [cS_eq]; exact h1
    · rw [h2 t ht,at_put]
      by_cases e:t=n
      · subst e
        rw [if_neg (by omega),if_pos ⟨rfl,ht⟩,if_pos ⟨Nat.le_refl _,by simp⟩,Nat.sub_self]; rfl
      · by_cases hn:n≤t
        · have e2:t - n=(t - (n + 1)) + 1:=by omega
          by_cases hl:t - (n + 1) < l.length
          · rw [if_pos ⟨by omega,hl⟩,if_pos ⟨hn,by simp only [List.length_cons]; omega⟩,e2]; rfl
          · rw [if_neg (fun h=>hl h.2),if_neg (fun h=>e h.1),if_neg (fun h=>hl (by have:=h.2; simp only [List.length_cons] at this; omega))]
        · rw [if_neg (fun h=>by omega),if_neg (fun h=>e h.1),if_neg (fun h=>hn h.1)]
theorem args0_R {l:List W} {vs:List V} (h:RL ρ l vs):EnR ρ (eargs l 0 en0) (args0 vs):=fun t=>by
  obtain ⟨A2,h1,h2⟩:=args_R (l:=l) (n:=0) (A:=en0)
  rw [h1]
  by_cases ht:t < 576
  · rw [h2 t ht]
    by_cases hl:t < l.length
    · rw [if_pos ⟨Nat.zero_le _,by simpa using hl⟩]
      have e1:l[t - 0]?=some l[t]:=List.getElem?_eq_getElem hl
      obtain ⟨v,hv,hr⟩:=h.get e1
      have hv:vs[t]?=some v:=hv
      rw [e1,args0,List.getD_eq_getElem?_getD,hv]; exact hr
    · rw [if_neg (fun h=>hl (by simpa using h.2)),at_en0,if_pos ht]
      have hv:vs[t]?=none:=List.getElem?_eq_none (by rw [← h.len]; omega)
      rw [args0,List.getD_eq_getElem?_getD,hv]; exact .und
  · rw [at_hi (by omega)]; exact .any _
structure CfgOk (P:Program) (C:Cfg) (γ:Nat→Option Nat):Prop where
  meth:MethR P C.meth
  F:∀ f F,C.F f=some F→cFun P f=some F∧callable P f=true
  hk:∀ f g,C.hk f=some g→∀ s0:S0,s0.g=γ→CallR P s0 fun f' args H=>if f'=f then bi (g.1 args) (g.2 args H) (.bad []) else .bad []
theorem where_ok {f:FuncId} {x:Ro} (h:ewhere f x=.ok r H2):x=.ok r H2:=by
  cases x with
  | ok=>exact h
  | bad=>cases h
theorem call_R {C:Cfg} {γ:Nat→Option Nat} (hC:CfgOk P C γ) (s0:S0) (hg:s0.g=γ):∀ n,CallR P s0 (ecall C n)
  | 0,f,args,H,r,H2,h=>by cases h
  | n + 1,f,args,H,r,H2,h=>by
    have g:=where_ok (show ewhere f ((cF C f).f (ecall C n) args H)=.ok r H2 from h)
    have ih:=call_R hC s0 hg n
    have plain:(cG C f).f (ecall C n) args H=.ok r H2→callable P f=true∧∀ (ρ:Rn) (st:St) (vs:List V),Sim s0 ρ H st→RL ρ args vs→VCalls P f vs st fun v st'=>∃ ρ',ρ.le ρ'∧Sim s0 ρ' H2 st'∧R ρ' r v:=by
      intro g
      cases hF:C.F f with
      | none =>
        have:cG C f=⟨fun _ _ _=>.bad [7777]⟩:=by simp only [cG,hF]
        rw [this] at g; cases g
      | some F =>
        obtain ⟨hf,hca⟩:=hC.F f F hF
        have:cG C f=⟨fun call args H=>cond (Nat.ble (llen args) F.n) (efin F.res ((cC C.meth (C.hint f) F.body).f call (eargs args 0 en0) H)) (.bad [6006])⟩:=by simp only [cG,hF]
        rw [this] at g
        have g:cond (Nat.ble (llen args) F.n) (efin F.res ((cC C.meth (C.hint f) F.body).f (ecall C n) (eargs args 0 en0) H)) (.bad [6006])=Ro.ok r H2:=g
        refine ⟨hca,fun ρ st vs hS hl=>?_⟩
        cases hle:Nat.ble (llen args) F.n with
        | false=>rw [hle] at g; cases g
        | true =>
          rw [hle] at g
          have hn:=ble_t hle
          rw [llen_eq,hl.len] at hn
          have g:efin F.res ((cC C.meth (C.hint f) F.body).f (ecall C n) (eargs args 0 en0) H)=Ro.ok r H2:=g
          refine vcalls_enter hf hn fun hwf hok=>?_
          cases hx:(cC C.meth (C.hint f) F.body).f (ecall C n) (eargs args 0 en0) H with
          | bad c=>rw [hx] at g; cases g
          | ok e A2 H3 =>
            rw [hx] at g
            refine run_R ih hC.meth F.body hx ρ _ st _ hS (args0_R hl) fun ρ' A2' st' hle' hS' hA2=>?_
            have fin:eresV H3 A2 F.res=.ok r H2→vret F.res (fun v st'=>∃ ρ',ρ.le ρ'∧Sim s0 ρ' H2 st'∧R ρ' r v) A2' st':=fun h3=>by
              obtain ⟨rfl,k1,k2⟩:=resV_R hS' hA2 h3
              exact ⟨k1,_,st',Wk.refl _,hS'.lt.weak,ρ',hle',hS',k2⟩
            cases e with
            | normal=>exact fin g
            | ret=>exact fin g
            | exit i=>cases g
    cases hH:C.hk f with
    | some q =>
      have:cF C f=⟨fun call args H=>bi (q.1 args) (q.2 args H) ((cG C f).f call args H)⟩:=by simp only [cF,hH]
      rw [this] at g
      have g:bi (q.1 args) (q.2 args H) ((cG C f).f (ecall C n) args H)=Ro.ok r H2:=g
      cases hq:q.1 args with
      | false=>rw [hq] at g; exact plain g
      | true =>
        rw [hq] at g
        exact hC.hk f q hH s0 hg f args H r H2 (by show (if f=f then bi (q.1 args) (q.2 args H) (.bad []) else .bad [])=_; rw [if_pos rfl,hq]; exact g)
    | none =>
      have hG:cF C f=cG C f:=by simp only [cF,hH]
      rw [hG] at g
      exact plain g
theorem closed {C:Cfg} (hC:CfgOk P C fun _=>none) {f:FuncId} {n:Nat} {H2:Hp} {v:Value} (h:ecall C n f [] hp0=.ok r H2) (hv:∀ ρ d,R ρ r d→d=.sc v) (st:St):VCalls P f [] st fun d s=>d=.sc v∧st=s:=by
  intro w0 G w us hw hl hr
  have hl0:st.Lt:=⟨fun b cs hb=>(hw.box b cs hb).1,fun g m hg=>(hw.own g m hg).1⟩
  have hget:∀ i,hp0.get i=.no:=fun i=>by simp only [Hp.get,hp0,get6,pj_rep8]
  have hS:Sim ⟨st,fun _=>none⟩ (fun _=>none) hp0 st:=⟨fun _ _ h=>h,fun _ _ h=>h,Nat.le_refl _,hl0,hl0,fun i b h=>(by cases h),fun i j b h=>(by cases h),fun i b h=>(by cases h),by show (0:Nat)≤_; omega,fun i _ _=>hget i,fun i c h=>by cases h⟩
  refine (((call_R hC ⟨st,fun _=>none⟩ rfl n f [] hp0 r H2 h).2 _ st [] hS .nil) w0 G w us hw hl hr).mono fun e w' ⟨u,d,st',G',h1,⟨ρ',_,hS',hR⟩,h3,h4,h5⟩=>?_
  rw [hv ρ' d hR] at h3
  exact ⟨u,.sc v,st,G',h1,⟨rfl,rfl⟩,h3,h4,h5.weak ⟨fun b cs hb=>⟨hS'.box0 b cs hb,hl0.box b cs hb⟩,fun g m hg=>⟨hS'.own0 g m hg,hl0.own g m hg⟩,hS'.sz0⟩⟩
end
end Ev
end
section
namespace Ev
open Go
theorem hp0_get (i n:Nat):Hp.get ⟨hp0.1,n⟩ i=.no:=by simp only [Hp.get,hp0,get6,pj_rep8]
theorem Sim.start {st:St} (hl:st.Lt) {γ:Nat→Option Nat} {n:Nat} (hn:n≤262144) (hγ:∀ i c,γ i=some c→i < n):Sim ⟨st,γ⟩ γ ⟨hp0.1,n⟩ st :=
  ⟨fun _ _ h=>h,fun _ _ h=>h,Nat.le_refl _,hl,hl,fun i b _=>by rw [hp0_get]; trivial,fun i j b _ _ _ h0=>absurd (by rw [hp0_get]; rfl) h0,hγ,hn,fun i _ _=>hp0_get i n,fun _ _ h=>h⟩
section
variable {s0:S0} {st st':St} {ρ:Rn} {H:Hp}
theorem Sim.turn (h:Sim s0 ρ H st) {i b:Nat} {y:Bx} {cs:List V} (hi:ρ i=some b) (h2:(H.get i).kd=2) (hk:y.kd=2) (hbx:∀ c ds,c ≠ b→st.box c=some ds→st'.box c=some ds)
    (how:∀ g m,st.own g=some m→st'.own g=some m) (hsz:st.sz≤st'.sz) (hlt:st'.Lt) (hcs:st'.box b=some cs) (hx:RB ρ y cs):Sim s0 ρ (H.up i y) st':=by
  have hin:=h.nx i b hi
  have htop:=h.top
  have hg:∀ j,j < 262144→(H.up i y).get j=if j=i then y else H.get j:=fun j hj=>get_up (by omega) hj
  obtain ⟨hn0,hlow,ds,hds,_⟩:=(BxR.box h2).1 (h.bx i b hi)
  have hkd:∀ j c,ρ j=some c→((H.up i y).get j).kd=(H.get j).kd:=fun j c hj=>by
    have:=h.nx j c hj
    rw [hg j (by omega)]
    by_cases e:j=i
    · subst e; rw [if_pos rfl,hk,h2]
    · rw [if_neg e]
  refine ⟨fun c es hc=>?_,fun g m hm=>how g m (h.own0 g m hm),Nat.le_trans h.sz0 hsz,h.lt0,hlt,fun j c hj=>?_,fun j k c hj hk' e0 e1=>?_,h.nx,h.top,fun j h1 h2=>by rw [hg j h2,if_neg (by have h1:H.2≤j:=h1; omega)]; exact h.un j h1 h2,h.gh⟩
  · have hne:c ≠ b:=fun e=>by subst e; rw [hn0] at hc; cases hc
    exact hbx c es hne (h.box0 c es hc)
  · have hjn:=h.nx j c hj
    rw [hg j (by omega)]
    by_cases e:j=i
    · subst e
      rw [hi] at hj; cases hj
      rw [if_pos rfl]
      exact (BxR.box hk).2 ⟨hn0,by omega,cs,hcs,hx⟩
    · rw [if_neg e]
      have hb:=h.bx j c hj
      refine hb.step (fun _ _ q=>q) hsz (fun q=>?_) (fun q=>?_)
      · cases hx2:H.get j with
        | row m =>
          rw [hx2] at hb
          rw [how c m hb.2.2,hb.2.2]
        | no=>rw [hx2] at q; cases q
        | cells=>rw [hx2] at q; cases q
        | mp=>rw [hx2] at q; cases q
        | it=>rw [hx2] at q; cases q
        | si=>rw [hx2] at q; cases q
      · obtain ⟨_,_,es,hes,_⟩:=(BxR.box q).1 hb
        rw [hes,hbx c es (fun ec=>by
          subst ec
          exact e (h.inj j i c hj hi (by rw [q,h2]) (by omega))) hes]
  · rw [hkd j c hj] at e0 e1
    rw [hkd k c hk'] at e0
    exact h.inj j k c hj hk' e0 e1
end
end Ev
end
section
namespace Ev
open Go Go.Proofs Go.Proofs.YtnjmddlgpcnpeaaGreat
noncomputable def lk (f:Nat) (l:List (Nat × FC)):Option FC:=List.rec (motive:=fun _=>Option FC) none (fun p _ r=>bi (Nat.beq f p.1) (some p.2) r) l
theorem lk_mem:∀ {l:List (Nat × FC)} {f:Nat} {F:FC},lk f l=some F→(f,F) ∈ l
  | [],_,_,h=>by cases h
  | p :: l,f,F,h=>by
    have h:bi (Nat.beq f p.1) (some p.2) (lk f l)=some F:=h
    cases hb:Nat.beq f p.1 with
    | true =>
      rw [hb] at h
      have e:=Nat.eq_of_beq_eq_true hb
      cases h
      exact List.mem_cons.2 (.inl (by rw [e]))
    | false=>rw [hb] at h; exact List.mem_cons.2 (.inr (lk_mem h))
def Tab:List (Nat × FC):=[(3,Vc3),(4,Vc4),(5,Vc5),(6,Vc6),(7,Vc7),(8,Vc8),(9,Vc9),(10,Vc10),(11,Vc11),(12,Vc12),(13,Vc13),(15,Vc15),(17,Vc17),(18,Vc18),(19,Vc19),(20,Vc20),(21,Vc21),(23,Vc23),(25,Vc25),(26,Vc26),(27,Vc27),(28,Vc28),(29,Vc29),(31,Vc31),(32,Vc32),(33,Vc33),(34,Vc34),(35,Vc35),(36,Vc36),(37,Vc37),(38,Vc38),(39,Vc39),(40,Vc40),(41,Vc41),(42,Vc42),(43,Vc43),(44,Vc44),(47,Vc47),(48,Vc48),(49,Vc49),(50,Vc50),(56,Vc56),(57,Vc57),(58,Vc58),(59,Vc59),(60,Vc60),(61,Vc61),(62,Vc62),(63,Vc63),(64,Vc64),(65,Vc65),(66,Vc66),(67,Vc67),(68,Vc68),(69,Vc69),(70,Vc70),(71,Vc71),(72,Vc72),(73,Vc73),(74,Vc74),(75,Vc75),(76,Vc76),(77,Vc77),(78,Vc78),(79,Vc79),(80,Vc80),(81,Vc81),(82,Vc82),(83,Vc83),(84,Vc84),(86,Vc86),(87,Vc87),(88,Vc88),(89,Vc89),(90,Vc90),(91,Vc91),(92,Vc92),(93,Vc93),(94,Vc94),(95,Vc95),(96,Vc96),(97,Vc97),(98,Vc98),(99,Vc99),(100,Vc100),(102,Vc102),(105,Vc105),(106,Vc106),(107,Vc107),(108,Vc108),(110,Vc110),(111,Vc111),(112,Vc112),(113,Vc113),(114,Vc114),(116,Vc116),(121,Vc121),(122,Vc122),(123,Vc123),(124,Vc124),(125,Vc125),(126,Vc126),(127,Vc127),(128,Vc128),(129,Vc129),(130,Vc130),(131,Vc131),(132,Vc132),(133,Vc133),(134,Vc134),(135,Vc135),(136,Vc136),(137,Vc137),(138,Vc138),(139,Vc139),(140,Vc140),(141,Vc141),(142,Vc142),(143,Vc143),(144,Vc144),(145,Vc145),(146,Vc146),(147,Vc147),(148,Vc148),(149,Vc149),(150,Vc150),(151,Vc151),(153,Vc153),(154,Vc154),(155,Vc155),(156,Vc156),(157,Vc157),(158,Vc158),(159,Vc159),(160,Vc160),(161,Vc161),(162,Vc162),(165,Vc165),(166,Vc166),(167,Vc167),(168,Vc168),(169,Vc169),(170,Vc170),(171,Vc171),(172,Vc172),(173,Vc173),(174,Vc174),(177,Vc177),(178,Vc178),(179,Vc179),(184,Vc184),(185,Vc185),(186,Vc186),(187,Vc187),(188,Vc188),(189,Vc189),(190,Vc190),(191,Vc191),(192,Vc192),(194,Vc194),(195,Vc195),(196,Vc196),(197,Vc197),(198,Vc198),(199,Vc199),(201,Vc201),(202,Vc202),(203,Vc203),(204,Vc204),(205,Vc205),(215,Vc215),(216,Vc216),(217,Vc217),(218,Vc218),(219,Vc219),(220,Vc220),(221,Vc221),(225,Vc225),(226,Vc226),(227,Vc227),(228,Vc228),(229,Vc229),(230,Vc230),(231,Vc231),(232,Vc232),(233,Vc233),(234,Vc234),(235,Vc235),(236,Vc236),(237,Vc237),(238,Vc238),(239,Vc239),(240,Vc240),(241,Vc241),(243,Vc243),(244,Vc244),(245,Vc245),(246,Vc246),(247,Vc247),(248,Vc248),(249,Vc249),(250,Vc250),(251,Vc251),(256,Vc256),(258,Vc258),(260,Vc260),(261,Vc261),(262,Vc262),(264,Vc264),(265,Vc265),(266,Vc266),(268,Vc268),(271,Vc271),(272,Vc272),(273,Vc273),(274,Vc274),(276,Vc276),(278,Vc278),(279,Vc279),(280,Vc280),(281,Vc281),(282,Vc282),(283,Vc283),(284,Vc284),(291,Vc291),(292,Vc292),(293,Vc293),(294,Vc294),(295,Vc295),(296,Vc296),(297,Vc297),(298,Vc298),(299,Vc299),(300,Vc300),(301,Vc301),(303,Vc303),(304,Vc304),(305,Vc305),(309,Vc309),(310,Vc310),(313,Vc313),(314,Vc314),(315,Vc315),(323,Vc323),(324,Vc324),(326,Vc326),(329,Vc329),(330,Vc330),(331,Vc331),(332,Vc332),(333,Vc333),(337,Vc337),(338,Vc338),(339,Vc339),(341,Vc341),(342,Vc342),(345,Vc345),(346,Vc346),(347,Vc347),(348,Vc348),(350,Vc350),(351,Vc351),(352,Vc352),(353,Vc353),(354,Vc354),(355,Vc355),(356,Vc356),(357,Vc357),(379,Vc379),(380,Vc380),(381,Vc381),(383,Vc383),(384,Vc384),(385,Vc385),(386,Vc386),(388,Vc388),(389,Vc389),(390,Vc390),(391,Vc391),(392,Vc392),(394,Vc394),(395,Vc395),(396,Vc396),(404,Vc404),(405,Vc405),(408,Vc408),(409,Vc409),(410,Vc410),(411,Vc411),(412,Vc412),(413,Vc413),(414,Vc414),(417,Vc417),(418,Vc418),(419,Vc419),(420,Vc420),(421,Vc421)]
set_option maxRecDepth 100000 in
theorem tab_f:∀ p ∈ Tab,cFun Tryz.prog p.1=some p.2 :=
  List.forall_mem_cons.2 ⟨vc3,List.forall_mem_cons.2 ⟨vc4,List.forall_mem_cons.2 ⟨vc5,List.forall_mem_cons.2 ⟨vc6,List.forall_mem_cons.2 ⟨vc7,List.forall_mem_cons.2 ⟨vc8,List.forall_mem_cons.2 ⟨vc9,List.forall_mem_cons.2 ⟨vc10,List.forall_mem_cons.2 ⟨vc11,List.forall_mem_cons.2 ⟨vc12,List.forall_mem_cons.2 ⟨vc13,List.forall_mem_cons.2 ⟨vc15,List.forall_mem_cons.2 ⟨vc17,List.forall_mem_cons.2 ⟨vc18,List.forall_mem_cons.2 ⟨vc19,List.forall_mem_cons.2 ⟨vc20,List.forall_mem_cons.2 ⟨vc21,List.forall_mem_cons.2 ⟨vc23,List.forall_mem_cons.2 ⟨vc25,List.forall_mem_cons.2 ⟨vc26,List.forall_mem_cons.2 ⟨vc27,List.forall_mem_cons.2 ⟨vc28,List.forall_mem_cons.2 ⟨vc29,List.forall_mem_cons.2 ⟨vc31,List.forall_mem_cons.2 ⟨vc32,List.forall_mem_cons.2 ⟨vc33,List.forall_mem_cons.2 ⟨vc34,List.forall_mem_cons.2 ⟨vc35,List.forall_mem_cons.2 ⟨vc36,List.forall_mem_cons.2 ⟨vc37,List.forall_mem_cons.2 ⟨vc38,List.forall_mem_cons.2 ⟨vc39,List.forall_mem_cons.2 ⟨vc40,List.forall_mem_cons.2 ⟨vc41,List.forall_mem_cons.2 ⟨vc42,List.forall_mem_cons.2 ⟨vc43,List.forall_mem_cons.2 ⟨vc44,List.forall_mem_cons.2 ⟨vc47,List.forall_mem_cons.2 ⟨vc48,List.forall_mem_cons.2 ⟨vc49,List.forall_mem_cons.2 ⟨vc50,List.forall_mem_cons.2 ⟨vc56,List.forall_mem_cons.2 ⟨vc57,List.forall_mem_cons.2 ⟨vc58,List.forall_mem_cons.2 ⟨vc59,List.forall_mem_cons.2 ⟨vc60,List.forall_mem_cons.2 ⟨vc61,List.forall_mem_cons.2 ⟨vc62,List.forall_mem_cons.2 ⟨vc63,List.forall_mem_cons.2 ⟨vc64,List.forall_mem_cons.2 ⟨vc65,List.forall_mem_cons.2 ⟨vc66,List.forall_mem_cons.2 ⟨vc67,List.forall_mem_cons.2 ⟨vc68,List.forall_mem_cons.2 ⟨vc69,List.forall_mem_cons.2 ⟨vc70,List.forall_mem_cons.2 ⟨vc71,List.forall_mem_cons.2 ⟨vc72,List.forall_mem_cons.2 ⟨vc73,List.forall_mem_cons.2 ⟨vc74,List.forall_mem_cons.2 ⟨vc75,List.forall_mem_cons.2 ⟨vc76,List.forall_mem_cons.2 ⟨vc77,List.forall_mem_cons.2 ⟨vc78,List.forall_mem_cons.2 ⟨vc79,List.forall_mem_cons.2 ⟨vc80,List.forall_mem_cons.2 ⟨vc81,List.forall_mem_cons.2 ⟨vc82,List.forall_mem_cons.2 ⟨vc83,List.forall_mem_cons.2 ⟨vc84,List.forall_mem_cons.2 ⟨vc86,List.forall_mem_cons.2 ⟨vc87,List.forall_mem_cons.2 ⟨vc88,List.forall_mem_cons.2 ⟨vc89,List.forall_mem_cons.2 ⟨vc90,List.forall_mem_cons.2 ⟨vc91,List.forall_mem_cons.2 ⟨vc92,List.forall_mem_cons.2 ⟨vc93,List.forall_mem_cons.2 ⟨vc94,List.forall_mem_cons.2 ⟨vc95,List.forall_mem_cons.2 ⟨vc96,List.forall_mem_cons.2 ⟨vc97,List.forall_mem_cons.2 ⟨vc98,List.forall_mem_cons.2 ⟨vc99,List.forall_mem_cons.2 ⟨vc100,List.forall_mem_cons.2 ⟨vc102,List.forall_mem_cons.2 ⟨vc105,List.forall_mem_cons.2 ⟨vc106,List.forall_mem_cons.2 ⟨vc107,List.forall_mem_cons.2 ⟨vc108,List.forall_mem_cons.2 ⟨vc110,List.forall_mem_cons.2 ⟨vc111,List.forall_mem_cons.2 ⟨vc112,List.forall_mem_cons.2 ⟨vc113,List.forall_mem_cons.2 ⟨vc114,List.forall_mem_cons.2 ⟨vc116,List.forall_mem_cons.2 ⟨vc121,List.forall_mem_cons.2 ⟨vc122,List.forall_mem_cons.2 ⟨vc123,List.forall_mem_cons.2 ⟨vc124,List.forall_mem_cons.2 ⟨vc125,List.forall_mem_cons.2 ⟨vc126,List.forall_mem_cons.2 ⟨vc127,List.forall_mem_cons.2 ⟨vc128,List.forall_mem_cons.2 ⟨vc129,List.forall_mem_cons.2 ⟨vc130,List.forall_mem_cons.2 ⟨vc131,List.forall_mem_cons.2 ⟨vc132,List.forall_mem_cons.2 ⟨vc133,List.forall_mem_cons.2 ⟨vc134,List.forall_mem_cons.2 ⟨vc135,List.forall_mem_cons.2 ⟨vc136,List.forall_mem_cons.2 ⟨vc137,List.forall_mem_cons.2 ⟨vc138,List.forall_mem_cons.2 ⟨vc139,List.forall_mem_cons.2 ⟨vc140,List.forall_mem_cons.2 ⟨vc141,List.forall_mem_cons.2 ⟨vc142,List.forall_mem_cons.2 ⟨vc143,List.forall_mem_cons.2 ⟨vc144,List.forall_mem_cons.2 ⟨vc145,List.forall_mem_cons.2 ⟨vc146,List.forall_mem_cons.2 ⟨vc147,List.forall_mem_cons.2 ⟨vc148,List.forall_mem_cons.2 ⟨vc149,List.forall_mem_cons.2 ⟨vc150,List.forall_mem_cons.2 ⟨vc151,List.forall_mem_cons.2 ⟨vc153,List.forall_mem_cons.2 ⟨vc154,List.forall_mem_cons.2 ⟨vc155,List.forall_mem_cons.2 ⟨vc156,List.forall_mem_cons.2 ⟨vc157,List.forall_mem_cons.2 ⟨vc158,List.forall_mem_cons.2 ⟨vc159,List.forall_mem_cons.2 ⟨vc160,List.forall_mem_cons.2 ⟨vc161,List.forall_mem_cons.2 ⟨vc162,List.forall_mem_cons.2 ⟨vc165,List.forall_mem_cons.2 ⟨vc166,List.forall_mem_cons.2 ⟨vc167,List.forall_mem_cons.2 ⟨vc168,List.forall_mem_cons.2 ⟨vc169,List.forall_mem_cons.2 ⟨vc170,List.forall_mem_cons.2 ⟨vc171,List.forall_mem_cons.2 ⟨vc172,List.forall_mem_cons.2 ⟨vc173,List.forall_mem_cons.2 ⟨vc174,List.forall_mem_cons.2 ⟨vc177,List.forall_mem_cons.2 ⟨vc178,List.forall_mem_cons.2 ⟨vc179,List.forall_mem_cons.2 ⟨vc184,List.forall_mem_cons.2 ⟨vc185,List.forall_mem_cons.2 ⟨vc186,List.forall_mem_cons.2 ⟨vc187,List.forall_mem_cons.2 ⟨vc188,List.forall_mem_cons.2 ⟨vc189,List.forall_mem_cons.2 ⟨vc190,List.forall_mem_cons.2 ⟨vc191,List.forall_mem_cons.2 ⟨vc192,List.forall_mem_cons.2 ⟨vc194,List.forall_mem_cons.2 ⟨vc195,List.forall_mem_cons.2 ⟨vc196,List.forall_mem_cons.2 ⟨vc197,List.forall_mem_cons.2 ⟨vc198,List.forall_mem_cons.2 ⟨vc199,List.forall_mem_cons.2 ⟨vc201,List.forall_mem_cons.2 ⟨vc202,List.forall_mem_cons.2 ⟨vc203,List.forall_mem_cons.2 ⟨vc204,List.forall_mem_cons.2 ⟨vc205,List.forall_mem_cons.2 ⟨vc215,List.forall_mem_cons.2 ⟨vc216,List.forall_mem_cons.2 ⟨vc217,List.forall_mem_cons.2 ⟨vc218,List.forall_mem_cons.2 ⟨vc219,List.forall_mem_cons.2 ⟨vc220,List.forall_mem_cons.2 ⟨vc221,List.forall_mem_cons.2 ⟨vc225,List.forall_mem_cons.2 ⟨vc226,List.forall_mem_cons.2 ⟨vc227,List.forall_mem_cons.2 ⟨vc228,List.forall_mem_cons.2 ⟨vc229,List.forall_mem_cons.2 ⟨vc230,List.forall_mem_cons.2 ⟨vc231,List.forall_mem_cons.2 ⟨vc232,List.forall_mem_cons.2 ⟨vc233,List.forall_mem_cons.2 ⟨vc234,List.forall_mem_cons.2 ⟨vc235,List.forall_mem_cons.2 ⟨vc236,List.forall_mem_cons.2 ⟨vc237,List.forall_mem_cons.2 ⟨vc238,List.forall_mem_cons.2 ⟨vc239,List.forall_mem_cons.2 ⟨vc240,List.forall_mem_cons.2 ⟨vc241,List.forall_mem_cons.2 ⟨vc243,List.forall_mem_cons.2 ⟨vc244,List.forall_mem_cons.2 ⟨vc245,List.forall_mem_cons.2 ⟨vc246,List.forall_mem_cons.2 ⟨vc247,List.forall_mem_cons.2 ⟨vc248,List.forall_mem_cons.2 ⟨vc249,List.forall_mem_cons.2 ⟨vc250,List.forall_mem_cons.2 ⟨vc251,List.forall_mem_cons.2 ⟨vc256,List.forall_mem_cons.2 ⟨vc258,List.forall_mem_cons.2 ⟨vc260,List.forall_mem_cons.2 ⟨vc261,List.forall_mem_cons.2 ⟨vc262,List.forall_mem_cons.2 ⟨vc264,List.forall_mem_cons.2 ⟨vc265,List.forall_mem_cons.2 ⟨vc266,List.forall_mem_cons.2 ⟨vc268,List.forall_mem_cons.2 ⟨vc271,List.forall_mem_cons.2 ⟨vc272,List.forall_mem_cons.2 ⟨vc273,List.forall_mem_cons.2 ⟨vc274,List.forall_mem_cons.2 ⟨vc276,List.forall_mem_cons.2 ⟨vc278,List.forall_mem_cons.2 ⟨vc279,List.forall_mem_cons.2 ⟨vc280,List.forall_mem_cons.2 ⟨vc281,List.forall_mem_cons.2 ⟨vc282,List.forall_mem_cons.2 ⟨vc283,List.forall_mem_cons.2 ⟨vc284,List.forall_mem_cons.2 ⟨vc291,List.forall_mem_cons.2 ⟨vc292,List.forall_mem_cons.2 ⟨vc293,List.forall_mem_cons.2 ⟨vc294,List.forall_mem_cons.2 ⟨vc295,List.forall_mem_cons.2 ⟨vc296,List.forall_mem_cons.2 ⟨vc297,List.forall_mem_cons.2 ⟨vc298,List.forall_mem_cons.2 ⟨vc299,List.forall_mem_cons.2 ⟨vc300,List.forall_mem_cons.2 ⟨vc301,List.forall_mem_cons.2 ⟨vc303,List.forall_mem_cons.2 ⟨vc304,List.forall_mem_cons.2 ⟨vc305,List.forall_mem_cons.2 ⟨vc309,List.forall_mem_cons.2 ⟨vc310,List.forall_mem_cons.2 ⟨vc313,List.forall_mem_cons.2 ⟨vc314,List.forall_mem_cons.2 ⟨vc315,List.forall_mem_cons.2 ⟨vc323,List.forall_mem_cons.2 ⟨vc324,List.forall_mem_cons.2 ⟨vc326,List.forall_mem_cons.2 ⟨vc329,List.forall_mem_cons.2 ⟨vc330,List.forall_mem_cons.2 ⟨vc331,List.forall_mem_cons.2 ⟨vc332,List.forall_mem_cons.2 ⟨vc333,List.forall_mem_cons.2 ⟨vc337,List.forall_mem_cons.2 ⟨vc338,List.forall_mem_cons.2 ⟨vc339,List.forall_mem_cons.2 ⟨vc341,List.forall_mem_cons.2 ⟨vc342,List.forall_mem_cons.2 ⟨vc345,List.forall_mem_cons.2 ⟨vc346,List.forall_mem_cons.2 ⟨vc347,List.forall_mem_cons.2 ⟨vc348,List.forall_mem_cons.2 ⟨vc350,List.forall_mem_cons.2 ⟨vc351,List.forall_mem_cons.2 ⟨vc352,List.forall_mem_cons.2 ⟨vc353,List.forall_mem_cons.2 ⟨vc354,List.forall_mem_cons.2 ⟨vc355,List.forall_mem_cons.2 ⟨vc356,List.forall_mem_cons.2 ⟨vc357,List.forall_mem_cons.2 ⟨vc379,List.forall_mem_cons.2 ⟨vc380,List.forall_mem_cons.2 ⟨vc381,List.forall_mem_cons.2 ⟨vc383,List.forall_mem_cons.2 ⟨vc384,List.forall_mem_cons.2 ⟨vc385,List.forall_mem_cons.2 ⟨vc386,List.forall_mem_cons.2 ⟨vc388,List.forall_mem_cons.2 ⟨vc389,List.forall_mem_cons.2 ⟨vc390,List.forall_mem_cons.2 ⟨vc391,List.forall_mem_cons.2 ⟨vc392,List.forall_mem_cons.2 ⟨vc394,List.forall_mem_cons.2 ⟨vc395,List.forall_mem_cons.2 ⟨vc396,List.forall_mem_cons.2 ⟨vc404,List.forall_mem_cons.2 ⟨vc405,List.forall_mem_cons.2 ⟨vc408,List.forall_mem_cons.2 ⟨vc409,List.forall_mem_cons.2 ⟨vc410,List.forall_mem_cons.2 ⟨vc411,List.forall_mem_cons.2 ⟨vc412,List.forall_mem_cons.2 ⟨vc413,List.forall_mem_cons.2 ⟨vc414,List.forall_mem_cons.2 ⟨vc417,List.forall_mem_cons.2 ⟨vc418,List.forall_mem_cons.2 ⟨vc419,List.forall_mem_cons.2 ⟨vc420,List.forall_mem_cons.2 ⟨vc421,List.forall_mem_nil _⟩⟩⟩⟩⟩⟩⟩⟩⟩⟩⟩⟩⟩⟩⟩⟩⟩⟩⟩⟩⟩⟩⟩⟩⟩⟩⟩⟩⟩⟩⟩⟩⟩⟩⟩⟩⟩⟩⟩⟩⟩⟩⟩⟩⟩⟩⟩⟩⟩⟩⟩⟩⟩⟩⟩⟩⟩⟩⟩⟩⟩⟩⟩⟩⟩⟩⟩⟩⟩⟩⟩⟩⟩⟩⟩⟩⟩⟩⟩⟩⟩⟩⟩⟩⟩⟩⟩⟩⟩⟩⟩⟩⟩⟩⟩⟩⟩⟩⟩⟩⟩⟩⟩⟩⟩⟩⟩⟩⟩⟩⟩⟩⟩⟩⟩⟩⟩⟩⟩⟩⟩⟩⟩⟩⟩⟩⟩⟩⟩⟩⟩⟩⟩⟩⟩⟩⟩⟩⟩⟩⟩⟩⟩⟩⟩⟩⟩⟩⟩⟩⟩⟩⟩⟩⟩⟩⟩⟩⟩⟩⟩⟩⟩⟩⟩⟩⟩⟩⟩⟩⟩⟩⟩⟩⟩⟩⟩⟩⟩⟩⟩⟩⟩⟩⟩⟩⟩⟩⟩⟩⟩⟩⟩⟩⟩⟩⟩⟩⟩⟩⟩⟩⟩⟩⟩⟩⟩⟩⟩⟩⟩⟩⟩⟩⟩⟩⟩⟩⟩⟩⟩⟩⟩⟩⟩⟩⟩⟩⟩⟩⟩⟩⟩⟩⟩⟩⟩⟩⟩⟩⟩⟩⟩⟩⟩⟩⟩⟩⟩⟩⟩⟩⟩⟩⟩⟩⟩⟩⟩⟩⟩⟩⟩⟩⟩⟩⟩⟩⟩⟩⟩⟩⟩⟩⟩⟩⟩⟩⟩⟩⟩⟩⟩⟩⟩⟩⟩⟩⟩⟩⟩⟩⟩⟩⟩⟩⟩
def TabK:List Nat:=[3,4,5,6,7,8,9,10,11,12,13,15,17,18,19,20,21,23,25,26,27,28,29,31,32,33,34,35,36,37,38,39,40,41,42,43,44,47,48,49,50,56,57,58,59,60,61,62,63,64,65,66,67,68,69,70,71,72,73,74,75,76,77,78,79,80,81,82,83,84,86,87,88,89,90,91,92,93,94,95,96,97,98,99,100,102,105,106,107,108,110,111,112,113,114,116,121,122,123,124,125,126,127,128,129,130,131,132,133,134,135,136,137,138,139,140,141,142,143,144,145,146,147,148,149,150,151,153,154,155,156,157,158,159,160,161,162,165,166,167,168,169,170,171,172,173,174,177,178,179,184,185,186,187,188,189,190,191,192,194,195,196,197,198,199,201,202,203,204,205,215,216,217,218,219,220,221,225,226,227,228,229,230,231,232,233,234,235,236,237,238,239,240,241,243,244,245,246,247,248,249,250,251,256,258,260,261,262,264,265,266,268,271,272,273,274,276,278,279,280,281,282,283,284,291,292,293,294,295,296,297,298,299,300,301,303,304,305,309,310,313,314,315,323,324,326,329,330,331,332,333,337,338,339,341,342,345,346,347,348,350,351,352,353,354,355,356,357,379,380,381,383,384,385,386,388,389,390,391,392,394,395,396,404,405,408,409,410,411,412,413,414,417,418,419,420,421]
set_option maxRecDepth 100000 in
theorem tab_k:Tab.map Prod.fst=TabK:=by kernel_rfl
theorem tab_c:TabK.all (fun p=>callable Tryz.prog p)=true:=by kernel_rfl
theorem tab_c2:∀ k ∈ TabK,callable Tryz.prog k=true:=List.all_eq_true.1 tab_c
theorem tab_ok {f:Nat} {F:FC} (h:lk f Tab=some F):cFun Tryz.prog f=some F∧callable Tryz.prog f=true :=
  by
  have hm:=lk_mem (l:=Tab) (f:=f) (F:=F) h
  have h1:=tab_f (f,F) hm
  have h2:=List.mem_map_of_mem (f:=Prod.fst) hm
  rw [tab_k] at h2
  exact ⟨h1,tab_c2 f h2⟩
end Ev
end
section
namespace Ev
open Go Go.Proofs Go.Proofs.YtnjmddlgpcnpeaaGreat
noncomputable def hfeed2 (i:Nat) (H:Hp):Bx→Ro
  | .cells none [w0,w1,.sl .nil [],.int .i64 (.ofNat 0),.int .i64 (.ofNat m),w5,w6,w7,w8,w9,w10,w11]=>bi (Nat.ble m 1000) (H.put i (.cells none [w0,w1,.any,.sy .i64 2 0 32 0 [0],.int .i64 (.ofNat m),w5,w6,w7,w8,w9,w10,w11]) fun H=>.ok (.tup [.sl .no [],.sy .i64 2 0 32 0 [0]]) H) (.bad [])
  | _=>.bad []
noncomputable def hfeed:List W→Hp→Ro
  | [.ptr i 2,.opq 1],H=>hfeed2 i H (H.get i)
  | _,_=>.bad []
def isOpq:List W→Bool
  | [_,.opq _]=>true
  | _=>false
noncomputable def wF (f:FuncId):Option FC:=lk f Tab
noncomputable def whint (f d:Nat):Bool:=bi (Nat.beq f 62) (Nat.beq d 36) (bi (Nat.beq f 100) (Nat.beq d 10) false)
noncomputable def lcfg:Cfg:=⟨methOf Tryz.prog,wF,whint,fun _=>none⟩
def wmW (t n:Nat):W:=.agg ([.int .i64 (.ofNat t),.int .u32 (.ofNat n),.int .u32 0,.int .u32 0,.int .u32 0,.int .u32 0,.int .u32 0,.int .u32 0,.int .u32 0,.int .u32 0,.str [],.str [],.str []])
def startB:List Int:=[0,156,0,1,26,43,60,77,0,1,0,0,1,0,0,0] ++ List.replicate 140 0
def stopB:List Int:=[0,16,0,1,26,43,60,77,0,3,0,0,2,0,0,0]
noncomputable def hbuild:List W→Hp→Ro
  | [w],H=>bi (wsame 3 w (wmW 1 256)) (.ok (.tup [.sl .no (byW startB),.bool true]) H) (bi (wsame 3 w (wmW 3 2)) (.ok (.tup [.sl .no (byW stopB),.bool true]) H) (.bad []))
  | _,_=>.bad []
def hlives:List W→Hp→Ro
  | [],H=>.ok (.bool true) H
  | _,_=>.bad []
noncomputable def whk (f:FuncId):Option ((List W→Bool) × (List W→Hp→Ro)):=bi (Nat.beq f 106) (some (isOpq,hfeed)) (bi (Nat.beq f 13) (some (fun _=>true,hlives)) (bi (Nat.beq f 7) (some (fun _=>true,hbuild)) none))
noncomputable def wcfg:Cfg:=⟨methOf Tryz.prog,wF,whint,whk⟩
def hd3:VC→VC
  | .seq x (.seq y (.seq a _))=>.seq x (.seq y a)
  | _=>.skip
def tl3:VC→VC
  | .seq _ (.seq _ (.seq _ r))=>r
  | _=>.skip
noncomputable section
def wbody:VC:=Vc3.body
def wres:List RV:=Vc3.res
def wA (v:W):En:=[4,5,6,7,19,20,21,22,23,24,25,26,27,28,29,30,31,32,33,34,35,36].foldl (fun A t=>A.put t .any) (eargs [.opq 1,v] 0 en0)
def wrun (v:W):Rs:=(cC wcfg.meth (whint 3) (tl3 wbody)).f (ecall wcfg 1000) (wA v) ⟨hp0.1,4⟩
def wokR:Ro→Bool
  | .ok (.bool b) _=>b
  | _=>false
def wok (r:Rs):Bool:=match r with
  | .ok .ret A H=>wokR (eresV H A wres)
  | _=>false
end
end Ev
end
end Go.Proofs.YtnjmddlgpcnpeaaGreat
