/- Steps of the proof, joined: E10. -/
import Derived.Test.YtifeoamomonbjaaGreatDoorZwa
import Derived.Test.YtifeoamomonbjaaGreatDoorVc
namespace Go.Proofs.YtifeoamomonbjaaGreatDoor
open Go
attribute [local go_sem] run_skip run_reg run_seq run_blk run_exit run_ret run_cond if_true if_false at_code_n at_code_x at_code_r at_blk_n at_blk_x at_blk_r at_rnd_n at_rnd_x at_rnd_r at_fin_n at_fin_r ops_nil ops_grd grd_und grd_tt grd_ff grd_tf grd_ft ops_mv ops_pick ops_bin ops_binZ ops_un ops_binb ops_eqs ops_isnil ops_pnil ops_b2s ops_s2b ops_b2sB ops_s2a ops_slcA ops_aidx vaidx vb2sB vs2a vslcA ops_sidx vs2b vsidx srcX ops_appx apx_mk ops_mks ops_mko mks_int mko_int vbinb veqs visnil vpnil vb2s ops_conv ops_fld ops_ix ops_ixa ops_load ops_nilck ops_ext ops_len ops_slen ops_mn ops_mx ops_bld ops_bsl ops_slc ops_sslc ops_box ops_alc ops_alcX ops_boxX ops_bslo ops_store ops_app ops_call ev_t ev_c put_get put_none opv_mk stb_some sto_ptr over_get rel_mk vnat Bx Stp vbld vbsl put_box_same put_box_ne put_sz put_own use_box use_sz put_put args0 List.getD_cons_zero List.getD_cons_succ List.getD_nil vpick vbin vbinZ vbinI vbinS vun vconv norm vfld vnil vlen vslen vext vmm vix vixa vload takeV takeB mono_nil mono_two mono_sc mono_any mono_und mono_sl mono_agg mono_ep vmlk vmlen vmnil vinil vent vmfn allSc vslc3 kOk fitsV ops_mlk ops_mlen ops_mnil ops_inil ops_ent ops_mfn ops_slc3 ops_mkm ops_mup mup_map mub_some ops_mdel mdl_nil mdl_map mdb_some ops_rng rng_none rng_map rgb_some ops_nxt ops_ment met_map meb_some ops_est est_map esb_some ops_clr clr_nil clr_box clb_some ops_calv clv_func vslc vsslc fillV splice V.cells strip strip1 allLen ptrV obsOk shAmt IntKind.bits List.map_cons List.map_nil List.length_cons List.length_nil List.getElem?_cons_zero List.getElem?_cons_succ List.take_succ_cons List.take_zero List.drop_succ_cons List.drop_zero List.cons_append List.nil_append List.append_nil List.take_nil List.drop_nil Option.map_some Option.map_none and_true true_and Int.toNat_natCast Nat.min_def Nat.zero_add Nat.add_zero Nat.zero_mul Nat.mul_one Nat.one_mul vret rvAll rvVal resv_1 resv_2 decide_true decide_false Int.lt_irrefl Bool.not_true Bool.not_false ne_eq not_true_eq_false not_false_eq_true eq_self Bool.true_eq_false Bool.false_eq_true List.contains_cons List.contains_nil Bool.false_or Bool.true_or Bool.or_false Bool.or_true List.mem_cons List.not_mem_nil or_false or_true true_or false_or mono_bs ops_aidxn vaidxn ops_fv vfv ops_mki vmki ops_inv ops_cpy cpy_box cpb_some
section
namespace Ev
open Go
section
variable {ρ:Rn} {a b r w:W} {a' b':V} {s0 st:St} {H H2:Hp} {A A2:En} {A':Nat→V} {P:Program} {call:Cl} {meth:TypeId→String→Option FuncId} {e:VEx}
theorem lsame_eq {f:W→W→Bool} {l m:List W} {l' m':List V} (ih:∀ a ∈ l,∀ b a' b',f a b=true→R ρ a a'→R ρ b b'→a'=b') (h:lsame f l m=true) (hl:RL ρ l l') (hm:RL ρ m m'):l'=m':=by
  induction l generalizing m l' m' with
  | nil =>
    cases m with
    | nil=>rw [hl.nil_inv,hm.nil_inv]
    | cons=>cases h
  | cons x l IH =>
    cases m with
    | nil=>cases h
    | cons y m =>
      obtain ⟨b1,l2,rfl,r1,hl2⟩:=hl.cons_inv
      obtain ⟨b2,m2,rfl,r2,hm2⟩:=hm.cons_inv
      obtain ⟨h1,h2⟩:=and_t h
      rw [ih x (by simp) y b1 b2 h1 r1 r2,IH (fun a ha=>ih a (List.mem_cons_of_mem _ ha)) h2 hl2 hm2]
theorem tksame_eq {t t':Tk} {u u':Tk} (h:tksame t t'=true) (h1:RT ρ t u) (h2:RT ρ t' u'):u=u':=by
  cases h1 <;> cases h2 <;> first | rfl | (cases h; done) | skip
  rename_i g k b hb g' k' b' hb'
  obtain ⟨e1,e2⟩:=and_t h
  have e1:=beq_t e1; have e2:=beq_t e2
  subst e1; subst e2
  rw [hb] at hb'; cases hb'; rfl
theorem same_eq:∀ (n:Nat) {a b:W} {a' b':V},wsame n a b=true→R ρ a a'→R ρ b b'→a'=b'
  | 0,a,b,a',b',h,_,_=>by cases h
  | n + 1,a,b,a',b',h,ha,hb=>by
    have h:wsame1 (wsame n) a b=true:=h
    have ih:=fun (l:List W)=>(fun a (_:a ∈ l) b a' b' (h1:wsame n a b=true) (r1:R ρ a a') (r2:R ρ b b')=>same_eq n h1 r1 r2)
    unfold wsame1 at h
    split at h
    · cases ha.int_inv; cases hb.int_inv
      obtain ⟨h1,h2⟩:=and_t h
      rw [ieq_eq,decide_eq_true_eq] at h2
      rw [keq_eq h1,h2]
    · cases ha.bool_inv; cases hb.bool_inv
      rw [beqb_eq] at h
      have:=beq_iff_eq.1 h
      rw [this]
    · cases ha; cases hb; rfl
    · cases ha; cases hb; rfl
    · cases ha; cases hb; rfl
    · cases ha; cases hb; rfl
    · obtain ⟨h1,h2⟩:=and_t h
      have e1:=beq_t h1; have e2:=beq_t h2
      subst e1; subst e2
      obtain ⟨b1,k1,rfl⟩:=ha.ptr_inv
      obtain ⟨b2,k2,rfl⟩:=hb.ptr_inv
      rw [k1] at k2; cases k2; rfl
    · have e1:=beq_t h
      subst e1
      obtain ⟨b1,k1,rfl⟩:=ha.map_inv
      obtain ⟨b2,k2,rfl⟩:=hb.map_inv
      rw [k1] at k2; cases k2; rfl
    · rw [leq_eq,decide_eq_true_eq] at h
      subst h
      rw [ha.str_inv.2,hb.str_inv.2]
    · obtain ⟨h1,h2⟩:=and_t h
      obtain ⟨t1,l1,rfl,k1,k2⟩:=ha.sl_inv
      obtain ⟨t2,l2,rfl,k3,k4⟩:=hb.sl_inv
      rw [tksame_eq h1 k1 k3,lsame_eq (ih _) h2 k2 k4]
    · obtain ⟨h1,h2⟩:=and_t h
      obtain ⟨h3,h4⟩:=and_t h1
      have e1:=beq_t h3; have e2:=beq_t h4; have e3:=beq_t h2
      subst e1; subst e2; subst e3
      obtain ⟨b1,c1,k1,k2,k3,rfl⟩:=ha.osl_inv
      obtain ⟨b2,c2,k4,k5,k6,rfl⟩:=hb.osl_inv
      rw [k1] at k4; cases k4
      rw [k2] at k5; cases k5; rfl
    · obtain ⟨h1,h2⟩:=and_t h
      obtain ⟨h3,h4⟩:=and_t h1
      obtain ⟨h5,h6⟩:=and_t h3
      have e1:=beq_t h5; have e2:=beq_t h6; have e3:=beq_t h4; have e4:=beq_t h2
      subst e1; subst e2; subst e3; subst e4
      obtain ⟨b1,c1,k1,k2,k3,rfl⟩:=ha.bsl_inv
      obtain ⟨b2,c2,k4,k5,k6,rfl⟩:=hb.bsl_inv
      rw [k1] at k4; cases k4
      have q1:=k3 _ rfl; have q2:=k6 _ rfl
      subst q1; subst q2; rfl
    · obtain ⟨h1,h2⟩:=and_t h
      have e1:=beq_t h1
      subst e1
      cases ha with
      | iface _ _ v hv _=>cases hb with
        | iface _ _ u hu _ =>
          have:=same_eq n h2 hv hu
          cases this; rfl
    · obtain ⟨l1,rfl,k1⟩:=ha.agg_inv
      obtain ⟨l2,rfl,k2⟩:=hb.agg_inv
      rw [lsame_eq (ih _) h k1 k2]
    · obtain ⟨h1,h2⟩:=and_t h
      have e1:=beq_t h1
      subst e1
      obtain ⟨l1,rfl,k1⟩:=ha.ep_inv
      obtain ⟨l2,rfl,k2⟩:=hb.ep_inv
      rw [lsame_eq (ih _) h2 k1 k2]
    · obtain ⟨k,z,e1,e2⟩:=sySame_eq (show sySame (.sy _ _ _ _ _ _) (.sy _ _ _ _ _ _)=true from h) ha hb
      rw [e1,e2]
    · cases h
theorem obs_R (hS:Sim s0 ρ H st) (hA:EnR ρ A A'):∀ {l:List (Option Nat × X × Nat)},eobs A H l=true→obsOk st A' l
  | [],_=>trivial
  | (n,x,d) :: rest,h=>by
    obtain ⟨h1,h2⟩:=and_t h
    refine ⟨?_,obs_R hS hA h2⟩
    have hd:=hA d
    have hx:=hA.ev x
    have h1:eobs1 H n (A.at d) ((cX x).f A)=true:=h1
    generalize A.at d=wd at h1 hd
    generalize A' d=vd at hd ⊢
    cases wd with
    | und=>cases hd; trivial
    | _ =>
      have key:∃ w,eload H n ((cX x).f A)=some w∧∃ wv,wsame 9 wv w=true∧R ρ wv vd:=by
        cases hl:eload H n ((cX x).f A) with
        | none=>simp only [eobs1,hl] at h1; cases h1
        | some w=>exact ⟨w,rfl,_,by simpa only [eobs1,hl] using h1,hd⟩
      obtain ⟨w,k1,wv,k2,k3⟩:=key
      obtain ⟨k4,k5⟩:=load_R hS k1 hx
      have:=same_eq 9 k2 k3 k5
      split
      · trivial
      · exact ⟨k4,this.symm⟩
noncomputable def En.puto (A:En) (d:Option Nat) (w:W):En:=match d with
  | none=>A
  | some d=>A.put d w
def RunR (P:Program) (s0:St) (c:VC) (A:En) (H:Hp) (e:VEx) (A2:En) (H2:Hp):Prop :=
  ∀ (ρ:Rn) (A':Nat→V) (st:St) (Q:VQ),Sim s0 ρ H st→EnR ρ A A'→(∀ ρ' A2' st',ρ.le ρ'→Sim s0 ρ' H2 st'→EnR ρ' A2 A2'→Q e A2' st')→vwp P c Q A' st
theorem cP_eq {d:Option Nat} {k:En→Rs}:(cP d).f A w k=k (A.puto d w):=by
  cases d with
  | none=>rfl
  | some d=>exact cS_eq d A w k
theorem EnR.putO (hA:EnR ρ A A') {d:Option Nat} {v:V} (hv:R ρ w v):EnR ρ (A.puto d w) (putV A' d v):=by
  cases d with
  | none=>exact hA
  | some d=>exact hA.put hv
theorem cPO_ok {d:Option Nat} {obs:List (Option Nat × X × Nat)} {x:Ro} {k:En→Hp→Rs} (h:(cPO d obs).f A x k=.ok e A2 H2):∃ w H1,x=.ok w H1∧eobs A H1 obs=true∧k (A.puto d w) H1=.ok e A2 H2:=by
  cases x with
  | bad c=>cases obs <;> cases h
  | ok w H1 =>
    cases obs with
    | nil =>
      have g:(cP d).f A w (fun A=>k A H1)=.ok e A2 H2:=h
      rw [cP_eq] at g
      exact ⟨w,H1,rfl,rfl,g⟩
    | cons o obs =>
      have g:bi (eobs A H1 (o :: obs)) ((cP d).f A w fun A=>k A H1) (.bad [code d,8888])=.ok e A2 H2:=h
      cases hb:eobs A H1 (o :: obs) with
      | false=>rw [hb] at g; cases g
      | true =>
        rw [hb,bi_t,cP_eq] at g
        exact ⟨w,H1,rfl,hb,g⟩
theorem ops_R (hC:CallR P s0 call) (hM:MethR P meth) {hint:Hint}:∀ (l:List VO) {A:En} {H:Hp},(cOs meth hint l).f call A H=.ok e A2 H2→e=.normal ∧
    ∀ (ρ:Rn) (A':Nat→V) (st:St) (K:(Nat→V)→St→Prop),Sim s0 ρ H st→EnR ρ A A'→(∀ ρ' A2' st',ρ.le ρ'→Sim s0 ρ' H2 st'→EnR ρ' A2 A2'→K A2' st')→vops P K l A' st
  | [],A,H,h=>by cases h; exact ⟨rfl,fun ρ A' st K hS hA hK=>hK ρ A' st Rn.rfl' hS hA⟩
  | o :: rest,A,H,h=>by
    have go:∀ {A:En} {H:Hp},(cPO o.dst o.obs).f A ((cO meth (hint (code o.dst)) o.op).f call A H) ((cOs meth hint rest).f call)=.ok e A2 H2→e=.normal ∧
        ∀ (ρ:Rn) (A':Nat→V) (st:St) (K:(Nat→V)→St→Prop),Sim s0 ρ H st→EnR ρ A A'→(∀ ρ' A2' st',ρ.le ρ'→Sim s0 ρ' H2 st'→EnR ρ' A2 A2'→K A2' st') →
          vop P o.op st A' fun r st'=>obsOk st' A' o.obs∧vops P K rest (putV A' o.dst r) st':=fun g=>by
      obtain ⟨w,H1,h1,h2,h3⟩:=cPO_ok g
      obtain ⟨k1,k2⟩:=ops_R hC hM rest h3
      refine ⟨k1,fun ρ A' st K hS hA hK=>op_K hC hM hS hA h1 fun ρ' v st' hle hS' hv=>⟨obs_R hS' (hA.mono hle) h2,?_⟩⟩
      exact k2 ρ' _ st' K hS' ((hA.mono hle).putO hv) fun ρ2 A2' st2 hle2=>hK ρ2 A2' st2 (fun i x e=>hle2 _ _ (hle _ _ e))
    have skip:∀ {A:En} {H:Hp},(cP o.dst).f A .und (fun A=>(cOs meth hint rest).f call A H)=.ok e A2 H2→e=.normal ∧
        ∀ (ρ:Rn) (A':Nat→V) (st:St) (K:(Nat→V)→St→Prop),Sim s0 ρ H st→EnR ρ A A'→(∀ ρ' A2' st',ρ.le ρ'→Sim s0 ρ' H2 st'→EnR ρ' A2 A2'→K A2' st')→vops P K rest (putV A' o.dst .und) st:=fun g=>by
      rw [cP_eq] at g
      obtain ⟨k1,k2⟩:=ops_R hC hM rest g
      exact ⟨k1,fun ρ A' st K hS hA hK=>k2 ρ _ st K hS (hA.putO .und) hK⟩
    unfold cOs at h
    split at h
    · rename_i hg
      obtain ⟨k1,k2⟩:=go h
      refine ⟨k1,fun ρ A' st K hS hA hK=>?_⟩
      simp only [vops,hg,vguard]
      exact k2 ρ A' st K hS hA hK
    · rename_i s want hg
      have h':egrd (A.at s) want (fun _=>(cPO o.dst o.obs).f A ((cO meth (hint (code o.dst)) o.op).f call A H) ((cOs meth hint rest).f call)) (fun _=>(cP o.dst).f A .und fun A=>(cOs meth hint rest).f call A H)=.ok e A2 H2:=h
      cases hs:A.at s with
      | und =>
        rw [hs] at h'
        obtain ⟨k1,k2⟩:=skip h'
        refine ⟨k1,fun ρ A' st K hS hA hK=>?_⟩
        have:=hA s
        rw [hs] at this
        have hu:A' s=.und:=by generalize A' s=z at this; cases this; rfl
        simp only [vops,hg,vguard,hu]
        exact k2 ρ A' st K hS hA hK
      | bool t =>
        rw [hs] at h'
        have hb:∀ {ρ:Rn} {A':Nat→V},EnR ρ A A'→A' s=.sc (.bool t):=fun hA=>by
          have:=hA s
          rw [hs] at this
          exact this.bool_inv
        cases t <;> cases want
        · obtain ⟨k1,k2⟩:=go h'
          refine ⟨k1,fun ρ A' st K hS hA hK=>?_⟩
          simp only [vops,hg,vguard,hb hA]
          exact ⟨fun _=>k2 ρ A' st K hS hA hK,fun h=>absurd rfl h⟩
        · obtain ⟨k1,k2⟩:=skip h'
          refine ⟨k1,fun ρ A' st K hS hA hK=>?_⟩
          simp only [vops,hg,vguard,hb hA]
          exact ⟨fun h=>(by cases h),fun _=>k2 ρ A' st K hS hA hK⟩
        · obtain ⟨k1,k2⟩:=skip h'
          refine ⟨k1,fun ρ A' st K hS hA hK=>?_⟩
          simp only [vops,hg,vguard,hb hA]
          exact ⟨fun h=>(by cases h),fun _=>k2 ρ A' st K hS hA hK⟩
        · obtain ⟨k1,k2⟩:=go h'
          refine ⟨k1,fun ρ A' st K hS hA hK=>?_⟩
          simp only [vops,hg,vguard,hb hA]
          exact ⟨fun _=>k2 ρ A' st K hS hA hK,fun h=>absurd rfl h⟩
      | _=>rw [hs] at h'; cases h'
theorem eseq_ok {x:Rs} {k:En→Hp→Rs} (h:eseq x k=.ok e A2 H2):(∃ A1 H1,x=.ok .normal A1 H1∧k A1 H1=.ok e A2 H2) ∨ (e ≠ .normal∧x=.ok e A2 H2):=by
  cases x with
  | bad c=>cases h
  | ok e1 A1 H1 =>
    cases e1 with
    | normal=>exact .inl ⟨A1,H1,rfl,h⟩
    | exit i=>cases h; exact .inr ⟨(fun h=>by cases h),rfl⟩
    | ret=>cases h; exact .inr ⟨(fun h=>by cases h),rfl⟩
theorem VQ.seq_ne {Q:VQ} {K:(Nat→V)→St→Prop} {e:VEx} {A:Nat→V} {st:St} (hne:e ≠ .normal) (h:Q e A st):Q.seq K e A st:=by
  cases e with
  | normal=>exact absurd rfl hne
  | _=>exact h
inductive Rounds (P:Program) (s0:St) (f:En→Hp→Rs):Nat→En→Hp→VEx→En→Hp→Prop where
  | stop (A:En) (H:Hp) (e:VEx) (A2:En) (H2:Hp) (hne:e ≠ .normal) (h:f A H=.ok e A2 H2):Rounds P s0 f 0 A H e A2 H2
  | more (n:Nat) (A A1:En) (H H1:Hp) (e:VEx) (A2:En) (H2:Hp) (h:f A H=.ok .normal A1 H1) (t:Rounds P s0 f n A1 H1 e A2 H2):Rounds P s0 f (n + 1) A H e A2 H2
theorem loopB_rounds {f:En→Hp→Rs}:∀ (k:Nat) {A:En} {H:Hp} {e:VEx} {A1:En} {H1:Hp},eloopB f k A H=.ok e A1 H1 →
    (e=.normal∧∀ (m:Nat) (e2:VEx) (A2:En) (H2:Hp),Rounds P s0 f m A1 H1 e2 A2 H2→∃ m',Rounds P s0 f m' A H e2 A2 H2) ∨ (e ≠ .normal∧∃ m,Rounds P s0 f m A H e A1 H1)
  | 0,A,H,e,A1,H1,h=>by
    have h:f A H=.ok e A1 H1:=h
    by_cases he:e=.normal
    · subst he; exact .inl ⟨rfl,fun m e2 A2 H2 hm=>⟨_,.more m A A1 H H1 e2 A2 H2 h hm⟩⟩
    · exact .inr ⟨he,0,.stop _ _ _ _ _ he h⟩
  | k + 1,A,H,e,A1,H1,h=>by
    rcases eseq_ok (show eseq (eloopB f k A H) (eloopB f k)=.ok e A1 H1 from h) with ⟨A3,H3,h1,h2⟩ | ⟨hne,h1⟩
    · rcases loopB_rounds k h1 with ⟨_,g1⟩ | ⟨g,_⟩
      · rcases loopB_rounds k h2 with ⟨he,g2⟩ | ⟨he,m,g2⟩
        · exact .inl ⟨he,fun m e2 A2 H2 hm=>let ⟨m',hm'⟩:=g2 m e2 A2 H2 hm; g1 m' e2 A2 H2 hm'⟩
        · exact .inr ⟨he,g1 m e A1 H1 g2⟩
      · exact absurd rfl g
    · rcases loopB_rounds k h1 with ⟨he,_⟩ | ⟨_,m,g⟩
      · exact absurd he hne
      · exact .inr ⟨hne,m,g⟩
theorem loop_rounds {f:En→Hp→Rs} {A:En} {H:Hp} (h:eloop f A H=.ok e A2 H2):∃ m,Rounds P s0 f m A H e A2 H2:=by
  rcases eseq_ok (show eseq (eloopB f 17 A H) (fun _ _=>.bad [6004])=.ok e A2 H2 from h) with ⟨A1,H1,h1,h2⟩ | ⟨hne,h1⟩
  · cases h2
  · rcases loopB_rounds 17 h1 with ⟨he,_⟩ | ⟨_,m,g⟩
    · exact absurd he hne
    · exact ⟨m,g⟩
theorem least {p:Nat→Prop} (h:∃ n,p n):∃ n,p n∧∀ m,p m→n≤m:=by
  obtain ⟨n,hn⟩:=h
  induction n using Nat.strongRecOn with
  | _ n ih =>
    by_cases h2:∃ m,m < n∧p m
    · obtain ⟨m,h3,h4⟩:=h2; exact ih m h3 h4
    · exact ⟨n,hn,fun m hm=>Nat.le_of_not_lt fun h3=>h2 ⟨m,h3,hm⟩⟩
theorem run_R (hC:CallR P s0 call) (hM:MethR P meth) {hint:Hint}:∀ (c:VC) {A:En} {H:Hp} {e:VEx} {A2:En} {H2:Hp},(cC meth hint c).f call A H=.ok e A2 H2→RunR P s0 c A H e A2 H2:=by
  intro c
  induction c with
  | skip=>intro A H e A2 H2 h; cases h; exact fun ρ A' st Q hS hA hQ=>hQ ρ A' st Rn.rfl' hS hA
  | reg ops =>
    intro A H e A2 H2 h
    obtain ⟨rfl,k2⟩:=ops_R hC hM ops (show (cOs meth hint ops).f call A H=_ from h)
    exact fun ρ A' st Q hS hA hQ=>k2 ρ A' st _ hS hA hQ
  | seq x y ihx ihy =>
    intro A H e A2 H2 h
    rcases eseq_ok (show eseq ((cC meth hint x).f call A H) ((cC meth hint y).f call)=.ok e A2 H2 from h) with ⟨A1,H1,h1,h2⟩ | ⟨hne,h1⟩
    · exact fun ρ A' st Q hS hA hQ=>ihx h1 ρ A' st _ hS hA fun ρ' A1' st' hle hS' hA1=>ihy h2 ρ' A1' st' Q hS' hA1 fun ρ2 A2' st2 hle2=>hQ ρ2 A2' st2 (fun i z e=>hle2 _ _ (hle _ _ e))
    · exact fun ρ A' st Q hS hA hQ=>ihx h1 ρ A' st _ hS hA fun ρ' A1' st' hle hS' hA1=>VQ.seq_ne hne (hQ ρ' A1' st' hle hS' hA1)
  | cond c x y ihx ihy =>
    intro A H e A2 H2 h
    have g:econd ((cX c).f A) (fun _=>(cC meth hint x).f call A H) (fun _=>(cC meth hint y).f call A H)=.ok e A2 H2:=h
    cases hw:(cX c).f A with
    | bool t =>
      rw [hw] at g
      refine fun ρ A' st Q hS hA hQ=>?_
      have hc:=hA.ev c
      rw [hw] at hc
      simp only [vwp,hc.bool_inv]
      cases t
      · exact ⟨fun h=>(by cases h),fun _=>ihy (show (cC meth hint y).f call A H=_ from g) ρ A' st Q hS hA hQ⟩
      · exact ⟨fun _=>ihx (show (cC meth hint x).f call A H=_ from g) ρ A' st Q hS hA hQ,fun h=>(by cases h)⟩
    | _=>rw [hw] at g; cases g
  | blk id c ih =>
    intro A H e A2 H2 h
    have g:eblk id ((cC meth hint c).f call A H)=.ok e A2 H2:=h
    cases hx:(cC meth hint c).f call A H with
    | bad l=>rw [hx] at g; cases g
    | ok e1 A1 H1 =>
      rw [hx] at g
      refine fun ρ A' st Q hS hA hQ=>ih hx ρ A' st _ hS hA fun ρ' A1' st' hle hS' hA1=>?_
      cases e1 with
      | normal=>cases g; exact hQ ρ' A1' st' hle hS' hA1
      | ret=>cases g; exact hQ ρ' A1' st' hle hS' hA1
      | exit i =>
        have g:bi (Nat.beq i id) (.ok .normal A1 H1) (.ok (.exit i) A1 H1)=Rs.ok e A2 H2:=g
        simp only [VQ.blk]
        by_cases hi:i=id
        · subst hi
          rw [beq_dec,decide_eq_true rfl] at g
          cases g
          rw [if_pos rfl]; exact hQ ρ' A1' st' hle hS' hA1
        · rw [beq_dec,decide_eq_false hi] at g
          cases g
          rw [if_neg hi]; exact hQ ρ' A1' st' hle hS' hA1
  | loop c ih =>
    intro A H e A2 H2 h
    obtain ⟨m,hm⟩:=loop_rounds (P:=P) (s0:=s0) (show eloop ((cC meth hint c).f call) A H=.ok e A2 H2 from h)
    refine fun ρ A' st Q hS hA hQ=>?_
    let J:Nat→(Nat→V)→St→Prop:=fun n B s=>∃ (σ:Rn) (A1:En) (H1:Hp),ρ.le σ∧Sim s0 σ H1 s∧EnR σ A1 B∧Rounds P s0 ((cC meth hint c).f call) n A1 H1 e A2 H2
    have hJ:∀ B s,(∃ n,J n B s)→∃ n,J n B s∧∀ k,J k B s→n≤k:=fun B s h=>least h
    obtain ⟨M,hMu⟩:∃ M:(Nat→V)→St→Nat,∀ B s (h:∃ n,J n B s),M B s=Classical.choose (hJ B s h) :=
      ⟨fun B s=>@dite Nat (∃ n,J n B s) (Classical.propDecidable _) (fun h=>Classical.choose (hJ B s h)) fun _=>0,fun B s h=>dif_pos h⟩
    refine ⟨fun B s=>∃ n,J n B s,M,⟨m,ρ,A,H,Rn.rfl',hS,hA,hm⟩,?_⟩
    intro B s hI
    have hsp:=Classical.choose_spec (hJ B s hI)
    have hmu:=hMu B s hI
    rw [hmu]
    generalize Classical.choose (hJ B s hI)=n at hsp
    obtain ⟨⟨σ,A1,H1,hle,hS1,hA1,hR⟩,_⟩:=hsp
    cases hR with
    | stop _ _ _ _ _ hne h1=>exact ih h1 σ B s _ hS1 hA1 fun ρ' B' s' hle' hS' hB'=>VQ.seq_ne hne (hQ ρ' B' s' (fun i z e=>hle' _ _ (hle _ _ e)) hS' hB')
    | more k _ A3 _ H3 _ _ _ h1 ht =>
      refine ih h1 σ B s _ hS1 hA1 fun ρ' B' s' hle' hS' hB'=>?_
      have hx:J k B' s':=⟨ρ',A3,H3,fun i z e=>hle' _ _ (hle _ _ e),hS',hB',ht⟩
      have hI':∃ n,J n B' s':=⟨k,hx⟩
      refine ⟨hI',?_⟩
      rw [hMu B' s' hI']
      have:=(Classical.choose_spec (hJ B' s' hI')).2 k hx
      omega
  | exit id=>intro A H e A2 H2 h; cases h; exact fun ρ A' st Q hS hA hQ=>hQ ρ A' st Rn.rfl' hS hA
  | ret=>intro A H e A2 H2 h; cases h; exact fun ρ A' st Q hS hA hQ=>hQ ρ A' st Rn.rfl' hS hA
theorem res_R (hS:Sim s0 ρ H st) (hA:EnR ρ A A') {q:RV} (h:eres H A q=some r):(rvVal st A' q).1∧R ρ r (rvVal st A' q).2:=by
  cases q with
  | tmp t=>cases h; exact ⟨trivial,hA t⟩
  | cell t n=>exact load_R hS (show eload H n (A.at t)=some r from h) (hA t)
theorem resL_R (hS:Sim s0 ρ H st) (hA:EnR ρ A A'):∀ {rs:List RV} {l:List W},eresL H A rs=some l→rvAll st A' rs∧RL ρ l (rs.map fun q=>(rvVal st A' q).2)
  | [],l,h=>by cases h; exact ⟨trivial,.nil⟩
  | q :: rs,l,h=>by
    unfold eresL at h
    split at h
    · rename_i a b h1 h2
      cases h
      obtain ⟨k1,k2⟩:=res_R hS hA h1
      obtain ⟨k3,k4⟩:=resL_R hS hA h2
      exact ⟨⟨k1,k3⟩,.cons k2 k4⟩
    · cases h
theorem resV_R (hS:Sim s0 ρ H st) (hA:EnR ρ A A') {rs:List RV} (h:eresV H A rs=.ok r H2):H2=H∧rvAll st A' rs∧R ρ r (resV st A' rs):=by
  unfold eresV at h
  split at h
  · obtain ⟨h1,h2⟩:=of_ok h
    obtain ⟨k1,k2⟩:=res_R hS hA h1
    exact ⟨h2,⟨k1,trivial⟩,k2⟩
  · rename_i hne
    split at h
    · rename_i l hl
      cases h
      obtain ⟨k1,k2⟩:=resL_R hS hA hl
      refine ⟨rfl,k1,?_⟩
      unfold resV
      split
      · rename_i q
        exact absurd rfl (hne q)
      · exact k2.mkTup
    · cases h
theorem args_R:∀ {l:List W} {n:Nat} {A:En},∃ A2,eargs l n A=A2∧∀ t,t < 576→A2.at t=if n≤t∧t - n < l.length then (l[t - n]?).getD .und else A.at t
  | [],n,A=>⟨A,rfl,fun t _=>by simp⟩
  | a :: l,n,A=>by
    obtain ⟨A2,h1,h2⟩:=args_R (l:=l) (n:=n + 1) (A:=A.put n a)
    refine ⟨A2,?_,fun t ht=>?_⟩
    · show (cS n).f A a (fun A=>eargs l (Nat.succ n) A)=A2
      rw [cS_eq]; exact h1
    · rw [h2 t ht,at_put]
      by_cases e:t=n
      · subst e
        rw [if_neg (by omega),if_pos ⟨rfl,ht⟩,if_pos ⟨Nat.le_refl _,by simp⟩,Nat.sub_self]; rfl
      · by_cases hn:n≤t
        · have e2:t - n=(t - (n + 1)) + 1:=by omega
          by_cases hl:t - (n + 1) < l.length
          · rw [if_pos ⟨by omega,hl⟩,if_pos ⟨hn,by simp only [List.length_cons]; omega⟩,e2]; rfl
          · rw [if_neg (fun h=>hl h.2),if_neg (fun h=>e h.1),if_neg (fun h=>hl (by have:=h.2; simp only [List.length_cons] at this; omega))]
        · rw [if_neg (fun h=>by omega),if_neg (fun h=>e h.1),if_neg (fun h=>hn h.1)]
theorem args0_R {l:List W} {vs:List V} (h:RL ρ l vs):EnR ρ (eargs l 0 en0) (args0 vs):=fun t=>by
  obtain ⟨A2,h1,h2⟩:=args_R (l:=l) (n:=0) (A:=en0)
  rw [h1]
  by_cases ht:t < 576
  · rw [h2 t ht]
    by_cases hl:t < l.length
    · rw [if_pos ⟨Nat.zero_le _,by simpa using hl⟩]
      have e1:l[t - 0]?=some l[t]:=List.getElem?_eq_getElem hl
      obtain ⟨v,hv,hr⟩:=h.get e1
      have hv:vs[t]?=some v:=hv
      rw [e1,args0,List.getD_eq_getElem?_getD,hv]; exact hr
    · rw [if_neg (fun h=>hl (by simpa using h.2)),at_en0,if_pos ht]
      have hv:vs[t]?=none:=List.getElem?_eq_none (by rw [← h.len]; omega)
      rw [args0,List.getD_eq_getElem?_getD,hv]; exact .und
  · rw [at_hi (by omega)]; exact .any _
structure CfgOk (P:Program) (C:Cfg):Prop where
  meth:MethR P C.meth
  F:∀ f F,C.F f=some F→cFun P f=some F∧callable P f=true
  hk:∀ f g,C.hk f=some g→∀ s0,CallR P s0 fun f' args H=>if f'=f then bi (g.1 args) (g.2 args H) (.bad []) else .bad []
theorem where_ok {f:FuncId} {x:Ro} (h:ewhere f x=.ok r H2):x=.ok r H2:=by
  cases x with
  | ok=>exact h
  | bad=>cases h
theorem call_R {C:Cfg} (hC:CfgOk P C) (s0:St):∀ n,CallR P s0 (ecall C n)
  | 0,f,args,H,r,H2,h=>by cases h
  | n + 1,f,args,H,r,H2,h=>by
    have g:=where_ok (show ewhere f ((cF C f).f (ecall C n) args H)=.ok r H2 from h)
    have ih:=call_R hC s0 n
    have plain:(cG C f).f (ecall C n) args H=.ok r H2→callable P f=true∧∀ (ρ:Rn) (st:St) (vs:List V),Sim s0 ρ H st→RL ρ args vs→VCalls P f vs st fun v st'=>∃ ρ',ρ.le ρ'∧Sim s0 ρ' H2 st'∧R ρ' r v:=by
      intro g
      cases hF:C.F f with
      | none =>
        have:cG C f=⟨fun _ _ _=>.bad [7777]⟩:=by simp only [cG,hF]
        rw [this] at g; cases g
      | some F =>
        obtain ⟨hf,hca⟩:=hC.F f F hF
        have:cG C f=⟨fun call args H=>cond (Nat.ble (llen args) F.n) (efin F.res ((cC C.meth (C.hint f) F.body).f call (eargs args 0 en0) H)) (.bad [6006])⟩:=by simp only [cG,hF]
        rw [this] at g
        have g:cond (Nat.ble (llen args) F.n) (efin F.res ((cC C.meth (C.hint f) F.body).f (ecall C n) (eargs args 0 en0) H)) (.bad [6006])=Ro.ok r H2:=g
        refine ⟨hca,fun ρ st vs hS hl=>?_⟩
        cases hle:Nat.ble (llen args) F.n with
        | false=>rw [hle] at g; cases g
        | true =>
          rw [hle] at g
          have hn:=ble_t hle
          rw [llen_eq,hl.len] at hn
          have g:efin F.res ((cC C.meth (C.hint f) F.body).f (ecall C n) (eargs args 0 en0) H)=Ro.ok r H2:=g
          refine vcalls_enter hf hn fun hwf hok=>?_
          cases hx:(cC C.meth (C.hint f) F.body).f (ecall C n) (eargs args 0 en0) H with
          | bad c=>rw [hx] at g; cases g
          | ok e A2 H3 =>
            rw [hx] at g
            refine run_R ih hC.meth F.body hx ρ _ st _ hS (args0_R hl) fun ρ' A2' st' hle' hS' hA2=>?_
            have fin:eresV H3 A2 F.res=.ok r H2→vret F.res (fun v st'=>∃ ρ',ρ.le ρ'∧Sim s0 ρ' H2 st'∧R ρ' r v) A2' st':=fun h3=>by
              obtain ⟨rfl,k1,k2⟩:=resV_R hS' hA2 h3
              exact ⟨k1,_,st',Wk.refl _,hS'.lt.weak,ρ',hle',hS',k2⟩
            cases e with
            | normal=>exact fin g
            | ret=>exact fin g
            | exit i=>cases g
    cases hH:C.hk f with
    | some q =>
      have:cF C f=⟨fun call args H=>bi (q.1 args) (q.2 args H) ((cG C f).f call args H)⟩:=by simp only [cF,hH]
      rw [this] at g
      have g:bi (q.1 args) (q.2 args H) ((cG C f).f (ecall C n) args H)=Ro.ok r H2:=g
      cases hq:q.1 args with
      | false=>rw [hq] at g; exact plain g
      | true =>
        rw [hq] at g
        exact hC.hk f q hH s0 f args H r H2 (by show (if f=f then bi (q.1 args) (q.2 args H) (.bad []) else .bad [])=_; rw [if_pos rfl,hq]; exact g)
    | none =>
      have hG:cF C f=cG C f:=by simp only [cF,hH]
      rw [hG] at g
      exact plain g
theorem closed {C:Cfg} (hC:CfgOk P C) {f:FuncId} {n:Nat} {H2:Hp} {v:Value} (h:ecall C n f [] hp0=.ok r H2) (hv:∀ ρ d,R ρ r d→d=.sc v) (st:St):VCalls P f [] st fun d s=>d=.sc v∧st=s:=by
  intro w0 G w us hw hl hr
  have hl0:st.Lt:=⟨fun b cs hb=>(hw.box b cs hb).1,fun g m hg=>(hw.own g m hg).1⟩
  have hget:∀ i,hp0.get i=.no:=fun i=>by simp only [Hp.get,hp0,get6,pj_rep8]
  have hS:Sim st (fun _=>none) hp0 st:=⟨fun _ _ h=>h,fun _ _ h=>h,Nat.le_refl _,hl0,hl0,fun i b h=>(by cases h),fun i j b h=>(by cases h),fun i b h=>(by cases h),by show (0:Nat)≤_; omega,fun i _ _=>hget i⟩
  refine (((call_R hC st n f [] hp0 r H2 h).2 _ st [] hS .nil) w0 G w us hw hl hr).mono fun e w' ⟨u,d,st',G',h1,⟨ρ',_,hS',hR⟩,h3,h4,h5⟩=>?_
  rw [hv ρ' d hR] at h3
  exact ⟨u,.sc v,st,G',h1,⟨rfl,rfl⟩,h3,h4,h5.weak ⟨fun b cs hb=>⟨hS'.box0 b cs hb,hl0.box b cs hb⟩,fun g m hg=>⟨hS'.own0 g m hg,hl0.own g m hg⟩,hS'.sz0⟩⟩
end
end Ev
end
end Go.Proofs.YtifeoamomonbjaaGreatDoor
