/- Steps of the proof, joined: Wf2, Wf3, Wf4, Base, Open, VEnter. -/
import Derived.Test.YtnjmddlgpcnpeaaGreatZwf
import Derived.Test.YtnjmddlgpcnpeaaGreatZwg
import Derived.KernelRfl
import Derived.Test.YtnjmddlgpcnpeaaGreatZwc
import Derived.Test.YtnjmddlgpcnpeaaGreatZwd
import Derived.Test.YtnjmddlgpcnpeaaGreatZwe
import Derived.Test.YtnjmddlgpcnpeaaGreatProg
import Derived.WalkKit
import Derived.WalkSpells
import Derived.WalkLawsBesides
import Derived.Deep.RegionHeld3
import Derived.Deep.DrawnRows
import Derived.BigQuiet
import Derived.Lib.Hide
import Derived.ProofKit
import Derived.OpenShut
import Derived.Deep.Slices
import Derived.Test.YtnjmddlgpcnpeaaGreatZec
import Derived.Test.YtnjmddlgpcnpeaaGreatVc
namespace Go.Proofs.YtnjmddlgpcnpeaaGreat
open Go
attribute [local go_sem] run_skip run_reg run_seq run_blk run_exit run_ret run_cond if_true if_false at_code_n at_code_x at_code_r at_blk_n at_blk_x at_blk_r at_rnd_n at_rnd_x at_rnd_r at_fin_n at_fin_r ops_nil ops_grd grd_und grd_tt grd_ff grd_tf grd_ft ops_mv ops_pick ops_bin ops_binZ ops_un ops_binb ops_eqs ops_isnil ops_pnil ops_b2s ops_s2b ops_b2sB ops_s2a ops_slcA ops_aidx vaidx vb2sB vs2a vslcA ops_sidx vs2b vsidx srcX ops_appx apx_mk ops_mks ops_mko mks_int mko_int vbinb veqs visnil vpnil vb2s ops_conv ops_fld ops_ix ops_ixa ops_load ops_nilck ops_ext ops_len ops_slen ops_mn ops_mx ops_bld ops_bsl ops_slc ops_sslc ops_box ops_alc ops_alcX ops_boxX ops_bslo ops_store ops_app ops_call ev_t ev_c put_get put_none opv_mk stb_some sto_ptr over_get rel_mk vnat Bx Stp vbld vbsl put_box_same put_box_ne put_sz put_own use_box use_sz put_put args0 List.getD_cons_zero List.getD_cons_succ List.getD_nil vpick vbin vbinZ vbinI vbinS vun vconv norm vfld vnil vlen vslen vext vmm vix vixa vload takeV takeB mono_nil mono_two mono_sc mono_any mono_und mono_sl mono_agg mono_ep vmlk vmlen vmnil vinil vent vmfn allSc vslc3 kOk fitsV ops_mlk ops_mlen ops_mnil ops_inil ops_ent ops_mfn ops_slc3 ops_mkm ops_mup mup_map mub_some ops_mdel mdl_nil mdl_map mdb_some ops_rng rng_none rng_map rgb_some ops_nxt ops_ment met_map meb_some ops_est est_map esb_some ops_clr clr_nil clr_box clb_some ops_calv clv_func vslc vsslc fillV splice V.cells strip strip1 allLen ptrV obsOk shAmt IntKind.bits List.map_cons List.map_nil List.length_cons List.length_nil List.getElem?_cons_zero List.getElem?_cons_succ List.take_succ_cons List.take_zero List.drop_succ_cons List.drop_zero List.cons_append List.nil_append List.append_nil List.take_nil List.drop_nil Option.map_some Option.map_none and_true true_and Int.toNat_natCast Nat.min_def Nat.zero_add Nat.add_zero Nat.zero_mul Nat.mul_one Nat.one_mul vret rvAll rvVal resv_1 resv_2 decide_true decide_false Int.lt_irrefl Bool.not_true Bool.not_false ne_eq not_true_eq_false not_false_eq_true eq_self Bool.true_eq_false Bool.false_eq_true List.contains_cons List.contains_nil Bool.false_or Bool.true_or Bool.or_false Bool.or_true List.mem_cons List.not_mem_nil or_false or_true true_or false_or mono_bs ops_aidxn vaidxn ops_fv vfv ops_mki vmki ops_inv ops_cpy cpy_box cpb_some Nat.reduceEqDiff Nat.reduceAdd Nat.reduceMul Nat.reduceSub Nat.reduceLT Nat.reduceLeDiff Int.reduceToNat Int.reduceLE Int.reduceLT Int.reducePow Int.reduceMul Int.reduceAdd Int.reduceSub Int.reduceNeg Int.reduceEq Int.reduceMod Int.reduceDiv Nat.reducePow Nat.reduceMod Nat.reduceDiv reduceCtorEq Nat.reduceBEq
section
namespace Ev
open Go Go.Proofs Go.Proofs.YtnjmddlgpcnpeaaGreat
theorem cfg_mk {P:Program} {F:FuncId→Option FC} {hint:FuncId→Hint} {hk:FuncId→Option ((List W→Bool) × (List W→Hp→Ro))} {γ:Nat→Option Nat} (hF:∀ f G,F f=some G→cFun P f=some G∧callable P f=true)
    (hh:∀ f g,hk f=some g→∀ s0:S0,s0.g=γ→CallR P s0 fun f' args H=>if f'=f then bi (g.1 args) (g.2 args H) (.bad []) else .bad []):CfgOk P ⟨methOf P,F,hint,hk⟩ γ:=⟨fun _ _ _ h=>h,hF,hh⟩
theorem wF_ok (f:FuncId) (G:FC) (h:wF f=some G):cFun Tryz.prog f=some G∧callable Tryz.prog f=true:=@tab_ok f G h
theorem lcfg_ok:CfgOk Tryz.prog lcfg fun _=>none:=cfg_mk wF_ok fun f g h=>by cases h
theorem lives_v (st:St):VCalls Tryz.prog 13 [] st fun d s=>d=.sc (.bool true)∧st=s:=by
  have hk:=lives_k
  cases hx:liveR with
  | bad c=>rw [hx] at hk; cases hk
  | ok r H =>
    rw [hx] at hk
    cases r with
    | bool b =>
      have hb:b=true:=hk
      subst hb
      exact closed lcfg_ok hx (fun ρ d h=>by cases h; rfl) st
    | _=>cases hk
def wm (t n:Int):MB:=⟨t,[n,0,0,0,0,0,0,0,0],[[],[],[]]⟩
theorem wmW_R {ρ:Rn} {t n:Nat}:R ρ (wmW t n) (wm t n).v:=by
  have hs:(wm t n).v=.agg [.sc (.int .i64 t),.sc (.int .u32 n),.sc (.int .u32 0),.sc (.int .u32 0),.sc (.int .u32 0),.sc (.int .u32 0),.sc (.int .u32 0),.sc (.int .u32 0),.sc (.int .u32 0),.sc (.int .u32 0),.sc (.string (strOf [])),.sc (.string (strOf [])),.sc (.string (strOf []))]:=rfl
  rw [hs]
  have n0:∀ {x:Nat} {k:IntKind},R ρ (.int k (.ofNat x)) (.sc (.int k x)):=.int _ _
  have z:∀ {k:IntKind},R ρ (.int k 0) (.sc (.int k 0)):=.int _ _
  have e:R ρ (.str []) (.sc (.string (strOf []))):=.str _ isB_nil
  exact (RL.cons n0 (.cons n0 (.cons z (.cons z (.cons z (.cons z (.cons z (.cons z (.cons z (.cons z (.cons e (.cons e (.cons e .nil))))))))))))).mkAgg
theorem wm1_ok:(wm 1 256).Ok0:=⟨rfl,rfl,by decide,by intro t ht; simp [wm] at ht; subst ht; exact isB_nil⟩
theorem wm3_ok:(wm 3 2).Ok0:=⟨rfl,rfl,by decide,by intro t ht; simp [wm] at ht; subst ht; exact isB_nil⟩
theorem wm1_okM:Go.Proofs.YtnjmddlgpcnpeaaGreat.okM (wm 1 256)=true:=by kernel_rfl
theorem wm3_okM:Go.Proofs.YtnjmddlgpcnpeaaGreat.okM (wm 3 2)=true:=by kernel_rfl
theorem wm1_b:bytesM (wm 1 256)=startB:=by kernel_rfl
theorem wm3_b:bytesM (wm 3 2)=stopB:=by kernel_rfl
theorem hbuild_R (s0:S0):CallR Tryz.prog s0 fun f args H=>if f=7 then hbuild args H else .bad []:=by
  intro f args H r H2 h
  have h:(if f=7 then hbuild args H else .bad [])=Ro.ok r H2:=h
  by_cases e:f=7
  · subst e
    rw [if_pos rfl] at h
    refine ⟨by kernel_rfl,fun ρ st vs hS hl=>?_⟩
    unfold hbuild at h
    split at h
    · rename_i w _
      obtain ⟨v,_,rfl,hv,hl⟩:=hl.cons_inv
      obtain rfl:=hl.nil_inv
      cases h1:wsame 3 w (wmW 1 256) with
      | true =>
        rw [h1] at h
        cases h
        obtain rfl:=same_eq 3 h1 hv wmW_R
        refine (refBuild_v (m:=wm 1 256) wm1_ok).mono fun v s ⟨hv,hs⟩=>⟨ρ,Rn.rfl',hs ▸ hS,?_⟩
        rw [hv,wm1_okM,if_pos rfl,wm1_b]
        exact (RL.cons ((RL.byW startB).mkSl .no) (.cons (.bool _) .nil)).mkTup
      | false =>
        rw [h1,bi_f] at h
        cases h2:wsame 3 w (wmW 3 2) with
        | true =>
          rw [h2] at h
          cases h
          obtain rfl:=same_eq 3 h2 hv wmW_R
          refine (refBuild_v (m:=wm 3 2) wm3_ok).mono fun v s ⟨hv,hs⟩=>⟨ρ,Rn.rfl',hs ▸ hS,?_⟩
          rw [hv,wm3_okM,if_pos rfl,wm3_b]
          exact (RL.cons ((RL.byW stopB).mkSl .no) (.cons (.bool _) .nil)).mkTup
        | false=>rw [h2] at h; cases h
    · cases h
  · rw [if_neg e] at h; cases h
theorem hlives_R (s0:S0):CallR Tryz.prog s0 fun f args H=>if f=13 then hlives args H else .bad []:=by
  intro f args H r H2 h
  have h:(if f=13 then hlives args H else .bad [])=Ro.ok r H2:=h
  by_cases e:f=13
  · subst e
    rw [if_pos rfl] at h
    refine ⟨by kernel_rfl,fun ρ st vs hS hl=>?_⟩
    unfold hlives at h
    split at h
    · cases h
      obtain rfl:=hl.nil_inv
      exact (lives_v st).mono fun v s ⟨hv,hs⟩=>⟨ρ,Rn.rfl',hs ▸ hS,hv ▸ .bool _⟩
    · cases h
  · rw [if_neg e] at h; cases h
def wγ (m c e:Nat):Nat→Option Nat
  | 0=>some m
  | 1=>some c
  | 2=>some e
  | 3=>some (decB c).length
  | _=>none
theorem wcfg_ok {m c e:Nat} (hB:IsB (decB c)) (hl:(decB c).length≤300) (hm:(scan (decB c)).1=[]) (he:(scan (decB c)).2.2=(e:Int)) (hne:e ≠ 0):CfgOk Tryz.prog wcfg (wγ m c e):=by
  refine cfg_mk wF_ok fun f g h s0 hg=>?_
  have h:bi (Nat.beq f 106) (some (isOpq,hfeed)) (bi (Nat.beq f 13) (some (fun _=>true,hlives)) (bi (Nat.beq f 7) (some (fun _=>true,hbuild)) none))=some g:=h
  cases hb:Nat.beq f 106 with
  | true =>
    rw [hb] at h
    have e1:=Nat.eq_of_beq_eq_true hb
    cases h
    subst e1
    exact hfeed_R (by rw [hg]; rfl) (by rw [hg]; rfl) hB hl hm he hne
  | false =>
    rw [hb] at h
    cases hb2:Nat.beq f 13 with
    | true =>
      rw [bi_f,hb2] at h
      have e1:=Nat.eq_of_beq_eq_true hb2
      cases h
      subst e1
      exact hlives_R s0
    | false =>
      rw [bi_f,hb2,bi_f] at h
      cases hb3:Nat.beq f 7 with
      | true =>
        rw [hb3] at h
        have e1:=Nat.eq_of_beq_eq_true hb3
        cases h
        subst e1
        exact hbuild_R s0
      | false=>rw [hb3] at h; cases h
end Ev
end
section
namespace Ev
open Go Go.Proofs Go.Proofs.YtnjmddlgpcnpeaaGreat
theorem seq_seq {Q:VQ} {K K2:(Nat→V)→St→Prop}:(Q.seq K).seq K2=Q.seq K2:=by funext e A s; cases e <;> rfl
def isS3:VC→Bool
  | .seq _ (.seq _ (.seq _ _))=>true
  | _=>false
theorem vwp_3 {P:Program} {Q:VQ} {A:Nat→V} {st:St} {c:VC} (hc:isS3 c=true) (h:vwp P (hd3 c) (Q.seq (vwp P (tl3 c) Q)) A st):vwp P c Q A st:=by
  unfold isS3 at hc
  split at hc
  · simpa only [hd3,tl3,vwp,seq_seq] using h
  · cases hc
noncomputable section
theorem wok_ok {r:Rs} (h:wok r=true):∃ A H H2,r=.ok .ret A H∧eresV H A wres=.ok (.bool true) H2:=by
  unfold wok at h
  split at h
  · rename_i A H
    cases hx:eresV H A wres with
    | bad c=>rw [hx] at h; cases h
    | ok w H2 =>
      rw [hx] at h
      cases w with
      | bool b =>
        have hb:b=true:=h
        subst hb
        exact ⟨A,H,H2,rfl,hx⟩
      | _=>cases h
  · cases h
end
end Ev
end
section
open Go Go.Proofs.YtnjmddlgpcnpeaaGreat.Ev
section
variable {st:St} {L:List Int} {magic:Nat} {QQ:VQ}
set_option maxRecDepth 100000 in
theorem w1_v (hB:IsB L) (hl:L.length≤1048576) (hr:∀ B,B 4=.sc (.bool true)→QQ .ret B st)
    (hn:∀ B,L.length≤300→(scan L).2.2 ≠ 0→(scan L).1=[]→(∀ t,t ∉ [4,5,6,7,19,20,21,22,23,24,25,26,27,28,29,30,31,32,33,34,35,36]→B t=args0 [.sl .no (bs L),.sc (.int .u32 magic)] t)→QQ .normal B st) :
    vwp Tryz.prog (hd3 wbody) QQ (args0 [.sl .no (bs L),.sc (.int .u32 magic)]) st:=by
  show Run Tryz.prog (hd3 wbody) (.fin QQ) _ st
  unfold wbody
  unfold Vc3 zf zg zk zl zm zo
  simp only [hd3]
  simp (maxSteps:=3000000) only [go_sem,↓reduceIte]
  refine Cal.mk (rAll_v hB (by omega)) ?_
  rintro _ _ ⟨rfl,rfl⟩ -
  generalize (scan L).2.1.length=rl at *
  by_cases c1:300 < L.length
  · simp (maxSteps:=3000000) only [go_sem,↓reduceIte,bs_len,decide_eq_true (show (300:Int) < (L.length:Int) by omega)]
    exact hr _ rfl
  have c1':=decide_eq_false (show ¬ (300:Int) < (L.length:Int) by omega)
  by_cases c2:(scan L).2.2=0
  · simp (maxSteps:=3000000) only [go_sem,↓reduceIte,bs_len,c1',decide_eq_true c2]
    exact hr _ rfl
  have c2':=decide_eq_false c2
  by_cases c3:(scan L).1=[]
  · have e0:decide ((0:Int) < (((mv (scan L).1).length:Nat):Int))=false:=by rw [c3]; rfl
    simp (maxSteps:=3000000) only [go_sem,↓reduceIte,bs_len,c1',c2',e0]
    refine hn _ (by omega) c2 c3 fun t ht=>?_
    simp only [List.mem_cons,List.not_mem_nil,or_false,not_or] at ht
    simp [putV,ht]
  · have hp:0 < (mv (scan L).1).length:=by
      rw [mv_len]
      exact List.length_pos_iff.2 c3
    simp (maxSteps:=3000000) only [go_sem,↓reduceIte,bs_len,c1',c2',decide_eq_true (show (0:Int) < (((mv (scan L).1).length:Nat):Int) by omega)]
    exact hr _ rfl
theorem fold_any {ρ:Rn} {B:Nat→V}:∀ (l:List Nat) (A:En),(∀ t,t ∉ l→R ρ (A.at t) (B t))→EnR ρ (l.foldl (fun A t=>A.put t .any) A) B
  | [],A,h=>fun t=>h t (by simp)
  | d :: l,A,h=>fold_any l (A.put d .any) fun t ht=>by
    rw [at_put]
    by_cases e:t=d∧d < 576
    · rw [if_pos e]; exact .any _
    · rw [if_neg e]
      by_cases e1:t=d
      · rw [at_hi (by omega)]; exact .any _
      · exact h t (by simp [e1,ht])
theorem wholeFails_v (hB:IsB L) (hl:L.length≤1048576) (hm:magic < 4294967296):VCalls Tryz.prog 3 [.sl .no (bs L),.sc (.int .u32 magic)] st fun r _=>r=.sc (.bool true):=by
  refine vcalls_enter vc3 (Nat.le_of_ble_eq_true rfl) fun hwf hok=>?_
  refine vwp_3 (c:=wbody) rfl ?_
  refine w1_v hB hl (fun B h4=>?_) fun B h300 he hms hB0=>?_
  · show vret Vc3.res _ B st
    exact ⟨⟨trivial,trivial⟩,_,st,Wk.refl _,hwf.weak,h4⟩
  · show vwp Tryz.prog (tl3 wbody) _ B st
    obtain ⟨c,rfl⟩:=decB_ex hB
    have hsc:=scan_one hms
    obtain ⟨e,hee⟩:∃ e:Nat,(scan (decB c)).2.2=(e:Int):=⟨(scan (decB c)).2.2.toNat,by omega⟩
    have hcfg:=wcfg_ok (m:=magic) (c:=c) (e:=e) hB h300 hms hee (by omega)
    have hS:=Sim.start hwf.lt (γ:=wγ magic c e) (n:=4) (by omega) (fun i x h=>by
      match i,h with
      | 0,_=>omega
      | 1,_=>omega
      | 2,_=>omega
      | 3,_=>omega)
    have hop:R (wγ magic c e) (.opq 1) (.sl .no (bs (decB c))):=.opq 1 c rfl rfl (by omega)
    have hEn:∀ v,R (wγ magic c e) v (.sc (.int .u32 magic))→EnR (wγ magic c e) (wA v) B:=fun v hv=>fold_any _ _ fun t ht=>by
      rw [hB0 t ht]
      exact args0_R (.cons hop (.cons hv .nil)) t
    obtain ⟨v,hv,hk⟩:∃ v,R (wγ magic c e) v (.sc (.int .u32 magic))∧wok (wrun v)=true:=by
      by_cases m0:magic=0
      · subst m0; exact ⟨_,.int .u32 0,wkA⟩
      · by_cases m1:magic=4068589060
        · subst m1; exact ⟨_,.int .u32 4068589060,wkB⟩
        · exact ⟨_,sy_self (i:=0) (c:=magic) rfl (by omega) (fun n hn=>by
            simp only [List.mem_cons,List.not_mem_nil,or_false] at hn
            omega),wkC⟩
    obtain ⟨A2,H,H2,hrun,hres⟩:=wok_ok hk
    refine run_R (call_R hcfg ⟨st,wγ magic c e⟩ rfl 1000) hcfg.meth (tl3 wbody) (show (cC wcfg.meth (whint 3) (tl3 wbody)).f (ecall wcfg 1000) (wA v) ⟨hp0.1,4⟩=.ok .ret A2 H from hrun) _ B st _ hS (hEn v hv) ?_
    intro ρ' A2' st' hle hS' hA2
    obtain ⟨_,k1,k2⟩:=resV_R hS' hA2 hres
    show vret Vc3.res _ A2' st'
    exact ⟨k1,_,st',Wk.refl _,hS'.lt.weak,k2.bool_inv⟩
end
end
section
open Go Go.RowKit
def Pure (w:World) (v:Value) (e:Ending) (w':World):Prop:=e=.returned v∧Below w.heap.size w w'
theorem lt_of_cell {w:World} {a:Addr} {v:Value} (h:w.cell? a=some v):a.block < w.heap.size:=by
  rcases Nat.lt_or_ge a.block w.heap.size with hlt | hge
  · exact hlt
  · simp [World.cell?,Array.getElem?_eq_none hge] at h
theorem keep_cell {w w1:World} {a:Addr} {v:Value} (h:w.cell? a=some v) (hb:Below w.heap.size w w1):w1.cell? a=some v:=(hb.cell (lt_of_cell h)).trans h
structure More where
  blocks:List Obj
  count:Nat
instance:Nonempty More:=⟨⟨[],0⟩⟩
def ext (w:World) (e:More):World:={ w with heap:=w.heap ++ e.blocks.toArray,drawn:=e.count }
def Holds (w:World) (L:List (Addr × Value)):Prop:=∀ p ∈ L,w.cell? p.1=some p.2
theorem Holds.keep {w w1:World} {L:List (Addr × Value)} (h:Holds w L) (hb:Below w.heap.size w w1):Holds w1 L:=fun p hp=>keep_cell (h p hp) hb
theorem Holds.cons {w:World} {a:Addr} {v:Value} {L:List (Addr × Value)}:Holds w ((a,v) :: L) ↔ w.cell? a=some v∧Holds w L:=by
  simp [Holds]
theorem Holds.nil {w:World}:Holds w [] ↔ True:=by simp [Holds]
theorem Holds.append {w:World} {L M:List (Addr × Value)} (h:Holds w L) (h':Holds w M):Holds w (L ++ M):=by
  intro p hp
  rcases List.mem_append.1 hp with hp | hp
  · exact h p hp
  · exact h' p hp
def elemL (b o:Nat):List Value→List (Addr × Value)
  | []=>[]
  | v :: cs=>(⟨b,o,none⟩,v) :: elemL b (o + 1) cs
theorem elemL_holds {w:World} {b:Nat}:∀ (cs:List Value) (o:Nat),(∀ j v,cs[j]?=some v→w.cell? ⟨b,o + j,none⟩=some v)→Holds w (elemL b o cs)
  | [],_,_=>by simp [elemL,Holds]
  | v :: cs,o,h=>by
    rw [elemL,Holds.cons]
    refine ⟨by simpa using h 0 v rfl,elemL_holds cs (o + 1) fun j u hu=>?_⟩
    rw [show o + 1 + j=o + (j + 1) from by omega]
    exact h (j + 1) u (by simpa using hu)
end
section
open Go Go.RowKit Go.ChangeShapes Go.WideShapes Go.Deep
section
variable {H:Type} {enc:TypeId × Value→H} {P:Program} {w:World} {base:Nat} {spare:Nat→Bool} {held:Bool} {fuel:Nat} {t:TypeId} {cs:List Value} {x:DataW H × List MemPlace}
theorem trod_len {fs:Array Field} (ht:P.underlying t=some (.struct fs)) (h:DataW.trod enc P w base spare held fuel t cs=some x):cs.length=P.cellsOf t:=by
  obtain ⟨_,_,_,_,hl,_⟩:=DataW.trod_struct ht h
  exact hl
theorem trod_field {fs:Array Field} (ht:P.underlying t=some (.struct fs)) (h:DataW.trod enc P w base spare held fuel t cs=some x) (j:Nat) (f:Field) (hj:fs[j]?=some f) :
    ∃ n y,DataW.trod enc P w base spare held n f.type ((cs.drop f.offset).take (P.cellsOf f.type))=some y:=by
  obtain ⟨xs,n,_,_,_,hlen,hf⟩:=DataW.trod_struct ht h
  have h1:=hf j f hj
  have hjl:j < xs.length:=by rw [hlen]; exact (Array.getElem?_eq_some_iff.1 hj).1
  exact ⟨n,xs[j],h1.trans (List.getElem?_eq_getElem hjl)⟩
theorem open_struct {r:Reach} {b0:Nat} {v:Value} {d:DataW H} {p:List MemPlace} {fs:Array Field} (ht:P.underlying t=some (.struct fs)) (hv:Value.okWide P w r b0 t v) (h:DataW.Trod enc P w base spare held t v d p) :
    ∃ (cs:List Value) (fuel:Nat),v=.agg cs.toArray∧DataW.trod enc P w base spare held fuel t cs=some (d,p):=by
  obtain ⟨cs,rfl,_⟩:=okWide_struct ht hv
  obtain ⟨fuel,hf⟩:=h
  exact ⟨cs.toList,fuel,rfl,hf⟩
theorem list_of {α:Type} {Q:Nat→α→Prop}:∀ (n:Nat),(∀ i,i < n→∃ r,Q i r)→∃ l:List α,l.length=n∧∀ (i:Nat) (r:α),l[i]?=some r→Q i r
  | 0,_=>⟨[],rfl,by simp⟩
  | n + 1,h=>by
    obtain ⟨l,hl,hq⟩:=list_of n (fun i hi=>h i (by omega))
    obtain ⟨r,hr⟩:=h n (by omega)
    refine ⟨l ++ [r],by simp [hl],fun i r' hi=>?_⟩
    rw [List.getElem?_append] at hi
    split at hi
    · exact hq i r' hi
    · rename_i hge
      obtain rfl:i=n:=by
        have:=(List.getElem?_eq_some_iff.1 hi).1
        simp at this
        omega
      simp [hl] at hi
      subst hi
      exact hr
theorem open_elems {e:TypeId} {size:Nat} {v:Value} (ht:P.underlying t=some (.slice e)) (hc:P.cellsOf e=size) (hs:0 < size) (h:DataW.trod enc P w base spare held fuel t [v]=some x) :
    ∃ A len cap,v=.slice A len cap∧len≤cap∧cap≤maxLen∧(A=none→len=0∧cap=0) ∧
      ∀ i,i < len→∃ b o cs n y,A=some ⟨b,o,none⟩∧cs.length=size∧Holds w (elemL b (o + i * size) cs)∧DataW.trod enc P w base spare held n e cs=some y:=by
  rcases open_slice ht h with ⟨e1,_⟩ | ⟨a,len,cap,m,n,D,Pl,e1,hb,hl,hm,hmm,_,hi⟩
  · cases e1
    exact ⟨none,0,0,rfl,by omega,by omega,fun _=>⟨rfl,rfl⟩,fun i hi=>by omega⟩
  · cases e1
    refine ⟨some a,len,cap,rfl,hl,hm,(by intro h; cases h),fun i hil=>?_⟩
    obtain ⟨cs',hcs,ht'⟩:=hi i (by rw [hmm]; split <;> omega)
    rw [hc] at hcs
    obtain ⟨_,hlen,hcell⟩:=World.cells?_some hcs
    have h0:=hcell 0 hs
    have hlt0:0 < cs'.length:=by omega
    rw [List.getElem?_eq_getElem hlt0] at h0
    have hspot:=World.cell?_spot h0
    obtain ⟨b,o,sp⟩:=a
    have hsp:sp=none:=by
      by_cases hz:i * size=0
      · simpa [Addr.add,hz] using hspot
      · rcases Nat.eq_zero_or_pos i with h0' | h0'
        · simp [h0'] at hz
        · obtain ⟨cs0,hcs0,_⟩:=hi 0 (by rw [hmm]; split <;> omega)
          rw [hc] at hcs0
          obtain ⟨_,hlen0,hcell0⟩:=World.cells?_some hcs0
          have h00:=hcell0 0 hs
          rw [List.getElem?_eq_getElem (by omega)] at h00
          simpa [Addr.add] using World.cell?_spot h00
    subst hsp
    refine ⟨b,o,cs',n,_,rfl,hlen,elemL_holds _ _ fun j u hu=>?_,ht'⟩
    have hj:j < size:=by have:=(List.getElem?_eq_some_iff.1 hu).1; omega
    have:=(hcell j hj).trans hu
    have ea:((⟨b,o,none⟩:Addr).add (i * size)).add j=⟨b,o + i * size + j,none⟩:=by
      unfold Addr.add
      by_cases h1:i * size=0 <;> by_cases h2:j=0 <;> simp [h1,h2]
    rwa [ea] at this
end
structure ArgIn {H:Type} (enc:TypeId × Value→H) (P:Program) (W:World) (base:Nat) (t:TypeId) (v:Value) (d:DataW H) (p:List MemPlace):Prop where
  wide:Value.okWide P W .any base t v
  trod:DataW.Trod enc P W 0 (fun _=>true) true t v d p
section
variable {H:Type} {enc:TypeId × Value→H} {P:Program} {W:World} {base:Nat} {t:TypeId} {v:Value} {d:DataW H} {p:List MemPlace}
theorem ArgIn.slice {e:TypeId} (h:ArgIn enc P W base t v d p) (ht:P.underlying t=some (.slice e)) :
    ∃ A l c fuel,v=.slice A l c∧DataW.trod enc P W 0 (fun _=>true) true fuel t [.slice A l c]=some (d,p):=by
  obtain ⟨A,l,c,rfl⟩:=okWide_slice ht h.wide
  obtain ⟨fuel,hf⟩:=h.trod
  exact ⟨A,l,c,fuel,rfl,hf⟩
theorem ArgIn.struct {fs:Array Field} (h:ArgIn enc P W base t v d p) (ht:P.underlying t=some (.struct fs)) :
    ∃ (cs:List Value) (fuel:Nat),v=.agg cs.toArray∧DataW.trod enc P W 0 (fun _=>true) true fuel t cs=some (d,p) :=
  open_struct ht h.wide h.trod
theorem ArgIn.int {k:IntKind} (h:ArgIn enc P W base t v d p) (ht:P.underlying t=some (.int k)):∃ n,v=.int k n∧(Lit.int k n).wf=true:=by
  obtain ⟨n,rfl,_,_,hw⟩:=open_int ht h.wide h.trod
  exact ⟨n,rfl,hw⟩
theorem ArgIn.bool (h:ArgIn enc P W base t v d p) (ht:P.underlying t=some .bool):∃ b,v=.bool b:=by
  obtain ⟨b,rfl,_⟩:=open_bool ht h.wide h.trod
  exact ⟨b,rfl⟩
theorem ArgIn.string (h:ArgIn enc P W base t v d p) (ht:P.underlying t=some .string):∃ s:ByteArray,v=.string s∧s.size≤maxLen:=by
  obtain ⟨s,rfl,_,_,hs⟩:=Go.ChangeMaps.open_string ht h.wide h.trod
  exact ⟨s,rfl,hs⟩
end
end
section
open Go Go.RowKit Go.ChangeShapes Go.WideShapes Go.Deep
theorem elemL_get {w:World} {b:Nat}:∀ {cs:List Value} {o:Nat} (_:Holds w (elemL b o cs)) {j:Nat} {v:Value} (_:cs[j]?=some v),w.cell? ⟨b,o + j,none⟩=some v
  | [],_,_,_,_,h=>by simp at h
  | c :: cs,o,hh,j,v,h=>by
    rw [elemL,Holds.cons] at hh
    cases j with
    | zero=>simp at h; subst h; exact hh.1
    | succ j=>rw [show o + (j + 1)=o + 1 + j by omega]; exact elemL_get hh.2 (by simpa using h)
inductive Sh where
  | int (k:IntKind)
  | bool
  | str
  | sl (s:Sh)
  | st (l:List Sh)
def shFields (P:Program) (g:TypeId→Option Sh):Nat→List Field→Option (List Sh)
  | _,[]=>some []
  | o,f :: fs=>if f.offset=o then do
      let s ← g f.type
      let l ← shFields P g (o + P.cellsOf f.type) fs
      pure (s :: l)
    else none
def fieldsEnd (P:Program):Nat→List Field→Nat
  | o,[]=>o
  | o,f :: fs=>fieldsEnd P (o + P.cellsOf f.type) fs
def shOf (P:Program):Nat→TypeId→Option Sh
  | 0,_=>none
  | n + 1,t=>match P.underlying t with
    | some (.int k)=>if P.cellsOf t=1 then some (.int k) else none
    | some .bool=>if P.cellsOf t=1 then some .bool else none
    | some .string=>if P.cellsOf t=1 then some .str else none
    | some (.slice e)=>if P.cellsOf t=1∧0 < P.cellsOf e then (shOf P n e).map .sl else none
    | some (.struct fs)=>if fieldsEnd P 0 fs.toList=P.cellsOf t then (shFields P (shOf P n) 0 fs.toList).map .st else none
    | some (.array k e)=>if k * P.cellsOf e=P.cellsOf t then (shOf P n e).map fun s=>.st (List.replicate k s) else none
    | _=>none
def Sh.pack:Sh→List V→V
  | .st _,ds=>.agg ds
  | _,d :: _=>d
  | _,[]=>.und
mutual
inductive Sh.Has:Sh→List V→Prop where
  | int (k:IntKind) (n:Int) (h:(Lit.int k n).wf=true):Sh.Has (.int k) [.sc (.int k n)]
  | bool (b:Bool):Sh.Has .bool [.sc (.bool b)]
  | str (s:ByteArray) (h:s.size≤maxLen):Sh.Has .str [.sc (.string s)]
  | sl (s:Sh) (l:List V) (h:Sh.Hasl s l):Sh.Has (.sl s) [.sl .no l]
  | st (l:List Sh) (ds:List V) (h:Sh.Hass l ds):Sh.Has (.st l) ds
inductive Sh.Hasl:Sh→List V→Prop where
  | nil (s:Sh):Sh.Hasl s []
  | cons (s:Sh) (ds l:List V) (h:Sh.Has s ds) (k:Sh.Hasl s l):Sh.Hasl s (s.pack ds :: l)
inductive Sh.Hass:List Sh→List V→Prop where
  | nil:Sh.Hass [] []
  | cons (s:Sh) (l:List Sh) (a b:List V) (h:Sh.Has s a) (k:Sh.Hass l b):Sh.Hass (s :: l) (a ++ b)
end
theorem hasl_of {s:Sh}:∀ (l:List V),(∀ d,d ∈ l→∃ ds,d=s.pack ds∧Sh.Has s ds)→Sh.Hasl s l
  | [],_=>.nil s
  | d :: l,h=>by
    obtain ⟨ds,rfl,hd⟩:=h d (List.mem_cons_self ..)
    exact .cons s ds l hd (hasl_of l fun e he=>h e (List.mem_cons_of_mem _ he))
def ghOf (w:World):Gh:=⟨fun b o=>w.cell? ⟨b,o,none⟩,fun _=>none⟩
def RepR (G:Gh) (ds:List V) (cs:List Value):Prop:=ds.length=cs.length∧(∀ v ∈ cs,v.oneCell'=true)∧(∀ (i:Nat) (d:V) (v:Value),ds[i]?=some d→cs[i]?=some v→Rep1 G d v)∧∀ d ∈ ds,d.cells=[d]
theorem RepR.one {G:Gh} {d:V} {v:Value} (h:Rep1 G d v) (h1:v.oneCell'=true) (h2:d.cells=[d]):RepR G [d] [v] :=
  ⟨rfl,by simpa using h1,fun i d' v' hd hv=>by
    cases i with
    | zero=>simp at hd hv; subst hd hv; exact h
    | succ i=>simp at hd,by simpa using h2⟩
theorem RepR.append {G:Gh} {a b:List V} {c d:List Value} (h:RepR G a c) (k:RepR G b d):RepR G (a ++ b) (c ++ d) :=
  ⟨by simp [h.1,k.1],fun v hv=>by
    rcases List.mem_append.1 hv with h' | h'
    · exact h.2.1 v h'
    · exact k.2.1 v h',fun i x v hx hv=>by
    rw [List.getElem?_append] at hx hv
    rw [← h.1] at hv
    split at hx
    · rename_i hlt
      rw [if_pos hlt] at hv
      exact h.2.2.1 i x v hx hv
    · rename_i hlt
      rw [if_neg hlt] at hv
      exact k.2.2.1 _ x v hx hv,fun x hx=>by
    rcases List.mem_append.1 hx with h' | h'
    · exact h.2.2.2 x h'
    · exact k.2.2.2 x h'⟩
theorem pack_cells {s:Sh} {ds:List V} (h:s.Has ds) (hc:∀ d ∈ ds,d.cells=[d]):(s.pack ds).cells=ds:=by
  cases h with
  | int=>rfl
  | bool=>rfl
  | str=>rfl
  | sl=>rfl
  | st=>rfl
section
variable {H:Type} {enc:TypeId × Value→H} {P:Program} {w:World} {base:Nat} {spare:Nat→Bool} {held:Bool}
theorem open_sh:∀ (n:Nat) {t:TypeId} {s:Sh} (_:shOf P n t=some s) {fuel:Nat} {cs:List Value} {x:DataW H × List MemPlace} (_:DataW.trod enc P w base spare held fuel t cs=some x),
    ∃ ds,s.Has ds∧RepR (ghOf w) ds cs∧cs.length=P.cellsOf t
  | 0,_,_,hs,_,_,_,_=>by simp [shOf] at hs
  | n + 1,t,s,hs,fuel,cs,x,h=>by
    unfold shOf at hs
    split at hs
    · rename_i k hu
      split at hs
      · rename_i hc
        cases hs
        obtain ⟨m,rfl,_,hw⟩:=DataW.trod_int hu h
        exact ⟨_,.int k m hw,.one (.sc _ rfl) rfl rfl,by rw [hc]; rfl⟩
      · cases hs
    · rename_i hu
      split at hs
      · rename_i hc
        cases hs
        obtain ⟨m,rfl,_⟩:=DataW.trod_bool hu h
        exact ⟨_,.bool m,.one (.sc _ rfl) rfl rfl,by rw [hc]; rfl⟩
      · cases hs
    · rename_i hu
      split at hs
      · rename_i hc
        cases hs
        obtain ⟨m,rfl,_,hm⟩:=DataW.trod_string hu h
        exact ⟨_,.str m hm,.one (.sc _ rfl) rfl rfl,by rw [hc]; rfl⟩
      · cases hs
    · rename_i e hu
      split at hs
      · rename_i hc
        obtain ⟨s',hs',rfl⟩:=Option.map_eq_some_iff.1 hs
        have hlen1:∃ v,cs=[v]:=by
          rcases DataW.trod_slice hu h with ⟨rfl,_⟩ | ⟨a,len,cap,_,_,_,_,rfl,_⟩
          · exact ⟨_,rfl⟩
          · exact ⟨_,rfl⟩
        obtain ⟨v,rfl⟩:=hlen1
        obtain ⟨A,len,cap,rfl,hle,hm,hA,hel⟩:=open_elems hu rfl hc.2 h
        obtain ⟨l,hl,hq⟩:=list_of (Q:=fun i (p:V × List Value)=>∃ b o,A=some ⟨b,o,none⟩∧p.2.length=P.cellsOf e∧Holds w (elemL b (o + i * P.cellsOf e) p.2)∧∃ ds,p.1=s'.pack ds∧s'.Has ds∧RepR (ghOf w) ds p.2) len (fun i hi=>by
          obtain ⟨b,o,cs',n',y,hA',hlen,hh,ht⟩:=hel i hi
          obtain ⟨ds,k1,k2,k3⟩:=open_sh n hs' ht
          exact ⟨(s'.pack ds,cs'),b,o,hA',hlen,hh,ds,rfl,k1,k2⟩)
        refine ⟨[.sl .no (l.map (·.1))],.sl s' _ (hasl_of _ fun d hd=>?_),.one ?_ rfl rfl,by rw [hc.1]; rfl⟩
        · obtain ⟨p,hp,rfl⟩:=List.mem_map.1 hd
          obtain ⟨i,hi,rfl⟩:=List.mem_iff_getElem.1 hp
          obtain ⟨_,_,_,_,_,ds,k1,k2,_⟩:=hq i _ (List.getElem?_eq_getElem hi)
          exact ⟨ds,k1,k2⟩
        · cases A with
          | none =>
            obtain ⟨rfl,rfl⟩:=hA rfl
            obtain rfl:=List.eq_nil_of_length_eq_zero hl
            exact .nil .no (fun g k e=>by cases e)
          | some a =>
            by_cases h0:len=0
            · subst h0
              obtain rfl:=List.eq_nil_of_length_eq_zero hl
              exact .emp a cap hm
            · obtain ⟨b,o,_,_,_,hA',_⟩:=hel 0 (by omega)
              cases hA'
              have hlm:len=(l.map (·.1)).length:=by simp [hl]
              rw [hlm]
              refine .sl .no _ b o (P.cellsOf e) cap (fun i j=>((l[i]?.map (·.2)).getD []).getD j default) (fun i d hd=>?_) (fun i j hi hj=>?_) (fun i j hi hj=>?_) (fun i d j c hd hc'=>?_) (by simp; omega) hm (by simp) (fun g k e=>by cases e)
              · rw [List.getElem?_map] at hd
                obtain ⟨p,hp,rfl⟩:=Option.map_eq_some_iff.1 hd
                obtain ⟨_,_,_,k1,_,ds,k2,k3,k4⟩:=hq i p hp
                rw [k2,pack_cells k3 k4.2.2.2,k4.1,k1]
              · obtain ⟨p,hp⟩:∃ p,l[i]?=some p:=⟨_,List.getElem?_eq_getElem (by simpa using hi)⟩
                obtain ⟨b',o',e',k1,k0,ds,k2,k3,k4⟩:=hq i p hp
                cases e'
                have hj':j < p.2.length:=by omega
                simp only [hp,Option.map_some,Option.getD_some,ghOf]
                have:=elemL_get k0 (List.getElem?_eq_getElem hj')
                rw [this]
                simp [List.getD,hj']
              · obtain ⟨p,hp⟩:∃ p,l[i]?=some p:=⟨_,List.getElem?_eq_getElem (by simpa using hi)⟩
                obtain ⟨b',o',e',k1,k0,ds,k2,k3,k4⟩:=hq i p hp
                have hj':j < p.2.length:=by omega
                simp only [hp,Option.map_some,Option.getD_some]
                simp only [List.getD,List.getElem?_eq_getElem hj',Option.getD_some]
                exact k4.2.1 _ (List.getElem_mem hj')
              · rw [List.getElem?_map] at hd
                obtain ⟨p,hp,rfl⟩:=Option.map_eq_some_iff.1 hd
                obtain ⟨_,_,_,k1,_,ds,k2,k3,k4⟩:=hq i p hp
                rw [k2,pack_cells k3 k4.2.2.2] at hc'
                have hj':j < p.2.length:=by rw [← k4.1]; exact (List.getElem?_eq_some_iff.1 hc').1
                simp only [hp,Option.map_some,Option.getD_some]
                simp only [List.getD,List.getElem?_eq_getElem hj',Option.getD_some]
                exact k4.2.2.1 j c _ hc' (List.getElem?_eq_getElem hj')
      · cases hs
    · rename_i fs hu
      split at hs
      · rename_i hend
        obtain ⟨ss,hss,rfl⟩:=Option.map_eq_some_iff.1 hs
        have hl:=trod_len hu h
        have key:∀ (gs:List Field) (j0 o:Nat) (ss:List Sh),(∀ i f,gs[i]?=some f→fs[j0 + i]?=some f)→shFields P (shOf P n) o gs=some ss→fieldsEnd P o gs=cs.length →
            ∃ ds,Sh.Hass ss ds∧RepR (ghOf w) ds (cs.drop o):=by
          intro gs
          induction gs with
          | nil =>
            intro j0 o ss _ hss he
            simp only [shFields,Option.some.injEq] at hss
            subst hss
            simp only [fieldsEnd] at he
            exact ⟨[],.nil,by rw [List.drop_of_length_le (by omega)]; exact ⟨rfl,by simp,by simp,by simp⟩⟩
          | cons f gs ih =>
            intro j0 o ss hg hss he
            simp only [shFields] at hss
            split at hss
            · rename_i hof
              simp only [Option.bind_eq_bind,Option.bind_eq_some_iff] at hss
              obtain ⟨s0,h0,ss',h1,h2⟩:=hss
              cases h2
              simp only [fieldsEnd] at he
              obtain ⟨ds',k1,k2⟩:=ih (j0 + 1) _ ss' (fun i g hi=>by rw [show j0 + 1 + i=j0 + (i + 1) by omega]; exact hg (i + 1) g (by simpa using hi)) h1 he
              obtain ⟨m,y,hy⟩:=trod_field hu h j0 f (by simpa using hg 0 f rfl)
              rw [hof] at hy
              obtain ⟨ds0,q1,q2,q3⟩:=open_sh n h0 hy
              refine ⟨ds0 ++ ds',.cons _ _ _ _ q1 k1,?_⟩
              have:=q2.append k2
              rwa [← List.drop_drop,List.take_append_drop] at this
            · cases hss
        obtain ⟨ds,k1,k2⟩:=key fs.toList 0 0 ss (fun i f hf=>by simpa using hf) hss (by rw [hend,hl])
        exact ⟨ds,.st _ _ k1,by simpa using k2,hl⟩
      · cases hs
    · rename_i k e hu
      split at hs
      · rename_i hend
        obtain ⟨s',hs',rfl⟩:=Option.map_eq_some_iff.1 hs
        obtain ⟨xs,m,_,_,hl,hxl,hget⟩:=DataW.trod_array hu h
        have key:∀ (j i:Nat),i + j=k→∃ ds,Sh.Hass (List.replicate j s') ds∧RepR (ghOf w) ds (cs.drop (i * P.cellsOf e)):=by
          intro j
          induction j with
          | zero =>
            intro i hij
            refine ⟨[],.nil,?_⟩
            have:i=k:=by omega
            subst this
            rw [List.drop_of_length_le (by omega)]
            exact ⟨rfl,by simp,by simp,by simp⟩
          | succ j ih =>
            intro i hij
            obtain ⟨ds',k1,k2⟩:=ih (i + 1) (by omega)
            have hlt:i < xs.length:=by omega
            have hy:=hget i (by omega)
            rw [List.getElem?_eq_getElem hlt] at hy
            obtain ⟨ds0,q1,q2,q3⟩:=open_sh n hs' hy
            refine ⟨ds0 ++ ds',.cons _ _ _ _ q1 k1,?_⟩
            have:=q2.append k2
            rwa [Nat.add_mul,Nat.one_mul,← List.drop_drop,List.take_append_drop] at this
        obtain ⟨ds,k1,k2⟩:=key k 0 (by omega)
        exact ⟨ds,.st _ _ k1,by simpa using k2,hl⟩
      · cases hs
    · cases hs
theorem RepR.agg {G:Gh} {ds:List V} {cs:List Value} (h:RepR G ds cs):Rep1 G (.agg ds) (.agg cs.toArray) :=
  .agg ds _ (by simp [h.1]) (fun i v hv=>h.2.1 v (List.mem_of_getElem? (by simpa using hv))) (fun i c v hc hv=>h.2.2.1 i c v hc (by simpa using hv))
theorem RepR.head {G:Gh} {d:V} {v:Value} (h:RepR G [d] [v]):Rep1 G d v:=h.2.2.1 0 d v rfl rfl
theorem arg_sh {W:World} (n:Nat) {t:TypeId} {s:Sh} {v:Value} {d:DataW H} {p:List MemPlace} (hs:shOf P n t=some s) (h:ArgIn enc P W base t v d p):∃ ds,s.Has ds∧Rep1 (ghOf W) (s.pack ds) v:=by
  cases n with
  | zero=>simp [shOf] at hs
  | succ n =>
  have hs0:=hs
  unfold shOf at hs
  split at hs
  · rename_i k hu
    split at hs
    · cases hs
      obtain ⟨m,rfl,hw⟩:=h.int hu
      exact ⟨_,.int k m hw,.sc _ rfl⟩
    · cases hs
  · rename_i hu
    split at hs
    · cases hs
      obtain ⟨b,rfl⟩:=h.bool hu
      exact ⟨_,.bool b,.sc _ rfl⟩
    · cases hs
  · rename_i hu
    split at hs
    · cases hs
      obtain ⟨b,rfl,hm⟩:=h.string hu
      exact ⟨_,.str b hm,.sc _ rfl⟩
    · cases hs
  · rename_i e hu
    split at hs
    · obtain ⟨s',hs',rfl⟩:=Option.map_eq_some_iff.1 hs
      obtain ⟨A,l,c,fuel,rfl,ht⟩:=h.slice hu
      obtain ⟨ds,k1,k2,_⟩:=open_sh _ hs0 ht
      refine ⟨ds,k1,?_⟩
      cases k1 with
      | sl _ l' h'=>exact k2.head
    · cases hs
  · rename_i fs hu
    split at hs
    · obtain ⟨ss,hss,rfl⟩:=Option.map_eq_some_iff.1 hs
      obtain ⟨cs,fuel,rfl,ht⟩:=h.struct hu
      obtain ⟨ds,k1,k2,_⟩:=open_sh _ hs0 ht
      exact ⟨ds,k1,k2.agg⟩
    · cases hs
  · rename_i k e hu
    split at hs
    · obtain ⟨s',hs',rfl⟩:=Option.map_eq_some_iff.1 hs
      have hwd:=h.wide
      simp only [Value.okWide,hu] at hwd
      obtain ⟨cs,rfl,_⟩:=hwd
      obtain ⟨fuel,ht⟩:=h.trod
      obtain ⟨ds,k1,k2,_⟩:=open_sh _ hs0 ht
      have ha:=k2.agg
      rw [show (Value.agg cs).cells.toList.toArray=cs from by simp [Value.cells]] at ha
      exact ⟨ds,k1,ha⟩
    · cases hs
  · cases hs
end
def st0 (w:World):St:=⟨fun _=>none,fun _=>none,w.heap.size⟩
theorem repW0 (w:World) (hT:Tabs w):RepW (Fr.of w hT) (ghOf w) (st0 w) w :=
  ⟨fun _ _ _ h=>h,fun _ _ h=>(by cases h),fun _ _ h=>(by cases h),fun _ _ h=>(by cases h),Nat.le_refl _,Below.refl _ _,fun _ _ h=>(by cases h)⟩
theorem v_calls {P:Program} {f:FuncId} {args:List V} {us:Array Value} {w:World} (h:VCalls P f args (st0 w) fun r _=>r=.sc (.bool true)) (hl:us.size=args.length)
    (hr:∀ (i:Nat) (d:V) (u:Value),args[i]?=some d→us[i]?=some u→Rep1 (ghOf w) d u) (hT:Tabs w:=by intro _ _ _ h; cases h):Calls P f us w (Pure w (.bool true)) :=
  (h (Fr.of w hT) (ghOf w) w us (repW0 w hT) hl hr).mono fun e w' ⟨u,r,st',G',h1,h2,h3,_,h5⟩=>by
    subst h2
    cases h3
    exact ⟨h1,h5.bel⟩
theorem reps2 {G:Gh} {d e:V} {u q:Value} (h:Rep1 G d u) (k:Rep1 G e q):∀ (i:Nat) (x:V) (v:Value),[d,e][i]?=some x→#[u,q][i]?=some v→Rep1 G x v:=fun i x v hx hv=>by
  match i with
  | 0=>simp at hx hv; subst hx hv; exact h
  | 1=>simp at hx hv; subst hx hv; exact k
  | i + 2=>simp at hx
end
end Go.Proofs.YtnjmddlgpcnpeaaGreat
