/- Steps of the proof, joined: AsV, Rc, EH, ETab, Rt1. -/
import Derived.Test.YtifeoamomonbjaaGreatDoorZwd
import Derived.Test.YtifeoamomonbjaaGreatDoorZwa
import Derived.Test.YtifeoamomonbjaaGreatDoorVc
import Derived.Test.YtifeoamomonbjaaGreatDoorZec
import Derived.Test.YtifeoamomonbjaaGreatDoorZwb
import Derived.KernelRfl
namespace Go.Proofs.YtifeoamomonbjaaGreatDoor
open Go
attribute [local go_sem] run_skip run_reg run_seq run_blk run_exit run_ret run_cond if_true if_false at_code_n at_code_x at_code_r at_blk_n at_blk_x at_blk_r at_rnd_n at_rnd_x at_rnd_r at_fin_n at_fin_r ops_nil ops_grd grd_und grd_tt grd_ff grd_tf grd_ft ops_mv ops_pick ops_bin ops_binZ ops_un ops_binb ops_eqs ops_isnil ops_pnil ops_b2s ops_s2b ops_b2sB ops_s2a ops_slcA ops_aidx vaidx vb2sB vs2a vslcA ops_sidx vs2b vsidx srcX ops_appx apx_mk ops_mks ops_mko mks_int mko_int vbinb veqs visnil vpnil vb2s ops_conv ops_fld ops_ix ops_ixa ops_load ops_nilck ops_ext ops_len ops_slen ops_mn ops_mx ops_bld ops_bsl ops_slc ops_sslc ops_box ops_alc ops_alcX ops_boxX ops_bslo ops_store ops_app ops_call ev_t ev_c put_get put_none opv_mk stb_some sto_ptr over_get rel_mk vnat Bx Stp vbld vbsl put_box_same put_box_ne put_sz put_own use_box use_sz put_put args0 List.getD_cons_zero List.getD_cons_succ List.getD_nil vpick vbin vbinZ vbinI vbinS vun vconv norm vfld vnil vlen vslen vext vmm vix vixa vload takeV takeB mono_nil mono_two mono_sc mono_any mono_und mono_sl mono_agg mono_ep vmlk vmlen vmnil vinil vent vmfn allSc vslc3 kOk fitsV ops_mlk ops_mlen ops_mnil ops_inil ops_ent ops_mfn ops_slc3 ops_mkm ops_mup mup_map mub_some ops_mdel mdl_nil mdl_map mdb_some ops_rng rng_none rng_map rgb_some ops_nxt ops_ment met_map meb_some ops_est est_map esb_some ops_clr clr_nil clr_box clb_some ops_calv clv_func vslc vsslc fillV splice V.cells strip strip1 allLen ptrV obsOk shAmt IntKind.bits List.map_cons List.map_nil List.length_cons List.length_nil List.getElem?_cons_zero List.getElem?_cons_succ List.take_succ_cons List.take_zero List.drop_succ_cons List.drop_zero List.cons_append List.nil_append List.append_nil List.take_nil List.drop_nil Option.map_some Option.map_none and_true true_and Int.toNat_natCast Nat.min_def Nat.zero_add Nat.add_zero Nat.zero_mul Nat.mul_one Nat.one_mul vret rvAll rvVal resv_1 resv_2 decide_true decide_false Int.lt_irrefl Bool.not_true Bool.not_false ne_eq not_true_eq_false not_false_eq_true eq_self Bool.true_eq_false Bool.false_eq_true List.contains_cons List.contains_nil Bool.false_or Bool.true_or Bool.or_false Bool.or_true List.mem_cons List.not_mem_nil or_false or_true true_or false_or mono_bs ops_aidxn vaidxn ops_fv vfv ops_mki vmki ops_inv ops_cpy cpy_box cpb_some Nat.reduceEqDiff Nat.reduceAdd Nat.reduceMul Nat.reduceSub Nat.reduceLT Nat.reduceLeDiff Int.reduceToNat Int.reduceLE Int.reduceLT Int.reducePow Int.reduceMul Int.reduceAdd Int.reduceSub Int.reduceNeg Int.reduceEq Int.reduceMod Int.reduceDiv Nat.reducePow Nat.reduceMod Nat.reduceDiv reduceCtorEq Nat.reduceBEq
section
open Go Go.RowKit
theorem ktab_err:ktab 0 0=some (.iface 150 (.agg #[.pointer (some ⟨1,50,none⟩)])):=rfl
section
variable {w0:Fr} {G:Gh} {st:St} {w:World}
theorem RepW.as4 (hw:RepW w0 G st w) {b:Nat} {x:V} (hb:st.box b=some [x]) (hx:x.ob=false) (o1 o2 o3 o4:Obj) {v:Value} {y:V} (h1:v.oneCell'=true) (hr:Rep1 G y v) :
    RepW w0 G (st.put b [y]) (((((w.alloc o1).alloc o2).alloc o3).alloc o4).setCell ⟨b,0,none⟩ v):=by
  obtain ⟨hlt,_,_,_,hrb⟩:=hw.box b _ hb
  obtain ⟨vs,te,hh,hvl,hv1,hvr⟩:=hrb.row (show mono [x] from hx)
  have h4:=(((hw.alloc o1).alloc o2).alloc o3).alloc o4
  have hbw:b < w.heap.size:=Nat.lt_of_lt_of_le hlt hw.sz
  have hh4:((((w.alloc o1).alloc o2).alloc o3).alloc o4).heap[b]?=some (.cells vs te (0,0)):=by
    rw [Go.heap_alloc_old _ _ (by simp; omega),Go.heap_alloc_old _ _ (by simp; omega),Go.heap_alloc_old _ _ (by simp; omega),Go.heap_alloc_old _ _ hbw]; exact hh
  refine h4.setBox hb _ (vs.setIfInBounds 0 v) te [y] (heap_setCell_same _ b 0 vs te v hh4) (fun k hk=>heap_setCell_other _ ⟨b,0,none⟩ k v hk) (by simp) rfl rfl rfl (by simpa using hvl) (fun i u hu=>?_) (fun i c u hc hu=>?_)
  · rw [Array.getElem?_setIfInBounds] at hu
    split at hu
    · split at hu
      · cases hu; exact h1
      · cases hu
    · exact hv1 i u hu
  · match i with
    | 0 =>
      have e:(vs.setIfInBounds 0 v)[0]?=some v:=by rw [Array.getElem?_setIfInBounds]; simp [hvl]
      rw [e] at hu; cases hu; cases hc; exact hr
    | i + 1=>simp at hc
theorem box_cell (hw:RepW w0 G st w) {b:Nat} {x:V} (hb:st.box b=some [x]) (hx:x.ob=false):∃ v,w.cell? ⟨b,0,none⟩=some v∧w.frozen? ⟨b,0,none⟩=false:=by
  obtain ⟨_,_,_,_,hrb⟩:=hw.box b _ hb
  obtain ⟨vs,te,hh,hvl,hv1,hvr⟩:=hrb.row (show mono [x] from hx)
  have h0:vs[0]?=some (vs[0]'(by rw [hvl]; simp)):=Array.getElem?_eq_getElem _
  exact ⟨_,by rw [cell_of_row w b 0 vs te _ hh]; exact h0,by simp [World.frozen?,hh]⟩
theorem as_v {b:Nat} {c:Int} {x:V} (hb:st.box b=some [x]) (hx:x.ob=false):VCalls Tryz.prog 18 [.sc (.iface 22 (.int .i64 c)),.sc (.iface 63 (.pointer (some ⟨b,0,none⟩)))] st fun r s=>r=.sc (.bool true)∧s=st.put b [.sc (.int .i64 c)]:=by
  intro w0 G w us hw hl hr
  obtain ⟨u1,u2,rfl⟩:∃ u1 u2,us=#[u1,u2]:=by
    obtain ⟨l⟩:=us
    match l,hl with
    | [u1,u2],_=>exact ⟨u1,u2,rfl⟩
  have r1:=hr 0 _ u1 rfl rfl
  have r2:=hr 1 _ u2 rfl rfl
  cases r1; cases r2
  obtain ⟨v,hc,hf⟩:=box_cell hw hb hx
  refine (As.as_hit c ⟨b,0,none⟩ v w (hw.tabs 0 0 _ ktab_err) hc hf).mono ?_
  rintro e w' ⟨rfl,rfl⟩
  exact ⟨_,.sc (.bool true),_,G,rfl,⟨rfl,rfl⟩,.sc _ rfl,.refl G,hw.as4 hb hx _ _ _ _ rfl (.sc _ rfl)⟩
theorem asw_v {b d:Nat} {n c:Int} {x:V} (hb:st.box b=some [x]) (hx:x.ob=false) (hd:st.box d=some [.sc (.int .i64 n),.sc (.int .i64 c)]):VCalls Tryz.prog 18 [.sc (.iface 23 (.pointer (some ⟨d,0,none⟩))),.sc (.iface 63 (.pointer (some ⟨b,0,none⟩)))] st fun r s=>r=.sc (.bool true)∧s=st.put b [.sc (.int .i64 c)]:=by
  intro w0 G w us hw hl hr
  obtain ⟨u1,u2,rfl⟩:∃ u1 u2,us=#[u1,u2]:=by
    obtain ⟨l⟩:=us
    match l,hl with
    | [u1,u2],_=>exact ⟨u1,u2,rfl⟩
  have r1:=hr 0 _ u1 rfl rfl
  have r2:=hr 1 _ u2 rfl rfl
  cases r1; cases r2
  obtain ⟨v,hc,hf⟩:=box_cell hw hb hx
  have he:w.cell? ⟨d,0 + 1,none⟩=some (.int .i64 c):=by
    obtain ⟨_,_,_,_,hrb⟩:=hw.box d _ hd
    obtain ⟨vs,te,hh,hvl,hv1,hvr⟩:=hrb.row (by rw [mono_two]; trivial)
    have h0:vs[1]?=some (vs[1]'(by rw [hvl]; simp)):=Array.getElem?_eq_getElem _
    have h1:=hvr 1 _ _ rfl h0
    rw [cell_of_row w d (0 + 1) vs te _ hh]
    show vs[1]?=_
    rw [h0]
    generalize vs[1]'(by rw [hvl]; simp)=z at h1
    cases h1; rfl
  refine (As.as_wrap c d 0 ⟨b,0,none⟩ v w (hw.tabs 0 0 _ ktab_err) hc hf he).mono ?_
  rintro e w' ⟨rfl,rfl⟩
  exact ⟨_,.sc (.bool true),_,G,rfl,⟨rfl,rfl⟩,.sc _ rfl,.refl G,hw.as4 hb hx _ _ _ _ rfl (.sc _ rfl)⟩
theorem asn_v {b:Nat}:VCalls Tryz.prog 18 [.sc .nilIface,.sc (.iface 63 (.pointer (some ⟨b,0,none⟩)))] st fun r s=>r=.sc (.bool false)∧st=s:=by
  intro w0 G w us hw hl hr
  obtain ⟨u1,u2,rfl⟩:∃ u1 u2,us=#[u1,u2]:=by
    obtain ⟨l⟩:=us
    match l,hl with
    | [u1,u2],_=>exact ⟨u1,u2,rfl⟩
  have r1:=hr 0 _ u1 rfl rfl
  have r2:=hr 1 _ u2 rfl rfl
  cases r1; cases r2
  refine (As.as_nil _ w).mono ?_
  rintro e w' ⟨rfl,rfl⟩
  exact ⟨_,.sc (.bool false),st,G,rfl,⟨rfl,rfl⟩,.sc _ rfl,.refl G,hw⟩
end
end
section
open Go
section
variable {st:St} {c n:Int} {d:Nat}
set_option maxRecDepth 100000 in
theorem code_v:VCalls Tryz.prog 12 [.sc (.iface 22 (.int .i64 c))] st fun r s=>r=.sc (.int .i64 c)∧st=s:=by
  refine vcalls_enter vc12 (Nat.le_of_ble_eq_true rfl) fun hwf hok=>?_
  show Run _ Vc12.body (.fin (finQ Vc12.res _)) _ _
  unfold Vc12 zo
  simp (maxSteps:=3000000) only [go_sem,↓reduceIte]
  intro b hb
  refine Cal.mk (as_v put_box_same rfl) ?_
  rintro _ _ ⟨rfl,rfl⟩ -
  simp (maxSteps:=3000000) only [go_sem,↓reduceIte]
  exact ⟨_,_,Wk.refl _,weak_put hwf.weak hb,rfl,rfl⟩
set_option maxRecDepth 100000 in
theorem codeW_v (hd:st.box d=some [.sc (.int .i64 n),.sc (.int .i64 c)]):VCalls Tryz.prog 12 [.sc (.iface 23 (.pointer (some ⟨d,0,none⟩)))] st fun r s=>r=.sc (.int .i64 c)∧st=s:=by
  refine vcalls_enter vc12 (Nat.le_of_ble_eq_true rfl) fun hwf hok=>?_
  show Run _ Vc12.body (.fin (finQ Vc12.res _)) _ _
  unfold Vc12 zo
  have hdl:=hwf.box d _ hd
  simp (maxSteps:=3000000) only [go_sem,↓reduceIte]
  intro b hb
  refine Cal.mk (asw_v put_box_same rfl (n:=n) (c:=c) (by rw [put_box_ne (by omega)]; exact hd)) ?_
  rintro _ _ ⟨rfl,rfl⟩ -
  simp (maxSteps:=3000000) only [go_sem,↓reduceIte]
  exact ⟨_,_,Wk.refl _,weak_put hwf.weak hb,rfl,rfl⟩
set_option maxRecDepth 100000 in
theorem codeN_v:VCalls Tryz.prog 12 [.sc .nilIface] st fun r s=>r=.sc (.int .i64 0)∧st=s:=by
  refine vcalls_enter vc12 (Nat.le_of_ble_eq_true rfl) fun hwf hok=>?_
  show Run _ Vc12.body (.fin (finQ Vc12.res _)) _ _
  unfold Vc12 zo
  simp (maxSteps:=3000000) only [go_sem,↓reduceIte]
  intro b hb
  refine Cal.mk asn_v ?_
  rintro _ _ ⟨rfl,rfl⟩ -
  simp (maxSteps:=3000000) only [go_sem,↓reduceIte]
  exact ⟨_,_,Wk.refl _,weak_put hwf.weak hb,rfl,rfl⟩
end
end
section
namespace Ev
open Go Go.Proofs Go.Proofs.YtifeoamomonbjaaGreatDoor
def hc2 (H:Hp):List W→Ro
  | [.int .i64 _,.int .i64 c]=>.ok (.int .i64 c) H
  | _=>.bad []
def hc1 (H:Hp):Bx→Ro
  | .cells none l=>hc2 H l
  | _=>.bad []
noncomputable def hcode:List W→Hp→Ro
  | [.nili],H=>.ok (.int .i64 0) H
  | [.iface t (.int .i64 c)],H=>bi (Nat.beq t 22) (.ok (.int .i64 c) H) (.bad [])
  | [.iface t (.ptr i 0)],H=>bi (Nat.beq t 23) (hc1 H (H.get i)) (.bad [])
  | _,_=>.bad []
section
variable {s0 st:St} {ρ:Rn} {H H2:Hp} {r:W}
theorem bi_okr {c:Bool} {x:Ro} {l:List Nat} (h:bi c x (.bad l)=.ok r H2):c=true∧x=.ok r H2:=by
  cases c with
  | false=>cases h
  | true=>exact ⟨rfl,h⟩
theorem hcode_R (s0:St):CallR Tryz.prog s0 fun f args H=>if f=12 then hcode args H else .bad []:=by
  intro f args H r H2 h
  have h:(if f=12 then hcode args H else .bad [])=Ro.ok r H2:=h
  by_cases e:f=12
  · subst e
    rw [if_pos rfl] at h
    refine ⟨by kernel_rfl,fun ρ st vs hS hl=>?_⟩
    unfold hcode at h
    split at h
    · cases h
      obtain ⟨b,m,rfl,hb,ht⟩:=hl.cons_inv
      obtain rfl:=ht.nil_inv
      cases hb
      exact codeN_v.mono fun v s ⟨hv,hs⟩=>⟨ρ,Rn.rfl',hs ▸ hS,hv ▸ .int _ _⟩
    · obtain ⟨h1,h2⟩:=bi_okr h
      cases h2
      have h1:=beq_t h1
      subst h1
      obtain ⟨b,m,rfl,hb,ht⟩:=hl.cons_inv
      obtain rfl:=ht.nil_inv
      cases hb with
      | iface _ _ v hv h1 =>
        cases hv
        exact code_v.mono fun v s ⟨hv,hs⟩=>⟨ρ,Rn.rfl',hs ▸ hS,hv ▸ .int _ _⟩
    · obtain ⟨h1,h2⟩:=bi_okr h
      have h1:=beq_t h1
      subst h1
      obtain ⟨b,m,rfl,hb,ht⟩:=hl.cons_inv
      obtain rfl:=ht.nil_inv
      cases hb with
      | iface _ _ v hv h1 =>
        cases hv with
        | ptr i o b hi =>
          have hx:=hS.bx _ _ hi
          unfold hc1 at h2
          split at h2
          · rename_i l hg
            rw [hg] at hx
            obtain ⟨-,-,cs,hcs,hR⟩:=hx
            unfold hc2 at h2
            split at h2
            · rename_i n c
              cases h2
              cases hR with
              | cells _ _ vs sp hv hm he =>
                obtain ⟨v1,m1,rfl,k1,ht⟩:=hv.cons_inv
                obtain ⟨v2,m2,rfl,k2,ht⟩:=ht.cons_inv
                obtain rfl:=ht.nil_inv
                cases k1
                cases k2
                have hsp:sp=[]:=he
                subst hsp
                exact (codeW_v (n:=n) (c:=c) hcs).mono fun v s ⟨hv,hs⟩=>⟨ρ,Rn.rfl',hs ▸ hS,hv ▸ .int _ _⟩
            · cases h2
          · cases h2
    · cases h
  · rw [if_neg e] at h; cases h
end
end Ev
end
section
namespace Ev
open Go Go.Proofs Go.Proofs.YtifeoamomonbjaaGreatDoor
noncomputable def lk (f:Nat) (l:List (Nat × FC)):Option FC:=List.rec (motive:=fun _=>Option FC) none (fun p _ r=>bi (Nat.beq f p.1) (some p.2) r) l
theorem lk_mem:∀ {l:List (Nat × FC)} {f:Nat} {F:FC},lk f l=some F→(f,F) ∈ l
  | [],_,_,h=>by cases h
  | p :: l,f,F,h=>by
    have h:bi (Nat.beq f p.1) (some p.2) (lk f l)=some F:=h
    cases hb:Nat.beq f p.1 with
    | true =>
      rw [hb] at h
      have e:=Nat.eq_of_beq_eq_true hb
      cases h
      exact List.mem_cons.2 (.inl (by rw [e]))
    | false=>rw [hb] at h; exact List.mem_cons.2 (.inr (lk_mem h))
def Tab:List (Nat × FC):=[(4,Vc4),(5,Vc5),(6,Vc6),(7,Vc7),(8,Vc8),(12,Vc12),(14,Vc14),(15,Vc15),(16,Vc16),(17,Vc17),(19,Vc19),(20,Vc20),(21,Vc21),(22,Vc22),(25,Vc25),(27,Vc27),(28,Vc28),(33,Vc33),(34,Vc34),(35,Vc35),(36,Vc36),(37,Vc37),(42,Vc42),(44,Vc44),(51,Vc51),(52,Vc52),(56,Vc56),(57,Vc57),(58,Vc58),(59,Vc59),(66,Vc66),(80,Vc80),(90,Vc90),(91,Vc91),(102,Vc102),(103,Vc103),(104,Vc104),(118,Vc118),(146,Vc146),(171,Vc171),(184,Vc184),(217,Vc217),(218,Vc218),(264,Vc264),(273,Vc273)]
theorem tab_f:∀ p ∈ Tab,cFun Tryz.prog p.1=some p.2 :=
  List.forall_mem_cons.2 ⟨vc4,List.forall_mem_cons.2 ⟨vc5,List.forall_mem_cons.2 ⟨vc6,List.forall_mem_cons.2 ⟨vc7,List.forall_mem_cons.2 ⟨vc8,List.forall_mem_cons.2 ⟨vc12,List.forall_mem_cons.2 ⟨vc14,List.forall_mem_cons.2 ⟨vc15,List.forall_mem_cons.2 ⟨vc16,List.forall_mem_cons.2 ⟨vc17,List.forall_mem_cons.2 ⟨vc19,List.forall_mem_cons.2 ⟨vc20,List.forall_mem_cons.2 ⟨vc21,List.forall_mem_cons.2 ⟨vc22,List.forall_mem_cons.2 ⟨vc25,List.forall_mem_cons.2 ⟨vc27,List.forall_mem_cons.2 ⟨vc28,List.forall_mem_cons.2 ⟨vc33,List.forall_mem_cons.2 ⟨vc34,List.forall_mem_cons.2 ⟨vc35,List.forall_mem_cons.2 ⟨vc36,List.forall_mem_cons.2 ⟨vc37,List.forall_mem_cons.2 ⟨vc42,List.forall_mem_cons.2 ⟨vc44,List.forall_mem_cons.2 ⟨vc51,List.forall_mem_cons.2 ⟨vc52,List.forall_mem_cons.2 ⟨vc56,List.forall_mem_cons.2 ⟨vc57,List.forall_mem_cons.2 ⟨vc58,List.forall_mem_cons.2 ⟨vc59,List.forall_mem_cons.2 ⟨vc66,List.forall_mem_cons.2 ⟨vc80,List.forall_mem_cons.2 ⟨vc90,List.forall_mem_cons.2 ⟨vc91,List.forall_mem_cons.2 ⟨vc102,List.forall_mem_cons.2 ⟨vc103,List.forall_mem_cons.2 ⟨vc104,List.forall_mem_cons.2 ⟨vc118,List.forall_mem_cons.2 ⟨vc146,List.forall_mem_cons.2 ⟨vc171,List.forall_mem_cons.2 ⟨vc184,List.forall_mem_cons.2 ⟨vc217,List.forall_mem_cons.2 ⟨vc218,List.forall_mem_cons.2 ⟨vc264,List.forall_mem_cons.2 ⟨vc273,List.forall_mem_nil _⟩⟩⟩⟩⟩⟩⟩⟩⟩⟩⟩⟩⟩⟩⟩⟩⟩⟩⟩⟩⟩⟩⟩⟩⟩⟩⟩⟩⟩⟩⟩⟩⟩⟩⟩⟩⟩⟩⟩⟩⟩⟩⟩⟩⟩
def TabK:List Nat:=[4,5,6,7,8,12,14,15,16,17,19,20,21,22,25,27,28,33,34,35,36,37,42,44,51,52,56,57,58,59,66,80,90,91,102,103,104,118,146,171,184,217,218,264,273]
theorem tab_k:Tab.map Prod.fst=TabK:=rfl
theorem tab_c:TabK.all (fun p=>callable Tryz.prog p)=true:=by kernel_rfl
theorem tab_c2:∀ k ∈ TabK,callable Tryz.prog k=true:=List.all_eq_true.1 tab_c
theorem tab_ok {f:Nat} {F:FC} (h:lk f Tab=some F):cFun Tryz.prog f=some F∧callable Tryz.prog f=true :=
  by
  have hm:=lk_mem (l:=Tab) (f:=f) (F:=F) h
  have h1:=tab_f (f,F) hm
  have h2:=List.mem_map_of_mem (f:=Prod.fst) hm
  rw [tab_k] at h2
  exact ⟨h1,tab_c2 f h2⟩
end Ev
end
section
namespace Ev
open Go Go.Proofs Go.Proofs.YtifeoamomonbjaaGreatDoor
noncomputable def mkCfg (P:Program) (F:FuncId→Option FC) (hk:FuncId→Option ((List W→Bool) × (List W→Hp→Ro))):Cfg:=⟨methOf P,F,fun _ _=>false,hk⟩
theorem mkCfg_ok {P:Program} {F:FuncId→Option FC} {hk:FuncId→Option ((List W→Bool) × (List W→Hp→Ro))} (hF:∀ f G,F f=some G→cFun P f=some G∧callable P f=true)
    (hh:∀ f g,hk f=some g→∀ s0,CallR P s0 fun f' args H=>if f'=f then bi (g.1 args) (g.2 args H) (.bad []) else .bad []):CfgOk P (mkCfg P F hk):=⟨fun _ _ _ h=>h,hF,hh⟩
noncomputable def rhk (f:FuncId):Option ((List W→Bool) × (List W→Hp→Ro)):=bi (Nat.beq f 12) (some (fun _=>true,hcode)) none
noncomputable def rF (f:FuncId):Option FC:=lk f Tab
noncomputable def rcfg:Cfg:=mkCfg Tryz.prog rF rhk
theorem rhk_ok (f:FuncId) (g:(List W→Bool) × (List W→Hp→Ro)) (h:rhk f=some g) (s0:St):CallR Tryz.prog s0 fun f' args H=>if f'=f then bi (g.1 args) (g.2 args H) (.bad []) else .bad []:=by
  unfold rhk at h
  cases hb:Nat.beq f 12 with
  | false=>rw [hb] at h; cases h
  | true =>
    rw [hb] at h
    have e:=Nat.eq_of_beq_eq_true hb
    cases h
    rw [e]
    exact hcode_R s0
theorem rcfg_ok:CfgOk Tryz.prog rcfg:=mkCfg_ok (fun f G h=>@tab_ok f G h) rhk_ok
def okB:Ro→Bool
  | .ok (.bool b) _=>b
  | _=>false
noncomputable def liveR:Ro:=ecall rcfg 1000 14 [] hp0
set_option maxRecDepth 1000000 in
theorem alive_k:okB liveR=true:=by kernel_rfl
theorem alive_v (st:St):VCalls Tryz.prog 14 [] st fun d s=>d=.sc (.bool true)∧st=s:=by
  have hk:=alive_k
  cases hx:liveR with
  | bad c=>rw [hx] at hk; cases hk
  | ok r H =>
    rw [hx] at hk
    cases r with
    | bool b =>
      have hb:b=true:=hk
      subst hb
      exact closed rcfg_ok hx (fun ρ d h=>by cases h; rfl) st
    | _=>cases hk
end Ev
end
end Go.Proofs.YtifeoamomonbjaaGreatDoor
