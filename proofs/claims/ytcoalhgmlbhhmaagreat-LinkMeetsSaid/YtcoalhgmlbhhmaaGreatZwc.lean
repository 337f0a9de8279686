/- Steps of the proof, joined: VLink1, VLink2, VLink3, VLk, VR10, VRef3, VR21, VR33, VR36, VR04a, VR04b, VR04c, VRf, VLkM, VR34, VR35, VLkN, Base, Open, VEnter, VSeat, VOpenB. -/
import Derived.Test.YtcoalhgmlbhhmaaGreatZwa
import Derived.Test.YtcoalhgmlbhhmaaGreatZwb
import Derived.Test.YtcoalhgmlbhhmaaGreatPc
import Derived.Test.YtcoalhgmlbhhmaaGreatProg
import Derived.WalkKit
import Derived.WalkSpells
import Derived.WalkLawsBesides
import Derived.Deep.RegionHeld3
import Derived.Deep.DrawnRows
import Derived.BigQuiet
import Derived.Lib.Hide
import Derived.ProofKit
import Derived.OpenShut
import Derived.Deep.Slices
import Derived.Test.YtcoalhgmlbhhmaaGreatZec
import Derived.Test.YtcoalhgmlbhhmaaGreatVc
namespace Go.Proofs.YtcoalhgmlbhhmaaGreat
open Go
attribute [local go_sem] run_skip run_reg run_seq run_blk run_exit run_ret run_cond if_true if_false at_code_n at_code_x at_code_r at_blk_n at_blk_x at_blk_r at_rnd_n at_rnd_x at_rnd_r at_fin_n at_fin_r ops_nil ops_grd grd_und grd_tt grd_ff grd_tf grd_ft ops_mv ops_pick ops_bin ops_un ops_binb ops_eqs ops_isnil ops_pnil ops_b2s ops_s2b ops_b2sB ops_s2a ops_slcA ops_aidx vaidx vb2sB vs2a vslcA ops_sidx vs2b vsidx srcX ops_appx apx_mk ops_mks ops_mko mks_int mko_int vbinb veqs visnil vpnil vb2s ops_conv ops_fld ops_ix ops_ixa ops_load ops_nilck ops_ext ops_len ops_slen ops_mn ops_mx ops_bld ops_bsl ops_slc ops_sslc ops_box ops_alc ops_alcX ops_boxX ops_bslo ops_store ops_app ops_call ev_t ev_c put_get put_none opv_mk stb_some sto_ptr over_get rel_mk vnat Bx Stp vbld vbsl put_box_same put_box_ne put_sz put_own use_box use_sz put_put args0 List.getD_cons_zero List.getD_cons_succ List.getD_nil vpick vbin vbinI vbinS vun vconv norm vfld vnil vlen vslen vext vmm vix vixa vload takeV takeB mono_nil mono_two mono_sc mono_any mono_und mono_sl mono_agg mono_ep vmlk vmlen vmnil vent vmfn allSc vslc3 kOk fitsV ops_mlk ops_mlen ops_mnil ops_ent ops_mfn ops_slc3 ops_mkm ops_mup mup_map mub_some ops_mdel mdl_nil mdl_map mdb_some ops_rng rng_none rng_map rgb_some ops_nxt ops_ment met_map meb_some ops_est est_map esb_some ops_clr clr_nil clr_box clb_some ops_calv clv_func vslc vsslc fillV splice V.cells strip strip1 allLen ptrV obsOk shAmt IntKind.bits List.map_cons List.map_nil List.length_cons List.length_nil List.getElem?_cons_zero List.getElem?_cons_succ List.take_succ_cons List.take_zero List.drop_succ_cons List.drop_zero List.cons_append List.nil_append List.append_nil List.take_nil List.drop_nil Option.map_some Option.map_none and_true true_and Int.toNat_natCast Nat.min_def Nat.zero_add Nat.add_zero Nat.zero_mul Nat.mul_one Nat.one_mul vret rvAll rvVal resv_1 resv_2 decide_true decide_false Int.lt_irrefl Bool.not_true Bool.not_false ne_eq not_true_eq_false not_false_eq_true eq_self Bool.true_eq_false Bool.false_eq_true List.contains_cons List.contains_nil Bool.false_or Bool.true_or Bool.or_false Bool.or_true List.mem_cons List.not_mem_nil or_false or_true true_or false_or mono_bs ops_aidxn vaidxn ops_fv vfv ops_mki vmki ops_inv ops_cpy cpy_box cpb_some at_finp_n at_finp_r vretp rpAll rpVal vpv resp_0 resp_1 resp_2 Nat.reduceEqDiff Nat.reduceAdd Nat.reduceMul Nat.reduceSub Nat.reduceLT Nat.reduceLeDiff Int.reduceToNat Int.reduceLE Int.reduceLT Int.reducePow Int.reduceMul Int.reduceAdd Int.reduceSub Int.reduceNeg Int.reduceEq Int.reduceMod Int.reduceDiv Nat.reducePow Nat.reduceMod Nat.reduceDiv reduceCtorEq Nat.reduceBEq
section
open Go
structure Ot where
  F:List (List Int)
  want:Bool
  name:ByteArray
  up:Bool
def Ot.zero:Ot:=⟨[],false,⟨#[]⟩,false⟩
def otC (t td:Tk) (O:Ot) (D:List V):List V:=[.sl t (pcs O.F),.sc (.bool O.want),.sc (.string O.name),.sl .nil [],.sc (.bool O.up),.sc (.bool false),.sc (.bool false),.sl td D]
structure OtI (base:St) (o:Nat) (s:St) (O:Ot):Prop where
  ex:∃ t,s.box o=some (otC t .nil O [])∧RO 1 base.bare s (.sl t (pcs O.F)) (pcs O.F)
  so:base.sz≤o
structure Lk where
  N:Neg Lr
  A:Au
  on:Bool
  eat:Int
  miss:Int
  eid:Int
  lease:Int
  asked:Bool
def lkC (a u d:Nat) (ip:Value) (X:Lk):List V:=[ptrV a,ptrV u,.sc ip,.sc (.bool X.on),.sc (.int .i64 X.eat),.sc (.int .i64 X.miss),.sc (.int .u8 X.eid),ptrV d,.sc (.int .u32 1),.sc (.int .u32 0),.sc (.int .u32 0),.sc (.int .u32 X.lease),.sc (.bool X.asked),.sc (.int .u8 0)]
structure LkI (tv ip:Value) (host:ByteArray) (a n q d u l k:Nat) (st:St) (X:Lk):Prop where
  bl:st.box l=some (lkC a u d ip X)
  lc:LcpI a n q d k st X.N
  bu:∃ tk,st.box u=some (auC tv host X.A tk)
  nu:u ∉ a :: n :: [q,d]
  nl:l ∉ u :: a :: n :: [q,d]
  hh:host.size≤255
  ai:0≤X.A.id∧X.A.id < 256
theorem pcs_append (l m:List (List Int)):pcs l ++ pcs m=pcs (l ++ m):=by simp [pcs]
theorem allSz_pcs (l:List (List Int)):allSz 1 (pcs l):=fun d hd=>by
  obtain ⟨x,_,rfl⟩:=List.mem_map.1 hd; rfl
def frOf (N:Neg Lr) (proto:Int) (p:Ctl):List Int:=buildFr proto (buildC p) (decide (N.s=9) && N.r.g.acfc) (decide (N.s=9) && N.r.g.pfc)
def Ot.add (O:Ot) (N:Neg Lr) (proto:Int) (P:List Ctl):Ot:={ O with F:=O.F ++ P.map (frOf N proto) }
section
variable {tv ip:Value} {host:ByteArray} {a n q d u l k o:Nat} {st s base:St} {X:Lk} {O:Ot} {now proto:Int} {tk:Tk}
theorem LcpI.tnl {N:Neg Lr} (h:LcpI a n q d k st N) {cs:List Nat} (T:Tn cs st s) (hd:∀ b ∈ a :: n :: [q,d],b ∉ cs):LcpI a n q d k s N :=
  ⟨T.box a _ h.ba (hd a (by simp)),h.ng.tnx lcp_rules T (fun b hb=>hd b (List.mem_cons_of_mem _ hb)),h.na,Nat.lt_of_lt_of_le h.la T.sz⟩
theorem LkI.tn (h:LkI tv ip host a n q d u l k st X) {cs:List Nat} (T:Tn cs st s) (hd:∀ b ∈ l :: u :: a :: n :: [q,d],b ∉ cs):LkI tv ip host a n q d u l k s X :=
  ⟨T.box l _ h.bl (hd l (by simp)),h.lc.tnl T (fun b hb=>hd b (List.mem_cons_of_mem _ (List.mem_cons_of_mem _ hb))),by obtain ⟨tk,hb⟩:=h.bu; exact ⟨tk,T.box u _ hb (hd u (by simp))⟩,h.nu,h.nl,h.hh,h.ai⟩
theorem LkI.app (h:LkI tv ip host a n q d u l k s X) {size:Nat} {s2:St} {x r:V} {L:List V} (R:RO size base.bare s x L) (K:AppSt s x s2 r) (hl:s2.Lt):LkI tv ip host a n q d u l k s2 X :=
  ⟨by rw [K.box]; exact h.bl,⟨by rw [K.box]; exact h.lc.ba,h.lc.ng.ex (base:=base) lcp_rules ⟨fun b cs hb=>by rw [K.box]; exact hb,fun g m hg hl=>K.own g m hg (fun l k e=>by have:=R.tok g k l e; simp only [St.bare] at this; omega),K.sz,hl⟩,h.lc.na,Nat.lt_of_lt_of_le h.lc.la K.sz⟩,by rw [K.box]; exact h.bu,h.nu,h.nl,h.hh,h.ai⟩
structure Kp (cs:List Nat) (base s t:St):Prop where
  tn:∀ bx,(∀ b ∈ cs,b ∈ bx ∨ base.sz≤b)→Tn bx base s→Tn bx base t
  bx:∀ b c,s.box b=some c→b ∉ cs→t.box b=some c
  sz:s.sz≤t.sz
theorem Kp.refl {cs:List Nat}:Kp cs base s s:=⟨fun _ _ h=>h,fun _ _ h _=>h,Nat.le_refl _⟩
theorem Kp.trans {cs ds:List Nat} {t:St} (h:Kp cs base st s) (k:Kp ds base s t) (hd:∀ b ∈ cs,b ∈ ds):Kp ds base st t :=
  ⟨fun bx hb T=>k.tn bx hb (h.tn bx (fun b m=>hb b (hd b m)) T),fun b c hc hn=>k.bx b c (h.bx b c hc (fun m=>hn (hd b m))) hn,Nat.le_trans h.sz k.sz⟩
theorem Kp.wide {cs ds:List Nat} (k:Kp cs base st s) (hd:∀ b ∈ cs,b ∈ ds):Kp ds base st s:=k.trans .refl hd
theorem Kp.of {cs:List Nat} (k:Tn cs st s) (hb:base.Lt):Kp cs base st s :=
  ⟨fun bx hx T=>⟨fun b c hc hn=>k.box b c (T.box b c hc hn) fun m=>by
    rcases hx b m with h | h
    · exact hn h
    · have:=hb.box b c hc; omega,fun g m hg=>k.own g m (T.own g m hg),Nat.le_trans T.sz k.sz,k.lt⟩,k.box,k.sz⟩
theorem Kp.app {s2:St} {x r:V} {size:Nat} {L:List V} {cs:List Nat} (h:Kp cs base st s) (R:RO size base.bare s x L) (K:AppSt s x s2 r) (hb:base.Lt):Kp cs base st s2 :=
  ⟨fun bx b T=>(h.tn bx b T).app K (fun g k l e=>R.tok g k l e) hb,fun b c hc hn=>by rw [K.box]; exact h.bx b c hc hn,Nat.le_trans h.sz K.sz⟩
theorem Kp.put {ds:List Nat} (h:Kp ds base st s) (hb:base.Lt) {b:Nat} {cs:List V} (ho:base.sz≤b) (hd:b ∈ ds):Kp ds base st (s.put b cs) :=
  ⟨fun bx k T=>(h.tn bx k T).put (.inr ho) hb,fun x c hc hn=>by rw [put_box_ne (fun e=>hn (by rw [e]; exact hd))]; exact h.bx x c hc hn,by have:=h.sz; simp only [put_sz]; omega⟩
set_option maxRecDepth 100000 in
theorem linkWrap_v (h:LkI tv ip host a n q d u l k st X) {D:List Int} (h0:256≤proto) (h1:proto < 65536) (hD:D.length≤100000) :
    VCalls Tryz.prog 82 [ptrV l,.sc (.int .u16 proto),.sl tk (bs D)] st fun r s=>r=.sl .no (bs (buildFr proto D (decide (X.N.s=9) && X.N.r.g.acfc) (decide (X.N.s=9) && X.N.r.g.pfc)))∧st=s:=by
  refine vcalls_enterq pc82 (Nat.le_of_ble_eq_true rfl) rfl fun hwf hok=>?_
  show Run _ Pc82.body (.fin (finP Pc82.res _)) _ _
  unfold Pc82 zg zo
  have hb:=h.bl
  unfold lkC at hb
  simp (maxSteps:=3000000) only [go_sem,↓reduceIte,hb]
  refine Cal.mk (lcpTheirs_v h.lc) ?_
  rintro _ _ ⟨rfl,rfl⟩ -
  simp (maxSteps:=3000000) only [go_sem,↓reduceIte,hb,Want.cells]
  refine Cal.mk (lcpOpen_v h.lc) ?_
  rintro _ _ ⟨rfl,rfl⟩ -
  cases ho:decide (X.N.s=9)
  all_goals
    simp (maxSteps:=3000000) only [go_sem,↓reduceIte]
    refine Cal.mk (frBuild_v h0 h1 (by omega)) ?_
    rintro _ _ ⟨rfl,rfl⟩ -
    simp (maxSteps:=3000000) only [go_sem,↓reduceIte]
    exact ⟨_,_,Wk.refl _,hwf.weak,rfl,rfl⟩
set_option maxRecDepth 100000 in
set_option maxHeartbeats 2000000 in
theorem linkPackets_v {P:List Ctl} (h:LkI tv ip host a n q d u l k st X) (hO:OtI base o st O) (hol:o ∉ l :: u :: a :: n :: [q,d]) (hbl:base.Lt) (hP:∀ p ∈ P,p.Good) (hPl:P.length≤100) (hFl:O.F.length≤1000) (h0:256≤proto) (h1:proto < 65536) :
    VCalls Tryz.prog 45 [ptrV l,ptrV o,.sc (.int .u16 proto),.sl tk (ctls P)] st fun r s=>r=.tup []∧OtI base o s (O.add X.N proto P)∧LkI tv ip host a n q d u l k s X∧Kp [o] base st s:=by
  refine vcalls_enterq pc45 (Nat.le_of_ble_eq_true rfl) rfl fun hwf hok=>?_
  show Run _ Pc45.body (.fin (finP Pc45.res _)) _ _
  unfold Pc45 zn zo
  have hlt:=hwf.lt
  simp (maxSteps:=3000000) only [go_sem,↓reduceIte,ctls_len]
  refine run_loop [9,12,13,14,15,18,19,20,23,24,25,26,27,28,29,30] (fun B s=>∃ i:Nat,i≤P.length∧B 12=.sc (.int .i64 i)∧OtI base o s (O.add X.N proto (P.take i))∧LkI tv ip host a n q d u l k s X∧Kp [o] base st s∧s.Lt) (fun B _=>P.length - vnat (B 12)) rfl ?_ ?_
  · exact ⟨0,by omega,by first | (simp (maxSteps:=3000000) only [go_sem,↓reduceIte]; done) | (simp (maxSteps:=3000000) only [go_sem,↓reduceIte]; rfl),by simpa [Ot.add] using hO,h,Kp.refl,hlt⟩
  · rintro B s ⟨i,hi,h12,I,L,T,hs0⟩
    by_cases c:i < P.length
    · have c1:decide ((i:Int) < (P.length:Int))=true:=decide_eq_true (by omega)
      obtain ⟨p,hp⟩:∃ p,P[i]=p:=⟨_,rfl⟩
      have g1:=List.getElem?_eq_getElem c
      rw [hp] at g1
      have gp:=hP p (by rw [← hp]; exact List.getElem_mem c)
      have g2:(ctls P)[i]?=some p.v:=by simp [ctls,g1]
      have hs:O.add X.N proto (P.take (i + 1))={ O.add X.N proto (P.take i) with F:=(O.add X.N proto (P.take i)).F ++ [frOf X.N proto p] }:=by
        simp only [Ot.add,take_snoc' g1,List.map_append,List.map_cons,List.map_nil,List.append_assoc]
      have hl:(O.add X.N proto (P.take i)).F.length≤1000 + i:=by
        simp only [Ot.add,List.length_append,List.length_map,List.length_take]; omega
      obtain ⟨t,bo,R⟩:=I.ex
      have so:=I.so
      obtain ⟨O1,hO1⟩:∃ O1,O.add X.N proto (P.take i)=O1:=⟨_,rfl⟩
      rw [hO1] at hs hl bo R
      unfold otC at bo
      have bl1:=buildC_len p
      simp only [Ctl.v] at g2
      simp (maxSteps:=3000000) only [go_sem,↓reduceIte,h12,c1,g2,bo]
      repeat (apply And.intro; focus (first | omega | (simp; done)))
      refine Cal.mk (cpBuild_v gp) ?_
      rintro _ _ ⟨rfl,rfl⟩ -
      simp (maxSteps:=3000000) only [go_sem,↓reduceIte,bo]
      refine Cal.mk (linkWrap_v L h0 h1 (by omega)) ?_
      rintro _ _ ⟨rfl,rfl⟩ -
      rw [show buildFr proto (buildC p) (decide (X.N.s=9) && X.N.r.g.acfc) (decide (X.N.s=9) && X.N.r.g.pfc)=frOf X.N proto p from rfl]
      generalize frOf X.N proto p=f at hs ⊢
      simp (maxSteps:=3000000) only [go_sem,↓reduceIte,bo]
      refine App.mk (bytes:=24) (l:=pcs O1.F) (ys:=pcs [f]) R.own (allSz_pcs _) (by simp only [pcs_len,List.length_cons,List.length_nil]; unfold maxLen; omega) (by simp only [pcs_len,List.length_cons,List.length_nil]; omega) ?_
      intro r2 s2 k1 k2
      have R2:=R.app k1 k2
      rw [pcs_append] at R2
      obtain ⟨t2,rfl⟩:=R2.sl
      rw [← k2.box] at bo
      simp (maxSteps:=3000000) only [go_sem,↓reduceIte,bo,h12]
      repeat (apply And.intro; focus (first | omega | (simp; done)))
      refine ⟨⟨i + 1,by omega,by simp,?_,?_,(T.app R k2 hbl).put hbl so (by simp),R2.lt.put⟩,by omega⟩
      · rw [hs]; exact ⟨⟨t2,put_box_same,R2.put so⟩,so⟩
      · exact (L.app R k2 R2.lt).tn ((Tn.refl (bx:=[o]) R2.lt).put (.inl (by simp)) R2.lt) (fun b hb hm=>hol (by simp only [List.mem_singleton] at hm; subst hm; exact hb))
    · have c1:decide ((i:Int) < (P.length:Int))=false:=decide_eq_false (by omega)
      obtain rfl:i=P.length:=by omega
      rw [List.take_length] at I
      simp (maxSteps:=3000000) only [go_sem,↓reduceIte,h12]
      exact ⟨_,_,Wk.refl _,hs0.weak,rfl,I,L,T⟩
theorem echoStart_v (hb:st.box l=some (lkC a u d ip X)) (n0:0≤now) (n1:now≤1000000000):VCalls Tryz.prog 91 [.sc (.pointer (some ⟨l,3,none⟩)),.sc (.int .i64 now)] st fun r s=>r=.tup []∧s=st.put l (lkC a u d ip { X with on:=true,eat:=now + 20,miss:=0 }):=by
  refine vcalls_enterq pc91 (Nat.le_of_ble_eq_true rfl) rfl fun hwf hok=>?_
  show Run _ Pc91.body (.fin (finP Pc91.res _)) _ _
  unfold Pc91 zn zo
  have hlt:=hwf.lt
  unfold lkC at hb ⊢
  simp (maxSteps:=3000000) only [go_sem,↓reduceIte,hb]
  refine ⟨by omega,?_⟩
  exact ⟨_,_,Wk.refl _,hlt.put.weak,rfl,rfl⟩
theorem put_selfL {st:St} {b:Nat} {cs:List V} (hb:st.box b=some cs) (h:st.Lt):st.put b cs=st:=by
  have:=h.box b cs hb
  obtain ⟨bx,ow,sz⟩:=st
  simp only [St.put] at *
  congr 1
  · funext x
    split
    · rename_i e; subst e; exact hb.symm
    · rfl
  · omega
theorem four_keep {r:Lr}:r.four.w=r.w∧r.four.g=r.g∧r.four.guard=r.guard:=by
  obtain ⟨a1,a2,a3⟩:=next_keep (r:=r)
  obtain ⟨b1,b2,b3⟩:=next_keep (r:=r.next.1)
  obtain ⟨c1,c2,c3⟩:=next_keep (r:=r.next.1.next.1)
  obtain ⟨d1,d2,d3⟩:=next_keep (r:=r.next.1.next.1.next.1)
  exact ⟨d1.trans (c1.trans (b1.trans a1)),d2.trans (c2.trans (b2.trans a2)),d3.trans (c3.trans (b3.trans a3))⟩
theorem four_good {r:Lr} (h:DrG r.ds r.k):DrG r.four.ds r.four.k:=(next_good (next_good (next_good (next_good h).1).1).1).1
def Lk.asks (X:Lk) (now:Int):Lk:={ X with N:={ X.N with r:=X.N.r.four },A:=X.A.fresh now X.N.r }
theorem LkI.asks (h:LkI tv ip host a n q d u l k st X) (D:DrB s d X.N.r.four.ds X.N.r.four.k) (T:Tn [u,d] st s) (B:s.box u=some (auC tv host (X.A.fresh now X.N.r) tk)):LkI tv ip host a n q d u l k s (X.asks now):=by
  have i:=h.lc.ng.si
  have nu:=h.nu
  have nl:=h.nl
  have na:=h.lc.na
  have nn:=h.lc.ng.nn
  simp only [List.mem_cons,List.not_mem_nil,or_false,not_or] at nu nl na nn
  obtain ⟨k1,k2,k3⟩:=four_keep (r:=X.N.r)
  obtain ⟨tb,hb⟩:=h.lc.ng.box
  have I:LcI q d k s X.N.r.four:=⟨by
    have:=T.box q _ i.bq (by simp only [List.mem_cons,List.not_mem_nil,or_false,not_or]; exact ⟨fun e=>nu.2.2.1 e.symm,i.ne⟩)
    rw [this]; simp only [lrC,k1,k2,k3],D,four_good i.dg,by rw [k1]; exact i.wg,by rw [k2]; exact i.gg,by rw [k3]; exact i.g0,by rw [k3]; exact i.g1,i.ne,Nat.lt_of_lt_of_le i.lq T.sz,Nat.lt_of_lt_of_le i.ld T.sz⟩
  refine ⟨T.box l _ h.bl (by simp only [List.mem_cons,List.not_mem_nil,or_false,not_or]; exact ⟨nl.1,nl.2.2.2.2⟩),⟨T.box a _ h.lc.ba (by simp only [List.mem_cons,List.not_mem_nil,or_false,not_or]; exact ⟨fun e=>nu.1 e.symm,na.2.2⟩),⟨⟨tb,T.box n _ hb (by simp only [List.mem_cons,List.not_mem_nil,or_false,not_or]; exact ⟨fun e=>nu.2.1 e.symm,nn.2⟩)⟩,I,h.lc.ng.nn,h.lc.ng.l0,h.lc.ng.l1,h.lc.ng.i0,h.lc.ng.i1,h.lc.ng.a0,h.lc.ng.a1,h.lc.ng.rb⟩,h.lc.na,Nat.lt_of_lt_of_le h.lc.la T.sz⟩,⟨tk,B⟩,h.nu,h.nl,h.hh,?_⟩
  show 0≤(X.A.id + 1) % 256∧(X.A.id + 1) % 256 < 256
  omega
def Lk.low (X:Lk) (now:Int) (up:Bool):Lk:=if up=true then Lk.asks { X with on:=true,eat:=now + 20,miss:=0 } now else X
def Ot.low (O:Ot) (host:ByteArray) (X:Lk) (now:Int) (P:List Ctl) (up:Bool):Ot :=
  if up=true then (O.add X.N 49185 P).add (X.low now up).N 49699 [makeC 1 (X.low now up).A.id (X.low now up).A.chal host] else O.add X.N 49185 P
set_option maxRecDepth 100000 in
set_option maxHeartbeats 2000000 in
theorem linkLow_v {P:List Ctl} {up:Bool} (h:LkI tv ip host a n q d u l k st X) (hO:OtI base o st O) (hol:o ∉ l :: u :: a :: n :: [q,d]) (hbl:base.Lt) (hP:∀ p ∈ P,p.Good) (hPl:P.length≤100) (hFl:O.F.length≤100) (n0:0≤now) (n1:now≤1000000000) :
    VCalls Tryz.prog 39 [ptrV l,.sc (.int .i64 now),ptrV o,outV tk ⟨P,up,false,false⟩] st fun r s=>r=.tup []∧OtI base o s (O.low host X now P up)∧LkI tv ip host a n q d u l k s (X.low now up)∧Kp [o,l,u,d] base st s:=by
  unfold outV
  refine vcalls_enterq pc39 (Nat.le_of_ble_eq_true rfl) rfl fun hwf hok=>?_
  show Run _ Pc39.body (.fin (finP Pc39.res _)) _ _
  unfold Pc39 zg zn zo
  simp (maxSteps:=3000000) only [go_sem,↓reduceIte]
  refine Cal.mk (linkPackets_v h hO hol hbl hP hPl (by omega) (by decide) (by decide)) ?_
  rintro _ s1 ⟨rfl,O1,L1,K1⟩ -
  have K1:=K1.wide (ds:=[o,l,u,d]) (by simp)
  cases up with
  | false =>
    rw [show O.low host X now P false=O.add X.N 49185 P from rfl,show X.low now false=X from rfl]
    obtain ⟨t,bo,R⟩:=O1.ex
    unfold otC at bo
    simp (maxSteps:=3000000) only [go_sem,↓reduceIte,bo]
    rw [put_selfL bo R.lt]
    exact ⟨_,_,Wk.refl _,R.lt.weak,rfl,O1,L1,K1⟩
  | true =>
    obtain ⟨t,bo,R⟩:=O1.ex
    have lt1:=R.lt
    have bl:=L1.bl
    unfold lkC at bl
    simp (maxSteps:=3000000) only [go_sem,↓reduceIte]
    refine Cal.mk (echoStart_v L1.bl n0 n1) ?_
    rintro _ s2 ⟨rfl,rfl⟩ -
    have nl:=h.nl
    have nu:=h.nu
    simp only [List.mem_cons,List.not_mem_nil,or_false,not_or] at nl nu hol
    have T2:Tn [l] s1 (s1.put l (lkC a u d ip { X with on:=true,eat:=now + 20,miss:=0 })):=(Tn.refl lt1).put (.inl (by simp)) lt1
    have L2:LkI tv ip host a n q d u l k (s1.put l (lkC a u d ip { X with on:=true,eat:=now + 20,miss:=0 })) { X with on:=true,eat:=now + 20,miss:=0 } :=
      ⟨put_box_same,L1.lc.tnl T2 (fun b hb hm=>by simp only [List.mem_singleton] at hm; subst hm; exact h.nl (List.mem_cons_of_mem _ hb)),by obtain ⟨tk,hb⟩:=L1.bu; exact ⟨tk,T2.box u _ hb (by simp only [List.mem_singleton]; exact fun e=>nl.1 e.symm)⟩,h.nu,h.nl,h.hh,h.ai⟩
    have O2:OtI base o (s1.put l (lkC a u d ip { X with on:=true,eat:=now + 20,miss:=0 })) (O.add X.N 49185 P):=⟨⟨t,T2.box o _ bo (by simp only [List.mem_singleton]; exact hol.1),R.tn T2 (fun b hb=>rfl)⟩,O1.so⟩
    have K2:=K1.trans (Kp.of (T2.wide (by':=[o,l,u,d]) (by simp)) hbl) (fun b hb=>hb)
    generalize s1.put l _=s2 at T2 L2 O2 K2 ⊢
    obtain ⟨X2,hX2⟩:∃ X2,X2={ X with on:=true,eat:=now + 20,miss:=0 }:=⟨_,rfl⟩
    have e1:X2.A=X.A:=by rw [hX2]
    have e2:X2.N=X.N:=by rw [hX2]
    have e3:X.low now true=X2.asks now:=by rw [hX2]; rfl
    rw [← hX2] at L2
    have bl2:=L2.bl
    unfold lkC at bl2
    obtain ⟨tu,bu2⟩:=L2.bu
    simp (maxSteps:=3000000) only [go_sem,↓reduceIte,bl2]
    refine Cal.mk (authStart_v bu2 L2.lc.ng.si.dr L2.lc.ng.si.dg nu.2.2.2 L2.hh n0 n1 L2.ai.1) ?_
    rintro _ s3 ⟨rfl,D3,T3,tu3,B3⟩ -
    have L3:=L2.asks D3 T3 B3
    obtain ⟨t2,bo2,R2⟩:=O2.ex
    have O3:OtI base o s3 (O.add X.N 49185 P):=⟨⟨t2,T3.box o _ bo2 (by simp only [List.mem_cons,List.not_mem_nil,or_false,not_or]; exact ⟨hol.2.1,hol.2.2.2.2.2⟩),R2.tn T3 (fun b hb=>rfl)⟩,O2.so⟩
    have K3:=K2.trans (Kp.of (T3.wide (by':=[o,l,u,d]) (fun b hb=>by simp only [List.mem_cons,List.not_mem_nil,or_false] at hb ⊢; rcases hb with h | h <;> simp [h])) hbl) (fun b hb=>hb)
    have pg:∀ p ∈ [makeC 1 ((X2.A.id + 1) % 256) (chalOf X2.N.r) host],p.Good:=fun p hp=>by
      simp only [List.mem_singleton] at hp
      subst hp
      have:=bytesOf_len host
      have:=h.hh
      refine ⟨by show (0:Int)≤1; decide,by show (1:Int) < 256; decide,by show 0≤(X2.A.id + 1) % 256; omega,by show (X2.A.id + 1) % 256 < 256; omega,?_,?_⟩
      · intro x hx
        rcases List.mem_cons.1 hx with rfl | hx
        · rw [chalOf_len]; omega
        · exact (chalOf_isB.append (bytesOf_isB host)) x hx
      · show ((_:Int) :: (chalOf X2.N.r ++ bytesOf host)).length≤1000000
        simp only [List.length_cons,List.length_append,chalOf_len]; omega
    simp (maxSteps:=3000000) only [go_sem,↓reduceIte]
    refine Cal.mk (linkPackets_v L3 O3 (by simp only [List.mem_cons,List.not_mem_nil,or_false,not_or]; exact hol) hbl pg (by simp) (by simp only [Ot.add,List.length_append,List.length_map]; omega) (by decide) (by decide)) ?_
    rintro _ s4 ⟨rfl,O4,L4,K4⟩ -
    have e4:O.low host X now P true=(O.add X.N 49185 P).add (X2.asks now).N 49699 [makeC 1 ((X2.A.id + 1) % 256) (chalOf X2.N.r) host]:=by
      unfold Ot.low
      rw [if_pos rfl,e3]
      rfl
    rw [← e4] at O4
    rw [← e3] at L4
    obtain ⟨t4,bo4,R4⟩:=O4.ex
    unfold otC at bo4
    simp (maxSteps:=3000000) only [go_sem,↓reduceIte,bo4]
    rw [put_selfL bo4 R4.lt]
    exact ⟨_,_,Wk.refl _,R4.lt.weak,rfl,O4,L4,K3.trans (K4.wide (by simp)) (fun b hb=>hb)⟩
end
end
section
open Go
section
variable {tv ip:Value} {host nm key:ByteArray} {a n q d u l k o ai ni qi:Nat} {st s base:St} {X:Lk} {O:Ot} {now proto:Int} {tk:Tk} {p:Ctl}
theorem LkI.lcp (h:LkI tv ip host a n q d u l k st X) {k':Nat} {N':Neg Lr} (L:LcpI a n q d k' s N') (T:Tn (n :: [q,d]) st s):LkI tv ip host a n q d u l k' s { X with N:=N' } :=
  ⟨T.box l _ h.bl (fun m=>h.nl (List.mem_cons_of_mem _ (List.mem_cons_of_mem _ m))),L,by obtain ⟨tk,hb⟩:=h.bu; exact ⟨tk,T.box u _ hb (fun m=>h.nu (List.mem_cons_of_mem _ m))⟩,h.nu,h.nl,h.hh,h.ai⟩
theorem OtI.tn (h:OtI base o st O) {cs:List Nat} (T:Tn cs st s) (hn:o ∉ cs):OtI base o s O:=by
  obtain ⟨t,hb,R⟩:=h.ex
  exact ⟨⟨t,T.box o _ hb hn,R.tn T (fun b hb=>rfl)⟩,h.so⟩
theorem OtI.lt (h:OtI base o st O):st.Lt:=by obtain ⟨t,hb,R⟩:=h.ex; exact R.lt
theorem IpI.kp {M:Neg Ir} (h:IpI ai ni qi k st M) {cs:List Nat} (K:Kp cs base st s) (hd:∀ b ∈ ai :: ni :: [qi],b ∉ cs):IpI ai ni qi k s M :=
  ⟨K.bx ai _ h.ba (hd ai (by simp)),⟨by obtain ⟨tk,hb⟩:=h.ng.box; exact ⟨tk,K.bx ni _ hb (hd ni (by simp))⟩,ip_rules.stay k st s _ h.ng.si (fun b cs hb hm=>K.bx b cs hb (hd b (by simp only [List.mem_cons] at hm ⊢; exact .inr (.inr hm)))) K.sz,h.ng.nn,h.ng.l0,h.ng.l1,h.ng.i0,h.ng.i1,h.ng.a0,h.ng.a1,h.ng.rb⟩,h.na,Nat.lt_of_lt_of_le h.la K.sz⟩
theorem OtI.zero (hl:st.Lt) (ho:st.sz≤o):OtI st o (st.put o (otC .nil .nil .zero [])) .zero :=
  ⟨⟨.nil,put_box_same,RO.nil (bare_weak (by simp only [put_sz]; omega)) hl.put⟩,ho⟩
set_option maxRecDepth 100000 in
theorem linkTake_v {Q:St→Prop} {D:List Int} (hp:proto=49185 ∨ proto=49699 ∨ proto=32801) (hD:D.length≤1000000) (hDB:IsB D)
    (hC:∀ (o:Nat) (t:Tk),st.sz≤o→st.Lt→VCalls Tryz.prog 43 [ptrV l,.sc (.int .i64 now),ptrV o,.agg [.sc (.int .u16 proto),.sl t (bs D)]] (st.put o (otC .nil .nil .zero [])) fun r s=>r=.tup []∧OtI st o s O∧Q s) :
    VCalls Tryz.prog 10 [ptrV l,.sc (.int .i64 now),.sl tk (bs (buildFr proto D false false))] st fun r s=>(∃ t,r=.agg (otC t .nil O []))∧Q s:=by
  refine vcalls_enterq pc10 (Nat.le_of_ble_eq_true rfl) rfl fun hwf hok=>?_
  show Run _ Pc10.body (.fin (finP Pc10.res _)) _ _
  unfold Pc10 zg zn zo
  have hlt:=hwf.lt
  simp (maxSteps:=3000000) only [go_sem,↓reduceIte]
  intro o ho
  refine Cal.mk (frParse_v hp hD hDB) ?_
  rintro _ _ ⟨⟨t,rfl⟩,rfl⟩ -
  have hc:=hC o t ho hlt
  rw [show otC .nil .nil .zero []=[.sl .nil [],.sc (.bool false),.sc (.string ⟨#[]⟩),.sl .nil [],.sc (.bool false),.sc (.bool false),.sc (.bool false),.sl .nil []] from rfl] at hc
  generalize st.put o _=s0 at hc ⊢
  rcases hp with rfl | rfl | rfl
  all_goals
    simp (maxSteps:=3000000) only [go_sem,↓reduceIte]
    refine Cal.mk hc ?_
    rintro _ s2 ⟨rfl,I,hQ⟩ -
    obtain ⟨t2,bo,R⟩:=I.ex
    unfold otC at bo
    simp (maxSteps:=3000000) only [go_sem,↓reduceIte,bo]
    exact ⟨_,_,Wk.refl _,R.lt.weak,⟨t2,rfl⟩,hQ⟩
set_option maxRecDepth 100000 in
theorem linkHigh_v {P:List Ctl} {up dn:Bool} (h:LkI tv ip host a n q d u l k st X) (hO:OtI base o st O) (hol:o ∉ l :: u :: a :: n :: [q,d]) (hbl:base.Lt) (hP:∀ p ∈ P,p.Good) (hPl:P.length≤100) (hFl:O.F.length≤100) :
    VCalls Tryz.prog 54 [ptrV l,.sc (.int .i64 now),ptrV o,outV tk ⟨P,up,dn,false⟩] st fun r s=>r=.tup []∧OtI base o s { O.add X.N 32801 P with up:=O.up || up }∧LkI tv ip host a n q d u l k s X∧Kp [o] base st s:=by
  unfold outV
  refine vcalls_enterq pc54 (Nat.le_of_ble_eq_true rfl) rfl fun hwf hok=>?_
  show Run _ Pc54.body (.fin (finP Pc54.res _)) _ _
  unfold Pc54 zg zn zo
  simp (maxSteps:=3000000) only [go_sem,↓reduceIte]
  refine Cal.mk (linkPackets_v h hO hol hbl hP hPl (by omega) (by decide) (by decide)) ?_
  rintro _ s1 ⟨rfl,O1,L1,K1⟩ -
  obtain ⟨t,bo,R⟩:=O1.ex
  have so:=O1.so
  have eu:(O.add X.N 32801 P).up=O.up:=rfl
  unfold otC at bo
  rw [eu] at bo
  have e:∀ b:Bool,LkI tv ip host a n q d u l k (s1.put o (otC t .nil { O.add X.N 32801 P with up:=b } [])) X:=fun b=>L1.tn ((Tn.refl (bx:=[o]) R.lt).put (.inl (by simp)) R.lt) (fun b hb hm=>hol (by simp only [List.mem_singleton] at hm; subst hm; exact hb))
  have K:∀ b:Bool,Kp [o] base st (s1.put o (otC t .nil { O.add X.N 32801 P with up:=b } [])):=fun b=>K1.put hbl so (by simp)
  have I:∀ b:Bool,OtI base o (s1.put o (otC t .nil { O.add X.N 32801 P with up:=b } [])) { O.add X.N 32801 P with up:=b }:=fun b=>⟨⟨t,put_box_same,R.put so⟩,so⟩
  unfold otC at e K I
  cases hu:O.up
  all_goals
    rw [hu] at bo
    cases up
    all_goals
      simp (maxSteps:=3000000) only [go_sem,↓reduceIte,bo]
      first | exact ⟨_,_,Wk.refl _,R.lt.put.weak,rfl,I false,e false,K false⟩ | exact ⟨_,_,Wk.refl _,R.lt.put.weak,rfl,I true,e true,K true⟩
theorem authPhase_v {A:Au} (hb:st.box u=some (auC tv host A tk)):VCalls Tryz.prog 110 [ptrV u] st fun r s=>r=.sc (.int .i64 A.ph)∧st=s:=by
  refine vcalls_enterq pc110 (Nat.le_of_ble_eq_true rfl) rfl fun hwf hok=>?_
  show Run _ Pc110.body (.fin (finP Pc110.res _)) _ _
  unfold Pc110 zo
  unfold auC at hb
  simp (maxSteps:=3000000) only [go_sem,↓reduceIte,hb]
  exact ⟨_,_,Wk.refl _,hwf.weak,rfl,rfl⟩
theorem authName_v {A:Au} (hb:st.box u=some (auC tv host A tk)):VCalls Tryz.prog 111 [ptrV u] st fun r s=>r=.sc (.string A.name)∧st=s:=by
  refine vcalls_enterq pc111 (Nat.le_of_ble_eq_true rfl) rfl fun hwf hok=>?_
  show Run _ Pc111.body (.fin (finP Pc111.res _)) _ _
  unfold Pc111 zo
  unfold auC at hb
  simp (maxSteps:=3000000) only [go_sem,↓reduceIte,hb]
  exact ⟨_,_,Wk.refl _,hwf.weak,rfl,rfl⟩
set_option maxRecDepth 100000 in
theorem linkProved_v (h:LkI tv ip host a n q d u l k st X) (hO:OtI base o st O) (hol:o ∉ l :: u :: a :: n :: [q,d]) (hbl:base.Lt) (p2:X.A.ph=2) (k0:X.asked=false) :
    VCalls Tryz.prog 64 [ptrV l,.sc (.int .i64 now),ptrV o] st fun r s=>r=.tup []∧OtI base o s { O with want:=true,name:=X.A.name }∧LkI tv ip host a n q d u l k s { X with asked:=true }∧Kp [o,l] base st s:=by
  refine vcalls_enterq pc64 (Nat.le_of_ble_eq_true rfl) rfl fun hwf hok=>?_
  show Run _ Pc64.body (.fin (finP Pc64.res _)) _ _
  unfold Pc64 zn zo
  have hlt:=hwf.lt
  have hb:=h.bl
  obtain ⟨tu,hu⟩:=h.bu
  have nl:=h.nl
  have nl':=h.nl
  have hol':=hol
  simp only [List.mem_cons,List.not_mem_nil,or_false,not_or] at nl hol
  have T1:Tn [l] st (st.put l (lkC a u d ip { X with asked:=true })):=(Tn.refl hlt).put (.inl (by simp)) hlt
  have L1:LkI tv ip host a n q d u l k (st.put l (lkC a u d ip { X with asked:=true })) { X with asked:=true } :=
    ⟨put_box_same,h.lc.tnl T1 (fun x hx hm=>by simp only [List.mem_singleton] at hm; subst hm; exact nl' (List.mem_cons_of_mem _ hx)),⟨tu,T1.box u _ hu (by simp only [List.mem_singleton]; exact fun e=>nl.1 e.symm)⟩,h.nu,h.nl,h.hh,h.ai⟩
  have O1:=hO.tn T1 (by simp only [List.mem_singleton]; exact hol.1)
  have K1:=(Kp.of (base:=base) T1 hbl).wide (ds:=[o,l]) (by simp)
  unfold lkC at hb
  simp only [lkC,ptrV] at L1 O1 K1
  rw [k0] at hb
  simp (maxSteps:=3000000) only [go_sem,↓reduceIte,hb]
  refine Cal.mk (authPhase_v hu) ?_
  rintro _ _ ⟨rfl,rfl⟩ -
  simp (maxSteps:=3000000) only [go_sem,↓reduceIte,hb,p2]
  generalize st.put l _=s1 at L1 O1 K1 ⊢
  obtain ⟨tv1,hu1⟩:=L1.bu
  refine Cal.mk (authName_v hu1) ?_
  rintro _ _ ⟨rfl,rfl⟩ -
  obtain ⟨t,bo,R⟩:=O1.ex
  have so:=O1.so
  have T2:Tn [o] s1 (s1.put o (otC t .nil { O with want:=true,name:=X.A.name } [])):=(Tn.refl R.lt).put (.inl (by simp)) R.lt
  have L2:=L1.tn T2 (fun b hb hm=>hol' (by simp only [List.mem_singleton] at hm; subst hm; exact hb))
  have I2:OtI base o (s1.put o (otC t .nil { O with want:=true,name:=X.A.name } [])) { O with want:=true,name:=X.A.name }:=⟨⟨t,put_box_same,R.put so⟩,so⟩
  have K2:=K1.put hbl so (cs:=otC t .nil { O with want:=true,name:=X.A.name } []) (by simp)
  unfold otC at bo L2 I2 K2
  simp only at L2 I2 K2
  simp (maxSteps:=3000000) only [go_sem,↓reduceIte,bo]
  exact ⟨_,_,Wk.refl _,R.lt.put.weak,rfl,I2,L2,K2⟩
def Lk.lcpIn (X:Lk) (now:Int) (p:Ctl):Lk:=Lk.low { X with N:=(lcpTake X.N now p).1 } now (lcpTake X.N now p).2.up
def Ot.lcpIn (O:Ot) (host:ByteArray) (X:Lk) (now:Int) (p:Ctl):Ot:=O.low host { X with N:=(lcpTake X.N now p).1 } now (lcpTake X.N now p).2.P (lcpTake X.N now p).2.up
set_option maxRecDepth 100000 in
set_option maxHeartbeats 2000000 in
theorem linkLcpIn_v (hp:p.Good) (hpl:p.data.length≤60000) (h10:p.code ≠ 10) (h:LkI tv ip host a n q d u l k st X) (hO:OtI base o st O) (hol:o ∉ l :: u :: a :: n :: [q,d]) (hbl:base.Lt) (hk:k + 1≤1000000000) (hdn:(lcpTake X.N now p).2.down=false) (hov:(lcpTake X.N now p).2.over=false) (hP:∀ x ∈ (lcpTake X.N now p).2.P,x.Good) (hFl:O.F.length≤100) (n0:0≤now) (n1:now≤1000000000) :
    VCalls Tryz.prog 43 [ptrV l,.sc (.int .i64 now),ptrV o,.agg [.sc (.int .u16 49185),.sl tk (bs (buildC p))]] st fun r s=>r=.tup []∧OtI base o s (O.lcpIn host X now p)∧LkI tv ip host a n q d u l (k + 1) s (X.lcpIn now p)∧Kp [o,l,u,d,n,q] base st s:=by
  refine vcalls_enterq pc43 (Nat.le_of_ble_eq_true rfl) rfl fun hwf hok=>?_
  show Run _ Pc43.body (.fin (finP Pc43.res _)) _ _
  unfold Pc43 zg zn zo
  have hlt:=hwf.lt
  have hb:=h.bl
  unfold lkC at hb
  simp (maxSteps:=3000000) only [go_sem,↓reduceIte]
  refine Cal.mk (cpParse_v hp hpl) ?_
  rintro _ _ ⟨⟨t,rfl⟩,rfl⟩ -
  have tk1:=lcpTake_v (tp:=t) h.lc hk n0 n1 hp
  have hol':=hol
  simp only [List.mem_cons,List.not_mem_nil,or_false,not_or] at hol
  simp (maxSteps:=3000000) only [go_sem,↓reduceIte,Ctl.v,hb,decide_eq_false h10]
  unfold Ctl.v at tk1
  refine Cal.mk tk1 ?_
  rintro _ s1 ⟨tv1,rfl,R1,L1,T1,l1⟩ -
  have O1:=hO.tn T1 (by simp only [List.mem_cons,List.not_mem_nil,or_false,not_or]; exact hol.2.2.2)
  have LL:=h.lcp L1 T1
  have K1:=(Kp.of (base:=base) T1 hbl).wide (ds:=[o,l,u,d,n,q]) (fun b hb=>by simp only [List.mem_cons,List.not_mem_nil,or_false] at hb ⊢; rcases hb with h | h | h <;> simp [h])
  unfold Lk.lcpIn Ot.lcpIn
  generalize lcpTake X.N now p=W at hdn hov hP R1 L1 LL l1 ⊢
  obtain ⟨N',P,up,dn,ov⟩:=W
  simp only at hdn hov hP LL l1 ⊢
  subst hdn hov
  simp (maxSteps:=3000000) only [go_sem,↓reduceIte]
  refine Cal.mk (linkLow_v LL O1 hol' hbl hP (by omega) hFl n0 n1) ?_
  rintro _ s2 ⟨rfl,O2,L2,K2⟩ -
  simp (maxSteps:=3000000) only [go_sem]
  exact ⟨_,_,Wk.refl _,O2.lt.weak,rfl,O2,L2,K1.trans (K2.wide (ds:=[o,l,u,d,n,q]) (by simp)) (fun b hb=>hb)⟩
def Lk.chapIn (X:Lk) (now:Int) (nm:ByteArray):Lk:={ X with A:={ X.A with ph:=2,op:=false,at_:=now + 100,name:=nm },asked:=true }
def Ot.chapIn (O:Ot) (X:Lk) (nm:ByteArray):Ot:={ O.add X.N 49699 [⟨3,X.A.id,[]⟩] with want:=true,name:=nm }
set_option maxRecDepth 100000 in
set_option maxHeartbeats 2000000 in
theorem linkChapIn_v {S:List Sec} {mb c:Nat} {es:List (V × V × Nat)} (ht:TabS st mb S es c) (hg:aget nm S=some key) (hks:key.size≤40) (hn:nm.size≤40) (h:LkI (.map (some mb)) ip host a n q d u l k st X) (hO:OtI base o st O) (hol:o ∉ l :: u :: a :: n :: [q,d]) (hbl:base.Lt) (s9:X.N.s=9) (hc:X.A.chal.length=16) (hcB:IsB X.A.chal) (p1:X.A.ph=1) (o1:X.A.op=true) (k0:X.asked=false) (hFl:O.F.length≤100) (n0:0≤now) (n1:now≤1000000000) :
    VCalls Tryz.prog 43 [ptrV l,.sc (.int .i64 now),ptrV o,.agg [.sc (.int .u16 49699),.sl tk (bs (buildC (makeC 2 X.A.id (valueC X.A.id key X.A.chal) nm)))]] st fun r s=>r=.tup []∧OtI base o s (O.chapIn X nm)∧LkI (.map (some mb)) ip host a n q d u l k s (X.chapIn now nm)∧Kp [o,l,u] base st s:=by
  have nbl:=bytesOf_len nm
  have vl:(valueC X.A.id key X.A.chal).length=16:=md5M_len
  have hp:(makeC 2 X.A.id (valueC X.A.id key X.A.chal) nm).Good:=by
    refine ⟨by show (0:Int)≤2; decide,by show (2:Int) < 256; decide,h.ai.1,h.ai.2,?_,?_⟩
    · intro x hx
      rcases List.mem_cons.1 hx with rfl | hx
      · rw [vl]; omega
      · exact (IsB.append (md5M_isB:IsB (valueC X.A.id key X.A.chal)) (bytesOf_isB nm)) x hx
    · show ((_:Int) :: (valueC X.A.id key X.A.chal ++ bytesOf nm)).length≤1000000
      simp only [List.length_cons,List.length_append,vl]; omega
  have hpl:(makeC 2 X.A.id (valueC X.A.id key X.A.chal) nm).data.length≤60000:=by
    show ((_:Int) :: (valueC X.A.id key X.A.chal ++ bytesOf nm)).length≤60000
    simp only [List.length_cons,List.length_append,vl]; omega
  refine vcalls_enterq pc43 (Nat.le_of_ble_eq_true rfl) rfl fun hwf hok=>?_
  show Run _ Pc43.body (.fin (finP Pc43.res _)) _ _
  unfold Pc43 zg zn zo
  have hlt:=hwf.lt
  have hb:=h.bl
  obtain ⟨tu,hu⟩:=h.bu
  unfold lkC at hb
  simp (maxSteps:=3000000) only [go_sem,↓reduceIte]
  refine Cal.mk (cpParse_v hp hpl) ?_
  rintro _ _ ⟨⟨t,rfl⟩,rfl⟩ -
  have hol':=hol
  have nl:=h.nl
  have nu:=h.nu
  simp only [List.mem_cons,List.not_mem_nil,or_false,not_or] at hol nl nu
  have at1:=authTake_v (tw:=t) ht hg hks hn hu (by omega) hcB p1 h.ai.1 h.ai.2 o1 n0 n1
  generalize hm:makeC 2 X.A.id (valueC X.A.id key X.A.chal) nm=m at at1 ⊢
  unfold Ctl.v at at1
  simp (maxSteps:=3000000) only [go_sem,↓reduceIte,Ctl.v,hb]
  refine Cal.mk (lcpOpen_v h.lc) ?_
  rintro _ _ ⟨rfl,rfl⟩ -
  simp (maxSteps:=3000000) only [go_sem,↓reduceIte,hb,s9]
  refine Cal.mk at1 ?_
  rintro _ s1 ⟨rfl,rfl⟩ -
  obtain ⟨A',hA⟩:∃ A',A'=({ X.A with ph:=2,op:=false,at_:=now + 100,name:=nm }:Au):=⟨_,rfl⟩
  rw [← hA]
  have T1:Tn [u] st (st.put u (auC (.map (some mb)) host A' tu)):=(Tn.refl hlt).put (.inl (by simp)) hlt
  have L1:LkI (.map (some mb)) ip host a n q d u l k (st.put u (auC (.map (some mb)) host A' tu)) { X with A:=A' } :=
    ⟨T1.box l _ h.bl (by simp only [List.mem_singleton]; exact nl.1),h.lc.tnl T1 (fun x hx hm=>by simp only [List.mem_singleton] at hm; subst hm; exact h.nu hx),⟨tu,put_box_same⟩,h.nu,h.nl,h.hh,by rw [hA]; exact h.ai⟩
  have O1:=hO.tn T1 (by simp only [List.mem_singleton]; exact hol.2.1)
  have K1:=(Kp.of (base:=base) T1 hbl).wide (ds:=[o,l,u]) (by simp)
  generalize st.put u _=s1 at L1 O1 K1 ⊢
  have pg:∀ p ∈ [(⟨3,X.A.id,[]⟩:Ctl)],p.Good:=fun p hp=>by
    simp only [List.mem_singleton] at hp
    subst hp
    exact ⟨by show (0:Int)≤3; decide,by show (3:Int) < 256; decide,h.ai.1,h.ai.2,IsB.nil',by show 0≤1000000; decide⟩
  simp (maxSteps:=3000000) only [go_sem,↓reduceIte]
  refine Cal.mk (linkPackets_v L1 O1 hol' hbl pg (by simp) (by omega) (by decide) (by decide)) ?_
  rintro _ s2 ⟨rfl,O2,L2,K2⟩ -
  simp (maxSteps:=3000000) only [go_sem,↓reduceIte]
  refine Cal.mk (linkProved_v L2 O2 hol' hbl (by rw [hA]) k0) ?_
  rintro _ s3 ⟨rfl,O3,L3,K3⟩ -
  simp (maxSteps:=3000000) only [go_sem]
  refine ⟨_,_,Wk.refl _,O3.lt.weak,rfl,?_,?_,(K1.trans (K2.wide (ds:=[o,l,u]) (by simp)) (fun b hb=>hb)).trans (K3.wide (by simp)) (fun b hb=>hb)⟩
  · unfold Ot.chapIn
    rw [hA] at O3
    exact O3
  · unfold Lk.chapIn
    rw [hA] at L3
    exact L3
set_option maxRecDepth 100000 in
set_option maxHeartbeats 2000000 in
theorem linkIpIn_v {M:Neg Ir} {j:Nat} (hp:p.Good) (hpl:p.data.length≤60000) (h:LkI tv (.pointer (some ⟨ai,0,none⟩)) host a n q d u l k st X) (hM:IpI ai ni qi j st M) (hO:OtI base o st O) (hol:o ∉ l :: u :: a :: n :: [q,d]) (hoi:o ∉ ai :: ni :: [qi]) (hli:∀ b ∈ l :: u :: a :: n :: [q,d],b ∉ ni :: [qi]) (hbl:base.Lt) (s9:X.N.s=9) (hk:j + 1≤1000000000) (hov:(M.take ipU 7 now p).2.over=false) (hP:∀ x ∈ (M.take ipU 7 now p).2.P,x.Good) (hFl:O.F.length≤100) (n0:0≤now) (n1:now≤1000000000) :
    VCalls Tryz.prog 43 [ptrV l,.sc (.int .i64 now),ptrV o,.agg [.sc (.int .u16 32801),.sl tk (bs (buildC p))]] st fun r s=>r=.tup []∧OtI base o s { O.add X.N 32801 (M.take ipU 7 now p).2.P with up:=O.up || (M.take ipU 7 now p).2.up }∧LkI tv (.pointer (some ⟨ai,0,none⟩)) host a n q d u l k s X∧IpI ai ni qi (j + 1) s (M.take ipU 7 now p).1∧Kp [o,ni,qi] base st s:=by
  refine vcalls_enterq pc43 (Nat.le_of_ble_eq_true rfl) rfl fun hwf hok=>?_
  show Run _ Pc43.body (.fin (finP Pc43.res _)) _ _
  unfold Pc43 zg zn zo
  have hlt:=hwf.lt
  have hb:=h.bl
  unfold lkC at hb
  simp (maxSteps:=3000000) only [go_sem,↓reduceIte]
  refine Cal.mk (cpParse_v hp hpl) ?_
  rintro _ _ ⟨⟨t,rfl⟩,rfl⟩ -
  have it:=ipTake_v (tp:=t) hM hk n0 n1 hp
  simp (maxSteps:=3000000) only [go_sem,↓reduceIte,Ctl.v,hb]
  refine Cal.mk (lcpOpen_v h.lc) ?_
  rintro _ _ ⟨rfl,rfl⟩ -
  simp (maxSteps:=3000000) only [go_sem,↓reduceIte,hb,s9]
  refine Cal.mk it ?_
  rintro _ s1 ⟨tv1,rfl,M1,T1,l1⟩ -
  simp only [List.mem_cons,List.not_mem_nil,or_false,not_or] at hoi
  have O1:=hO.tn T1 (by simp only [List.mem_cons,List.not_mem_nil,or_false,not_or]; exact hoi.2)
  have L1:=h.tn T1 hli
  have K1:=(Kp.of (base:=base) T1 hbl).wide (ds:=[o,ni,qi]) (by simp)
  generalize M.take ipU 7 now p=W at hov hP M1 l1 ⊢
  obtain ⟨M',P,up,dn,ov⟩:=W
  simp only at hov hP M1 l1 ⊢
  subst hov
  simp (maxSteps:=3000000) only [go_sem,↓reduceIte]
  refine Cal.mk (linkHigh_v L1 O1 hol hbl hP (by omega) hFl) ?_
  rintro _ s2 ⟨rfl,O2,L2,K2⟩ -
  simp (maxSteps:=3000000) only [go_sem]
  exact ⟨_,_,Wk.refl _,O2.lt.weak,rfl,O2,L2,M1.kp K2 (by simp only [List.mem_cons,List.not_mem_nil,or_false]; rintro b (rfl | rfl | rfl) rfl <;> simp_all),K1.trans (K2.wide (ds:=[o,ni,qi]) (by simp)) (fun b hb=>hb)⟩
end
end
section
open Go
def Lk.new (ds:List Int):Lk:=⟨lcpNew ds,.zero,false,0,0,0,0,false⟩
section
variable {tv ip:Value} {host:ByteArray} {a n q d u l k o ai ni qi:Nat} {st s base:St} {X:Lk} {O:Ot} {now:Int} {tk:Tk}
set_option maxRecDepth 100000 in
theorem linkNew_v {ds:List Int} (hb:DrB st d ds 0) (hG:DrG ds 0) (ld:d < st.sz) (hh:host.size≤255) :
    VCalls Tryz.prog 7 [.agg [.sc tv],.sc (.string host),.sc (.int .u32 1),.agg [.sc (.int .u32 0),.sc (.int .u32 0)],ptrV d] st fun r s =>
      ∃ a n q u l,r=ptrV l∧LkI tv (.pointer none) host a n q d u l 0 s (.new ds)∧Tn [d] st s∧∀ b ∈ [l,u,n,q],st.sz≤b:=by
  refine vcalls_enterq pc7 (Nat.le_of_ble_eq_true rfl) rfl fun hwf hok=>?_
  show Run _ Pc7.body (.fin (finP Pc7.res _)) _ _
  unfold Pc7 zn zo
  have hlt:=hwf.lt
  simp (maxSteps:=3000000) only [go_sem,↓reduceIte]
  refine Cal.mk (lcpNew_v hb hG ld) ?_
  rintro _ s1 ⟨a,n,q,rfl,L1,T1,ha,hn,hq⟩ -
  simp (maxSteps:=3000000) only [go_sem,↓reduceIte]
  refine Cal.mk (authNew_v (tv:=tv) (host:=host)) ?_
  rintro _ _ ⟨u,rfl,hu,rfl⟩ -
  have lt1:=T1.lt
  have hl1:=L1.ng.lt lcp_rules lt1
  have la:=L1.la
  have T2:Tn [] s1 (s1.put u (auC tv host .zero .nil)):=tn_new lt1 hu
  have L2:=L1.tn T2
  have B2:(s1.put u (auC tv host .zero .nil)).box u=some (auC tv host .zero .nil):=put_box_same
  have nu:u ∉ a :: n :: [q,d]:=fun m=>by
    rcases List.mem_cons.1 m with rfl | m
    · omega
    · have:=hl1 u m; omega
  have z2:(s1.put u (auC tv host .zero .nil)).sz=max s1.sz (u + 1):=rfl
  generalize s1.put u _=s2 at T2 L2 B2 z2 ⊢
  simp (maxSteps:=3000000) only [go_sem,↓reduceIte]
  intro l hl
  have hl2:=L2.ng.lt lcp_rules T2.lt
  have la2:=L2.la
  have T3:Tn [] s2 (s2.put l (lkC a u d (.pointer none) (.new ds))):=tn_new T2.lt hl
  have nl:l ∉ u :: a :: n :: [q,d]:=fun m=>by
    rcases List.mem_cons.1 m with rfl | m
    · omega
    rcases List.mem_cons.1 m with rfl | m
    · omega
    · have:=hl2 l m; omega
  have LL:LkI tv (.pointer none) host a n q d u l 0 (s2.put l (lkC a u d (.pointer none) (.new ds))) (.new ds) :=
    ⟨put_box_same,L2.tn T3,⟨.nil,T3.box u _ B2 (by simp)⟩,nu,nl,hh,⟨Int.le_refl 0,(by decide:(0:Int) < 256)⟩⟩
  have T:=T1.trans ((T2.trans T3).wide (by':=[d]) (by simp))
  exact ⟨_,_,Wk.refl _,T.lt.weak,a,n,q,u,l,rfl,LL,T,fun b hb=>by
    have:=T1.sz
    have:=T2.sz
    rcases hb with rfl | rfl | rfl | rfl <;> omega⟩
set_option maxRecDepth 100000 in
theorem linkStart_v (h:LkI tv ip host a n q d u l k st X) (n0:0≤now) (n1:now≤1000000000) (hdn:(X.N.start lcpU now).2.down=false) (hov:(X.N.start lcpU now).2.over=false) (hP:∀ x ∈ (X.N.start lcpU now).2.P,x.Good) :
    VCalls Tryz.prog 9 [ptrV l,.sc (.int .i64 now)] st fun r s=>(∃ t,r=.agg (otC t .nil (Ot.zero.low host { X with N:=(X.N.start lcpU now).1 } now (X.N.start lcpU now).2.P (X.N.start lcpU now).2.up) []))∧LkI tv ip host a n q d u l k s (Lk.low { X with N:=(X.N.start lcpU now).1 } now (X.N.start lcpU now).2.up)∧Tn [l,u,d,n,q] st s:=by
  refine vcalls_enterq pc9 (Nat.le_of_ble_eq_true rfl) rfl fun hwf hok=>?_
  show Run _ Pc9.body (.fin (finP Pc9.res _)) _ _
  unfold Pc9 zo
  have hlt:=hwf.lt
  simp (maxSteps:=3000000) only [go_sem,↓reduceIte]
  intro o ho
  have T0:Tn [] st (st.put o (otC .nil .nil .zero [])):=tn_new hlt ho
  have O0:=OtI.zero hlt ho
  have L0:=h.tn T0 (fun _ _=>by simp)
  have nlt:=h.lc.ng.lt lcp_rules hlt
  have hol:o ∉ l :: u :: a :: n :: [q,d]:=fun m=>by
    have e1:=hlt.box l _ h.bl
    have e3:=h.lc.la
    obtain ⟨tu,bu⟩:=h.bu
    have e2:=hlt.box u _ bu
    rcases List.mem_cons.1 m with rfl | m
    · omega
    rcases List.mem_cons.1 m with rfl | m
    · omega
    rcases List.mem_cons.1 m with rfl | m
    · omega
    · have:=nlt o m; omega
  have hol':=hol
  rw [show otC .nil .nil .zero []=[.sl .nil [],.sc (.bool false),.sc (.string ⟨#[]⟩),.sl .nil [],.sc (.bool false),.sc (.bool false),.sc (.bool false),.sl .nil []] from rfl] at T0 O0 L0
  generalize st.put o _=s0 at T0 O0 L0 ⊢
  have bl:=L0.bl
  unfold lkC at bl
  simp only [List.mem_cons,List.not_mem_nil,or_false,not_or] at hol
  simp (maxSteps:=3000000) only [go_sem,↓reduceIte,bl]
  refine Cal.mk (lcpStart_v L0.lc n0 n1) ?_
  rintro _ s1 ⟨tv1,rfl,R1,L1,T1,l1⟩ -
  have O1:=O0.tn T1 (by simp only [List.mem_cons,List.not_mem_nil,or_false,not_or]; exact hol.2.2.2)
  have LL:=L0.lcp L1 T1
  generalize X.N.start lcpU now=W at hdn hov hP R1 L1 LL l1 ⊢
  obtain ⟨N',P,up,dn,ov⟩:=W
  simp only at hdn hov hP LL l1 ⊢
  subst hdn hov
  simp (maxSteps:=3000000) only [go_sem,↓reduceIte]
  refine Cal.mk (linkLow_v LL O1 hol' hlt hP (by omega) (by simp [Ot.zero]) n0 n1) ?_
  rintro _ s2 ⟨rfl,O2,L2,K2⟩ -
  obtain ⟨t2,bo,R⟩:=O2.ex
  have TT:=K2.tn [l,u,d,n,q] (fun b hb=>by
    rcases List.mem_cons.1 hb with rfl | hb
    · exact .inr ho
    · refine .inl ?_
      simp only [List.mem_cons,List.not_mem_nil,or_false] at hb ⊢
      rcases hb with h | h | h <;> simp [h]) ((T0.wide (by simp)).trans (T1.wide (by':=[l,u,d,n,q]) (fun b hb=>by
      simp only [List.mem_cons,List.not_mem_nil,or_false] at hb ⊢
      rcases hb with h | h | h <;> simp [h])))
  unfold otC at bo
  simp (maxSteps:=3000000) only [go_sem,↓reduceIte,bo]
  exact ⟨_,_,Wk.refl _,R.lt.weak,⟨t2,rfl⟩,L2,TT⟩
set_option maxRecDepth 100000 in
theorem linkOpen_v {M:Neg Ir} (h:LkI tv (.pointer (some ⟨ai,0,none⟩)) host a n q d u l k st X) {j:Nat} (hM:IpI ai ni qi j st M):VCalls Tryz.prog 19 [ptrV l] st fun r s=>r=.sc (.bool (decide (M.s=9)))∧st=s:=by
  refine vcalls_enterq pc19 (Nat.le_of_ble_eq_true rfl) rfl fun hwf hok=>?_
  show Run _ Pc19.body (.fin (finP Pc19.res _)) _ _
  unfold Pc19 zg zo
  have bl:=h.bl
  unfold lkC at bl
  simp (maxSteps:=3000000) only [go_sem,↓reduceIte,bl]
  refine Cal.mk (ipOpen_v hM) ?_
  rintro _ _ ⟨rfl,rfl⟩ -
  simp (maxSteps:=3000000) only [go_sem,↓reduceIte]
  exact ⟨_,_,Wk.refl _,hwf.weak,rfl,rfl⟩
set_option maxRecDepth 100000 in
theorem linkPhase_v (h:LkI tv (.pointer none) host a n q d u l k st X) (s6:X.N.s=6):VCalls Tryz.prog 35 [ptrV l] st fun r s=>r=.sc (.int .i64 1)∧st=s:=by
  refine vcalls_enterq pc35 (Nat.le_of_ble_eq_true rfl) rfl fun hwf hok=>?_
  show Run _ Pc35.body (.fin (finP Pc35.res _)) _ _
  unfold Pc35 zo
  have bl:=h.bl
  unfold lkC at bl
  simp (maxSteps:=3000000) only [go_sem,↓reduceIte,bl]
  refine Cal.mk (lcpOpen_v h.lc) ?_
  rintro _ _ ⟨rfl,rfl⟩ -
  simp (maxSteps:=3000000) only [go_sem,↓reduceIte,bl,s6]
  refine Cal.mk (lcpState_v h.lc) ?_
  rintro _ _ ⟨rfl,rfl⟩ -
  simp (maxSteps:=3000000) only [go_sem,↓reduceIte,s6]
  exact ⟨_,_,Wk.refl _,hwf.weak,rfl,rfl⟩
set_option maxRecDepth 100000 in
theorem frParse0_v:VCalls Tryz.prog 41 [.sl tk (bs [0])] st fun r s=>r=.tup [.agg [.sc (.int .u16 0),.sl .nil []],.sc (.int .i64 10)]∧st=s:=by
  refine vcalls_enterq pc41 (Nat.le_of_ble_eq_true rfl) rfl fun hwf hok=>?_
  show Run _ Pc41.body (.fin (finP Pc41.res _)) _ _
  unfold Pc41 zg zo
  have g0:(bs [0])[0]?=some (.sc (.int .u8 0)):=rfl
  simp (maxSteps:=3000000) only [go_sem,↓reduceIte,bs_len,g0,show ibit .and .u16 0 1=0 from rfl,show decide ((2:Int)≤((1:Nat):Int))=false from rfl,show decide (((1:Nat):Int)=0)=false from rfl,show decide (((1:Nat):Int) < 2)=true from rfl]
  exact ⟨_,_,Wk.refl _,hwf.weak,rfl,rfl⟩
set_option maxRecDepth 100000 in
theorem linkTake0_v:VCalls Tryz.prog 10 [ptrV l,.sc (.int .i64 now),.sl tk (bs [0])] st fun r s=>(∃ t,r=.agg (otC .nil t .zero [.sc (.int .i64 3)]))∧st=s:=by
  refine vcalls_enterq pc10 (Nat.le_of_ble_eq_true rfl) rfl fun hwf hok=>?_
  show Run _ Pc10.body (.fin (finP Pc10.res _)) _ _
  unfold Pc10 zg zn zo
  have hlt:=hwf.lt
  simp (maxSteps:=3000000) only [go_sem,↓reduceIte]
  intro o ho
  refine Cal.mk frParse0_v ?_
  rintro _ _ ⟨rfl,rfl⟩ -
  have bo:(st.put o [.sl .nil [],.sc (.bool false),.sc (.string ⟨#[]⟩),.sl .nil [],.sc (.bool false),.sc (.bool false),.sc (.bool false),.sl .nil []]).box o=_:=put_box_same
  have R:=RO.nil (size:=1) (base:=st) (weak_put hwf.weak ho) (hlt.put (b:=o) (cs:=[.sl .nil [],.sc (.bool false),.sc (.string ⟨#[]⟩),.sl .nil [],.sc (.bool false),.sc (.bool false),.sc (.bool false),.sl .nil []]))
  generalize st.put o _=s0 at bo R ⊢
  simp (maxSteps:=3000000) only [go_sem,↓reduceIte,bo]
  refine App.mk (bytes:=8) (l:=[]) (ys:=[.sc (.int .i64 3)]) .nil (by simp [allSz,V.cells]) (by simp [maxLen]) (by simp) ?_
  intro r2 s2 k1 k2
  have R2:=R.app k1 k2
  obtain ⟨t2,rfl⟩:=R2.sl
  rw [← k2.box] at bo
  simp (maxSteps:=3000000) only [go_sem,↓reduceIte,bo]
  exact ⟨_,_,Wk.refl _,weak_put R2.weak ho,⟨t2,rfl⟩,rfl⟩
set_option maxRecDepth 100000 in
set_option maxHeartbeats 2000000 in
theorem linkGrant_v {x:Int} (h:LkI tv (.pointer none) host a n q d u l k st X) (k1:X.asked=true) (x0:0≤x) (x1:x < 4294967296) (n0:0≤now) (n1:now≤1000000000) (hov:((ipNew 1 ⟨x,0,0⟩).start ipU now).2.over=false) (hP:∀ y ∈ ((ipNew 1 ⟨x,0,0⟩).start ipU now).2.P,y.Good) :
    VCalls Tryz.prog 17 [ptrV l,.sc (.int .i64 now),.sc (.int .u32 x)] st fun r s=>∃ ai ni qi,(∃ t,r=.agg (otC t .nil { Ot.zero.add X.N 32801 ((ipNew 1 ⟨x,0,0⟩).start ipU now).2.P with up:=false || ((ipNew 1 ⟨x,0,0⟩).start ipU now).2.up } []))∧LkI tv (.pointer (some ⟨ai,0,none⟩)) host a n q d u l k s { X with lease:=x }∧IpI ai ni qi 0 s ((ipNew 1 ⟨x,0,0⟩).start ipU now).1∧Tn [l] st s∧st.sz≤ai∧st.sz≤ni∧st.sz≤qi:=by
  refine vcalls_enterq pc17 (Nat.le_of_ble_eq_true rfl) rfl fun hwf hok=>?_
  show Run _ Pc17.body (.fin (finP Pc17.res _)) _ _
  unfold Pc17 zg zn zo
  have hlt:=hwf.lt
  have nlt:=h.lc.ng.lt lcp_rules hlt
  have e1:=hlt.box l _ h.bl
  have e3:=h.lc.la
  have e2:u < st.sz:=by obtain ⟨tu,bu⟩:=h.bu; exact hlt.box u _ bu
  have hlow:∀ b ∈ l :: u :: a :: n :: [q,d],b < st.sz:=fun b m=>by
    rcases List.mem_cons.1 m with rfl | m
    · omega
    rcases List.mem_cons.1 m with rfl | m
    · omega
    rcases List.mem_cons.1 m with rfl | m
    · omega
    · exact nlt b m
  simp (maxSteps:=3000000) only [go_sem,↓reduceIte]
  intro o ho
  have T0:Tn [] st (st.put o (otC .nil .nil .zero [])):=tn_new hlt ho
  have O0:=OtI.zero hlt ho
  have L0:=h.tn T0 (fun _ _=>by simp)
  have hol:o ∉ l :: u :: a :: n :: [q,d]:=fun m=>by have:=hlow o m; omega
  have zo:o < (st.put o (otC .nil .nil .zero [])).sz:=by simp only [put_sz]; omega
  rw [show otC .nil .nil .zero []=[.sl .nil [],.sc (.bool false),.sc (.string ⟨#[]⟩),.sl .nil [],.sc (.bool false),.sc (.bool false),.sc (.bool false),.sl .nil []] from rfl] at T0 O0 L0 zo
  generalize st.put o _=s0 at T0 O0 L0 zo ⊢
  have sz0:=T0.sz
  have bl:=L0.bl
  unfold lkC at bl
  rw [k1] at bl
  have lt0:=T0.lt
  have T1:Tn [l] s0 (s0.put l (lkC a u d (.pointer none) { X with lease:=x })):=(Tn.refl lt0).put (.inl (by simp)) lt0
  have nl:=h.nl
  have mk:∀ (ip':Value) (X':Lk) (s s':St),LkI tv (.pointer none) host a n q d u l k s X→Tn [l] s s'→s'.box l=some (lkC a u d ip' X')→X'.N=X.N→X'.A=X.A→LkI tv ip' host a n q d u l k s' X':=fun ip' X' s s' L T B eN eA =>
    ⟨B,by rw [eN]; exact L.lc.tnl T (fun y hy hm=>by simp only [List.mem_singleton] at hm; subst hm; exact nl (List.mem_cons_of_mem _ hy)),by
      obtain ⟨tu,bu⟩:=L.bu
      exact ⟨tu,by rw [eA]; exact T.box u _ bu (by simp only [List.mem_singleton]; exact fun e=>nl (by rw [e]; simp))⟩,L.nu,L.nl,L.hh,by rw [eA]; exact L.ai⟩
  have B1:(s0.put l (lkC a u d (.pointer none) { X with lease:=x })).box l=some (lkC a u d (.pointer none) { X with lease:=x }):=put_box_same
  simp only [lkC,ptrV,k1] at T1 B1
  simp (maxSteps:=3000000) only [go_sem,↓reduceIte,bl]
  generalize s0.put l _=s1 at T1 B1 ⊢
  have sz1:=T1.sz
  refine Cal.mk (ipNew_v (g:=⟨x,0,0⟩) (by decide) (by decide) ⟨x0,x1,Int.le_refl 0,(by decide:(0:Int) < 4294967296),Int.le_refl 0,(by decide:(0:Int) < 4294967296)⟩) ?_
  rintro _ s2 ⟨ai,ni,qi,rfl,M2,T2,g1,g2,g3⟩ -
  have T12:=T1.trans (T2.wide (by':=[l]) (by simp))
  have B2:=T2.box l _ B1 (by simp)
  simp (maxSteps:=3000000) only [go_sem,↓reduceIte,B2]
  have lt2:=T2.lt
  have T3:Tn [l] s2 (s2.put l (lkC a u d (.pointer (some ⟨ai,0,none⟩)) { X with lease:=x })):=(Tn.refl lt2).put (.inl (by simp)) lt2
  have L3:LkI tv (.pointer (some ⟨ai,0,none⟩)) host a n q d u l k (s2.put l (lkC a u d (.pointer (some ⟨ai,0,none⟩)) { X with lease:=x })) { X with lease:=x }:=mk _ _ s0 _ L0 (T12.trans T3) put_box_same rfl rfl
  have hi:∀ b ∈ ai :: ni :: [qi],s1.sz≤b:=fun b hb=>by
    simp only [List.mem_cons,List.not_mem_nil,or_false] at hb
    rcases hb with rfl | rfl | rfl <;> omega
  have M3:=M2.tnx T3 (fun b hb hm=>by simp only [List.mem_singleton] at hm; subst hm; have:=hi _ hb; omega)
  simp only [lkC,ptrV,k1] at T3 L3 M3
  generalize s2.put l _=s3 at T3 L3 M3 ⊢
  refine Cal.mk (ipStart_v M3 n0 n1) ?_
  rintro _ s4 ⟨tv4,rfl,M4,T4,l4⟩ -
  have O4:OtI st o s4 .zero:=(O0.tn (T12.trans T3) (by simp only [List.mem_singleton]; exact fun e=>hol (by rw [e]; simp))).tn T4 (fun hm=>by have:=hi o (List.mem_cons_of_mem _ hm); omega)
  have L4:=L3.tn T4 (fun b hb hm=>by have:=hlow b hb; have:=hi b (List.mem_cons_of_mem _ hm); omega)
  have T04:Tn [l] st s3:=(T0.wide (by simp)).trans (T12.trans T3)
  generalize (ipNew 1 ⟨x,0,0⟩).start ipU now=W at hov hP M4 l4 ⊢
  obtain ⟨M',P,up,dn,ov⟩:=W
  simp only at hov hP M4 l4 ⊢
  subst hov
  simp (maxSteps:=3000000) only [go_sem,↓reduceIte]
  refine Cal.mk (linkHigh_v L4 O4 hol hlt hP (by omega) (by simp [Ot.zero])) ?_
  rintro _ s5 ⟨rfl,O5,L5,K5⟩ -
  obtain ⟨t5,bo,R⟩:=O5.ex
  have so:s1.sz≤ai:=g1
  have M5:=M4.kp K5 (fun b hb hm=>by simp only [List.mem_singleton] at hm; subst hm; have:=hi _ hb; omega)
  have T4':Tn [l] st s4:=⟨fun b c hb hn=>T4.box b c (T04.box b c hb hn) (fun hm=>by have:=hi b (List.mem_cons_of_mem _ hm); have:=hlt.box b c hb; omega),fun g m hg=>T4.own g m (T04.own g m hg),Nat.le_trans T04.sz T4.sz,T4.lt⟩
  have TT:=K5.tn [l] (fun b hb=>by simp only [List.mem_singleton] at hb; subst hb; exact .inr ho) T4'
  unfold otC at bo
  simp (maxSteps:=3000000) only [go_sem,↓reduceIte,bo]
  exact ⟨_,_,Wk.refl _,R.lt.weak,ai,ni,qi,⟨t5,rfl⟩,by rw [k1]; exact L5,M5,TT,by omega,by omega,by omega⟩
end
end
section
open Go
theorem req_good {w:Want}:(⟨1,1,buildO (optsW w)⟩:Ctl).Good :=
  ⟨by show (0:Int)≤1; decide,by show (1:Int) < 256; decide,by show (0:Int)≤1; decide,by show (1:Int) < 256; decide,buildO_isB (optsW_good w),by have:=buildO_len (optsW w); have:=optsW_len w; show (buildO (optsW w)).length≤1000000; omega⟩
def mN0:Neg Lr:=lcpNew [7]
def mN1:Neg Lr:=(mN0.start lcpU 0).1
def mP1:Ctl:=⟨1,1,buildO (optsW ⟨1400,true,7,false,false⟩)⟩
theorem m_start:(mN0.start lcpU 0).2=⟨[mP1],false,false,false⟩:=by decide
def mN2:Neg Lr:=(lcpTake mN1 1 ⟨2,1,mP1.data⟩).1
theorem m_ack:(lcpTake mN1 1 ⟨2,1,mP1.data⟩).2=⟨[],false,false,false⟩:=by decide
def mWant (a b:Bool):List Opt:=(if a=true then [(1,[5,0])] else []) ++ (if b=true then [(7,[]),(8,[])] else []) ++ [(5,[0,0,0,9])]
def mN3 (a b:Bool):Neg Lr:=(lcpTake mN2 1 ⟨1,1,buildO (mWant a b)⟩).1
theorem m_req (a b:Bool):(lcpTake mN2 1 ⟨1,1,buildO (mWant a b)⟩).2=⟨[⟨2,1,buildO (mWant a b)⟩],true,false,false⟩:=by cases a <;> cases b <;> decide
theorem m_open (a b:Bool):(mN3 a b).s=9:=by cases a <;> cases b <;> decide
def mX1:Lk:={ Lk.new [7] with N:=mN1 }
def mX2:Lk:={ mX1 with N:=mN2 }
def mX3 (a b:Bool):Lk:=Lk.asks { mX2 with N:=mN3 a b,on:=true,eat:=1 + 20,miss:=0 } 1
theorem m_e1:mN0.start lcpU 0=(mN1,⟨[mP1],false,false,false⟩):=Prod.ext rfl m_start
theorem m_e2:lcpTake mN1 1 ⟨2,1,mP1.data⟩=(mN2,⟨[],false,false,false⟩):=Prod.ext rfl m_ack
theorem m_e3 (a b:Bool):lcpTake mN2 1 ⟨1,1,buildO (mWant a b)⟩=(mN3 a b,⟨[⟨2,1,buildO (mWant a b)⟩],true,false,false⟩):=Prod.ext rfl (m_req a b)
theorem m_X2:mX1.lcpIn 1 ⟨2,1,mP1.data⟩=mX2:=by
  unfold Lk.lcpIn
  rw [show lcpTake mX1.N 1 ⟨2,1,mP1.data⟩=_ from m_e2]
  rfl
theorem m_X3 (a b:Bool):mX2.lcpIn 1 ⟨1,1,buildO (mWant a b)⟩=mX3 a b:=by
  unfold Lk.lcpIn
  rw [show lcpTake mX2.N 1 ⟨1,1,buildO (mWant a b)⟩=_ from m_e3 a b]
  rfl
theorem m_O3 (a b:Bool):Ot.zero.lcpIn ⟨#[104]⟩ mX2 1 ⟨1,1,buildO (mWant a b)⟩=⟨[frOf (mN3 a b) 49185 ⟨2,1,buildO (mWant a b)⟩,frOf (mX3 a b).N 49699 (makeC 1 (mX3 a b).A.id (mX3 a b).A.chal ⟨#[104]⟩)],false,⟨#[]⟩,false⟩:=by
  unfold Ot.lcpIn
  rw [show lcpTake mX2.N 1 ⟨1,1,buildO (mWant a b)⟩=_ from m_e3 a b]
  rfl
theorem m_s3 (a b:Bool):(mX3 a b).N.s=9:=m_open a b
theorem mWant_good (a b:Bool):GoodO (mWant a b)∧(mWant a b).length≤4:=by
  have h5:GoodO [(5,[0,0,0,9])]:=.one (by decide) (by decide) (fun x hx=>by simp only [List.mem_cons,List.not_mem_nil,or_false] at hx; omega) (by decide)
  have h1:GoodO [(1,[5,0])]:=.one (by decide) (by decide) (fun x hx=>by simp only [List.mem_cons,List.not_mem_nil,or_false] at hx; omega) (by decide)
  have h7:GoodO [(7,[]),(8,[])]:=(GoodO.one (o:=(7,[])) (by decide) (by decide) IsB.nil' (by decide)).append (.one (o:=(8,[])) (by decide) (by decide) IsB.nil' (by decide))
  constructor
  · cases a <;> cases b
    · exact h5
    · exact h7.append h5
    · exact h1.append h5
    · exact (h1.append h7).append h5
  · cases a <;> cases b <;> decide
def aN0:Neg Lr:=lcpNew []
theorem a_P:(aN0.start lcpU 0).2.P=[⟨1,1,buildO (optsW aN0.r.w)⟩]:=by decide
theorem a_start:(aN0.start lcpU 0).2.P.length=1∧(aN0.start lcpU 0).2.up=false∧(aN0.start lcpU 0).2.down=false∧(aN0.start lcpU 0).2.over=false∧(aN0.start lcpU 0).1.s=6:=by decide
def iM0 (x:Int):Neg Ir:=ipNew 1 ⟨x,0,0⟩
def iM1 (x:Int):Neg Ir:=((iM0 x).start ipU 1).1
def iP1:Ctl:=⟨1,1,buildO (optsA ⟨1,0,0⟩)⟩
theorem i_start (x:Int):((iM0 x).start ipU 1).2=⟨[iP1],false,false,false⟩:=by kernel_rfl
def iM2 (x:Int):Neg Ir:=((iM1 x).take ipU 7 1 ⟨2,1,iP1.data⟩).1
theorem i_ack (x:Int):((iM1 x).take ipU 7 1 ⟨2,1,iP1.data⟩).2=⟨[],false,false,false⟩:=by kernel_rfl
def iReq (x:Int):Ctl:=⟨1,1,buildO (optsA ⟨x,0,0⟩)⟩
theorem i_req {x:Int} (h:x ≠ 0) (h0:0≤x) (h1:x < 4294967296):((iM2 x).take ipU 7 1 (iReq x)).2.up=true∧((iM2 x).take ipU 7 1 (iReq x)).2.over=false∧((iM2 x).take ipU 7 1 (iReq x)).1.s=9∧((iM2 x).take ipU 7 1 (iReq x)).2.P=[⟨2,1,buildO [(3,beL x 4)]⟩]:=by
  have ho:optsA ⟨x,0,0⟩=[(3,beL x 4)]:=by
    unfold optsA
    simp only [ne_eq,h,not_false_eq_true,↓reduceIte,not_true_eq_false,List.append_nil]
    rfl
  have hn:num4 (beL x 4)=x:=by
    unfold num4
    rw [if_neg (by rw [beL_len]; decide),List.take_of_length_le (by rw [beL_len]; decide),numL_beL _ h0]
    omega
  obtain ⟨b0,b1,b2,b3,hb⟩:∃ b0 b1 b2 b3,beL x 4=[b0,b1,b2,b3]:=⟨_,_,_,_,by simp [beL]; exact ⟨rfl,rfl,rfl,rfl⟩⟩
  have hp:parseO (iReq x).data=([(3,beL x 4)],0):=by
    unfold iReq
    rw [ho,hb]
    rfl
  have hj:judgeA [(3,beL x 4)] ⟨x,0,0⟩=(2,[(3,beL x 4)]):=by
    have hf:foldA ⟨x,0,0⟩ [(3,beL x 4)]=([],[],[3]):=by
      unfold foldA
      simp only [List.foldl_cons,List.foldl_nil,stepA,AW.of,beL_len,hn,h,List.not_mem_nil,↓reduceIte,ne_eq,not_true_eq_false,or_self,List.append_nil]
    unfold judgeA
    rw [hf]
    rfl
  have hg:(iM2 x).r.give=⟨x,0,0⟩:=by kernel_rfl
  have hs:(iM2 x).s=7:=by kernel_rfl
  generalize iM2 x=M at hg hs ⊢
  obtain ⟨s,left,at_,id,req,naks,r⟩:=M
  simp only at hg hs
  subst hs
  obtain ⟨M,hM⟩:∃ M:Neg Ir,(⟨7,left,at_,id,req,naks,r⟩:Neg Ir)=M:=⟨_,rfl⟩
  have hMr:M.r=r:=by rw [← hM]
  have hg:M.r.give=⟨x,0,0⟩:=by rw [hMr,hg]
  have hs:M.s=7:=by rw [← hM]
  rw [hM]
  have hjj:ipU.judge M.r [(3,beL x 4)]=(M.r,2,[(3,beL x 4)]):=by
    show (M.r,judgeA [(3,beL x 4)] M.r.give)=_
    rw [hg,hj]
  have hr:M.take ipU 7 1 (iReq x)=Neg.event ipU { M with r:=ipU.agreed M.r [(3,beL x 4)],naks:=0 } 1 6 (iReq x) ⟨2,1,buildO [(3,beL x 4)]⟩:=by
    unfold Neg.take
    have hc:(iReq x).code=1:=rfl
    rw [if_neg (by rw [hc]; decide),if_pos hc]
    unfold Neg.request
    simp only [hp]
    rw [if_neg (by decide),if_neg (by rw [hs]; decide)]
    unfold Neg.judge
    simp only [hjj]
    rfl
  rw [hr]
  have hs2:stepF 7 6=stepF 7 6:=rfl
  refine ⟨?_,?_,?_,?_⟩
  all_goals
    unfold Neg.event Neg.step
    simp only [hs]
    rfl
end
section
open Go
section
variable {st:St} {tk:Tk} {l:List Opt} {L:List Int}
set_option maxRecDepth 100000 in
set_option maxHeartbeats 4000000 in
theorem r10Build_v (hG:GoodO l) (hl:l.length≤1000000000):VCalls Tryz.prog 13 [.sl tk (opts l)] st fun r s=>r=.sl .no (bs (buildO l))∧st=s:=by
  refine vcalls_enterq pc13 (Nat.le_of_ble_eq_true rfl) rfl fun hwf hok=>?_
  show Run _ Pc13.body (.fin (finP Pc13.res _)) _ _
  unfold Pc13 zo
  simp (maxSteps:=3000000) only [go_sem]
  refine run_loop [3,4,5,8,9,11,14,15,16,17,19,23,24,25,27,28,29,30,34,35,36,38,39] (fun B s=>∃ (i:Nat) (t:Tk),i≤l.length∧B 4=.sc (.int .i64 i)∧B 3=.sl t (bs (buildO (l.take i)))∧RO 1 st s (.sl t (bs (buildO (l.take i)))) (bs (buildO (l.take i)))) (fun B _=>l.length - vnat (B 4)) rfl ?_ ?_
  · exact ⟨0,.nil,by omega,rfl,rfl,RO.nil hwf.weak hwf.lt⟩
  · rintro B s ⟨i,t,hi,h4,h3,R⟩
    have hbl:=buildO_len (l.take i)
    have hln:(l.take i).length≤i:=by simp only [List.length_take]; omega
    by_cases c1:i < l.length
    · obtain ⟨⟨T,D⟩,ho⟩:=get_ex c1
      obtain ⟨o0,o1,oB,oL⟩:=hG.get ho
      simp only at o0 o1 oB oL
      have hs:=buildO_snoc ho
      simp only at hs
      have fin:∀ (m:Nat),m=(D.take 253).length→∀ k:Int,k=m→App Tryz.prog 1 1 (.sl t (bs (buildO (l.take i)))) (.sl .no [.sc (.int .u8 T),.sc (.int .u8 ((k + 2) % 256))]) (some 30) [] [] (.fin fun _ _ _=>True) (fun _=>.und) s:=fun m hm k hk=>by
        refine App.mk (bytes:=1) (ys:=bs [T,(k + 2) % 256]) R.own (allSz_bs _) (by simp only [bs_len,List.length_cons,List.length_nil]; unfold maxLen; omega) (by simp only [bs_len,List.length_cons,List.length_nil]; omega) ?_
        intro r2 s2 k1 k2
        exact ⟨trivial,trivial⟩
      clear fin
      by_cases c2:253 < D.length
      · have hm:(D.take 253).length=253:=by simp only [List.length_take]; omega
        rw [hm] at hs
        simp (maxSteps:=3000000) only [go_sem,↓reduceIte,h4,h3,opts_len,opts_at ho,bs_len,decide_eq_true (show (i:Int) < (l.length:Int) by omega),decide_eq_true (show (253:Int) < (D.length:Int) by omega)]
        repeat (apply And.intro; focus (first | omega | (simp; done)))
        refine App.mk (bytes:=1) (ys:=bs [T,255]) R.own (allSz_bs _) (by simp only [bs_len,List.length_cons,List.length_nil]; unfold maxLen; omega) (by simp only [bs_len,List.length_cons,List.length_nil]; omega) ?_
        intro r2 s2 k1 k2
        have R2:=R.app k1 k2
        rw [bs_append] at R2
        obtain ⟨t2,rfl⟩:=R2.sl
        simp (maxSteps:=3000000) only [go_sem,↓reduceIte,h4,opts_at ho,bs_take,allSz_bs',bs_len]
        repeat (apply And.intro; focus (first | omega | (simp; done)))
        refine App.mk (bytes:=1) (ys:=bs (D.take 253)) R2.own (allSz_bs _) (by simp only [bs_len,List.length_append,List.length_cons,List.length_nil,hm]; unfold maxLen; omega) (by simp only [bs_len,List.length_append,List.length_cons,List.length_nil,hm]; omega) ?_
        intro r3 s3 k3 k4
        have R3:=R2.app k3 k4
        rw [bs_append,← show ((253:Nat):Int) + 2=255 from rfl,← hs] at R3
        obtain ⟨t3,rfl⟩:=R3.sl
        simp (maxSteps:=3000000) only [go_sem,↓reduceIte,h4]
        repeat (apply And.intro; focus (first | omega | (simp; done)))
        exact ⟨⟨i + 1,t3,by omega,by simp,rfl,R3⟩,by omega⟩
      · have hm:D.take 253=D:=List.take_of_length_le (by omega)
        rw [hm] at hs
        have e1:((D.length:Int) + 2) % 256=(D.length:Int) + 2:=by omega
        have e2:D.take D.length=D:=List.take_length
        simp (maxSteps:=3000000) only [go_sem,↓reduceIte,h4,h3,opts_len,opts_at ho,bs_len,decide_eq_true (show (i:Int) < (l.length:Int) by omega),decide_eq_false (show ¬ (253:Int) < (D.length:Int) by omega),e1]
        repeat (apply And.intro; focus (first | omega | (simp; done)))
        refine App.mk (bytes:=1) (ys:=bs [T,(D.length:Int) + 2]) R.own (allSz_bs _) (by simp only [bs_len,List.length_cons,List.length_nil]; unfold maxLen; omega) (by simp only [bs_len,List.length_cons,List.length_nil]; omega) ?_
        intro r2 s2 k1 k2
        have R2:=R.app k1 k2
        rw [bs_append] at R2
        obtain ⟨t2,rfl⟩:=R2.sl
        simp (maxSteps:=3000000) only [go_sem,↓reduceIte,h4,opts_at ho,bs_take,allSz_bs',bs_len,e2]
        repeat (apply And.intro; focus (first | omega | (simp; done)))
        refine App.mk (bytes:=1) (ys:=bs D) R2.own (allSz_bs _) (by simp only [bs_len,List.length_append,List.length_cons,List.length_nil]; unfold maxLen; omega) (by simp only [bs_len,List.length_append,List.length_cons,List.length_nil]; omega) ?_
        intro r3 s3 k3 k4
        have R3:=R2.app k3 k4
        rw [bs_append,← hs] at R3
        obtain ⟨t3,rfl⟩:=R3.sl
        simp (maxSteps:=3000000) only [go_sem,↓reduceIte,h4]
        repeat (apply And.intro; focus (first | omega | (simp; done)))
        exact ⟨⟨i + 1,t3,by omega,by simp,rfl,R3⟩,by omega⟩
    · obtain rfl:i=l.length:=by omega
      rw [List.take_length] at R h3
      simp (maxSteps:=3000000) only [go_sem,↓reduceIte,h4,h3,opts_len]
      exact ⟨_,_,Wk.no,R.weak,rfl,rfl⟩
end
end
section
open Go
section
variable {st:St} {L:List Int}
theorem New.nil (h:st.weak st) (hl:st.Lt):New st st (.sl .nil []):=⟨h,hl,fun g k l e=>by cases e⟩
theorem New.app {s s':St} {x r:V} (h:New st s x) (k:AppSt s x s' r):New st s' r :=
  ⟨k.keeps h.weak h.tok,h.lt.app k,k.fresh h.weak.sz h.tok⟩
end
end
section
open Go
section
variable {st:St}
end
end
section
open Go
section
variable {st:St} {b:Nat} {s l t:Int} {rest:List V}
end
end
section
open Go
section
variable {R:Type} {U:Rul R} {SI:Nat→St→R→V→List Opt→List V→Prop} {bx:List Nat} {kind codes:Int} {n k m:Nat} {st s s2 base:St} {N N':Neg R}
set_option maxRecDepth 100000 in
theorem r15Build_v {p:Ctl} {tk:Tk} (hp:p.Good):VCalls Tryz.prog 48 [.agg [.sc (.int .u8 p.code),.sc (.int .u8 p.id),.sl tk (bs p.data)]] st fun r s=>∃ t,r=.sl t (bs (buildC p))∧RO 1 st s (.sl t (bs (buildC p))) (bs (buildC p)):=by
  refine vcalls_enterq pc48 (Nat.le_of_ble_eq_true rfl) rfl fun hwf hok=>?_
  show Run _ Pc48.body (.fin (finP Pc48.res _)) _ _
  unfold Pc48 zn zo
  have hlt:=hwf.lt
  have hl:=hp.l
  simp (maxSteps:=3000000) only [go_sem,↓reduceIte]
  refine Cal.mk (r15First_v (by omega)) ?_
  rintro _ _ ⟨rfl,rfl⟩ -
  rw [show ((65531:Int)).toNat=65531 from rfl]
  have hD:(p.data.take 65531).length≤65531:=by simp only [List.length_take]; omega
  have hbc:buildC p=[p.code,p.id] ++ beL (((p.data.take 65531).length:Int) + 4) 2 ++ p.data.take 65531:=rfl
  rw [hbc]
  generalize p.data.take 65531=X at hD ⊢
  have e1:(4 + (X.length:Int)) % 18446744073709551616=(X.length:Int) + 4:=by omega
  simp (maxSteps:=3000000) only [go_sem,↓reduceIte]
  refine Bo.own (by simp [allLen,V.cells]) ?_
  intro g hg
  have W1:st.weak (st.use g 2):=weak_use hlt.weak hg
  have L1:(st.use g 2).Lt:=hlt.use
  simp (maxSteps:=3000000) only [go_sem,↓reduceIte,bs_len,e1]
  repeat (apply And.intro; focus (first | omega | (simp; done)))
  generalize st.use g 2=s1 at W1 L1 ⊢
  refine Cal.mk (rPut_v (L:=[p.code,p.id]) (tk:=.own g 1) (n:=(X.length:Int) + 4) (size:=2) (by intro y hy; simp only [List.mem_cons,List.not_mem_nil,or_false] at hy; have:=hp.c0; have:=hp.c1; have:=hp.i0; have:=hp.i1; omega) (by simp) (by omega) (by omega)) ?_
  rintro r2 s2 ⟨o2,n2⟩ -
  rw [if_neg (by decide)] at o2
  have R2:RO 1 s1 s2 r2 (bs ([p.code,p.id] ++ beL ((X.length:Int) + 4) 2)):=⟨o2,n2.weak,n2.lt,n2.tok⟩
  obtain ⟨t2,rfl⟩:=R2.sl
  simp (maxSteps:=3000000) only [go_sem,↓reduceIte]
  refine App.mk (bytes:=1) (ys:=bs X) R2.own (allSz_bs _) (by simp only [bs_len,List.length_append,List.length_cons,List.length_nil,beL_len]; unfold maxLen; omega) (by simp only [bs_len,List.length_append,List.length_cons,List.length_nil,beL_len]; omega) ?_
  intro r3 s3 k3 k4
  have R3:=R2.app k3 k4
  rw [bs_append] at R3
  obtain ⟨t3,rfl⟩:=R3.sl
  simp (maxSteps:=3000000) only [go_sem,↓reduceIte]
  exact ⟨_,_,Wk.refl _,R3.lt.weak,t3,rfl,R3.own,weak_tr W1 R3.weak,R3.lt,fun g k l e=>Nat.le_trans W1.sz (R3.tok g k l e)⟩
end
end
section
open Go
theorem w64 {x:Nat} (h:x < 18446744073709551616):IntKind.u64.wrap ((x:Nat):Int)=x:=by
  simp only [IntKind.wrap,IntKind.signed,IntKind.bits,Bool.false_and,Bool.false_eq_true,↓reduceIte]; omega
theorem b64 {x:Nat} (h:x < 18446744073709551616):(BitVec.ofInt 64 (x:Int)).toNat=x:=by rw [BitVec.toNat_ofInt]; omega
theorem i64_and {a b:Nat} (ha:a < 4294967296) (hb:b < 4294967296):ibit .and .u64 (a:Int) (b:Int)=((a &&& b:Nat):Int):=by
  have g:ibit .and .u64 (a:Int) (b:Int)=IntKind.u64.wrap ((BitVec.ofInt 64 (a:Int) &&& BitVec.ofInt 64 (b:Int)).toNat:Int):=rfl
  have:=Nat.and_lt_two_pow (n:=32) a hb
  rw [g,BitVec.toNat_and,b64 (by omega),b64 (by omega),w64 (by omega)]
theorem i64_or {a b:Nat} (ha:a < 4294967296) (hb:b < 4294967296):ibit .or .u64 (a:Int) (b:Int)=((a ||| b:Nat):Int):=by
  have g:ibit .or .u64 (a:Int) (b:Int)=IntKind.u64.wrap ((BitVec.ofInt 64 (a:Int) ||| BitVec.ofInt 64 (b:Int)).toNat:Int):=rfl
  have:=Nat.or_lt_two_pow (n:=32) ha hb
  rw [g,BitVec.toNat_or,b64 (by omega),b64 (by omega),w64 (by omega)]
theorem i64_xor {a b:Nat} (ha:a < 4294967296) (hb:b < 4294967296):ibit .xor .u64 (a:Int) (b:Int)=((a ^^^ b:Nat):Int):=by
  have g:ibit .xor .u64 (a:Int) (b:Int)=IntKind.u64.wrap ((BitVec.ofInt 64 (a:Int) ^^^ BitVec.ofInt 64 (b:Int)).toNat:Int):=rfl
  have:=Nat.xor_lt_two_pow (n:=32) ha hb
  rw [g,BitVec.toNat_xor,b64 (by omega),b64 (by omega),w64 (by omega)]
section
variable {st:St} {i b c d n k:Nat} {L:List Int} {tk:Tk}
theorem r04Cut_v:VCalls Tryz.prog 151 [.sc (.int .u64 (n:Nat))] st fun r s=>r=.sc (.int .u64 ((n % 4294967296:Nat):Int))∧st=s:=by
  refine vcalls_enterq pc151 (Nat.le_of_ble_eq_true rfl) rfl fun hwf hok=>?_
  show Run _ Pc151.body (.fin (finP Pc151.res _)) _ _
  unfold Pc151 zo
  have e:(n:Int) % 4294967296=((n % 4294967296:Nat):Int):=by omega
  simp (maxSteps:=3000000) only [go_sem,↓reduceIte,e]
  exact ⟨by omega,_,_,Wk.refl _,hwf.weak,rfl,rfl⟩
theorem r04Not_v (hn:n < 4294967296):VCalls Tryz.prog 186 [.sc (.int .u64 (n:Nat))] st fun r s=>r=.sc (.int .u64 ((4294967295 - n:Nat):Int))∧st=s:=by
  refine vcalls_enterq pc186 (Nat.le_of_ble_eq_true rfl) rfl fun hwf hok=>?_
  show Run _ Pc186.body (.fin (finP Pc186.res _)) _ _
  unfold Pc186 zo
  have e:(4294967295 - (n:Int)) % 18446744073709551616=((4294967295 - n:Nat):Int):=by omega
  simp (maxSteps:=3000000) only [go_sem,↓reduceIte,e]
  exact ⟨_,_,Wk.refl _,hwf.weak,rfl,rfl⟩
theorem r04Roll_v (hn:n < 4294967296) (hk:k < 32):VCalls Tryz.prog 156 [.sc (.int .u64 (n:Nat)),.sc (.int .i64 (k:Nat))] st fun r s=>r=.sc (.int .u64 (rolN n k:Nat))∧st=s:=by
  refine vcalls_enterq pc156 (Nat.le_of_ble_eq_true rfl) rfl fun hwf hok=>?_
  show Run _ Pc156.body (.fin (finP Pc156.res _)) _ _
  unfold Pc156 zo
  simp (maxSteps:=3000000) only [go_sem]
  refine run_loop [0,5,8,10,12,13,15,16] (fun B s=>∃ i:Nat,i≤k∧B 5=.sc (.int .i64 i)∧B 0=.sc (.int .u64 (rolN n i:Nat))∧st=s) (fun B _=>k - vnat (B 5)) rfl ?_ ?_
  · exact ⟨0,by omega,by first | (simp (maxSteps:=3000000) only [go_sem,↓reduceIte]; done) | (simp (maxSteps:=3000000) only [go_sem,↓reduceIte]; rfl),by rw [rolN_zero hn]; first | (simp (maxSteps:=3000000) only [go_sem,↓reduceIte]; done) | (simp (maxSteps:=3000000) only [go_sem,↓reduceIte]; rfl),rfl⟩
  · rintro B s ⟨i,hi,h5,h0,rfl⟩
    by_cases c:i < k
    · have c1:decide ((i:Int) < (k:Int))=true:=decide_eq_true (by omega)
      obtain ⟨s1,s2⟩:=rol_step (k:=i) hn (by omega)
      have s3:=(rol_step (k:=i + 1) hn (by omega))
      obtain ⟨m,hm⟩:∃ m,rolN n i=m:=⟨_,rfl⟩
      have hr:rolN n (i + 1)=roll1 m:=by rw [← s1,hm]
      rw [hm] at h0 s2
      have e1:(2 * (m:Int) % 18446744073709551616 % 4294967296 + (m:Int) / 2147483648 % 18446744073709551616) % 18446744073709551616=((rolN n (i + 1):Nat):Int):=by
        rw [hr,show 2 * (m:Int) % 18446744073709551616=2 * m by omega,show (m:Int) / 2147483648 % 18446744073709551616=((m / 2147483648:Nat):Int) by omega,show 2 * (m:Int) % 4294967296=((2 * m % 4294967296:Nat):Int) by omega]
        unfold roll1
        have b1:2 * m % 4294967296 < 4294967296:=Nat.mod_lt _ (by decide)
        have b2:m / 2147483648 < 4294967296:=by omega
        generalize 2 * m % 4294967296=y1 at b1 ⊢
        generalize m / 2147483648=y2 at b2 ⊢
        omega
      simp (maxSteps:=3000000) only [go_sem,↓reduceIte,h5,h0,c1]
      exact ⟨by omega,by omega,by omega,⟨i + 1,by omega,by simp,by rw [e1]⟩,by omega⟩
    · have c1:decide ((i:Int) < (k:Int))=false:=decide_eq_false (by omega)
      obtain rfl:i=k:=by omega
      simp (maxSteps:=3000000) only [go_sem,↓reduceIte,h5,h0]
      exact ⟨_,_,Wk.refl _,hwf.weak,rfl,rfl⟩
theorem r04Low_v {w:Nat} (hw:wordM L 0=w) (hB:IsB L) (hl:4≤L.length):VCalls Tryz.prog 154 [.sl tk (bs L)] st fun r s=>r=.sc (.int .u64 (w:Nat))∧st=s:=by
  refine vcalls_enterq pc154 (Nat.le_of_ble_eq_true rfl) rfl fun hwf hok=>?_
  show Run _ Pc154.body (.fin (finP Pc154.res _)) _ _
  unfold Pc154 zo
  obtain ⟨x0,l0,g0,d0⟩:=byte_nat hB (j:=0) (by omega)
  obtain ⟨x1,l1,g1,d1⟩:=byte_nat hB (j:=1) (by omega)
  obtain ⟨x2,l2,g2,d2⟩:=byte_nat hB (j:=2) (by omega)
  obtain ⟨x3,l3,g3,d3⟩:=byte_nat hB (j:=3) (by omega)
  have b0:(bs L)[0]?=some (.sc (.int .u8 (x0:Nat))):=by rw [bs_get,g0]; rfl
  have b1:(bs L)[1]?=some (.sc (.int .u8 (x1:Nat))):=by rw [bs_get,g1]; rfl
  have b2:(bs L)[2]?=some (.sc (.int .u8 (x2:Nat))):=by rw [bs_get,g2]; rfl
  have b3:(bs L)[3]?=some (.sc (.int .u8 (x3:Nat))):=by rw [bs_get,g3]; rfl
  have hw2:(w:Int)=(x0:Int) + 256 * x1 + 65536 * x2 + 16777216 * x3:=by
    rw [← hw,wordM]
    simp only [Nat.mul_zero,Nat.zero_add,d0,d1,d2,d3]
    omega
  simp (maxSteps:=3000000) only [go_sem,↓reduceIte,b0,b1,b2,b3]
  exact ⟨_,_,Wk.refl _,hwf.weak,congrArg (fun z=>V.sc (.int .u64 z)) (by omega),rfl⟩
theorem r04F_v (hi:i < 64) (hb:b < 4294967296) (hc:c < 4294967296) (hd:d < 4294967296):VCalls Tryz.prog 152 [.sc (.int .i64 (i:Nat)),.sc (.int .u64 (b:Nat)),.sc (.int .u64 (c:Nat)),.sc (.int .u64 (d:Nat))] st fun r s=>r=.sc (.int .u64 (mixN i b c d:Nat))∧st=s:=by
  refine vcalls_enterq pc152 (Nat.le_of_ble_eq_true rfl) rfl fun hwf hok=>?_
  show Run _ Pc152.body (.fin (finP Pc152.res _)) _ _
  unfold Pc152 zo
  have nb:4294967295 - b < 4294967296:=by omega
  have nd:4294967295 - d < 4294967296:=by omega
  unfold mixN
  by_cases c1:i < 16
  · have a1:=i64_and hb hc
    have a3:=i64_and nb hd
    have a4:=i64_or (Nat.and_lt_two_pow (n:=32) b hc) (Nat.and_lt_two_pow (n:=32) (4294967295 - b) hd)
    rw [if_pos c1]
    simp (maxSteps:=3000000) only [go_sem,↓reduceIte,decide_eq_true (show (i:Int) < 16 by omega),a1]
    refine Cal.mk (r04Not_v hb) ?_
    rintro _ _ ⟨rfl,rfl⟩ -
    simp (maxSteps:=3000000) only [go_sem,↓reduceIte,a3,a4]
    exact ⟨_,_,Wk.refl _,hwf.weak,rfl,rfl⟩
  rw [if_neg c1]
  have d1:=decide_eq_false (show ¬ (i:Int) < 16 by omega)
  by_cases c2:i < 32
  · have a1:=i64_and hd hb
    have a3:=i64_and nd hc
    have a4:=i64_or (Nat.and_lt_two_pow (n:=32) d hb) (Nat.and_lt_two_pow (n:=32) (4294967295 - d) hc)
    rw [if_pos c2]
    simp (maxSteps:=3000000) only [go_sem,↓reduceIte,d1,decide_eq_true (show (i:Int) < 32 by omega),a1]
    refine Cal.mk (r04Not_v hd) ?_
    rintro _ _ ⟨rfl,rfl⟩ -
    simp (maxSteps:=3000000) only [go_sem,↓reduceIte,a3,a4]
    exact ⟨_,_,Wk.refl _,hwf.weak,rfl,rfl⟩
  rw [if_neg c2]
  have d2:=decide_eq_false (show ¬ (i:Int) < 32 by omega)
  by_cases c3:i < 48
  · have a1:=i64_xor hb hc
    have a3:=i64_xor (Nat.xor_lt_two_pow (n:=32) hb hc) hd
    rw [if_pos c3]
    simp (maxSteps:=3000000) only [go_sem,↓reduceIte,d1,d2,decide_eq_true (show (i:Int) < 48 by omega),a1,a3]
    exact ⟨_,_,Wk.refl _,hwf.weak,rfl,rfl⟩
  · have a1:=i64_or hb nd
    have a3:=i64_xor hc (Nat.or_lt_two_pow (n:=32) hb nd)
    rw [if_neg c3]
    simp (maxSteps:=3000000) only [go_sem,↓reduceIte,d1,d2,decide_eq_false (show ¬ (i:Int) < 48 by omega)]
    refine Cal.mk (r04Not_v hd) ?_
    rintro _ _ ⟨rfl,rfl⟩ -
    simp (maxSteps:=3000000) only [go_sem,↓reduceIte,a1,a3]
    exact ⟨_,_,Wk.refl _,hwf.weak,rfl,rfl⟩
theorem r04Bits_v (hi:i < 64):VCalls Tryz.prog 157 [.sc (.int .i64 (i:Nat))] st fun r s=>r=.sc (.int .i64 (rollN i:Nat))∧st=s:=by
  refine vcalls_enterq pc157 (Nat.le_of_ble_eq_true rfl) rfl fun hwf hok=>?_
  show Run _ Pc157.body (.fin (finP Pc157.res _)) _ _
  unfold Pc157 zn zo
  have hL:([.sc (.int .i64 7),.sc (.int .i64 12),.sc (.int .i64 17),.sc (.int .i64 22),.sc (.int .i64 5),.sc (.int .i64 9),.sc (.int .i64 14),.sc (.int .i64 20),.sc (.int .i64 4),.sc (.int .i64 11),.sc (.int .i64 16),.sc (.int .i64 23),.sc (.int .i64 6),.sc (.int .i64 10),.sc (.int .i64 15),.sc (.int .i64 21)]:List V)[(4 * ((i:Int) / 16) + (i:Int) % 4).toNat]?=some (.sc (.int .i64 (rollN i:Nat))):=by
    rw [show (4 * ((i:Int) / 16) + (i:Int) % 4).toNat=4 * (i / 16) + i % 4 by omega]
    show (rollsM.map fun x:Nat=>V.sc (.int .i64 (x:Nat)))[4 * (i / 16) + i % 4]?=_
    have hl:4 * (i / 16) + i % 4 < rollsM.length:=by show 4 * (i / 16) + i % 4 < 16; omega
    rw [List.getElem?_map,List.getElem?_eq_getElem hl]
    unfold rollN
    simp only [List.getD,List.getElem?_eq_getElem hl,Option.getD_some,Option.map_some]
  have g0:(0:Int)≤(i:Int):=by omega
  simp (maxSteps:=3000000) only [go_sem,↓reduceIte]
  intro b hb
  simp (maxSteps:=3000000) only [go_sem,↓reduceIte,hL]
  exact ⟨by omega,by omega,by omega,by omega,by omega,_,_,Wk.refl _,weak_put hwf.weak hb,rfl,rfl⟩
theorem r04G_v (hi:i < 64):VCalls Tryz.prog 155 [.sc (.int .i64 (i:Nat))] st fun r s=>r=.sc (.int .i64 (atN i:Nat))∧st=s:=by
  refine vcalls_enterq pc155 (Nat.le_of_ble_eq_true rfl) rfl fun hwf hok=>?_
  show Run _ Pc155.body (.fin (finP Pc155.res _)) _ _
  unfold Pc155 zn zo
  have g0:(0:Int)≤(i:Int):=by omega
  have hq:(i:Int) / 16=0 ∨ (i:Int) / 16=1 ∨ (i:Int) / 16=2 ∨ (i:Int) / 16=3:=by omega
  simp (maxSteps:=3000000) only [go_sem,↓reduceIte]
  intro b hb
  rcases hq with hq | hq | hq | hq
  all_goals
    simp (maxSteps:=3000000) only [go_sem,↓reduceIte,hq]
    exact ⟨by omega,by omega,by omega,by omega,by omega,by omega,by omega,_,_,Wk.refl _,weak_put hwf.weak hb,congrArg (fun z=>V.sc (.int .i64 z)) (by unfold atN; (repeat' split) <;> omega),rfl⟩
set_option maxRecDepth 100000 in
theorem r04K_v (hi:i < 64):VCalls Tryz.prog 153 [.sc (.int .i64 (i:Nat))] st fun r s=>r=.sc (.int .u64 (sinesM.getD i 0:Nat))∧st=s:=by
  refine vcalls_enterq pc153 (Nat.le_of_ble_eq_true rfl) rfl fun hwf hok=>?_
  show Run _ Pc153.body (.fin (finP Pc153.res _)) _ _
  unfold Pc153 zn zo
  have hL:([.sc (.int .u64 3614090360),.sc (.int .u64 3905402710),.sc (.int .u64 606105819),.sc (.int .u64 3250441966),.sc (.int .u64 4118548399),.sc (.int .u64 1200080426),.sc (.int .u64 2821735955),.sc (.int .u64 4249261313),.sc (.int .u64 1770035416),.sc (.int .u64 2336552879),.sc (.int .u64 4294925233),.sc (.int .u64 2304563134),.sc (.int .u64 1804603682),.sc (.int .u64 4254626195),.sc (.int .u64 2792965006),.sc (.int .u64 1236535329),.sc (.int .u64 4129170786),.sc (.int .u64 3225465664),.sc (.int .u64 643717713),.sc (.int .u64 3921069994),.sc (.int .u64 3593408605),.sc (.int .u64 38016083),.sc (.int .u64 3634488961),.sc (.int .u64 3889429448),.sc (.int .u64 568446438),.sc (.int .u64 3275163606),.sc (.int .u64 4107603335),.sc (.int .u64 1163531501),.sc (.int .u64 2850285829),.sc (.int .u64 4243563512),.sc (.int .u64 1735328473),.sc (.int .u64 2368359562),.sc (.int .u64 4294588738),.sc (.int .u64 2272392833),.sc (.int .u64 1839030562),.sc (.int .u64 4259657740),.sc (.int .u64 2763975236),.sc (.int .u64 1272893353),.sc (.int .u64 4139469664),.sc (.int .u64 3200236656),.sc (.int .u64 681279174),.sc (.int .u64 3936430074),.sc (.int .u64 3572445317),.sc (.int .u64 76029189),.sc (.int .u64 3654602809),.sc (.int .u64 3873151461),.sc (.int .u64 530742520),.sc (.int .u64 3299628645),.sc (.int .u64 4096336452),.sc (.int .u64 1126891415),.sc (.int .u64 2878612391),.sc (.int .u64 4237533241),.sc (.int .u64 1700485571),.sc (.int .u64 2399980690),.sc (.int .u64 4293915773),.sc (.int .u64 2240044497),.sc (.int .u64 1873313359),.sc (.int .u64 4264355552),.sc (.int .u64 2734768916),.sc (.int .u64 1309151649),.sc (.int .u64 4149444226),.sc (.int .u64 3174756917),.sc (.int .u64 718787259),.sc (.int .u64 3951481745)]:List V)[i]?=some (.sc (.int .u64 (sinesM.getD i 0:Nat))):=by
    show (sinesM.map fun x:Nat=>V.sc (.int .u64 (x:Nat)))[i]?=_
    have hl:i < sinesM.length:=by show i < 64; omega
    rw [List.getElem?_map,List.getElem?_eq_getElem hl]
    simp only [List.getD,List.getElem?_eq_getElem hl,Option.getD_some,Option.map_some]
  have g0:(0:Int)≤(i:Int):=by omega
  generalize sinesM.getD i 0=x at hL ⊢
  simp (maxSteps:=3000000) only [go_sem,↓reduceIte]
  intro b hb
  simp (maxSteps:=3000000) only [go_sem,↓reduceIte,hL]
  refine ⟨?_,_,_,Wk.refl _,weak_put hwf.weak hb,rfl,rfl⟩
  omega
end
end
section
open Go
def c64 (s:S4):List V:=[.sc (.int .u64 (s.a:Nat)),.sc (.int .u64 (s.b:Nat)),.sc (.int .u64 (s.c:Nat)),.sc (.int .u64 (s.d:Nat))]
theorem wordM_drop {L:List Int} {j:Nat}:wordM (L.drop (4 * j)) 0=wordM L j:=by
  have e:∀ i,(L.drop (4 * j)).getD i 0=L.getD (4 * j + i) 0:=fun i=>by simp [List.getD]
  unfold wordM
  simp only [e,Nat.mul_zero,Nat.zero_add,Nat.add_zero]
def plusTo (X S:S4) (j:Nat):S4:=⟨if 0 < j then (X.a + S.a) % 4294967296 else X.a,if 1 < j then (X.b + S.b) % 4294967296 else X.b,if 2 < j then (X.c + S.c) % 4294967296 else X.c,if 3 < j then (X.d + S.d) % 4294967296 else X.d⟩
section
variable {st:St} {S:S4} {L:List Int} {tk:Tk}
set_option maxRecDepth 100000 in
set_option maxHeartbeats 2000000 in
theorem r04Block_v (hS:S.Ok) (hB:IsB L) (hl:L.length=64):VCalls Tryz.prog 104 [.agg (c64 S),.sl tk (bs L)] st fun r s=>r=.agg (c64 (blockM S L))∧st=s:=by
  unfold c64
  refine vcalls_enterq pc104 (Nat.le_of_ble_eq_true rfl) rfl fun hwf hok=>?_
  show Run _ Pc104.body (.fin (finP Pc104.res _)) _ _
  unfold Pc104 zn zo
  have hlt:=hwf.lt
  simp (maxSteps:=3000000) only [go_sem,↓reduceIte]
  intro h2 hh2 h5 hh5
  have n25:h5 ≠ h2:=by omega
  have hh5':st.sz≤h5:=by omega
  have hi:∀ X:S4,((st.put h2 (c64 S)).put h5 (c64 X)).box h2=some (c64 S):=fun X=>(put_box_ne n25.symm).trans put_box_same
  have hj:∀ X:S4,((st.put h2 (c64 S)).put h5 (c64 X)).box h5=some (c64 X):=fun X=>put_box_same
  have hw:∀ X:S4,st.weak ((st.put h2 (c64 S)).put h5 (c64 X)):=fun X=>weak_put (weak_put hwf.weak hh2) hh5'
  have hpp:∀ X Y:S4,((st.put h2 (c64 S)).put h5 (c64 X)).put h5 (c64 Y)=(st.put h2 (c64 S)).put h5 (c64 Y):=fun X Y=>by simp only [put_put]
  unfold c64 at hi hj hw hpp
  refine run_loop [6,7,11,13,15,16,17,18,19,20,21,22,23,24,26,27,30,31,32,33,34,35,36,37,38,39,42,43,44,45,46,47,48,49,50] (fun B s=>∃ i:Nat,i≤64∧B 6=.sc (.int .i64 i)∧s=(st.put h2 (c64 S)).put h5 (c64 (rndM (wordM L) S i))) (fun B _=>64 - vnat (B 6)) rfl ?_ ?_
  · exact ⟨0,by omega,by first | (simp (maxSteps:=3000000) only [go_sem,↓reduceIte]; done) | (simp (maxSteps:=3000000) only [go_sem,↓reduceIte]; rfl),rfl⟩
  · rintro B s ⟨i,hi64,h6,rfl⟩
    by_cases c:i < 64
    · have c1:decide ((i:Int) < 64)=true:=decide_eq_true (by omega)
      have ok:=rndM_ok (w:=wordM L) hS i
      have hat:=atN_lt c
      have q1:=mixN_lt (i:=i) ok.b ok.c ok.d
      have q2:=sines_lt i c
      have q3:=wordM_lt hB hl hat
      have q4:=rollN_rng i c
      have hn:rndM (wordM L) S (i + 1)=stepM (wordM L) i (rndM (wordM L) S i):=rfl
      have oa:=ok.a
      obtain ⟨X,hX⟩:∃ X,rndM (wordM L) S i=X:=⟨_,rfl⟩
      rw [hX] at ok q1 hn oa
      rw [hX]
      have hiX:=hi X
      have hjX:=hj X
      have hpX:=hpp X
      unfold c64
      simp (maxSteps:=3000000) only [go_sem,↓reduceIte,h6,c1,hjX]
      refine ⟨by decide,by decide,by decide,by decide,?_⟩
      refine Cal.mk (r04F_v c ok.b ok.c ok.d) ?_
      rintro _ _ ⟨rfl,rfl⟩ -
      simp (maxSteps:=3000000) only [go_sem,↓reduceIte,hjX,h6]
      refine Cal.mk (r04K_v c) ?_
      rintro _ _ ⟨rfl,rfl⟩ -
      simp (maxSteps:=3000000) only [go_sem,↓reduceIte,hjX,h6]
      refine Cal.mk (r04G_v c) ?_
      rintro _ _ ⟨rfl,rfl⟩ -
      have e4:(4 * ((atN i:Nat):Int)).toNat=4 * atN i:=by omega
      have hd4:List.drop (4 * atN i) (bs L)=bs (L.drop (4 * atN i)):=bs_drop ..
      simp (maxSteps:=3000000) only [go_sem,↓reduceIte,hjX,bs_len,hl,e4,hd4]
      refine ⟨by omega,⟨allSz_bs _,by omega,by omega⟩,?_⟩
      refine Cal.mk (r04Low_v (w:=wordM L (atN i)) wordM_drop (hB.drop _) (by rw [List.length_drop]; omega)) ?_
      rintro _ _ ⟨rfl,rfl⟩ -
      have hsum:sumM (wordM L) i X=(mixN i X.b X.c X.d + X.a + sinesM.getD i 0 + wordM L (atN i)) % 4294967296:=rfl
      have es:((((mixN i X.b X.c X.d:Nat):Int) + (X.a:Nat)) % 18446744073709551616 + (sinesM.getD i 0:Nat)) % 18446744073709551616=((mixN i X.b X.c X.d + X.a + sinesM.getD i 0:Nat):Int):=by omega
      have es2:(((mixN i X.b X.c X.d + X.a + sinesM.getD i 0:Nat):Int) + (wordM L (atN i):Nat)) % 18446744073709551616=((mixN i X.b X.c X.d + X.a + sinesM.getD i 0 + wordM L (atN i):Nat):Int):=by omega
      have hsl:sumM (wordM L) i X < 4294967296:=by rw [hsum]; exact Nat.mod_lt _ (by decide)
      simp (maxSteps:=3000000) only [go_sem,↓reduceIte,hjX,es,es2]
      refine Cal.mk r04Cut_v ?_
      rintro _ _ ⟨rfl,rfl⟩ -
      rw [← hsum]
      obtain ⟨m,hm⟩:∃ m,sumM (wordM L) i X=m:=⟨_,rfl⟩
      rw [hm] at hsl ⊢
      simp (maxSteps:=3000000) only [go_sem,↓reduceIte,hjX,h6]
      refine ⟨by decide,by decide,by decide,by decide,?_⟩
      refine Cal.mk (r04Bits_v c) ?_
      rintro _ _ ⟨rfl,rfl⟩ -
      simp (maxSteps:=3000000) only [go_sem,↓reduceIte,hjX]
      refine Cal.mk (r04Roll_v hsl q4.2) ?_
      rintro _ _ ⟨rfl,rfl⟩ -
      have q5:=rolN_lt hsl q4.2
      have ob:=ok.b
      have er:(((X.b:Nat):Int) + (rolN m (rollN i):Nat)) % 18446744073709551616=((X.b + rolN m (rollN i):Nat):Int):=by omega
      simp (maxSteps:=3000000) only [go_sem,↓reduceIte,hjX,er]
      refine Cal.mk r04Cut_v ?_
      rintro _ _ ⟨rfl,rfl⟩ -
      simp (maxSteps:=3000000) only [go_sem,↓reduceIte,hjX,h6]
      have hst:stepM (wordM L) i X=⟨X.d,(X.b + rolN m (rollN i)) % 4294967296,X.b,X.c⟩:=by unfold stepM; rw [hm]
      rw [hst] at hn
      refine ⟨by omega,⟨i + 1,by omega,by simp,?_⟩,by omega⟩
      rw [hn]
    · have c1:decide ((i:Int) < 64)=false:=decide_eq_false (by omega)
      obtain rfl:i=64:=by omega
      have hX64:=rndM_ok (w:=wordM L) hS 64
      obtain ⟨X,hX⟩:∃ X,rndM (wordM L) S 64=X:=⟨_,rfl⟩
      rw [hX] at hX64 ⊢
      have hbk:blockM S L=plusTo X S 4:=by
        show plusM S (rndM (wordM L) S 64)=_
        rw [hX]
        simp only [plusM,plusTo,Nat.add_comm]
        rfl
      rw [hbk]
      unfold c64
      simp (maxSteps:=3000000) only [go_sem,↓reduceIte,h6,c1]
      refine run_loop [8,52,54,57,58,60,61,62,63,64] (fun B s=>∃ j:Nat,j≤4∧B 8=.sc (.int .i64 j)∧s=(st.put h2 (c64 S)).put h5 (c64 (plusTo X S j))) (fun B _=>4 - vnat (B 8)) rfl ?_ ?_
      · exact ⟨0,by omega,by first | (simp (maxSteps:=3000000) only [go_sem,↓reduceIte]; done) | (simp (maxSteps:=3000000) only [go_sem,↓reduceIte]; rfl),rfl⟩
      · rintro B s ⟨j,hj4,h8,rfl⟩
        have hjX:=hj (plusTo X S j)
        have hiX:=hi (plusTo X S j)
        have hwX:=hw (plusTo X S j)
        have hpX:=hpp (plusTo X S j)
        unfold c64
        have o1:=hX64.a
        have o2:=hX64.b
        have o3:=hX64.c
        have o4:=hX64.d
        have p1:=hS.a
        have p2:=hS.b
        have p3:=hS.c
        have p4:=hS.d
        have jc:j=0 ∨ j=1 ∨ j=2 ∨ j=3 ∨ j=4:=by omega
        rcases jc with rfl | rfl | rfl | rfl | rfl
        · have P:plusTo X S 0=⟨X.a,X.b,X.c,X.d⟩:=rfl
          have P':plusTo X S 1=⟨(X.a + S.a) % 4294967296,X.b,X.c,X.d⟩:=rfl
          rw [P] at hjX hiX hpX ⊢
          replace h8:B 8=.sc (.int .i64 0):=h8
          have e:(((X.a:Nat):Int) + (S.a:Nat)) % 18446744073709551616=((X.a + S.a:Nat):Int):=by omega
          simp (maxSteps:=3000000) only [go_sem,↓reduceIte,h8,hjX,hiX,e]
          refine ⟨by decide,by decide,?_⟩
          refine Cal.mk r04Cut_v ?_
          rintro _ _ ⟨rfl,rfl⟩ -
          simp (maxSteps:=3000000) only [go_sem,↓reduceIte,h8,hjX]
          exact ⟨by decide,1,by omega,rfl,by rw [P']⟩
        · have P:plusTo X S 1=⟨(X.a + S.a) % 4294967296,X.b,X.c,X.d⟩:=rfl
          have P':plusTo X S 2=⟨(X.a + S.a) % 4294967296,(X.b + S.b) % 4294967296,X.c,X.d⟩:=rfl
          rw [P] at hjX hiX hpX ⊢
          replace h8:B 8=.sc (.int .i64 1):=h8
          have e:(((X.b:Nat):Int) + (S.b:Nat)) % 18446744073709551616=((X.b + S.b:Nat):Int):=by omega
          simp (maxSteps:=3000000) only [go_sem,↓reduceIte,h8,hjX,hiX,e]
          refine ⟨by decide,by decide,?_⟩
          refine Cal.mk r04Cut_v ?_
          rintro _ _ ⟨rfl,rfl⟩ -
          simp (maxSteps:=3000000) only [go_sem,↓reduceIte,h8,hjX]
          exact ⟨by decide,2,by omega,rfl,by rw [P']⟩
        · have P:plusTo X S 2=⟨(X.a + S.a) % 4294967296,(X.b + S.b) % 4294967296,X.c,X.d⟩:=rfl
          have P':plusTo X S 3=⟨(X.a + S.a) % 4294967296,(X.b + S.b) % 4294967296,(X.c + S.c) % 4294967296,X.d⟩:=rfl
          rw [P] at hjX hiX hpX ⊢
          replace h8:B 8=.sc (.int .i64 2):=h8
          have e:(((X.c:Nat):Int) + (S.c:Nat)) % 18446744073709551616=((X.c + S.c:Nat):Int):=by omega
          simp (maxSteps:=3000000) only [go_sem,↓reduceIte,h8,hjX,hiX,e]
          refine ⟨by decide,by decide,?_⟩
          refine Cal.mk r04Cut_v ?_
          rintro _ _ ⟨rfl,rfl⟩ -
          simp (maxSteps:=3000000) only [go_sem,↓reduceIte,h8,hjX]
          exact ⟨by decide,3,by omega,rfl,by rw [P']⟩
        · have P:plusTo X S 3=⟨(X.a + S.a) % 4294967296,(X.b + S.b) % 4294967296,(X.c + S.c) % 4294967296,X.d⟩:=rfl
          have P':plusTo X S 4=⟨(X.a + S.a) % 4294967296,(X.b + S.b) % 4294967296,(X.c + S.c) % 4294967296,(X.d + S.d) % 4294967296⟩:=rfl
          rw [P] at hjX hiX hpX ⊢
          replace h8:B 8=.sc (.int .i64 3):=h8
          have e:(((X.d:Nat):Int) + (S.d:Nat)) % 18446744073709551616=((X.d + S.d:Nat):Int):=by omega
          simp (maxSteps:=3000000) only [go_sem,↓reduceIte,h8,hjX,hiX,e]
          refine ⟨by decide,by decide,?_⟩
          refine Cal.mk r04Cut_v ?_
          rintro _ _ ⟨rfl,rfl⟩ -
          simp (maxSteps:=3000000) only [go_sem,↓reduceIte,h8,hjX]
          exact ⟨by decide,4,by omega,rfl,by rw [P']⟩
        · replace h8:B 8=.sc (.int .i64 4):=h8
          simp (maxSteps:=3000000) only [go_sem,↓reduceIte,h8,hjX]
          exact ⟨_,_,Wk.refl _,hwX,rfl,rfl⟩
end
end
section
open Go
theorem leL_snoc {n j:Nat}:leL n (j + 1)=leL n j ++ [((n / 256 ^ j % 256:Nat):Int)]:=by
  have h:=take_snoc' (leL_get (k:=j + 1) (n:=n) (i:=j) (by omega))
  rw [List.take_of_length_le (by rw [leL_len]; omega)] at h
  rw [h]
  congr 1
  refine List.ext_getElem? fun i=>?_
  rcases Nat.lt_or_ge i j with c | c
  · rw [List.getElem?_take_of_lt c,leL_get (by omega),leL_get c]
  · rw [List.getElem?_eq_none (by rw [List.length_take,leL_len]; omega),List.getElem?_eq_none (by rw [leL_len]; omega)]
def padN (L:List Int):Nat:=(119 - L.length % 64) % 64
def padTo (L:List Int) (j:Nat):List Int:=L ++ 128 :: List.replicate j 0
theorem padTo_len {L:List Int} {j:Nat}:(padTo L j).length=L.length + 1 + j:=by simp only [padTo,List.length_append,List.length_cons,List.length_replicate]; omega
theorem padTo_snoc {L:List Int} {j:Nat}:padTo L (j + 1)=padTo L j ++ [0]:=by
  simp only [padTo,List.replicate_succ',List.append_assoc,List.cons_append]
section
variable {st:St} {L:List Int} {tk:Tk}
set_option maxRecDepth 100000 in
set_option maxHeartbeats 2000000 in
theorem r04Whole_v (hl:L.length≤100000):VCalls Tryz.prog 103 [.sl tk (bs L)] st fun r s=>r=.sl .no (bs (padM L))∧st=s:=by
  refine vcalls_enterq pc103 (Nat.le_of_ble_eq_true rfl) rfl fun hwf hok=>?_
  show Run _ Pc103.body (.fin (finP Pc103.res _)) _ _
  unfold Pc103 zo
  have hlt:=hwf.lt
  simp (maxSteps:=3000000) only [go_sem]
  refine Bo.own (by simp [allLen]) ?_
  intro g hg
  have R0:RO 1 st (st.use g 0) (.sl (.own g 1) (bs [])) (bs []):=RO.use0' hwf.weak hlt hg
  have e0:([]:List V)=bs []:=rfl
  generalize st.use g 0=s0 at R0 ⊢
  simp (maxSteps:=3000000) only [go_sem,↓reduceIte]
  refine App.mk (bytes:=1) (l:=bs []) (ys:=bs L) R0.own (allSz_bs _) (by simp only [bs_len,List.length_nil]; unfold maxLen; omega) (by simp only [bs_len,List.length_nil]; omega) ?_
  intro r1 s1 k1 k2
  have R1:=R0.app k1 k2
  rw [bs_append,List.nil_append] at R1
  obtain ⟨t1,rfl⟩:=R1.sl
  simp (maxSteps:=3000000) only [go_sem,↓reduceIte]
  refine App.mk (bytes:=1) (ys:=bs [128]) R1.own (allSz_bs _) (by simp only [bs_len,List.length_cons,List.length_nil]; unfold maxLen; omega) (by simp only [bs_len,List.length_cons,List.length_nil]; omega) ?_
  intro r2 s2 k3 k4
  have R2:=R1.app k3 k4
  rw [bs_append,show L ++ [128]=padTo L 0 from rfl] at R2
  obtain ⟨t2,rfl⟩:=R2.sl
  obtain ⟨z,hz⟩:∃ z,padN L=z:=⟨_,rfl⟩
  have hz2:z=(119 - L.length % 64) % 64:=hz.symm
  simp (maxSteps:=3000000) only [go_sem,↓reduceIte]
  refine run_loop [3,12,13,14,16,17] (fun B s=>∃ (j:Nat) (t:Tk),j≤z∧B 3=.sl t (bs (padTo L j))∧RO 1 st s (.sl t (bs (padTo L j))) (bs (padTo L j))) (fun B _=>match B 3 with | .sl _ l=>L.length + 1 + z - l.length | _=>0) rfl ?_ ?_
  · exact ⟨0,t2,by omega,by first | (simp (maxSteps:=3000000) only [go_sem,↓reduceIte]; done) | (simp (maxSteps:=3000000) only [go_sem,↓reduceIte]; rfl),R2⟩
  · rintro B s ⟨j,t,hj,h3,R⟩
    have hpl:=padTo_len (L:=L) (j:=j)
    by_cases c:j < z
    · have c1:decide (¬ ((L.length + 1 + j:Nat):Int) % 64=56)=true:=decide_eq_true (by omega)
      have hs:=padTo_snoc (L:=L) (j:=j)
      have hpl2:=padTo_len (L:=L) (j:=j + 1)
      generalize padTo L j=W at hs h3 R hpl
      simp (maxSteps:=3000000) only [go_sem,↓reduceIte,h3,bs_len,hpl,c1]
      refine ⟨by omega,?_⟩
      refine App.mk (bytes:=1) (ys:=bs [0]) R.own (allSz_bs _) (by simp only [bs_len,List.length_cons,List.length_nil]; unfold maxLen; omega) (by simp only [bs_len,List.length_cons,List.length_nil]; omega) ?_
      intro r3 s3 k5 k6
      have R3:=R.app k5 k6
      rw [bs_append,← hs] at R3
      obtain ⟨t3,rfl⟩:=R3.sl
      simp (maxSteps:=3000000) only [go_sem,↓reduceIte]
      exact ⟨⟨j + 1,t3,by omega,rfl,R3⟩,by simp only [bs_len,hpl2]; omega⟩
    · obtain rfl:j=z:=by omega
      have c1:decide (¬ ((L.length + 1 + j:Nat):Int) % 64=56)=false:=decide_eq_false (by omega)
      have hpM:padM L=padTo L j ++ leL (8 * L.length) 8:=by
        unfold padM padTo
        rw [hz2]
        simp only [List.append_assoc,List.cons_append]
      rw [hpM]
      obtain ⟨n,hn⟩:∃ n,8 * L.length=n:=⟨_,rfl⟩
      rw [hn]
      have e8:8 * ((L.length:Int) % 18446744073709551616) % 18446744073709551616=(n:Int):=by omega
      generalize padTo L j=W at h3 R hpl ⊢
      simp (maxSteps:=3000000) only [go_sem,↓reduceIte,h3,bs_len,hpl,c1,e8]
      refine ⟨by omega,?_⟩
      refine run_loop [3,4,5,23,25,28,29,30,31,33] (fun B s=>∃ (i:Nat) (t:Tk),i≤8∧B 5=.sc (.int .i64 i)∧B 4=.sc (.int .u64 ((n / 256 ^ i:Nat):Int))∧B 3=.sl t (bs (W ++ leL n i))∧RO 1 st s (.sl t (bs (W ++ leL n i))) (bs (W ++ leL n i))) (fun B _=>8 - vnat (B 5)) rfl ?_ ?_
      · refine ⟨0,t,by omega,by first | (simp (maxSteps:=3000000) only [go_sem,↓reduceIte]; done) | (simp (maxSteps:=3000000) only [go_sem,↓reduceIte]; rfl),?_,?_,by simpa [leL] using R⟩
        · rw [Nat.pow_zero,Nat.div_one]; first | (simp (maxSteps:=3000000) only [go_sem,↓reduceIte]; done) | (simp (maxSteps:=3000000) only [go_sem,↓reduceIte]; rfl)
        · show _=V.sl t (bs (W ++ []))
          rw [List.append_nil]
          first | (simp (maxSteps:=3000000) only [go_sem,↓reduceIte,h3]; done) | (simp (maxSteps:=3000000) only [go_sem,↓reduceIte,h3]; rfl)
      · clear h3 R
        rintro B s ⟨i,t,hi,h5,h4,h3,R⟩
        by_cases ci:i < 8
        · have c2:decide ((i:Int) < 8)=true:=decide_eq_true (by omega)
          have hs:W ++ leL n (i + 1)=W ++ leL n i ++ [((n / 256 ^ i % 256:Nat):Int)]:=by rw [leL_snoc,List.append_assoc]
          have hlen:(W ++ leL n i).length=L.length + 1 + j + i:=by rw [List.length_append,leL_len,hpl]
          obtain ⟨m,hm⟩:∃ m,n / 256 ^ i=m:=⟨_,rfl⟩
          rw [hm] at hs h4
          have hm1:n / 256 ^ (i + 1)=m / 256:=by rw [Nat.pow_succ,← Nat.div_div_eq_div_mul,hm]
          have e1:(m:Int) % 256 % 256=((m % 256:Nat):Int):=by omega
          have hmn:m≤n:=by rw [← hm]; exact Nat.div_le_self _ _
          have e2:(m:Int) / 256 % 18446744073709551616=((m / 256:Nat):Int):=by omega
          generalize W ++ leL n i=W1 at hs h3 R hlen
          simp (maxSteps:=3000000) only [go_sem,↓reduceIte,h5,h4,h3,c2]
          rw [e1]
          refine ⟨by omega,?_⟩
          refine App.mk (bytes:=1) (ys:=bs [((m % 256:Nat):Int)]) R.own (allSz_bs _) (by simp only [bs_len,List.length_cons,List.length_nil]; unfold maxLen; omega) (by simp only [bs_len,List.length_cons,List.length_nil]; omega) ?_
          intro r3 s3 k5 k6
          have R3:=R.app k5 k6
          rw [bs_append,← hs] at R3
          obtain ⟨t3,rfl⟩:=R3.sl
          simp (maxSteps:=3000000) only [go_sem,↓reduceIte,h4,h5,e2]
          exact ⟨by omega,by omega,⟨i + 1,t3,by omega,by simp,by rw [hm1],rfl,R3⟩,by omega⟩
        · have c2:decide ((i:Int) < 8)=false:=decide_eq_false (by omega)
          obtain rfl:i=8:=by omega
          simp (maxSteps:=3000000) only [go_sem,↓reduceIte,h5,h3,c2]
          exact ⟨_,_,Wk.no,R.weak,rfl,rfl⟩
theorem padM_isB (h:IsB L):IsB (padM L):=fun x hx=>by
  unfold padM at hx
  rcases List.mem_append.1 hx with hx | hx
  · exact h x hx
  rcases List.mem_cons.1 hx with rfl | hx
  · omega
  rcases List.mem_append.1 hx with hx | hx
  · rw [List.eq_of_mem_replicate hx]; omega
  · exact leL_isB x hx
end
def wq (S:S4) (j m:Nat):Nat:=wdM S m / 256 ^ (min (j - 4 * m) 4)
def W4 (S:S4) (j:Nat):List V:=[.sc (.int .u64 (wq S j 0:Nat)),.sc (.int .u64 (wq S j 1:Nat)),.sc (.int .u64 (wq S j 2:Nat)),.sc (.int .u64 (wq S j 3:Nat))]
theorem wq_keep {S:S4} {j m:Nat} (h:m ≠ j / 4):wq S (j + 1) m=wq S j m:=by
  unfold wq
  rw [show min (j + 1 - 4 * m) 4=min (j - 4 * m) 4 by omega]
theorem wq_at {S:S4} {j:Nat}:wq S j (j / 4)=wdM S (j / 4) / 256 ^ (j % 4):=by
  unfold wq
  rw [show min (j - 4 * (j / 4)) 4=j % 4 by omega]
theorem wq_next {S:S4} {j:Nat}:wq S (j + 1) (j / 4)=wdM S (j / 4) / 256 ^ (j % 4) / 256:=by
  unfold wq
  rw [show min (j + 1 - 4 * (j / 4)) 4=j % 4 + 1 by omega,Nat.pow_succ,Nat.div_div_eq_div_mul]
theorem mono_W4 {S:S4} {j:Nat}:mono (W4 S j)=True:=eq_true (mono_all fun c hc=>by
  simp only [W4,List.mem_cons,List.not_mem_nil,or_false] at hc
  rcases hc with rfl | rfl | rfl | rfl <;> trivial)
theorem W4_at {S:S4} {j:Nat} (h:j < 16):(W4 S j)[j / 4]?=some (.sc (.int .u64 (wdM S (j / 4) / 256 ^ (j % 4):Nat))):=by
  rw [← wq_at]
  have hc:j / 4=0 ∨ j / 4=1 ∨ j / 4=2 ∨ j / 4=3:=by omega
  rcases hc with e | e | e | e <;> rw [e] <;> rfl
theorem W4_set {S:S4} {j:Nat} (h:j < 16):List.take (j / 4) (W4 S j) ++ [.sc (.int .u64 (wdM S (j / 4) / 256 ^ (j % 4) / 256:Nat))] ++ List.drop (j / 4 + 1) (W4 S j)=W4 S (j + 1):=by
  rw [← wq_next]
  have hc:j / 4=0 ∨ j / 4=1 ∨ j / 4=2 ∨ j / 4=3:=by omega
  have k:=fun m=>@wq_keep S j m
  unfold W4
  rcases hc with e | e | e | e <;> rw [e] at k ⊢
  · rw [k 1 (by decide),k 2 (by decide),k 3 (by decide)]; rfl
  · rw [k 0 (by decide),k 2 (by decide),k 3 (by decide)]; rfl
  · rw [k 0 (by decide),k 1 (by decide),k 3 (by decide)]; rfl
  · rw [k 0 (by decide),k 1 (by decide),k 2 (by decide)]; rfl
section
variable {st:St} {L:List Int} {tk:Tk}
set_option maxRecDepth 100000 in
set_option maxHeartbeats 2000000 in
theorem r04Of_v (hB:IsB L) (hl:L.length≤100000):VCalls Tryz.prog 52 [.sl tk (bs L)] st fun r s=>r=.agg (bs (md5M L))∧st=s:=by
  refine vcalls_enterq pc52 (Nat.le_of_ble_eq_true rfl) rfl fun hwf hok=>?_
  show Run _ Pc52.body (.fin (finP Pc52.res _)) _ _
  unfold Pc52 zn zo
  have hlt:=hwf.lt
  simp (maxSteps:=3000000) only [go_sem,↓reduceIte]
  intro h3 hh3
  refine Cal.mk (r04Whole_v hl) ?_
  rintro _ _ ⟨rfl,rfl⟩ -
  have hWB:=padM_isB hB
  have hWl:=padM_len (L:=L)
  have hWl2:(padM L).length≤100200:=by simp only [padM,List.length_append,List.length_cons,List.length_replicate,leL_len]; omega
  have hmd:md5M L=digM (foldM ((padM L).length / 64) (padM L)):=rfl
  rw [hmd]
  generalize padM L=W at hWB hWl hWl2 ⊢
  obtain ⟨m,hm⟩:∃ m,W.length / 64=m:=⟨_,rfl⟩
  have hm2:W.length=64 * m:=by omega
  rw [hm]
  simp (maxSteps:=3000000) only [go_sem,↓reduceIte]
  refine run_loop [5,13,14,16,17,21,22,23] (fun B s=>∃ j:Nat,j≤m∧B 5=.sc (.int .i64 ((64 * j:Nat):Int))∧s=st.put h3 (c64 (foldM j W))) (fun B _=>64 * m - vnat (B 5)) rfl ?_ ?_
  · exact ⟨0,by omega,by first | (simp (maxSteps:=3000000) only [go_sem,↓reduceIte]; done) | (simp (maxSteps:=3000000) only [go_sem,↓reduceIte]; rfl),rfl⟩
  · rintro B s ⟨j,hj,h5,rfl⟩
    have hlb:(st.put h3 (c64 (foldM j W))).box h3=some (c64 (foldM j W)):=put_box_same
    by_cases c:j < m
    · have c1:decide (((64 * j:Nat):Int) < ((64 * m:Nat):Int))=true:=decide_eq_true (by omega)
      have e1:((64 * j:Nat):Int) + 64=((64 * j + 64:Nat):Int):=by omega
      have e2:List.drop (64 * j) (List.take (64 * j + 64) (bs W))=bs ((W.drop (64 * j)).take 64):=by
        rw [bs_take,bs_drop,List.drop_take,Nat.add_sub_cancel_left]
      have hbk:=r04Block_v (st:=st.put h3 (c64 (foldM j W))) (tk:=.no) (foldM_ok (L:=W) j) ((hWB.drop (64 * j)).take 64) (by rw [List.length_take,List.length_drop]; omega)
      rw [show blockM (foldM j W) ((W.drop (64 * j)).take 64)=foldM (j + 1) W from rfl] at hbk
      obtain ⟨X,hX⟩:∃ X,foldM j W=X:=⟨_,rfl⟩
      rw [hX] at hlb hbk ⊢
      unfold c64 at hlb hbk ⊢
      simp (maxSteps:=3000000) only [go_sem,↓reduceIte,h5,bs_len,hm2,c1,hlb,e1,e2]
      refine ⟨by omega,⟨allSz_bs _,by omega,by omega,by omega⟩,?_⟩
      refine Cal.mk hbk ?_
      rintro _ _ ⟨rfl,rfl⟩ -
      simp (maxSteps:=3000000) only [go_sem,↓reduceIte,hlb,h5,e1]
      refine ⟨by omega,⟨j + 1,by omega,?_,rfl⟩,by omega⟩
      rw [show 64 * (j + 1)=64 * j + 64 by omega]
    · have c1:decide (((64 * j:Nat):Int) < ((64 * m:Nat):Int))=false:=decide_eq_false (by omega)
      obtain rfl:j=m:=by omega
      clear hm
      obtain ⟨S,hS⟩:∃ S,foldM j W=S:=⟨_,rfl⟩
      rw [hS] at hlb ⊢
      have hc4:c64 S=W4 S 0:=by simp [c64,W4,wq,wdM]
      rw [hc4] at hlb ⊢
      simp (maxSteps:=3000000) only [go_sem,↓reduceIte,h5,bs_len,hm2]
      intro h6 hh6
      have n36:h3 ≠ h6:=by omega
      have hh6':st.sz≤h6:=by omega
      refine run_loop [7,25,27,30,31,32,33,34,35,37,39,40,41,42,43] (fun B s=>∃ i:Nat,i≤16∧B 7=.sc (.int .i64 i)∧s.box h3=some (W4 S i)∧s.box h6=some (bs (dgC S i))∧st.weak s∧s.Lt) (fun B _=>16 - vnat (B 7)) rfl ?_ ?_
      · exact ⟨0,by omega,by first | (simp (maxSteps:=3000000) only [go_sem,↓reduceIte]; done) | (simp (maxSteps:=3000000) only [go_sem,↓reduceIte]; rfl),(put_box_ne n36).trans put_box_same,by rw [dgC_0]; exact put_box_same,weak_put (weak_put hwf.weak hh3) hh6',hlt.put.put⟩
      · rintro B s ⟨i,hi,h7,b3,b6,hw,hls⟩
        by_cases ci:i < 16
        · have c2:decide ((i:Int) < 16)=true:=decide_eq_true (by omega)
          have wa:=W4_at (S:=S) ci
          have ws:=W4_set (S:=S) ci
          have dg:=digM_get (S:=S) (i:=i / 4) (k:=i % 4) (by omega) (by omega)
          rw [show 4 * (i / 4) + i % 4=i by omega] at dg
          have ds:=dgC_set ci dg
          obtain ⟨x,hx⟩:∃ x,wdM S (i / 4) / 256 ^ (i % 4)=x:=⟨_,rfl⟩
          rw [hx] at wa ws ds
          have e1:((i:Int) / 4).toNat=i / 4:=by omega
          have e2:(x:Int) % 256 % 256=((x % 256:Nat):Int):=by omega
          have xl:x < 4294967296:=by
            rw [← hx]
            have oS:S.Ok:=by rw [← hS]; exact foldM_ok _
            refine Nat.lt_of_le_of_lt (Nat.div_le_self _ _) ?_
            unfold wdM
            split
            · exact oS.a
            split
            · exact oS.b
            split
            · exact oS.c
            · exact oS.d
          have e3:(x:Int) / 256 % 18446744073709551616=((x / 256:Nat):Int):=by omega
          have l4:(W4 S i).length=4:=rfl
          have l16:(bs (dgC S i)).length=16:=by rw [bs_len,dgC_len (by omega)]
          have mA:mono (W4 S i)=True:=mono_W4
          have mC:mono (bs (dgC S i))=True:=mono_bs
          generalize W4 S i=A at b3 wa ws l4 mA
          generalize bs (dgC S i)=C at b6 ds l16 mC
          simp (maxSteps:=3000000) only [go_sem,↓reduceIte,h7,c2,b3,b6,l4,l16,e1,wa,e2,mA,mC,put_box_ne n36]
          exact ⟨by omega,by omega,by omega,by omega,by omega,by omega,by omega,by omega,by omega,by omega,by omega,by omega,⟨i + 1,by omega,by simp,by rw [e3,ws],by rw [put_box_ne n36.symm,put_box_same,ds],weak_put (weak_put hw hh6') hh3,hls.put.put⟩,by omega⟩
        · have c2:decide ((i:Int) < 16)=false:=decide_eq_false (by omega)
          obtain rfl:i=16:=by omega
          rw [dgC_16] at b6
          have q1:(bs (digM S)).length=16:=by rw [bs_len,digM_len]
          have q2:List.take 16 (bs (digM S))=bs (digM S):=List.take_of_length_le (by rw [q1]; omega)
          have q3:(16:Nat)≤16:=Nat.le_refl _
          have mD:mono (bs (digM S))=True:=mono_bs
          simp (maxSteps:=3000000) only [go_sem,↓reduceIte,h7,c2,b6,q1,q2,q3,mD]
          exact ⟨_,_,Wk.refl _,hw,rfl,rfl⟩
end
end
section
open Go
def frX (E:Bool) (hi lo:Int) (D:List Int):List Int:=(if E=true then [255,3] else []) ++ hi :: lo :: D
theorem frX_of {proto:Int} {D:List Int} {bare short:Bool} (hp:proto=49185 ∨ proto=49699 ∨ proto=32801) :
    ∃ E hi lo,buildFr proto D bare short=frX E hi lo D∧256 * hi + lo=proto∧0≤hi∧hi < 255∧0≤lo∧lo < 256∧hi % 2=0∧lo % 2=1:=by
  rcases hp with rfl | rfl | rfl
  · exact ⟨true,192,33,by cases bare <;> cases short <;> rfl,by decide⟩
  · exact ⟨!bare,194,35,by cases bare <;> cases short <;> rfl,by decide⟩
  · exact ⟨!bare,128,33,by cases bare <;> cases short <;> rfl,by decide⟩
section
variable {st:St} {L D:List Int} {tk:Tk} {proto hi lo:Int} {E bare short:Bool} {p:Ctl}
theorem r12Right_v (h0:0≤hi) (h1:hi < 255) (l0:0≤lo) (l1:lo < 256) (e0:hi % 2=0) (e1:lo % 2=1):VCalls Tryz.prog 49 [.sc (.int .i64 (256 * hi + lo))] st fun r s=>r=.sc (.bool true)∧st=s:=by
  refine vcalls_enterq pc49 (Nat.le_of_ble_eq_true rfl) rfl fun hwf hok=>?_
  show Run _ Pc49.body (.fin (finP Pc49.res _)) _ _
  unfold Pc49 zg zo
  have m1:(256 * hi + lo) % 2=1:=by omega
  have m2:(256 * hi + lo) / 256 % 2=0:=by omega
  have m0:0≤(256 * hi + lo):=by omega
  have m3:0≤(256 * hi + lo) / 256:=by omega
  have m4:(256 * hi + lo) < 65536:=by omega
  generalize 256 * hi + lo=x at m0 m1 m2 m3 m4 ⊢
  simp (maxSteps:=3000000) only [go_sem,↓reduceIte,m1,m2]
  exact ⟨by omega,by omega,by omega,_,_,Wk.refl _,hwf.weak,rfl,rfl⟩
set_option maxRecDepth 100000 in
set_option maxHeartbeats 2000000 in
theorem r12Parse_v (hp:proto=49185 ∨ proto=49699 ∨ proto=32801) (hD:D.length≤100000) (hDB:IsB D):VCalls Tryz.prog 14 [.sl tk (bs (buildFr proto D bare short))] st fun r s=>(∃ t,r=.tup [.agg [.sc (.int .u16 proto),.sl t (bs D)],.sc (.int .i64 0)])∧st=s:=by
  obtain ⟨E,hi,lo,hB,rfl,h0,h1,l0,l1,e0,e1⟩:=frX_of (D:=D) (bare:=bare) (short:=short) hp
  rw [hB]
  clear hB hp
  refine vcalls_enterq pc14 (Nat.le_of_ble_eq_true rfl) rfl fun hwf hok=>?_
  show Run _ Pc14.body (.fin (finP Pc14.res _)) _ _
  unfold Pc14 zg zn zo
  have hlt:=hwf.lt
  obtain ⟨a,ha⟩:∃ a:Nat,(if E=true then 2 else 0)=a:=⟨_,rfl⟩
  have hal:a≤2:=by rw [← ha]; split <;> omega
  have hl:(frX E hi lo D).length=a + 2 + D.length:=by rw [← ha]; cases E <;> simp [frX] <;> omega
  have g0:(bs (frX E hi lo D))[a]?=some (.sc (.int .u8 hi)):=by rw [← ha]; cases E <;> rfl
  have g1:(bs (frX E hi lo D))[a + 1]?=some (.sc (.int .u8 lo)):=by rw [← ha]; cases E <;> rfl
  have gd:∀ i,(bs (frX E hi lo D))[a + 2 + i]?=(bs D)[i]?:=fun i=>by
    rw [← ha]
    cases E
    · show (bs (hi :: lo :: D))[0 + 2 + i]?=_
      rw [show 0 + 2 + i=i + 2 by omega]; rfl
    · show (bs (255 :: 3 :: hi :: lo :: D))[2 + 2 + i]?=_
      rw [show 2 + 2 + i=i + 4 by omega]; rfl
  have f0:(bs (frX E hi lo D))[0]?=some (.sc (.int .u8 (if E=true then 255 else hi))):=by cases E <;> rfl
  have f1:(bs (frX E hi lo D))[1]?=some (.sc (.int .u8 (if E=true then 3 else lo))):=by cases E <;> rfl
  have hr:=r12Right_v (st:=st) h0 h1 l0 l1 e0 e1
  obtain ⟨b,hb⟩:∃ b,a + 2=b:=⟨_,rfl⟩
  rw [hb] at hl gd
  obtain ⟨N,hN⟩:∃ N,b + D.length=N:=⟨_,rfl⟩
  rw [hN] at hl
  have c1:decide ((1:Int) < (N:Int))=true:=decide_eq_true (by omega)
  have d255:decide (hi=255)=false:=decide_eq_false (by omega)
  have n0:decide ((a:Int)=(N:Int))=false:=decide_eq_false (by omega)
  have n1:decide (((a + 1:Nat):Int)=(N:Int))=false:=decide_eq_false (by omega)
  have eN:((256 * hi + lo) % 65536)=256 * hi + lo:=by omega
  generalize hWW:frX E hi lo D=W at hl g0 g1 gd f0 f1 ⊢
  cases E
  all_goals
    simp only [Bool.false_eq_true,↓reduceIte] at ha f0 f1
    subst ha
    simp only [Nat.zero_add,Nat.reduceAdd] at g0 g1
    first
      | replace n0:decide ((0:Int)=(N:Int))=false:=n0
        replace n1:decide ((1:Int)=(N:Int))=false:=n1
      | replace n0:decide ((2:Int)=(N:Int))=false:=n0
        replace n1:decide ((3:Int)=(N:Int))=false:=n1
    simp (maxSteps:=3000000) only [go_sem,↓reduceIte,bs_len,hl,c1,f0,f1,d255,n0,n1,g0,g1,e0]
    refine ⟨by omega,by omega,by omega,by omega,by omega,?_⟩
    refine Cal.mk hr ?_
    rintro _ _ ⟨rfl,rfl⟩ -
    simp (maxSteps:=3000000) only [go_sem,↓reduceIte,eN]
    refine run_loop [4,6,61,62,64,66,69,70,71,72] (fun B s=>∃ (i:Nat) (t:Tk),i≤D.length∧B 4=.sc (.int .i64 ((b + i:Nat):Int))∧B 6=.agg [.sc (.int .u16 (256 * hi + lo)),.sl t (bs (D.take i))]∧RO 1 st s (.sl t (bs (D.take i))) (bs (D.take i))) (fun B _=>N - vnat (B 4)) rfl ?_ ?_
    · exact ⟨0,.nil,by omega,by subst hb; first | (simp (maxSteps:=3000000) only [go_sem,↓reduceIte]; done) | (simp (maxSteps:=3000000) only [go_sem,↓reduceIte]; rfl),by first | (simp (maxSteps:=3000000) only [go_sem,↓reduceIte]; done) | (simp (maxSteps:=3000000) only [go_sem,↓reduceIte]; rfl),RO.nil hwf.weak hlt⟩
    · rintro B s ⟨i,t,hi',h4,h6,R⟩
      by_cases c:i < D.length
      · have c2:decide (((b + i:Nat):Int) < (N:Int))=true:=decide_eq_true (by omega)
        obtain ⟨y,ly,gy,_⟩:=byte_nat hDB c
        have gi:(bs W)[b + i]?=some (.sc (.int .u8 (y:Nat))):=(gd i).trans (by rw [bs_get,gy]; rfl)
        have hs:=take_snoc' gy
        have e2:((b + i:Nat):Int) + 1=((b + (i + 1):Nat):Int):=by omega
        have hln:(D.take i).length=i:=by rw [List.length_take]; omega
        generalize D.take i=Z at hs h6 R hln
        simp (maxSteps:=3000000) only [go_sem,↓reduceIte,h4,h6,bs_len,hl,c2,gi]
        refine ⟨by omega,?_⟩
        refine App.mk (bytes:=1) (ys:=bs [((y:Nat):Int)]) R.own (allSz_bs _) (by simp only [bs_len,List.length_cons,List.length_nil,hln]; unfold maxLen; omega) (by simp only [bs_len,List.length_cons,List.length_nil,hln]; omega) ?_
        intro r2 s2 k1 k2
        have R2:=R.app k1 k2
        rw [bs_append,← hs] at R2
        obtain ⟨t2,rfl⟩:=R2.sl
        simp (maxSteps:=3000000) only [go_sem,↓reduceIte,h4,h6,e2]
        exact ⟨by omega,⟨i + 1,t2,by omega,rfl,rfl,R2⟩,by omega⟩
      · have c2:decide (((b + i:Nat):Int) < (N:Int))=false:=decide_eq_false (by omega)
        obtain rfl:i=D.length:=by omega
        rw [List.take_length] at h6
        simp (maxSteps:=3000000) only [go_sem,↓reduceIte,h4,h6,bs_len,hl,c2]
        exact ⟨_,_,Wk.refl _,R.weak,⟨t,rfl⟩,rfl⟩
set_option maxRecDepth 100000 in
theorem r12Build_v (hp:proto=49185 ∨ proto=49699 ∨ proto=32801) (hD:D.length≤100000):VCalls Tryz.prog 47 [.agg [.sc (.int .u16 proto),.sl tk (bs D)],.sc (.bool false),.sc (.bool false)] st fun r s=>r=.sl .no (bs (buildFr proto D false false))∧st=s:=by
  have hB:buildFr proto D false false=[255,3] ++ [proto / 256] ++ [proto % 256] ++ D:=by rcases hp with rfl | rfl | rfl <;> rfl
  rw [hB]
  refine vcalls_enterq pc47 (Nat.le_of_ble_eq_true rfl) rfl fun hwf hok=>?_
  show Run _ Pc47.body (.fin (finP Pc47.res _)) _ _
  unfold Pc47 zg zn zo
  have hlt:=hwf.lt
  have m1:proto / 256 % 65536 % 256=proto / 256:=by omega
  have m2:proto % 256 % 256=proto % 256:=by omega
  have c1:decide ((256:Int)≤proto)=true:=decide_eq_true (by omega)
  have p0:0≤proto:=by omega
  by_cases c:proto=49185
  all_goals
    first
      | have cd:=decide_eq_false c
      | have cd:=decide_eq_true c
    simp (maxSteps:=3000000) only [go_sem,↓reduceIte,cd]
    refine App.mk (bytes:=1) (l:=[]) (ys:=bs [255,3]) .nil (allSz_bs _) (by simp only [bs_len,List.length_nil,List.length_cons]; unfold maxLen; omega) (by simp only [bs_len,List.length_cons,List.length_nil]; omega) ?_
    intro r2 s2 k1 k2
    have R2:=(RO.nil (size:=1) hwf.weak hlt).app k1 k2
    rw [List.nil_append] at R2
    obtain ⟨t2,rfl⟩:=R2.sl
    simp (maxSteps:=3000000) only [go_sem,↓reduceIte,c1,m1]
    refine ⟨by omega,?_⟩
    refine App.mk (bytes:=1) (ys:=bs [proto / 256]) R2.own (allSz_bs _) (by simp only [bs_len,List.length_nil,List.length_cons]; unfold maxLen; omega) (by simp only [bs_len,List.length_cons,List.length_nil]; omega) ?_
    intro r3 s3 k3 k4
    have R3:=R2.app k3 k4
    rw [bs_append] at R3
    obtain ⟨t3,rfl⟩:=R3.sl
    simp (maxSteps:=3000000) only [go_sem,↓reduceIte,m2]
    refine ⟨by omega,?_⟩
    refine App.mk (bytes:=1) (ys:=bs [proto % 256]) R3.own (allSz_bs _) (by simp only [bs_len,List.length_nil,List.length_cons,List.length_append]; unfold maxLen; omega) (by simp only [bs_len,List.length_cons,List.length_nil,List.length_append]; omega) ?_
    intro r4 s4 k5 k6
    have R4:=R3.app k5 k6
    rw [bs_append] at R4
    obtain ⟨t4,rfl⟩:=R4.sl
    simp (maxSteps:=3000000) only [go_sem,↓reduceIte]
    refine App.mk (bytes:=1) (ys:=bs D) R4.own (allSz_bs _) (by simp only [bs_len,List.length_nil,List.length_cons,List.length_append]; unfold maxLen; omega) (by simp only [bs_len,List.length_cons,List.length_nil,List.length_append]; omega) ?_
    intro r5 s5 k7 k8
    have R5:=R4.app k7 k8
    rw [bs_append] at R5
    obtain ⟨t5,rfl⟩:=R5.sl
    simp (maxSteps:=3000000) only [go_sem,↓reduceIte]
    exact ⟨_,_,Wk.no,R5.weak,rfl,rfl⟩
set_option maxRecDepth 100000 in
theorem r15Parse_v (hG:p.Good) (hD:p.data.length≤60000):VCalls Tryz.prog 15 [.sl tk (bs (buildC p))] st fun r s=>(∃ t,r=.tup [p.v t,.sc (.int .i64 0)])∧st=s:=by
  refine vcalls_enterq pc15 (Nat.le_of_ble_eq_true rfl) rfl fun hwf hok=>?_
  show Run _ Pc15.body (.fin (finP Pc15.res _)) _ _
  unfold Pc15 zo
  have hlt:=hwf.lt
  have ht:p.data.take 65531=p.data:=List.take_of_length_le (by omega)
  have hb:buildC p=p.code :: p.id :: (((p.data.length:Int) + 4) / 256 % 256) :: (((p.data.length:Int) + 4) % 256) :: p.data:=by
    unfold buildC; rw [ht]; simp [beL]
  have hbl:(buildC p).length=p.data.length + 4:=by rw [hb]; rfl
  have b0:(bs (buildC p))[0]?=some (.sc (.int .u8 p.code)):=by rw [hb]; rfl
  have b1:(bs (buildC p))[1]?=some (.sc (.int .u8 p.id)):=by rw [hb]; rfl
  have b4:List.drop 4 (bs (buildC p))=bs p.data:=by rw [hb]; rfl
  have b2:List.drop 2 (List.take 4 (bs (buildC p)))=bs (beL ((p.data.length:Int) + 4) 2):=by unfold buildC; rw [ht]; rfl
  generalize buildC p=W at hbl b0 b1 b2 b4 ⊢
  have c0:decide (((p.data.length + 4:Nat):Int) < 4)=false:=decide_eq_false (by omega)
  obtain ⟨n,hn⟩:∃ n,p.data.length + 4=n:=⟨_,rfl⟩
  rw [hn] at hbl c0
  have e1:(p.data.length:Int) + 4=n:=by omega
  rw [e1] at b2
  have nb:numL (beL (n:Int) 2)=n:=by rw [numL_beL _ (by omega)]; omega
  have c1:decide ((n:Int) < (n:Int))=false:=decide_eq_false (by omega)
  simp (maxSteps:=3000000) only [go_sem,↓reduceIte,bs_len,hbl,c0,b2]
  refine ⟨⟨allSz_bs _,by omega⟩,?_⟩
  refine Cal.mk (rNum_v (beL_isB _ _) (by rw [beL_len]; omega)) ?_
  rintro _ _ ⟨rfl,rfl⟩ -
  rw [nb]
  have e2:((n:Int) - 4).toNat=p.data.length:=by omega
  have e3:p.data.take ((n:Int) - 4).toNat=p.data:=by rw [e2]; exact List.take_length
  simp (maxSteps:=3000000) only [go_sem,↓reduceIte,bs_len,hbl,c0,b0,b1,b4]
  refine ⟨by omega,⟨allSz_bs _,by omega⟩,by omega,?_⟩
  refine Cal.mk (r15First_v (by omega)) ?_
  rintro _ _ ⟨rfl,rfl⟩ -
  rw [e3]
  simp (maxSteps:=3000000) only [go_sem,↓reduceIte]
  exact ⟨_,_,Wk.refl _,hwf.weak,⟨.no,rfl⟩,rfl⟩
theorem buildC_isB (hG:p.Good):IsB (buildC p):=fun x hx=>by
  unfold buildC at hx
  rcases List.mem_cons.1 hx with rfl | hx
  · exact ⟨hG.c0,hG.c1⟩
  rcases List.mem_cons.1 hx with rfl | hx
  · exact ⟨hG.i0,hG.i1⟩
  rcases List.mem_append.1 hx with hx | hx
  · exact beL_isB _ _ x hx
  · exact hG.b.take _ x hx
theorem law40Packet_v (hp:proto=49185 ∨ proto=49699 ∨ proto=32801) (hG:p.Good) (hD:p.data.length≤60000):VCalls Tryz.prog 12 [.sc (.int .u16 proto),.agg [.sc (.int .u8 p.code),.sc (.int .u8 p.id),.sl tk (bs p.data)]] st fun r s=>r=.sl .no (bs (buildFr proto (buildC p) false false))∧st=s:=by
  refine vcalls_enterq pc12 (Nat.le_of_ble_eq_true rfl) rfl fun hwf hok=>?_
  show Run _ Pc12.body (.fin (finP Pc12.res _)) _ _
  unfold Pc12 zo
  have hl:=buildC_len p
  simp (maxSteps:=3000000) only [go_sem,↓reduceIte]
  refine Cal.mk (r15Build_v hG) ?_
  rintro _ s1 ⟨t,rfl,R⟩ -
  simp (maxSteps:=3000000) only [go_sem,↓reduceIte]
  refine Cal.mk (r12Build_v hp (by omega)) ?_
  rintro _ _ ⟨rfl,rfl⟩ -
  simp (maxSteps:=3000000) only [go_sem,↓reduceIte]
  exact ⟨_,_,Wk.refl _,R.weak,rfl,rfl⟩
theorem law40Ack_v (hp:proto=49185 ∨ proto=49699 ∨ proto=32801) (hG:p.Good) (hD:p.data.length≤60000):VCalls Tryz.prog 11 [.sl tk (bs (buildFr proto (buildC p) bare short))] st fun r s=>r=.sl .no (bs (buildFr proto (buildC ⟨2,p.id,p.data⟩) false false))∧st=s:=by
  refine vcalls_enterq pc11 (Nat.le_of_ble_eq_true rfl) rfl fun hwf hok=>?_
  show Run _ Pc11.body (.fin (finP Pc11.res _)) _ _
  unfold Pc11 zn zo
  have hl:=buildC_len p
  have hG2:(⟨2,p.id,p.data⟩:Ctl).Good:=⟨by show (0:Int)≤2; decide,by show (2:Int) < 256; decide,hG.i0,hG.i1,hG.b,hG.l⟩
  simp (maxSteps:=3000000) only [go_sem,↓reduceIte]
  refine Cal.mk (r12Parse_v hp (by omega) (buildC_isB hG)) ?_
  rintro _ _ ⟨⟨t,rfl⟩,rfl⟩ -
  simp (maxSteps:=3000000) only [go_sem,↓reduceIte]
  refine Cal.mk (r15Parse_v hG hD) ?_
  rintro _ _ ⟨⟨t2,rfl⟩,rfl⟩ -
  simp (maxSteps:=3000000) only [go_sem,↓reduceIte,Ctl.v]
  refine Cal.mk (law40Packet_v hp hG2 hD) ?_
  rintro _ _ ⟨rfl,rfl⟩ -
  simp (maxSteps:=3000000) only [go_sem,↓reduceIte]
  exact ⟨_,_,Wk.refl _,hwf.weak,rfl,rfl⟩
set_option maxRecDepth 100000 in
theorem law39Response_v {id:Int} {chal:List Int} {nm key:ByteArray} (h0:0≤id) (h1:id < 256) (hB:IsB chal) (hc:chal.length=16) (hn:nm.size≤40) (hk:key.size≤40) :
    VCalls Tryz.prog 16 [.sc (.int .u8 id),.sl tk (bs chal),.agg [.sc (.string nm),.sc (.string key)]] st fun r s=>(∃ t,r=(makeC 2 id (valueC id key chal) nm).v t)∧st=s:=by
  refine vcalls_enterq pc16 (Nat.le_of_ble_eq_true rfl) rfl fun hwf hok=>?_
  show Run _ Pc16.body (.fin (finP Pc16.res _)) _ _
  unfold Pc16 zn zo
  have hlt:=hwf.lt
  have kl:=bytesOf_len key
  have nl:=bytesOf_len nm
  simp (maxSteps:=3000000) only [go_sem,↓reduceIte]
  refine Bo.own (by simp [allLen,V.cells]) ?_
  intro g hg
  have R0:RO 1 st (st.use g 1) (.sl (.own g 1) (bs [id])) (bs [id]):=RO.use (cs:=bs [id]) hwf.weak hlt hg
  generalize st.use g 1=s0 at R0 ⊢
  simp (maxSteps:=3000000) only [go_sem,↓reduceIte,byL_bs]
  refine App.mk (bytes:=1) (l:=bs [id]) (ys:=bs (bytesOf key)) R0.own (allSz_bs _) (by simp only [bs_len,List.length_cons,List.length_nil]; unfold maxLen; omega) (by simp only [bs_len,List.length_cons,List.length_nil]; omega) ?_
  intro r1 s1 k1 k2
  have R1:=R0.app k1 k2
  rw [bs_append] at R1
  obtain ⟨t1,rfl⟩:=R1.sl
  simp (maxSteps:=3000000) only [go_sem,↓reduceIte]
  refine App.mk (bytes:=1) (ys:=bs chal) R1.own (allSz_bs _) (by simp only [bs_len,List.length_append,List.length_cons,List.length_nil]; unfold maxLen; omega) (by simp only [bs_len,List.length_append,List.length_cons,List.length_nil]; omega) ?_
  intro r2 s2 k3 k4
  have R2:=R1.app k3 k4
  rw [bs_append] at R2
  obtain ⟨t2,rfl⟩:=R2.sl
  have hBB:IsB ([id] ++ bytesOf key ++ chal):=by
    refine IsB.append (IsB.append ?_ (bytesOf_isB key)) hB
    intro x hx; simp only [List.mem_singleton] at hx; omega
  have ev:md5M ([id] ++ bytesOf key ++ chal)=valueC id key chal:=by simp [valueC]
  have vl:(valueC id key chal).length=16:=md5M_len
  have hOf:=r04Of_v (st:=s2) (tk:=t2) hBB (by simp only [List.length_append,List.length_cons,List.length_nil]; omega)
  rw [ev] at hOf
  generalize valueC id key chal=W at vl hOf ⊢
  have q1:(bs W).length=16:=by rw [bs_len,vl]
  simp (maxSteps:=3000000) only [go_sem,↓reduceIte]
  refine Cal.mk hOf ?_
  rintro _ _ ⟨rfl,rfl⟩ -
  have mW:mono (bs W)=True:=mono_bs
  simp (maxSteps:=3000000) only [go_sem,↓reduceIte,q1]
  intro b hb
  refine Bo.own (by simp [allLen,V.cells]) ?_
  intro g2 hg2
  have hb':st.sz≤b:=by have:=R2.weak.sz; omega
  have R3:RO 1 st ((s2.put b (bs W)).use g2 1) (.sl (.own g2 1) (bs [16])) (bs [16]):=RO.use (cs:=bs [16]) (weak_put R2.weak hb') R2.lt.put hg2
  have B3:((s2.put b (bs W)).use g2 1).box b=some (bs W):=put_box_same
  rw [show [V.sc (.int .u8 16)].length=1 from rfl]
  generalize (s2.put b (bs W)).use g2 1=s3 at R3 B3 ⊢
  simp (maxSteps:=3000000) only [go_sem,↓reduceIte]
  have f1:(16:Nat) * 1=16:=rfl
  have f2:(bs W).take 16=bs W:=List.take_of_length_le (by rw [q1]; omega)
  refine App.box (b:=b) (cs:=bs W) (l:=bs [16]) (ys:=bs W) R3.own B3 q1 (by rw [q1]; decide) (by rw [bs_flat,List.drop_zero,Nat.mul_one]; exact f2) (of_eq_true mono_bs) (allSz_bs _) (by simp only [bs_len,List.length_cons,List.length_nil]; decide) (by simp only [bs_len,List.length_cons,List.length_nil]; decide) ?_
  intro r4 s4 k5 k6
  have R4:=R3.app k5 k6
  rw [bs_append] at R4
  obtain ⟨t4,rfl⟩:=R4.sl
  simp (maxSteps:=3000000) only [go_sem,↓reduceIte,byL_bs]
  refine App.mk (bytes:=1) (ys:=bs (bytesOf nm)) R4.own (allSz_bs _) (by simp only [bs_len,List.length_append,List.length_cons,List.length_nil]; unfold maxLen; omega) (by simp only [bs_len,List.length_append,List.length_cons,List.length_nil]; omega) ?_
  intro r5 s5 k7 k8
  have R5:=R4.app k7 k8
  rw [bs_append] at R5
  obtain ⟨t5,rfl⟩:=R5.sl
  simp (maxSteps:=3000000) only [go_sem,↓reduceIte]
  refine ⟨_,_,Wk.refl _,R5.weak,⟨t5,?_⟩,rfl⟩
  simp only [Ctl.v,makeC,vl]
  rfl
end
end
section
open Go
section
variable {tv ip:Value} {host nm key:ByteArray} {a n q d u l k o ai ni qi:Nat} {st s base:St} {X:Lk} {O:Ot} {now proto:Int} {tk:Tk} {p:Ctl}
theorem LkI.lt (h:LkI tv ip host a n q d u l k st X) (hlt:st.Lt):∀ b ∈ l :: u :: a :: n :: [q,d],b < st.sz:=fun b m=>by
  have e1:=hlt.box l _ h.bl
  have e3:=h.lc.la
  obtain ⟨tu,bu⟩:=h.bu
  have e2:=hlt.box u _ bu
  rcases List.mem_cons.1 m with rfl | m
  · omega
  rcases List.mem_cons.1 m with rfl | m
  · omega
  rcases List.mem_cons.1 m with rfl | m
  · omega
  · exact h.lc.ng.lt lcp_rules hlt b m
theorem Kp.use {cs ds:List Nat} (K:Kp (o :: cs) st (st.put o (otC .nil .nil .zero [])) s) (hlt:st.Lt) (ho:st.sz≤o) (hd:∀ b ∈ cs,b ∈ ds):Tn ds st s :=
  K.tn ds (fun b hb=>by
    rcases List.mem_cons.1 hb with rfl | hb
    · exact .inr ho
    · exact .inl (hd b hb)) ((tn_new hlt ho).wide (by simp))
theorem linkTakeL_v (hp:p.Good) (hpl:p.data.length≤60000) (h10:p.code ≠ 10) (h:LkI tv ip host a n q d u l k st X) (hk:k + 1≤1000000000) (hdn:(lcpTake X.N now p).2.down=false) (hov:(lcpTake X.N now p).2.over=false) (hP:∀ x ∈ (lcpTake X.N now p).2.P,x.Good) (n0:0≤now) (n1:now≤1000000000) :
    VCalls Tryz.prog 10 [ptrV l,.sc (.int .i64 now),.sl tk (bs (buildFr 49185 (buildC p) false false))] st fun r s=>(∃ t,r=.agg (otC t .nil (Ot.zero.lcpIn host X now p) []))∧LkI tv ip host a n q d u l (k + 1) s (X.lcpIn now p)∧Tn [l,u,d,n,q] st s:=by
  have hl:=buildC_len p
  refine linkTake_v (.inl rfl) (by omega) (buildC_isB hp) fun o t ho hlt=>?_
  have h0:=h.tn (tn_new (cs:=otC .nil .nil .zero []) hlt ho) (fun _ _=>by simp)
  exact (linkLcpIn_v hp hpl h10 h0 (.zero hlt ho) (fun m=>by have:=h.lt hlt o m; omega) hlt hk hdn hov hP (by simp [Ot.zero]) n0 n1).mono fun r s ⟨e,O,L,K⟩=>⟨e,O,L,K.use hlt ho (fun b hb=>hb)⟩
theorem linkTakeC_v {S:List Sec} {mb c:Nat} {es:List (V × V × Nat)} (ht:TabS st mb S es c) (hg:aget nm S=some key) (hks:key.size≤40) (hn:nm.size≤40) (h:LkI (.map (some mb)) ip host a n q d u l k st X) (s9:X.N.s=9) (hc:X.A.chal.length=16) (hcB:IsB X.A.chal) (p1:X.A.ph=1) (o1:X.A.op=true) (k0:X.asked=false) (n0:0≤now) (n1:now≤1000000000) :
    VCalls Tryz.prog 10 [ptrV l,.sc (.int .i64 now),.sl tk (bs (buildFr 49699 (buildC (makeC 2 X.A.id (valueC X.A.id key X.A.chal) nm)) false false))] st fun r s=>(∃ t,r=.agg (otC t .nil (Ot.zero.chapIn X nm) []))∧LkI (.map (some mb)) ip host a n q d u l k s (X.chapIn now nm)∧Tn [l,u] st s:=by
  have hl:=buildC_len (makeC 2 X.A.id (valueC X.A.id key X.A.chal) nm)
  have vl:(valueC X.A.id key X.A.chal).length=16:=md5M_len
  have hp:(makeC 2 X.A.id (valueC X.A.id key X.A.chal) nm).Good:=by
    refine ⟨by show (0:Int)≤2; decide,by show (2:Int) < 256; decide,h.ai.1,h.ai.2,?_,?_⟩
    · intro x hx
      rcases List.mem_cons.1 hx with rfl | hx
      · rw [vl]; omega
      · exact (IsB.append (md5M_isB:IsB (valueC X.A.id key X.A.chal)) (bytesOf_isB nm)) x hx
    · show ((_:Int) :: (valueC X.A.id key X.A.chal ++ bytesOf nm)).length≤1000000
      have:=bytesOf_len nm
      simp only [List.length_cons,List.length_append,vl]; omega
  refine linkTake_v (.inr (.inl rfl)) (by omega) (buildC_isB hp) fun o t ho hlt=>?_
  have T0:=tn_new (cs:=otC .nil .nil .zero []) hlt ho
  have h0:=h.tn T0 (fun _ _=>by simp)
  exact (linkChapIn_v ⟨T0.box mb _ ht.box (by simp),ht.mp⟩ hg hks hn h0 (.zero hlt ho) (fun m=>by have:=h.lt hlt o m; omega) hlt s9 hc hcB p1 o1 k0 (by simp [Ot.zero]) n0 n1).mono fun r s ⟨e,O,L,K⟩=>⟨e,O,L,K.use hlt ho (fun b hb=>hb)⟩
theorem linkTakeI_v {M:Neg Ir} {j:Nat} (hp:p.Good) (hpl:p.data.length≤60000) (h:LkI tv (.pointer (some ⟨ai,0,none⟩)) host a n q d u l k st X) (hM:IpI ai ni qi j st M) (hli:∀ b ∈ l :: u :: a :: n :: [q,d],b ∉ ni :: [qi]) (s9:X.N.s=9) (hk:j + 1≤1000000000) (hov:(M.take ipU 7 now p).2.over=false) (hP:∀ x ∈ (M.take ipU 7 now p).2.P,x.Good) (n0:0≤now) (n1:now≤1000000000) :
    VCalls Tryz.prog 10 [ptrV l,.sc (.int .i64 now),.sl tk (bs (buildFr 32801 (buildC p) false false))] st fun r s=>(∃ t,r=.agg (otC t .nil { Ot.zero.add X.N 32801 (M.take ipU 7 now p).2.P with up:=false || (M.take ipU 7 now p).2.up } []))∧LkI tv (.pointer (some ⟨ai,0,none⟩)) host a n q d u l k s X∧IpI ai ni qi (j + 1) s (M.take ipU 7 now p).1∧Tn [ni,qi] st s:=by
  have hl:=buildC_len p
  refine linkTake_v (.inr (.inr rfl)) (by omega) (buildC_isB hp) fun o t ho hlt=>?_
  have T0:=tn_new (cs:=otC .nil .nil .zero []) hlt ho
  have h0:=h.tn T0 (fun _ _=>by simp)
  have M0:=hM.tnx T0 (fun _ _=>by simp)
  have hml:=hM.ng.lt ip_rules hlt
  exact (linkIpIn_v hp hpl h0 M0 (.zero hlt ho) (fun m=>by have:=h.lt hlt o m; omega) (fun m=>by
    rcases List.mem_cons.1 m with rfl | m
    · have:=hM.la; omega
    · have:=hml o m; omega) hli hlt s9 hk hov hP (by simp [Ot.zero]) n0 n1).mono fun r s ⟨e,O,L,I,K⟩=>⟨e,O,L,I,K.use hlt ho (fun b hb=>hb)⟩
set_option maxRecDepth 100000 in
set_option maxHeartbeats 2000000 in
theorem law40Alive_v:VCalls Tryz.prog 6 [] st fun r s=>r=.sc (.bool true)∧st=s:=by
  refine vcalls_enterq pc6 (Nat.le_of_ble_eq_true rfl) rfl fun hwf hok=>?_
  show Run _ Pc6.body (.fin (finP Pc6.res _)) _ _
  unfold Pc6 zg zn zo
  have hlt:=hwf.lt
  simp (maxSteps:=3000000) only [go_sem,↓reduceIte]
  intro d hd
  have W0:st.weak (st.put d [.sl .nil [],.sc (.int .u32 0)]):=weak_put hwf.weak hd
  have D0:DrB (st.put d [.sl .nil [],.sc (.int .u32 0)]) d [] 0:=⟨.nil,put_box_same⟩
  have ld:d < (st.put d [.sl .nil [],.sc (.int .u32 0)]).sz:=by simp only [put_sz]; omega
  have hl0:=hlt.put (b:=d) (cs:=[.sl .nil [],.sc (.int .u32 0)])
  generalize st.put d _=s0 at W0 D0 ld hl0 ⊢
  refine Cal.mk (linkNew_v (tv:=.map none) (host:=⟨#[104]⟩) D0 ⟨by simp,by simp,by decide,by decide⟩ ld (by decide)) ?_
  rintro _ s1 ⟨a,n,q,u,l,rfl,L1,T1,l1⟩ -
  obtain ⟨f1,f2,f3,f4,f5⟩:=a_start
  have hPg:∀ x ∈ (aN0.start lcpU 0).2.P,x.Good:=fun x hx=>by
    rw [a_P] at hx
    simp only [List.mem_singleton] at hx
    rw [hx]; exact req_good
  have ls:=linkStart_v (now:=0) L1 (by decide) (by decide) f3 f4 hPg
  have e1:(Lk.new []).N=aN0:=rfl
  rw [e1,f2] at ls
  have e2:∀ (X:Lk) (Y:List Ctl),Ot.zero.low ⟨#[104]⟩ X 0 Y false=Ot.zero.add X.N 49185 Y:=fun _ _=>rfl
  have e3:∀ X:Lk,X.low 0 false=X:=fun _=>rfl
  rw [e2,e3] at ls
  simp (maxSteps:=3000000) only [go_sem,↓reduceIte]
  refine Cal.mk ls ?_
  rintro _ s2 ⟨⟨t,rfl⟩,L2,T2⟩ -
  have hw2:st.weak s2:=weak_tn (weak_tn W0 T1 (fun b hb=>by
    simp only [List.mem_singleton] at hb; subst hb
    cases hx:st.box b with
    | none=>rfl
    | some cs=>have:=hlt.box b cs hx; omega)) T2 (fun b hb=>by
    have hz:=W0.sz
    have hbs:st.sz≤b:=by
      simp only [List.mem_cons,List.not_mem_nil,or_false] at hb
      rcases hb with h | h | h | h | h
      · have:=l1 b (by simp [h]); omega
      · have:=l1 b (by simp [h]); omega
      · omega
      · have:=l1 b (by simp [h]); omega
      · have:=l1 b (by simp [h]); omega
    cases hx:st.box b with
    | none=>rfl
    | some cs=>have:=hlt.box b cs hx; omega)
  have lF:(pcs (Ot.zero.add aN0 49185 (aN0.start lcpU 0).2.P).F).length=1:=by
    rw [pcs_len]
    simp only [Ot.add,Ot.zero,List.nil_append,List.length_map,f1]
  have lF':∀ N:Neg Lr,(pcs (Ot.zero.add N 49185 (aN0.start lcpU 0).2.P).F).length=1:=fun N=>by
    rw [pcs_len]
    simp only [Ot.add,Ot.zero,List.nil_append,List.length_map,f1]
  have d1:decide (((1:Nat):Int)=1)=true:=rfl
  simp (maxSteps:=3000000) only [go_sem,↓reduceIte,otC,lF',d1]
  refine Cal.mk (linkPhase_v L2 f5) ?_
  rintro _ _ ⟨rfl,rfl⟩ -
  simp (maxSteps:=3000000) only [go_sem,↓reduceIte]
  refine Bo.own (by simp [allLen,V.cells]) ?_
  intro g hg
  have hw3:st.weak (s2.use g 1):=weak_use hw2 (by have:=hw2.sz; omega)
  have hlen:[V.sc (.int .u8 0)].length=1:=rfl
  simp (maxSteps:=3000000) only [go_sem,↓reduceIte,hlen]
  refine Cal.mk (linkTake0_v (tk:=.own g 1)) ?_
  rintro _ _ ⟨⟨t3,rfl⟩,rfl⟩ -
  simp (maxSteps:=3000000) only [go_sem,↓reduceIte,otC,d1,List.length_cons,List.length_nil]
  exact ⟨_,_,Wk.refl _,hw3,rfl,rfl⟩
end
end
section
open Go
section
variable {st:St} {tk:Tk} {l:List Opt} {L:List Int} {w:Want} {own draw:Int}
theorem rPut0_v {n:Int} (k:Nat) (h0:0≤n) (h1:n≤18446744073709551615) (k1:1≤k) (k8:k≤8):VCalls Tryz.prog 77 [.sl .nil [],.sc (.int .u64 n),.sc (.int .i64 k)] st fun r s=>∃ t,r=.sl t (bs (beL n k))∧RO 1 st s (.sl t (bs (beL n k))) (bs (beL n k)) :=
  (rPut_v (L:=[]) (tk:=.nil) (size:=k) IsB.nil' (by simp) h0 h1).mono fun r s ⟨o,n⟩=>by
    rw [if_neg (by omega),List.nil_append,Int.toNat_natCast] at o
    obtain ⟨t,rfl⟩:=own_sl o
    exact ⟨t,rfl,o,n.weak,n.lt,n.tok⟩
theorem RO.over {size:Nat} {base s t:St} {x:V} {l:List V} (h:RO size base s x l) (hw:s.weak t) (hl:t.Lt):RO size base t x l :=
  h.tn (Tn.ofWeak (bx:=[]) hw hl) (by simp)
end
end
section
open Go
def AW.ofR (w:AW) (t:Int):Int:=if t=3 then w.a else if t=129 then w.d1 else w.d2
section
variable {st s:St} {tk:Tk} {w g:AW} {l:List Opt}
theorem r35Of0_v {t:Int}:VCalls Tryz.prog 56 [.agg w.cells,.sc (.int .u8 t)] st fun r s=>r=.tup [.sc (.int .u32 (w.ofR t)),.sc (.bool (plcB t))]∧st=s:=by
  unfold AW.ofR plcB
  refine vcalls_enterq pc56 (Nat.le_of_ble_eq_true rfl) rfl fun hwf hok=>?_
  show Run _ Pc56.body (.fin (finP Pc56.res _)) _ _
  unfold Pc56 zo
  simp (maxSteps:=3000000) only [go_sem,↓reduceIte,AW.cells]
  intro b hb
  have W:=weak_put (cs:=[.sc (.int .u32 w.a),.sc (.int .u32 w.d1),.sc (.int .u32 w.d2)]) hwf.weak hb
  by_cases c1:t=3
  · simp (maxSteps:=3000000) only [go_sem,↓reduceIte,decide_eq_true c1]
    exact ⟨_,_,Wk.refl _,W,by simp [c1],rfl⟩
  by_cases c2:t=129
  · simp (maxSteps:=3000000) only [go_sem,↓reduceIte,decide_eq_false c1,decide_eq_true c2]
    try repeat (apply And.intro; focus (first | omega | (simp; done)))
    exact ⟨_,_,Wk.refl _,W,by simp [c2],rfl⟩
  simp (maxSteps:=3000000) only [go_sem,↓reduceIte,decide_eq_false c1,decide_eq_false c2]
  try repeat (apply And.intro; focus (first | omega | (simp; done)))
  exact ⟨_,_,Wk.refl _,W,by simp [c1,c2],rfl⟩
theorem r35One_v {t x:Int} (h0:0≤x) (h1:x < 4294967296):VCalls Tryz.prog 57 [.sc (.int .u8 t),.sc (.int .u32 x)] st fun r s=>(∃ u,r=.agg [.sc (.int .u8 t),.sl u (bs (beL x 4))])∧st.weak s∧s.Lt:=by
  refine vcalls_enterq pc57 (Nat.le_of_ble_eq_true rfl) rfl fun hwf hok=>?_
  show Run _ Pc57.body (.fin (finP Pc57.res _)) _ _
  unfold Pc57 zo
  have e:x % 18446744073709551616=x:=by omega
  simp (maxSteps:=3000000) only [go_sem,↓reduceIte,e]
  refine Cal.mk (rPut0_v (n:=x) 4 h0 (by omega) (by decide) (by decide)) ?_
  rintro _ s1 ⟨t1,rfl,R1⟩ -
  simp (maxSteps:=3000000) only [go_sem,↓reduceIte]
  exact ⟨_,_,Wk.refl _,R1.lt.weak,⟨t1,rfl⟩,R1.weak,R1.lt⟩
set_option maxRecDepth 100000 in
set_option maxHeartbeats 4000000 in
theorem r35Options_v (hw:w.Good):VCalls Tryz.prog 18 [.agg w.cells] st fun r s=>r=.sl .no (opts (optsA w))∧st=s:=by
  refine vcalls_enterq pc18 (Nat.le_of_ble_eq_true rfl) rfl fun hwf hok=>?_
  show Run _ Pc18.body (.fin (finP Pc18.res _)) _ _
  unfold Pc18 zn zo
  have hlt:=hwf.lt
  obtain ⟨w1,w2,w3,w4,w5,w6⟩:=hw
  simp (maxSteps:=3000000) only [go_sem,↓reduceIte,AW.cells]
  intro b hb
  refine run_loop [3,5,6,10,12,14,16,17,18,19,20,22,25,26,28,29,30] (fun B s=>∃ (i:Nat) (t:Tk),i≤3∧B 5=.sc (.int .i64 i)∧B 3=.sl t (opts (firstA w i))∧RO 2 st s (.sl t (opts (firstA w i))) (opts (firstA w i))∧s.box b=some [.sc (.int .u8 3),.sc (.int .u8 129),.sc (.int .u8 131)]) (fun B _=>3 - vnat (B 5)) rfl ?_ ?_
  · exact ⟨0,.nil,by omega,rfl,rfl,RO.nil (weak_put hwf.weak hb) hlt.put,put_box_same⟩
  · rintro B s ⟨i,t,hi,h5,h3,R,bx⟩
    by_cases c:i < 3
    rotate_left
    · obtain rfl:i=3:=by omega
      have h5:B 5=.sc (.int .i64 3):=h5
      simp (maxSteps:=3000000) only [go_sem,↓reduceIte,h5,h3]
      exact ⟨_,_,Wk.no,R.weak,rfl,rfl⟩
    have hlen:=firstA_len w i
    have hc:i=0 ∨ i=1 ∨ i=2:=by omega
    have key:∀ (ty x:Int),(i=0∧ty=3∧x=w.a ∨ i=1∧ty=129∧x=w.d1 ∨ i=2∧ty=131∧x=w.d2)→firstA w (i + 1)=firstA w i ++ if x ≠ 0 then [oneA ty x] else []:=fun ty x h=>firstA_next c h
    rcases hc with rfl | rfl | rfl
    · have h5:B 5=.sc (.int .i64 0):=h5
      have kf:=key 3 w.a (.inl ⟨rfl,rfl,rfl⟩)
      have ka:w.ofR 3=w.a:=rfl
      simp (maxSteps:=3000000) only [go_sem,↓reduceIte,h5,bx]
      repeat (apply And.intro; focus (first | omega | (simp; done)))
      refine Cal.mk (r35Of0_v (w:=w) (t:=3)) ?_
      rintro _ _ ⟨rfl,rfl⟩ -
      rw [ka]
      by_cases c0:w.a=0
      · rw [if_neg (fun e=>e c0),List.append_nil] at kf
        simp (maxSteps:=3000000) only [go_sem,↓reduceIte,decide_eq_false (show ¬ w.a ≠ 0 from fun e=>e c0),h5]
        exact ⟨0 + 1,t,by omega,rfl,by rw [kf]; exact h3,by rw [kf]; exact R,bx⟩
      · rw [if_pos c0] at kf
        simp (maxSteps:=3000000) only [go_sem,↓reduceIte,decide_eq_true (show w.a ≠ 0 from c0),h5,bx]
        repeat (apply And.intro; focus (first | omega | (simp; done)))
        refine Cal.mk (r35One_v (t:=3) (x:=w.a) (by assumption) (by assumption)) ?_
        rintro _ s1 ⟨⟨u,rfl⟩,W1,L1⟩ -
        simp (maxSteps:=3000000) only [go_sem,↓reduceIte,h3]
        refine App.mk (bytes:=32) (l:=opts (firstA w 0)) (ys:=opts [oneA 3 w.a]) (R.over' W1 L1).own (allSz_opts _) (by simp only [opts_len,List.length_cons,List.length_nil]; unfold maxLen; omega) (by simp only [opts_len,List.length_cons,List.length_nil]; omega) ?_
        intro r2 s2 k1 k2
        have R2:=(R.over' W1 L1).app k1 k2
        rw [opts_append,← kf] at R2
        obtain ⟨t2,rfl⟩:=R2.sl
        have bx2:s2.box b=some [.sc (.int .u8 3),.sc (.int .u8 129),.sc (.int .u8 131)]:=by rw [k2.box]; exact (W1.box b _ bx).1
        simp (maxSteps:=3000000) only [go_sem,↓reduceIte,h5]
        exact ⟨0 + 1,t2,by omega,rfl,rfl,R2,bx2⟩
    · have h5:B 5=.sc (.int .i64 1):=h5
      have kf:=key 129 w.d1 (.inr (.inl ⟨rfl,rfl,rfl⟩))
      have ka:w.ofR 129=w.d1:=rfl
      simp (maxSteps:=3000000) only [go_sem,↓reduceIte,h5,bx]
      repeat (apply And.intro; focus (first | omega | (simp; done)))
      refine Cal.mk (r35Of0_v (w:=w) (t:=129)) ?_
      rintro _ _ ⟨rfl,rfl⟩ -
      rw [ka]
      by_cases c0:w.d1=0
      · rw [if_neg (fun e=>e c0),List.append_nil] at kf
        simp (maxSteps:=3000000) only [go_sem,↓reduceIte,decide_eq_false (show ¬ w.d1 ≠ 0 from fun e=>e c0),h5]
        exact ⟨1 + 1,t,by omega,rfl,by rw [kf]; exact h3,by rw [kf]; exact R,bx⟩
      · rw [if_pos c0] at kf
        simp (maxSteps:=3000000) only [go_sem,↓reduceIte,decide_eq_true (show w.d1 ≠ 0 from c0),h5,bx]
        repeat (apply And.intro; focus (first | omega | (simp; done)))
        refine Cal.mk (r35One_v (t:=129) (x:=w.d1) (by assumption) (by assumption)) ?_
        rintro _ s1 ⟨⟨u,rfl⟩,W1,L1⟩ -
        simp (maxSteps:=3000000) only [go_sem,↓reduceIte,h3]
        refine App.mk (bytes:=32) (l:=opts (firstA w 1)) (ys:=opts [oneA 129 w.d1]) (R.over' W1 L1).own (allSz_opts _) (by simp only [opts_len,List.length_cons,List.length_nil]; unfold maxLen; omega) (by simp only [opts_len,List.length_cons,List.length_nil]; omega) ?_
        intro r2 s2 k1 k2
        have R2:=(R.over' W1 L1).app k1 k2
        rw [opts_append,← kf] at R2
        obtain ⟨t2,rfl⟩:=R2.sl
        have bx2:s2.box b=some [.sc (.int .u8 3),.sc (.int .u8 129),.sc (.int .u8 131)]:=by rw [k2.box]; exact (W1.box b _ bx).1
        simp (maxSteps:=3000000) only [go_sem,↓reduceIte,h5]
        exact ⟨1 + 1,t2,by omega,rfl,rfl,R2,bx2⟩
    · have h5:B 5=.sc (.int .i64 2):=h5
      have kf:=key 131 w.d2 (.inr (.inr ⟨rfl,rfl,rfl⟩))
      have ka:w.ofR 131=w.d2:=rfl
      simp (maxSteps:=3000000) only [go_sem,↓reduceIte,h5,bx]
      repeat (apply And.intro; focus (first | omega | (simp; done)))
      refine Cal.mk (r35Of0_v (w:=w) (t:=131)) ?_
      rintro _ _ ⟨rfl,rfl⟩ -
      rw [ka]
      by_cases c0:w.d2=0
      · rw [if_neg (fun e=>e c0),List.append_nil] at kf
        simp (maxSteps:=3000000) only [go_sem,↓reduceIte,decide_eq_false (show ¬ w.d2 ≠ 0 from fun e=>e c0),h5]
        exact ⟨2 + 1,t,by omega,rfl,by rw [kf]; exact h3,by rw [kf]; exact R,bx⟩
      · rw [if_pos c0] at kf
        simp (maxSteps:=3000000) only [go_sem,↓reduceIte,decide_eq_true (show w.d2 ≠ 0 from c0),h5,bx]
        repeat (apply And.intro; focus (first | omega | (simp; done)))
        refine Cal.mk (r35One_v (t:=131) (x:=w.d2) (by assumption) (by assumption)) ?_
        rintro _ s1 ⟨⟨u,rfl⟩,W1,L1⟩ -
        simp (maxSteps:=3000000) only [go_sem,↓reduceIte,h3]
        refine App.mk (bytes:=32) (l:=opts (firstA w 2)) (ys:=opts [oneA 131 w.d2]) (R.over' W1 L1).own (allSz_opts _) (by simp only [opts_len,List.length_cons,List.length_nil]; unfold maxLen; omega) (by simp only [opts_len,List.length_cons,List.length_nil]; omega) ?_
        intro r2 s2 k1 k2
        have R2:=(R.over' W1 L1).app k1 k2
        rw [opts_append,← kf] at R2
        obtain ⟨t2,rfl⟩:=R2.sl
        have bx2:s2.box b=some [.sc (.int .u8 3),.sc (.int .u8 129),.sc (.int .u8 131)]:=by rw [k2.box]; exact (W1.box b _ bx).1
        simp (maxSteps:=3000000) only [go_sem,↓reduceIte,h5]
        exact ⟨2 + 1,t2,by omega,rfl,rfl,R2,bx2⟩
end
end
section
open Go
def bls (l:List Bool):List V:=l.map fun b=>.sc (.bool b)
theorem bls_len {l:List Bool}:(bls l).length=l.length:=by simp [bls]
theorem bls_get {l:List Bool} {i:Nat} (h:i < l.length):(bls l)[i]?=some (.sc (.bool (l.getD i false))):=by simp [bls,h]
def mW0 (a b:Bool):List Opt:=(if a=true then [(1,[5,0])] else []) ++ (if b=true then [(7,[]),(8,[])] else [])
structure Sc (st:St) (mb:Nat) (S:List Sec) (es:List (V × V × Nat)) (c:Nat) (bx:List Nat) (s:St) (v:V) (W:List Opt):Prop where
  T:TabS s mb S es c
  R:RO 2 st.bare s v (opts W)
  hm:mb ∉ bx
theorem Sc.tn {st:St} {mb:Nat} {S:List Sec} {es:List (V × V × Nat)} {c:Nat} {bx cs:List Nat} {s t:St} {v:V} {W:List Opt} (h:Sc st mb S es c bx s v W) (T:Tn cs s t) (hc:∀ b ∈ cs,b ∈ bx):Sc st mb S es c bx t v W :=
  ⟨⟨T.box mb _ h.T.box (fun m=>h.hm (hc mb m)),h.T.mp⟩,h.R.tn T (fun b hb=>rfl),h.hm⟩
theorem Sc.app {st:St} {mb:Nat} {S:List Sec} {es:List (V × V × Nat)} {c:Nat} {bx:List Nat} {s s2:St} {v r:V} {W W2:List Opt} (h:Sc st mb S es c bx s v W) (K:AppSt s v s2 r) (hr:RO 2 st.bare s2 r (opts W2)):Sc st mb S es c bx s2 r W2 :=
  ⟨⟨by rw [K.box]; exact h.T.box,h.T.mp⟩,hr,h.hm⟩
theorem newS_one {s:Sec} (h:newS [s]=0):s.1.size≤40∧s.2.size≤40:=by
  simp only [newS,List.length_cons,List.length_nil,whyS] at h
  rw [if_neg (by decide)] at h
  split at h
  · exact absurd h (by decide)
  · rename_i hr
    simp only [rightS,Bool.not_eq_false] at hr
    simp at hr
    omega
section
variable {st:St} {nm key:ByteArray} {x:Int} {L:List Bool} {tk:Tk}
set_option maxRecDepth 100000 in
set_option maxHeartbeats 4000000 in
theorem linkMeets_v (x0:0≤x) (x1:x < 4294967296):VCalls Tryz.prog 3 [.agg [.sc (.string nm),.sc (.string key)],.sc (.int .u32 x),.sl tk (bls L)] st fun r _=>r=.sc (.bool true):=by
  refine vcalls_enterq pc3 (Nat.le_of_ble_eq_true rfl) rfl fun hwf hok=>?_
  show Run _ Pc3.body (.fin (finP Pc3.res _)) _ _
  unfold Pc3 zg zn zo
  have hlt:=hwf.lt
  simp (maxSteps:=3000000) only [go_sem,↓reduceIte]
  refine Bo.own (by simp [allLen,V.cells]) ?_
  intro g hg
  have lt1:(st.use g 1).Lt:=hlt.use
  have hlen:[secV (nm,key)].length=1:=rfl
  generalize st.use g 1=s1 at lt1 ⊢
  simp (maxSteps:=3000000) only [go_sem,↓reduceIte]
  refine Cal.mk (secNew_v (S:=[(nm,key)])) ?_
  intro r1 s2 h2 _
  rcases h2 with ⟨hne,rfl,rfl⟩ | ⟨he,mb,es,c,rfl,T2,w2,lt2,hmb⟩
  · simp (maxSteps:=3000000) only [go_sem,↓reduceIte,decide_eq_true (show ¬ newS [(nm,key)]=0 from hne)]
    refine Cal.mk law40Alive_v ?_
    rintro _ _ ⟨rfl,rfl⟩ -
    simp (maxSteps:=3000000) only [go_sem,↓reduceIte]
    exact ⟨_,_,Wk.refl _,lt1.weak,rfl⟩
  · obtain ⟨z1,z2⟩:=newS_one he
    replace z1:nm.size≤40:=z1
    replace z2:key.size≤40:=z2
    by_cases cx:x=0
    · simp (maxSteps:=3000000) only [go_sem,↓reduceIte,decide_eq_true cx]
      refine Cal.mk law40Alive_v ?_
      rintro _ _ ⟨rfl,rfl⟩ -
      simp (maxSteps:=3000000) only [go_sem,↓reduceIte]
      exact ⟨_,_,Wk.refl _,lt2.weak,rfl⟩
    · simp (maxSteps:=3000000) only [go_sem,↓reduceIte,decide_eq_false cx]
      refine Bo.own (by simp [allLen,V.cells]) ?_
      intro g2 hg2
      have U3:Tn [] s2 (s2.use g2 1):=(Tn.refl lt2).use hg2 lt2
      have hlen7:[V.sc (.int .u32 7)].length=1:=rfl
      rw [hlen7]
      have T3:TabS (s2.use g2 1) mb [(nm,key)] es c:=⟨U3.box mb _ T2.box (by simp),T2.mp⟩
      have lt3:=U3.lt
      generalize s2.use g2 1=s3 at U3 T3 lt3 ⊢
      simp (maxSteps:=3000000) only [go_sem,↓reduceIte]
      refine Cal.mk (law37Draws_v (L:=[7]) (by decide)) ?_
      rintro _ s4 ⟨d,rfl,D4,hd,w4,lt4⟩ -
      have T4:TabS s4 mb [(nm,key)] es c:=⟨(w4.box mb _ T3.box).1,T3.mp⟩
      have mbd:mb < d:=by have:=lt3.box mb _ T3.box; omega
      have ld:d < s4.sz:=by obtain ⟨td,bd⟩:=D4; exact lt4.box d _ bd
      simp (maxSteps:=3000000) only [go_sem,↓reduceIte]
      refine Cal.mk (linkNew_v (tv:=.map (some mb)) (host:=⟨#[104]⟩) D4 ⟨by simp,by simp,by decide,by decide⟩ ld (by decide)) ?_
      rintro _ s5 ⟨a,n,q,u,l,rfl,L5,T5,l5⟩ -
      have lt5:=T5.lt
      have S5:Sc s5 mb [(nm,key)] es c [l,u,d,n,q] s5 (.sl .nil []) []:=by
        have hmb4:=lt4.box mb _ T4.box
        refine ⟨⟨T5.box mb _ T4.box (by simp only [List.mem_singleton]; omega),T4.mp⟩,RO.nil (bare_weak (Nat.le_refl _)) lt5,fun m=>?_⟩
        simp only [List.mem_cons,List.not_mem_nil,or_false] at m
        rcases m with m | m | m | m | m
        · have:=l5 l (by simp); omega
        · have:=l5 u (by simp); omega
        · omega
        · have:=l5 n (by simp); omega
        · have:=l5 q (by simp); omega
      simp (maxSteps:=3000000) only [go_sem,↓reduceIte]
      refine Grd.cut [40,41,42,43] (fun B=>B 43=.sc (.bool (L.getD 0 false))) rfl ?_ ?_
      · by_cases cl:0 < L.length
        · simp (maxSteps:=3000000) only [go_sem,↓reduceIte,bls_len,decide_eq_true (show (0:Int) < (L.length:Int) by omega),bls_get cl,at_cut]
        · have e:L.getD 0 false=false:=by simp [List.getD,List.getElem?_eq_none (show L.length≤0 by omega)]
          simp (maxSteps:=3000000) only [go_sem,↓reduceIte,bls_len,decide_eq_false (show ¬ (0:Int) < (L.length:Int) by omega),at_cut]
          rw [e]
      · intro B1 h43
        simp (maxSteps:=3000000) only [go_sem,↓reduceIte,h43]
        generalize L.getD 0 false=A
        refine If.cut [45,46,47,48,10] (fun B s=>∃ t,B 10=.sl t (opts (mW0 A false))∧Sc s5 mb [(nm,key)] es c [l,u,d,n,q] s (.sl t (opts (mW0 A false))) (mW0 A false)∧LkI (.map (some mb)) (.pointer none) ⟨#[104]⟩ a n q d u l 0 s (.new [7])∧s.Lt) rfl ?_ ?_
        · cases A with
          | false =>
            simp (maxSteps:=3000000) only [go_sem,↓reduceIte,at_cutk_n]
            exact ⟨.nil,rfl,S5,L5,lt5⟩
          | true =>
            simp (maxSteps:=3000000) only [go_sem]
            refine Bo.own (by simp [allLen,V.cells]) ?_
            intro g3 hg3
            have U6:Tn [] s5 (s5.use g3 2):=(Tn.refl lt5).use hg3 lt5
            have hl2:[V.sc (.int .u8 5),V.sc (.int .u8 0)].length=2:=rfl
            rw [hl2]
            have S6:=S5.tn U6 (by simp)
            have L6:=L5.tn U6 (fun _ _=>by simp)
            generalize s5.use g3 2=s6 at U6 S6 L6 ⊢
            simp (maxSteps:=3000000) only [go_sem,↓reduceIte]
            refine App.mk (bytes:=32) (l:=opts []) (ys:=opts [(1,[5,0])]) S6.R.own (allSz_opts _) (by simp only [opts_len,List.length_cons,List.length_nil]; unfold maxLen; omega) (by simp only [opts_len,List.length_cons,List.length_nil]; omega) ?_
            intro r7 s7 k1 k2
            have R7:=S6.R.app k1 k2
            rw [opts_append] at R7
            obtain ⟨t7,rfl⟩:=R7.sl
            have S7:=S6.app k2 R7
            have L7:=L6.app S6.R k2 R7.lt
            simp (maxSteps:=3000000) only [go_sem,↓reduceIte,at_cutk_n]
            exact ⟨t7,rfl,S7,L7,R7.lt⟩
        · rintro B2 s6 ⟨t6,h10,S6,L6,lt6⟩
          simp (maxSteps:=3000000) only [go_sem,↓reduceIte]
          refine Grd.cut [53,54,55,56] (fun B=>B 56=.sc (.bool (L.getD 1 false))) rfl ?_ ?_
          · by_cases cl:1 < L.length
            · simp (maxSteps:=3000000) only [go_sem,↓reduceIte,bls_len,decide_eq_true (show (1:Int) < (L.length:Int) by omega),bls_get cl,at_cut]
            · have e:L.getD 1 false=false:=by simp [List.getD,List.getElem?_eq_none (show L.length≤1 by omega)]
              simp (maxSteps:=3000000) only [go_sem,↓reduceIte,bls_len,decide_eq_false (show ¬ (1:Int) < (L.length:Int) by omega),at_cut]
              rw [e]
          · intro B3 h56
            simp (maxSteps:=3000000) only [go_sem,↓reduceIte,h56]
            generalize L.getD 1 false=B
            refine If.cut [58,59,60,61,10] (fun C s=>∃ t,C 10=.sl t (opts (mW0 A B))∧Sc s5 mb [(nm,key)] es c [l,u,d,n,q] s (.sl t (opts (mW0 A B))) (mW0 A B)∧LkI (.map (some mb)) (.pointer none) ⟨#[104]⟩ a n q d u l 0 s (.new [7])∧s.Lt) rfl ?_ ?_
            · cases B with
              | false =>
                simp (maxSteps:=3000000) only [go_sem,↓reduceIte,at_cutk_n,h10]
                exact ⟨t6,rfl,S6,L6,lt6⟩
              | true =>
                have hA:(mW0 A false).length≤2:=by cases A <;> decide
                have hAB:mW0 A false ++ [(7,[]),(8,[])]=mW0 A true:=by cases A <;> rfl
                simp (maxSteps:=3000000) only [go_sem,↓reduceIte,h10]
                refine App.mk (bytes:=32) (l:=opts (mW0 A false)) (ys:=opts [(7,[]),(8,[])]) S6.R.own (allSz_opts _) (by simp only [opts_len,List.length_cons,List.length_nil]; unfold maxLen; omega) (by simp only [opts_len,List.length_cons,List.length_nil]; omega) ?_
                intro r7 s7 k1 k2
                have R7:=S6.R.app k1 k2
                rw [opts_append,hAB] at R7
                obtain ⟨t7,rfl⟩:=R7.sl
                have S7:=S6.app k2 R7
                have L7:=L6.app S6.R k2 R7.lt
                simp (maxSteps:=3000000) only [go_sem,↓reduceIte,at_cutk_n]
                exact ⟨t7,rfl,S7,L7,R7.lt⟩
            · rintro C s7 ⟨t7,c10,S7,L7,lt7⟩
              have hp1:∀ f,pcs [f]=[.sl .no (bs f)]:=fun _=>rfl
              have hp2:∀ f g,pcs [f,g]=[.sl .no (bs f),.sl .no (bs g)]:=fun _ _=>rfl
              have e0:(Lk.new [7]).N.start lcpU 0=(mN1,⟨[mP1],false,false,false⟩):=m_e1
              have gP1:mP1.Good:=req_good
              have ls:=linkStart_v (now:=0) L7 (by decide) (by decide) (by rw [e0]) (by rw [e0]) (by rw [e0]; intro y hy; simp only [List.mem_singleton] at hy; rw [hy]; exact gP1)
              rw [e0] at ls
              have ls:VCalls Tryz.prog 9 [ptrV l,.sc (.int .i64 0)] s7 fun r s=>(∃ t,r=.agg (otC t .nil ⟨[frOf mN1 49185 mP1],false,⟨#[]⟩,false⟩ []))∧LkI (.map (some mb)) (.pointer none) ⟨#[104]⟩ a n q d u l 0 s mX1∧Tn [l,u,d,n,q] s7 s:=ls
              simp (maxSteps:=3000000) only [go_sem,↓reduceIte]
              refine Cal.mk ls ?_
              rintro _ s8 ⟨⟨t8,rfl⟩,L8,T8⟩ -
              have S8:=S7.tn T8 (fun b hb=>hb)
              have ak:=law40Ack_v (st:=s8) (tk:=.no) (bare:=decide (mN1.s=9) && mN1.r.g.acfc) (short:=decide (mN1.s=9) && mN1.r.g.pfc) (.inl rfl) gP1 (by decide)
              rw [show buildFr 49185 (buildC mP1) (decide (mN1.s=9) && mN1.r.g.acfc) (decide (mN1.s=9) && mN1.r.g.pfc)=frOf mN1 49185 mP1 from rfl] at ak
              have d1:decide (¬ ((1:Nat):Int)=1)=false:=rfl
              generalize frOf mN1 49185 mP1=f1 at ak ⊢
              simp (maxSteps:=3000000) only [go_sem,↓reduceIte,otC,hp1,d1]
              refine Cal.mk ak ?_
              rintro _ _ ⟨rfl,rfl⟩ -
              have gA:(⟨2,1,mP1.data⟩:Ctl).Good:=⟨by show (0:Int)≤2; decide,by show (2:Int) < 256; decide,gP1.i0,gP1.i1,gP1.b,gP1.l⟩
              have lt:=linkTakeL_v (now:=1) (tk:=.no) gA (by decide) (by decide) L8 (by decide) (by rw [show lcpTake mX1.N 1 ⟨2,1,mP1.data⟩=_ from m_e2]) (by rw [show lcpTake mX1.N 1 ⟨2,1,mP1.data⟩=_ from m_e2]) (by rw [show lcpTake mX1.N 1 ⟨2,1,mP1.data⟩=_ from m_e2]; intro y hy; cases hy) (by decide) (by decide)
              rw [m_X2] at lt
              rw [show (⟨2,mP1.id,mP1.data⟩:Ctl)=⟨2,1,mP1.data⟩ from rfl]
              simp (maxSteps:=3000000) only [go_sem,↓reduceIte]
              refine Cal.mk lt ?_
              rintro _ s9 ⟨⟨t9,rfl⟩,L9,T9⟩ -
              have S9:=S8.tn T9 (fun b hb=>hb)
              simp (maxSteps:=3000000) only [go_sem]
              refine Bo.own (by simp [allLen,V.cells]) ?_
              intro g4 hg4
              have lt9:=T9.lt
              have U10:Tn [] s9 (s9.use g4 4):=(Tn.refl lt9).use hg4 lt9
              have hl4:[V.sc (.int .u8 0),V.sc (.int .u8 0),V.sc (.int .u8 0),V.sc (.int .u8 9)].length=4:=rfl
              rw [hl4]
              have S10:=S9.tn U10 (by simp)
              have L10:=L9.tn U10 (fun _ _=>by simp)
              generalize s9.use g4 4=s10 at U10 S10 L10 ⊢
              have hW:(mW0 A B).length≤4:=by cases A <;> cases B <;> decide
              simp (maxSteps:=3000000) only [go_sem,↓reduceIte,c10]
              refine App.mk (bytes:=32) (l:=opts (mW0 A B)) (ys:=opts [(5,[0,0,0,9])]) S10.R.own (allSz_opts _) (by simp only [opts_len,List.length_cons,List.length_nil]; unfold maxLen; omega) (by simp only [opts_len,List.length_cons,List.length_nil]; omega) ?_
              intro r11 s11 k1 k2
              have R11:=S10.R.app k1 k2
              rw [opts_append,show mW0 A B ++ [(5,[0,0,0,9])]=mWant A B from rfl] at R11
              obtain ⟨t11,rfl⟩:=R11.sl
              have S11:=S10.app k2 R11
              have L11:=L10.app S10.R k2 R11.lt
              obtain ⟨gW,lW⟩:=mWant_good A B
              have gR:(⟨1,1,buildO (mWant A B)⟩:Ctl).Good:=⟨by show (0:Int)≤1; decide,by show (1:Int) < 256; decide,by show (0:Int)≤1; decide,by show (1:Int) < 256; decide,buildO_isB gW,by have:=buildO_len (mWant A B); show (buildO (mWant A B)).length≤1000000; omega⟩
              have lR:(⟨1,1,buildO (mWant A B)⟩:Ctl).data.length≤60000:=by have:=buildO_len (mWant A B); show (buildO (mWant A B)).length≤60000; omega
              have gQ:(⟨2,1,buildO (mWant A B)⟩:Ctl).Good:=⟨by show (0:Int)≤2; decide,by show (2:Int) < 256; decide,gR.i0,gR.i1,gR.b,gR.l⟩
              have eT:lcpTake mX2.N 1 ⟨1,1,buildO (mWant A B)⟩=_:=m_e3 A B
              have lt2:=linkTakeL_v (now:=1) (tk:=.no) gR lR (by show ¬ (1:Int)=10; decide) L11 (by decide) (by rw [eT]) (by rw [eT]) (by rw [eT]; intro y hy; simp only [List.mem_singleton] at hy; rw [hy]; exact gQ) (by decide) (by decide)
              rw [m_X3,m_O3] at lt2
              have pk:=law40Packet_v (st:=s11) (tk:=.no) (.inl rfl) gR lR
              have rb:=r10Build_v (st:=s11) (tk:=t11) gW (by omega)
              generalize buildC (⟨1,1,buildO (mWant A B)⟩:Ctl)=cR at lt2 pk
              generalize frOf (mN3 A B) 49185 ⟨2,1,buildO (mWant A B)⟩=f2 at lt2
              have es3:=m_s3 A B
              have hA1:(mX3 A B).A.chal.length=16:=chalOf_len
              have hA2:IsB (mX3 A B).A.chal:=chalOf_isB
              have hA3:(mX3 A B).A.ph=1:=rfl
              have hA4:(mX3 A B).A.op=true:=rfl
              have hA5:(mX3 A B).asked=false:=rfl
              generalize buildO (mWant A B)=dW at pk rb
              simp (maxSteps:=3000000) only [go_sem,↓reduceIte]
              refine Cal.mk rb ?_
              rintro _ _ ⟨rfl,rfl⟩ -
              simp (maxSteps:=3000000) only [go_sem,↓reduceIte]
              refine Cal.mk pk ?_
              rintro _ _ ⟨rfl,rfl⟩ -
              simp (maxSteps:=3000000) only [go_sem,↓reduceIte]
              refine Cal.mk lt2 ?_
              rintro _ s12 ⟨⟨t12,rfl⟩,L12,T12⟩ -
              have S12:=S11.tn T12 (fun b hb=>hb)
              have d2:decide (¬ ((2:Nat):Int)=2)=false:=rfl
              generalize mX3 A B=X3 at L12 es3 hA1 hA2 hA3 hA4 hA5 ⊢
              simp (maxSteps:=3000000) only [go_sem,↓reduceIte,otC,hp2,d2]
              have gC:(makeC 1 X3.A.id X3.A.chal ⟨#[104]⟩).Good:=by
                have hb:=bytesOf_isB ⟨#[104]⟩
                refine ⟨by show (0:Int)≤1; decide,by show (1:Int) < 256; decide,L12.ai.1,L12.ai.2,?_,?_⟩
                · intro y hy
                  rcases List.mem_cons.1 hy with rfl | hy
                  · rw [hA1]; decide
                  · exact (hA2.append hb) y hy
                · show ((_:Int) :: (X3.A.chal ++ bytesOf ⟨#[104]⟩)).length≤1000000
                  simp only [List.length_cons,List.length_append,hA1]; decide
              have lC:(makeC 1 X3.A.id X3.A.chal ⟨#[104]⟩).data.length=18:=by
                show ((_:Int) :: (X3.A.chal ++ bytesOf ⟨#[104]⟩)).length=18
                simp only [List.length_cons,List.length_append,hA1]; decide
              have sC:List.drop 1 (List.take 17 (bs (makeC 1 X3.A.id X3.A.chal ⟨#[104]⟩).data))=bs X3.A.chal:=by
                show List.take 16 (bs (X3.A.chal ++ bytesOf ⟨#[104]⟩))=_
                rw [← bs_append,List.take_left' (by rw [bs_len,hA1])]
              have iC:(makeC 1 X3.A.id X3.A.chal ⟨#[104]⟩).id=X3.A.id:=rfl
              have bl:=buildC_len (makeC 1 X3.A.id X3.A.chal ⟨#[104]⟩)
              have p12:=r12Parse_v (st:=s12) (tk:=.no) (bare:=decide (X3.N.s=9) && X3.N.r.g.acfc) (short:=decide (X3.N.s=9) && X3.N.r.g.pfc) (.inr (.inl rfl)) (by omega) (buildC_isB gC)
              rw [show buildFr 49699 (buildC (makeC 1 X3.A.id X3.A.chal ⟨#[104]⟩)) (decide (X3.N.s=9) && X3.N.r.g.acfc) (decide (X3.N.s=9) && X3.N.r.g.pfc)=frOf X3.N 49699 (makeC 1 X3.A.id X3.A.chal ⟨#[104]⟩) from rfl] at p12
              generalize makeC 1 X3.A.id X3.A.chal ⟨#[104]⟩=pc at gC lC sC iC p12 ⊢
              refine Cal.mk p12 ?_
              rintro _ _ ⟨⟨t13,rfl⟩,rfl⟩ -
              simp (maxSteps:=3000000) only [go_sem,↓reduceIte]
              refine Cal.mk (r15Parse_v gC (by omega)) ?_
              rintro _ _ ⟨⟨t14,rfl⟩,rfl⟩ -
              have d18:decide (((18:Nat):Int) < 17)=false:=rfl
              simp (maxSteps:=3000000) only [go_sem,↓reduceIte,Ctl.v,bs_len,lC,d18,sC,iC]
              refine ⟨allSz_bs _,?_⟩
              refine Cal.mk (law39Response_v L12.ai.1 L12.ai.2 hA2 hA1 z1 z2) ?_
              rintro _ _ ⟨⟨t15,rfl⟩,rfl⟩ -
              have hget:aget nm [(nm,key)]=some key:=by simp [aget]
              have lt3:=linkTakeC_v (now:=1) (tk:=.no) S12.T hget z2 z1 L12 es3 hA1 hA2 hA3 hA4 hA5 (by decide) (by decide)
              obtain ⟨f3,hf3⟩:∃ f,f=frOf X3.N 49699 ⟨3,X3.A.id,[]⟩:=⟨_,rfl⟩
              rw [show Ot.zero.chapIn X3 nm=⟨[f3],true,nm,false⟩ by rw [hf3]; rfl] at lt3
              have vl:(valueC X3.A.id key X3.A.chal).length=16:=md5M_len
              have gV:(makeC 2 X3.A.id (valueC X3.A.id key X3.A.chal) nm).Good:=by
                have nbl:=bytesOf_len nm
                refine ⟨by show (0:Int)≤2; decide,by show (2:Int) < 256; decide,L12.ai.1,L12.ai.2,?_,?_⟩
                · intro y hy
                  rcases List.mem_cons.1 hy with rfl | hy
                  · rw [vl]; decide
                  · exact ((md5M_isB:IsB (valueC X3.A.id key X3.A.chal)).append (bytesOf_isB nm)) y hy
                · show ((_:Int) :: (valueC X3.A.id key X3.A.chal ++ bytesOf nm)).length≤1000000
                  simp only [List.length_cons,List.length_append,vl]; omega
              have lV:(makeC 2 X3.A.id (valueC X3.A.id key X3.A.chal) nm).data.length≤60000:=by
                have nbl:=bytesOf_len nm
                show ((_:Int) :: (valueC X3.A.id key X3.A.chal ++ bytesOf nm)).length≤60000
                simp only [List.length_cons,List.length_append,vl]; omega
              have pk2:=law40Packet_v (st:=s12) (tk:=t15) (.inr (.inl rfl)) gV lV
              generalize makeC 2 X3.A.id (valueC X3.A.id key X3.A.chal) nm=pv at lt3 pk2 ⊢
              generalize buildC pv=bv at lt3 pk2
              simp (maxSteps:=3000000) only [go_sem,↓reduceIte,Ctl.v]
              refine Cal.mk pk2 ?_
              rintro _ _ ⟨rfl,rfl⟩ -
              simp (maxSteps:=3000000) only [go_sem,↓reduceIte]
              refine Cal.mk lt3 ?_
              rintro _ s13 ⟨⟨t16,rfl⟩,L13,T13⟩ -
              have k13:(X3.chapIn 1 nm).asked=true:=rfl
              have s13':(X3.chapIn 1 nm).N.s=9:=es3
              generalize X3.chapIn 1 nm=X4 at L13 k13 s13'
              have es:=i_start x
              have e5:(ipNew 1 ⟨x,0,0⟩).start ipU 1=(iM1 x,⟨[iP1],false,false,false⟩):=Prod.ext rfl es
              have giP:iP1.Good:=⟨by decide,by decide,by decide,by decide,buildO_isB (optsA_good _),by decide⟩
              have lg:=linkGrant_v (now:=1) (x:=x) L13 k13 x0 x1 (by decide) (by decide) (by rw [e5]) (by rw [e5]; intro y hy; simp only [List.mem_singleton] at hy; rw [hy]; exact giP)
              rw [e5] at lg
              simp (maxSteps:=3000000) only [go_sem,↓reduceIte,otC]
              have lg:VCalls Tryz.prog 17 [ptrV l,.sc (.int .i64 1),.sc (.int .u32 x)] s13 fun r s=>∃ ai ni qi,(∃ t,r=.agg (otC t .nil ⟨[frOf X4.N 32801 iP1],false,⟨#[]⟩,false⟩ []))∧LkI (.map (some mb)) (.pointer (some ⟨ai,0,none⟩)) ⟨#[104]⟩ a n q d u l 2 s { X4 with lease:=x }∧IpI ai ni qi 0 s (iM1 x)∧Tn [l] s13 s∧s13.sz≤ai∧s13.sz≤ni∧s13.sz≤qi:=lg
              refine Cal.mk lg ?_
              rintro _ s14 ⟨ai,ni,qi,⟨t17,rfl⟩,L14,M14,T14,b1,b2,b3⟩ -
              have hlow:=L13.lt T13.lt
              have hli:∀ b ∈ l :: u :: a :: n :: [q,d],b ∉ ni :: [qi]:=fun b hb hm=>by
                have:=hlow b hb
                simp only [List.mem_cons,List.not_mem_nil,or_false] at hm
                rcases hm with hm | hm <;> omega
              have hX5:({ X4 with lease:=x }:Lk).N.s=9:=s13'
              have hX5N:({ X4 with lease:=x }:Lk).N=X4.N:=rfl
              generalize ({ X4 with lease:=x }:Lk)=X5 at L14 hX5 hX5N
              have ak2:=law40Ack_v (st:=s14) (tk:=.no) (bare:=decide (X4.N.s=9) && X4.N.r.g.acfc) (short:=decide (X4.N.s=9) && X4.N.r.g.pfc) (.inr (.inr rfl)) giP (by decide)
              rw [show buildFr 32801 (buildC iP1) (decide (X4.N.s=9) && X4.N.r.g.acfc) (decide (X4.N.s=9) && X4.N.r.g.pfc)=frOf X4.N 32801 iP1 from rfl,show (⟨2,iP1.id,iP1.data⟩:Ctl)=⟨2,1,iP1.data⟩ from rfl] at ak2
              have giA:(⟨2,1,iP1.data⟩:Ctl).Good:=⟨by show (0:Int)≤2; decide,by show (2:Int) < 256; decide,giP.i0,giP.i1,giP.b,giP.l⟩
              have e6:(iM1 x).take ipU 7 1 ⟨2,1,iP1.data⟩=(iM2 x,⟨[],false,false,false⟩):=Prod.ext rfl (i_ack x)
              have lt4:=linkTakeI_v (now:=1) (tk:=.no) giA (by decide) L14 M14 hli hX5 (by decide) (by rw [e6]) (by rw [e6]; intro y hy; cases hy) (by decide) (by decide)
              rw [e6] at lt4
              generalize frOf X4.N 32801 iP1=f4 at ak2 ⊢
              generalize buildFr 32801 (buildC ⟨2,1,iP1.data⟩) false false=f5 at ak2 lt4
              simp (maxSteps:=3000000) only [go_sem,↓reduceIte,otC,hp1,d1]
              refine Cal.mk ak2 ?_
              rintro _ _ ⟨rfl,rfl⟩ -
              simp (maxSteps:=3000000) only [go_sem,↓reduceIte]
              refine Cal.mk lt4 ?_
              rintro _ s15 ⟨⟨t18,rfl⟩,L15,M15,T15⟩ -
              simp only at M15
              have gx:(⟨x,0,0⟩:AW).Good:=⟨x0,x1,Int.le_refl 0,(by decide:(0:Int) < 4294967296),Int.le_refl 0,(by decide:(0:Int) < 4294967296)⟩
              have ro:=r35Options_v (st:=s15) gx
              unfold AW.cells at ro
              simp only at ro
              have lo:=optsA_len ⟨x,0,0⟩
              have go:=optsA_good ⟨x,0,0⟩
              obtain ⟨i1,i2,i3,i4⟩:=i_req cx x0 x1
              have giR:(iReq x).Good:=⟨by show (0:Int)≤1; decide,by show (1:Int) < 256; decide,by show (0:Int)≤1; decide,by show (1:Int) < 256; decide,buildO_isB go,by have:=buildO_len (optsA ⟨x,0,0⟩); show (buildO (optsA ⟨x,0,0⟩)).length≤1000000; omega⟩
              have lR2:(iReq x).data.length≤60000:=by have:=buildO_len (optsA ⟨x,0,0⟩); show (buildO (optsA ⟨x,0,0⟩)).length≤60000; omega
              have giQ:∀ y ∈ ((iM2 x).take ipU 7 1 (iReq x)).2.P,y.Good:=fun y hy=>by
                rw [i4] at hy
                simp only [List.mem_singleton] at hy
                rw [hy]
                have g3:GoodO [(3,beL x 4)]:=.one (by show (0:Int)≤3; decide) (by show (3:Int) < 256; decide) (beL_isB _ _) (by rw [beL_len]; decide)
                exact ⟨by show (0:Int)≤2; decide,by show (2:Int) < 256; decide,by show (0:Int)≤1; decide,by show (1:Int) < 256; decide,buildO_isB g3,by have:=buildO_len [(3,beL x 4)]; show (buildO [(3,beL x 4)]).length≤1000000; simp only [List.length_cons,List.length_nil] at this; omega⟩
              have lt5:=linkTakeI_v (now:=1) (tk:=.no) giR lR2 L15 M15 hli hX5 (by decide) i2 giQ (by decide) (by decide)
              rw [i1] at lt5
              have pk3:=law40Packet_v (st:=s15) (tk:=.no) (.inr (.inr rfl)) giR lR2
              have rb2:=r10Build_v (st:=s15) (tk:=.no) go (by omega)
              simp (maxSteps:=3000000) only [go_sem,↓reduceIte]
              refine Cal.mk ro ?_
              rintro _ _ ⟨rfl,rfl⟩ -
              simp (maxSteps:=3000000) only [go_sem,↓reduceIte]
              refine Cal.mk rb2 ?_
              rintro _ _ ⟨rfl,rfl⟩ -
              simp (maxSteps:=3000000) only [go_sem,↓reduceIte]
              refine Cal.mk pk3 ?_
              rintro _ _ ⟨rfl,rfl⟩ -
              simp (maxSteps:=3000000) only [go_sem,↓reduceIte]
              refine Cal.mk lt5 ?_
              rintro _ s16 ⟨⟨t19,rfl⟩,L16,M16,T16⟩ -
              simp (maxSteps:=3000000) only [go_sem,↓reduceIte,otC,Bool.or_true]
              refine Cal.mk (linkOpen_v L16 M16) ?_
              rintro _ _ ⟨rfl,rfl⟩ -
              simp (maxSteps:=3000000) only [go_sem,↓reduceIte,i3]
              refine Cal.mk law40Alive_v ?_
              rintro _ _ ⟨rfl,rfl⟩ -
              simp (maxSteps:=3000000) only [go_sem,↓reduceIte]
              exact ⟨_,_,Wk.refl _,T16.lt.weak,rfl⟩
end
end
section
open Go Go.RowKit
def Pure (w:World) (v:Value) (e:Ending) (w':World):Prop:=e=.returned v∧Below w.heap.size w w'
theorem lt_of_cell {w:World} {a:Addr} {v:Value} (h:w.cell? a=some v):a.block < w.heap.size:=by
  rcases Nat.lt_or_ge a.block w.heap.size with hlt | hge
  · exact hlt
  · simp [World.cell?,Array.getElem?_eq_none hge] at h
theorem keep_cell {w w1:World} {a:Addr} {v:Value} (h:w.cell? a=some v) (hb:Below w.heap.size w w1):w1.cell? a=some v:=(hb.cell (lt_of_cell h)).trans h
structure More where
  blocks:List Obj
  count:Nat
instance:Nonempty More:=⟨⟨[],0⟩⟩
def ext (w:World) (e:More):World:={ w with heap:=w.heap ++ e.blocks.toArray,drawn:=e.count }
def Holds (w:World) (L:List (Addr × Value)):Prop:=∀ p ∈ L,w.cell? p.1=some p.2
theorem Holds.keep {w w1:World} {L:List (Addr × Value)} (h:Holds w L) (hb:Below w.heap.size w w1):Holds w1 L:=fun p hp=>keep_cell (h p hp) hb
theorem Holds.cons {w:World} {a:Addr} {v:Value} {L:List (Addr × Value)}:Holds w ((a,v) :: L) ↔ w.cell? a=some v∧Holds w L:=by
  simp [Holds]
theorem Holds.nil {w:World}:Holds w [] ↔ True:=by simp [Holds]
theorem Holds.append {w:World} {L M:List (Addr × Value)} (h:Holds w L) (h':Holds w M):Holds w (L ++ M):=by
  intro p hp
  rcases List.mem_append.1 hp with hp | hp
  · exact h p hp
  · exact h' p hp
def elemL (b o:Nat):List Value→List (Addr × Value)
  | []=>[]
  | v :: cs=>(⟨b,o,none⟩,v) :: elemL b (o + 1) cs
theorem elemL_holds {w:World} {b:Nat}:∀ (cs:List Value) (o:Nat),(∀ j v,cs[j]?=some v→w.cell? ⟨b,o + j,none⟩=some v)→Holds w (elemL b o cs)
  | [],_,_=>by simp [elemL,Holds]
  | v :: cs,o,h=>by
    rw [elemL,Holds.cons]
    refine ⟨by simpa using h 0 v rfl,elemL_holds cs (o + 1) fun j u hu=>?_⟩
    rw [show o + 1 + j=o + (j + 1) from by omega]
    exact h (j + 1) u (by simpa using hu)
end
section
open Go Go.RowKit Go.ChangeShapes Go.WideShapes Go.Deep
section
variable {H:Type} {enc:TypeId × Value→H} {P:Program} {w:World} {base:Nat} {spare:Nat→Bool} {held:Bool} {fuel:Nat} {t:TypeId} {cs:List Value} {x:DataW H × List MemPlace}
theorem trod_len {fs:Array Field} (ht:P.underlying t=some (.struct fs)) (h:DataW.trod enc P w base spare held fuel t cs=some x):cs.length=P.cellsOf t:=by
  obtain ⟨_,_,_,_,hl,_⟩:=DataW.trod_struct ht h
  exact hl
theorem trod_field {fs:Array Field} (ht:P.underlying t=some (.struct fs)) (h:DataW.trod enc P w base spare held fuel t cs=some x) (j:Nat) (f:Field) (hj:fs[j]?=some f) :
    ∃ n y,DataW.trod enc P w base spare held n f.type ((cs.drop f.offset).take (P.cellsOf f.type))=some y:=by
  obtain ⟨xs,n,_,_,_,hlen,hf⟩:=DataW.trod_struct ht h
  have h1:=hf j f hj
  have hjl:j < xs.length:=by rw [hlen]; exact (Array.getElem?_eq_some_iff.1 hj).1
  exact ⟨n,xs[j],h1.trans (List.getElem?_eq_getElem hjl)⟩
theorem open_struct {r:Reach} {b0:Nat} {v:Value} {d:DataW H} {p:List MemPlace} {fs:Array Field} (ht:P.underlying t=some (.struct fs)) (hv:Value.okWide P w r b0 t v) (h:DataW.Trod enc P w base spare held t v d p) :
    ∃ (cs:List Value) (fuel:Nat),v=.agg cs.toArray∧DataW.trod enc P w base spare held fuel t cs=some (d,p):=by
  obtain ⟨cs,rfl,_⟩:=okWide_struct ht hv
  obtain ⟨fuel,hf⟩:=h
  exact ⟨cs.toList,fuel,rfl,hf⟩
theorem list_of {α:Type} {Q:Nat→α→Prop}:∀ (n:Nat),(∀ i,i < n→∃ r,Q i r)→∃ l:List α,l.length=n∧∀ (i:Nat) (r:α),l[i]?=some r→Q i r
  | 0,_=>⟨[],rfl,by simp⟩
  | n + 1,h=>by
    obtain ⟨l,hl,hq⟩:=list_of n (fun i hi=>h i (by omega))
    obtain ⟨r,hr⟩:=h n (by omega)
    refine ⟨l ++ [r],by simp [hl],fun i r' hi=>?_⟩
    rw [List.getElem?_append] at hi
    split at hi
    · exact hq i r' hi
    · rename_i hge
      obtain rfl:i=n:=by
        have:=(List.getElem?_eq_some_iff.1 hi).1
        simp at this
        omega
      simp [hl] at hi
      subst hi
      exact hr
theorem open_elems {e:TypeId} {size:Nat} {v:Value} (ht:P.underlying t=some (.slice e)) (hc:P.cellsOf e=size) (hs:0 < size) (h:DataW.trod enc P w base spare held fuel t [v]=some x) :
    ∃ A len cap,v=.slice A len cap∧len≤cap∧cap≤maxLen∧(A=none→len=0∧cap=0) ∧
      ∀ i,i < len→∃ b o cs n y,A=some ⟨b,o,none⟩∧cs.length=size∧Holds w (elemL b (o + i * size) cs)∧DataW.trod enc P w base spare held n e cs=some y:=by
  rcases open_slice ht h with ⟨e1,_⟩ | ⟨a,len,cap,m,n,D,Pl,e1,hb,hl,hm,hmm,_,hi⟩
  · cases e1
    exact ⟨none,0,0,rfl,by omega,by omega,fun _=>⟨rfl,rfl⟩,fun i hi=>by omega⟩
  · cases e1
    refine ⟨some a,len,cap,rfl,hl,hm,(by intro h; cases h),fun i hil=>?_⟩
    obtain ⟨cs',hcs,ht'⟩:=hi i (by rw [hmm]; split <;> omega)
    rw [hc] at hcs
    obtain ⟨_,hlen,hcell⟩:=World.cells?_some hcs
    have h0:=hcell 0 hs
    have hlt0:0 < cs'.length:=by omega
    rw [List.getElem?_eq_getElem hlt0] at h0
    have hspot:=World.cell?_spot h0
    obtain ⟨b,o,sp⟩:=a
    have hsp:sp=none:=by
      by_cases hz:i * size=0
      · simpa [Addr.add,hz] using hspot
      · rcases Nat.eq_zero_or_pos i with h0' | h0'
        · simp [h0'] at hz
        · obtain ⟨cs0,hcs0,_⟩:=hi 0 (by rw [hmm]; split <;> omega)
          rw [hc] at hcs0
          obtain ⟨_,hlen0,hcell0⟩:=World.cells?_some hcs0
          have h00:=hcell0 0 hs
          rw [List.getElem?_eq_getElem (by omega)] at h00
          simpa [Addr.add] using World.cell?_spot h00
    subst hsp
    refine ⟨b,o,cs',n,_,rfl,hlen,elemL_holds _ _ fun j u hu=>?_,ht'⟩
    have hj:j < size:=by have:=(List.getElem?_eq_some_iff.1 hu).1; omega
    have:=(hcell j hj).trans hu
    have ea:((⟨b,o,none⟩:Addr).add (i * size)).add j=⟨b,o + i * size + j,none⟩:=by
      unfold Addr.add
      by_cases h1:i * size=0 <;> by_cases h2:j=0 <;> simp [h1,h2]
    rwa [ea] at this
end
structure ArgIn {H:Type} (enc:TypeId × Value→H) (P:Program) (W:World) (base:Nat) (t:TypeId) (v:Value) (d:DataW H) (p:List MemPlace):Prop where
  wide:Value.okWide P W .any base t v
  trod:DataW.Trod enc P W 0 (fun _=>true) true t v d p
section
variable {H:Type} {enc:TypeId × Value→H} {P:Program} {W:World} {base:Nat} {t:TypeId} {v:Value} {d:DataW H} {p:List MemPlace}
theorem ArgIn.slice {e:TypeId} (h:ArgIn enc P W base t v d p) (ht:P.underlying t=some (.slice e)) :
    ∃ A l c fuel,v=.slice A l c∧DataW.trod enc P W 0 (fun _=>true) true fuel t [.slice A l c]=some (d,p):=by
  obtain ⟨A,l,c,rfl⟩:=okWide_slice ht h.wide
  obtain ⟨fuel,hf⟩:=h.trod
  exact ⟨A,l,c,fuel,rfl,hf⟩
theorem ArgIn.struct {fs:Array Field} (h:ArgIn enc P W base t v d p) (ht:P.underlying t=some (.struct fs)) :
    ∃ (cs:List Value) (fuel:Nat),v=.agg cs.toArray∧DataW.trod enc P W 0 (fun _=>true) true fuel t cs=some (d,p) :=
  open_struct ht h.wide h.trod
theorem ArgIn.int {k:IntKind} (h:ArgIn enc P W base t v d p) (ht:P.underlying t=some (.int k)):∃ n,v=.int k n∧(Lit.int k n).wf=true:=by
  obtain ⟨n,rfl,_,_,hw⟩:=open_int ht h.wide h.trod
  exact ⟨n,rfl,hw⟩
theorem ArgIn.bool (h:ArgIn enc P W base t v d p) (ht:P.underlying t=some .bool):∃ b,v=.bool b:=by
  obtain ⟨b,rfl,_⟩:=open_bool ht h.wide h.trod
  exact ⟨b,rfl⟩
theorem ArgIn.string (h:ArgIn enc P W base t v d p) (ht:P.underlying t=some .string):∃ s:ByteArray,v=.string s∧s.size≤maxLen:=by
  obtain ⟨s,rfl,_,_,hs⟩:=Go.ChangeMaps.open_string ht h.wide h.trod
  exact ⟨s,rfl,hs⟩
end
end
section
open Go Go.RowKit Go.ChangeShapes Go.WideShapes Go.Deep
theorem elemL_get {w:World} {b:Nat}:∀ {cs:List Value} {o:Nat} (_:Holds w (elemL b o cs)) {j:Nat} {v:Value} (_:cs[j]?=some v),w.cell? ⟨b,o + j,none⟩=some v
  | [],_,_,_,_,h=>by simp at h
  | c :: cs,o,hh,j,v,h=>by
    rw [elemL,Holds.cons] at hh
    cases j with
    | zero=>simp at h; subst h; exact hh.1
    | succ j=>rw [show o + (j + 1)=o + 1 + j by omega]; exact elemL_get hh.2 (by simpa using h)
inductive Sh where
  | int (k:IntKind)
  | bool
  | str
  | sl (s:Sh)
  | st (l:List Sh)
def shFields (P:Program) (g:TypeId→Option Sh):Nat→List Field→Option (List Sh)
  | _,[]=>some []
  | o,f :: fs=>if f.offset=o then do
      let s ← g f.type
      let l ← shFields P g (o + P.cellsOf f.type) fs
      pure (s :: l)
    else none
def fieldsEnd (P:Program):Nat→List Field→Nat
  | o,[]=>o
  | o,f :: fs=>fieldsEnd P (o + P.cellsOf f.type) fs
def shOf (P:Program):Nat→TypeId→Option Sh
  | 0,_=>none
  | n + 1,t=>match P.underlying t with
    | some (.int k)=>if P.cellsOf t=1 then some (.int k) else none
    | some .bool=>if P.cellsOf t=1 then some .bool else none
    | some .string=>if P.cellsOf t=1 then some .str else none
    | some (.slice e)=>if P.cellsOf t=1∧0 < P.cellsOf e then (shOf P n e).map .sl else none
    | some (.struct fs)=>if fieldsEnd P 0 fs.toList=P.cellsOf t then (shFields P (shOf P n) 0 fs.toList).map .st else none
    | some (.array k e)=>if k * P.cellsOf e=P.cellsOf t then (shOf P n e).map fun s=>.st (List.replicate k s) else none
    | _=>none
def Sh.pack:Sh→List V→V
  | .st _,ds=>.agg ds
  | _,d :: _=>d
  | _,[]=>.und
mutual
inductive Sh.Has:Sh→List V→Prop where
  | int (k:IntKind) (n:Int) (h:(Lit.int k n).wf=true):Sh.Has (.int k) [.sc (.int k n)]
  | bool (b:Bool):Sh.Has .bool [.sc (.bool b)]
  | str (s:ByteArray) (h:s.size≤maxLen):Sh.Has .str [.sc (.string s)]
  | sl (s:Sh) (l:List V) (h:Sh.Hasl s l):Sh.Has (.sl s) [.sl .no l]
  | st (l:List Sh) (ds:List V) (h:Sh.Hass l ds):Sh.Has (.st l) ds
inductive Sh.Hasl:Sh→List V→Prop where
  | nil (s:Sh):Sh.Hasl s []
  | cons (s:Sh) (ds l:List V) (h:Sh.Has s ds) (k:Sh.Hasl s l):Sh.Hasl s (s.pack ds :: l)
inductive Sh.Hass:List Sh→List V→Prop where
  | nil:Sh.Hass [] []
  | cons (s:Sh) (l:List Sh) (a b:List V) (h:Sh.Has s a) (k:Sh.Hass l b):Sh.Hass (s :: l) (a ++ b)
end
theorem hasl_of {s:Sh}:∀ (l:List V),(∀ d,d ∈ l→∃ ds,d=s.pack ds∧Sh.Has s ds)→Sh.Hasl s l
  | [],_=>.nil s
  | d :: l,h=>by
    obtain ⟨ds,rfl,hd⟩:=h d (List.mem_cons_self ..)
    exact .cons s ds l hd (hasl_of l fun e he=>h e (List.mem_cons_of_mem _ he))
def ghOf (w:World):Gh:=⟨fun b o=>w.cell? ⟨b,o,none⟩,fun _=>none⟩
def RepR (G:Gh) (ds:List V) (cs:List Value):Prop:=ds.length=cs.length∧(∀ v ∈ cs,v.oneCell'=true)∧(∀ (i:Nat) (d:V) (v:Value),ds[i]?=some d→cs[i]?=some v→Rep1 G d v)∧∀ d ∈ ds,d.cells=[d]
theorem RepR.one {G:Gh} {d:V} {v:Value} (h:Rep1 G d v) (h1:v.oneCell'=true) (h2:d.cells=[d]):RepR G [d] [v] :=
  ⟨rfl,by simpa using h1,fun i d' v' hd hv=>by
    cases i with
    | zero=>simp at hd hv; subst hd hv; exact h
    | succ i=>simp at hd,by simpa using h2⟩
theorem RepR.append {G:Gh} {a b:List V} {c d:List Value} (h:RepR G a c) (k:RepR G b d):RepR G (a ++ b) (c ++ d) :=
  ⟨by simp [h.1,k.1],fun v hv=>by
    rcases List.mem_append.1 hv with h' | h'
    · exact h.2.1 v h'
    · exact k.2.1 v h',fun i x v hx hv=>by
    rw [List.getElem?_append] at hx hv
    rw [← h.1] at hv
    split at hx
    · rename_i hlt
      rw [if_pos hlt] at hv
      exact h.2.2.1 i x v hx hv
    · rename_i hlt
      rw [if_neg hlt] at hv
      exact k.2.2.1 _ x v hx hv,fun x hx=>by
    rcases List.mem_append.1 hx with h' | h'
    · exact h.2.2.2 x h'
    · exact k.2.2.2 x h'⟩
theorem pack_cells {s:Sh} {ds:List V} (h:s.Has ds) (hc:∀ d ∈ ds,d.cells=[d]):(s.pack ds).cells=ds:=by
  cases h with
  | int=>rfl
  | bool=>rfl
  | str=>rfl
  | sl=>rfl
  | st=>rfl
section
variable {H:Type} {enc:TypeId × Value→H} {P:Program} {w:World} {base:Nat} {spare:Nat→Bool} {held:Bool}
theorem open_sh:∀ (n:Nat) {t:TypeId} {s:Sh} (_:shOf P n t=some s) {fuel:Nat} {cs:List Value} {x:DataW H × List MemPlace} (_:DataW.trod enc P w base spare held fuel t cs=some x),
    ∃ ds,s.Has ds∧RepR (ghOf w) ds cs∧cs.length=P.cellsOf t
  | 0,_,_,hs,_,_,_,_=>by simp [shOf] at hs
  | n + 1,t,s,hs,fuel,cs,x,h=>by
    unfold shOf at hs
    split at hs
    · rename_i k hu
      split at hs
      · rename_i hc
        cases hs
        obtain ⟨m,rfl,_,hw⟩:=DataW.trod_int hu h
        exact ⟨_,.int k m hw,.one (.sc _ rfl) rfl rfl,by rw [hc]; rfl⟩
      · cases hs
    · rename_i hu
      split at hs
      · rename_i hc
        cases hs
        obtain ⟨m,rfl,_⟩:=DataW.trod_bool hu h
        exact ⟨_,.bool m,.one (.sc _ rfl) rfl rfl,by rw [hc]; rfl⟩
      · cases hs
    · rename_i hu
      split at hs
      · rename_i hc
        cases hs
        obtain ⟨m,rfl,_,hm⟩:=DataW.trod_string hu h
        exact ⟨_,.str m hm,.one (.sc _ rfl) rfl rfl,by rw [hc]; rfl⟩
      · cases hs
    · rename_i e hu
      split at hs
      · rename_i hc
        obtain ⟨s',hs',rfl⟩:=Option.map_eq_some_iff.1 hs
        have hlen1:∃ v,cs=[v]:=by
          rcases DataW.trod_slice hu h with ⟨rfl,_⟩ | ⟨a,len,cap,_,_,_,_,rfl,_⟩
          · exact ⟨_,rfl⟩
          · exact ⟨_,rfl⟩
        obtain ⟨v,rfl⟩:=hlen1
        obtain ⟨A,len,cap,rfl,hle,hm,hA,hel⟩:=open_elems hu rfl hc.2 h
        obtain ⟨l,hl,hq⟩:=list_of (Q:=fun i (p:V × List Value)=>∃ b o,A=some ⟨b,o,none⟩∧p.2.length=P.cellsOf e∧Holds w (elemL b (o + i * P.cellsOf e) p.2)∧∃ ds,p.1=s'.pack ds∧s'.Has ds∧RepR (ghOf w) ds p.2) len (fun i hi=>by
          obtain ⟨b,o,cs',n',y,hA',hlen,hh,ht⟩:=hel i hi
          obtain ⟨ds,k1,k2,k3⟩:=open_sh n hs' ht
          exact ⟨(s'.pack ds,cs'),b,o,hA',hlen,hh,ds,rfl,k1,k2⟩)
        refine ⟨[.sl .no (l.map (·.1))],.sl s' _ (hasl_of _ fun d hd=>?_),.one ?_ rfl rfl,by rw [hc.1]; rfl⟩
        · obtain ⟨p,hp,rfl⟩:=List.mem_map.1 hd
          obtain ⟨i,hi,rfl⟩:=List.mem_iff_getElem.1 hp
          obtain ⟨_,_,_,_,_,ds,k1,k2,_⟩:=hq i _ (List.getElem?_eq_getElem hi)
          exact ⟨ds,k1,k2⟩
        · cases A with
          | none =>
            obtain ⟨rfl,rfl⟩:=hA rfl
            obtain rfl:=List.eq_nil_of_length_eq_zero hl
            exact .nil .no (fun g k e=>by cases e)
          | some a =>
            by_cases h0:len=0
            · subst h0
              obtain rfl:=List.eq_nil_of_length_eq_zero hl
              exact .emp a cap hm
            · obtain ⟨b,o,_,_,_,hA',_⟩:=hel 0 (by omega)
              cases hA'
              have hlm:len=(l.map (·.1)).length:=by simp [hl]
              rw [hlm]
              refine .sl .no _ b o (P.cellsOf e) cap (fun i j=>((l[i]?.map (·.2)).getD []).getD j default) (fun i d hd=>?_) (fun i j hi hj=>?_) (fun i j hi hj=>?_) (fun i d j c hd hc'=>?_) (by simp; omega) hm (by simp) (fun g k e=>by cases e)
              · rw [List.getElem?_map] at hd
                obtain ⟨p,hp,rfl⟩:=Option.map_eq_some_iff.1 hd
                obtain ⟨_,_,_,k1,_,ds,k2,k3,k4⟩:=hq i p hp
                rw [k2,pack_cells k3 k4.2.2.2,k4.1,k1]
              · obtain ⟨p,hp⟩:∃ p,l[i]?=some p:=⟨_,List.getElem?_eq_getElem (by simpa using hi)⟩
                obtain ⟨b',o',e',k1,k0,ds,k2,k3,k4⟩:=hq i p hp
                cases e'
                have hj':j < p.2.length:=by omega
                simp only [hp,Option.map_some,Option.getD_some,ghOf]
                have:=elemL_get k0 (List.getElem?_eq_getElem hj')
                rw [this]
                simp [List.getD,hj']
              · obtain ⟨p,hp⟩:∃ p,l[i]?=some p:=⟨_,List.getElem?_eq_getElem (by simpa using hi)⟩
                obtain ⟨b',o',e',k1,k0,ds,k2,k3,k4⟩:=hq i p hp
                have hj':j < p.2.length:=by omega
                simp only [hp,Option.map_some,Option.getD_some]
                simp only [List.getD,List.getElem?_eq_getElem hj',Option.getD_some]
                exact k4.2.1 _ (List.getElem_mem hj')
              · rw [List.getElem?_map] at hd
                obtain ⟨p,hp,rfl⟩:=Option.map_eq_some_iff.1 hd
                obtain ⟨_,_,_,k1,_,ds,k2,k3,k4⟩:=hq i p hp
                rw [k2,pack_cells k3 k4.2.2.2] at hc'
                have hj':j < p.2.length:=by rw [← k4.1]; exact (List.getElem?_eq_some_iff.1 hc').1
                simp only [hp,Option.map_some,Option.getD_some]
                simp only [List.getD,List.getElem?_eq_getElem hj',Option.getD_some]
                exact k4.2.2.1 j c _ hc' (List.getElem?_eq_getElem hj')
      · cases hs
    · rename_i fs hu
      split at hs
      · rename_i hend
        obtain ⟨ss,hss,rfl⟩:=Option.map_eq_some_iff.1 hs
        have hl:=trod_len hu h
        have key:∀ (gs:List Field) (j0 o:Nat) (ss:List Sh),(∀ i f,gs[i]?=some f→fs[j0 + i]?=some f)→shFields P (shOf P n) o gs=some ss→fieldsEnd P o gs=cs.length →
            ∃ ds,Sh.Hass ss ds∧RepR (ghOf w) ds (cs.drop o):=by
          intro gs
          induction gs with
          | nil =>
            intro j0 o ss _ hss he
            simp only [shFields,Option.some.injEq] at hss
            subst hss
            simp only [fieldsEnd] at he
            exact ⟨[],.nil,by rw [List.drop_of_length_le (by omega)]; exact ⟨rfl,by simp,by simp,by simp⟩⟩
          | cons f gs ih =>
            intro j0 o ss hg hss he
            simp only [shFields] at hss
            split at hss
            · rename_i hof
              simp only [Option.bind_eq_bind,Option.bind_eq_some_iff] at hss
              obtain ⟨s0,h0,ss',h1,h2⟩:=hss
              cases h2
              simp only [fieldsEnd] at he
              obtain ⟨ds',k1,k2⟩:=ih (j0 + 1) _ ss' (fun i g hi=>by rw [show j0 + 1 + i=j0 + (i + 1) by omega]; exact hg (i + 1) g (by simpa using hi)) h1 he
              obtain ⟨m,y,hy⟩:=trod_field hu h j0 f (by simpa using hg 0 f rfl)
              rw [hof] at hy
              obtain ⟨ds0,q1,q2,q3⟩:=open_sh n h0 hy
              refine ⟨ds0 ++ ds',.cons _ _ _ _ q1 k1,?_⟩
              have:=q2.append k2
              rwa [← List.drop_drop,List.take_append_drop] at this
            · cases hss
        obtain ⟨ds,k1,k2⟩:=key fs.toList 0 0 ss (fun i f hf=>by simpa using hf) hss (by rw [hend,hl])
        exact ⟨ds,.st _ _ k1,by simpa using k2,hl⟩
      · cases hs
    · rename_i k e hu
      split at hs
      · rename_i hend
        obtain ⟨s',hs',rfl⟩:=Option.map_eq_some_iff.1 hs
        obtain ⟨xs,m,_,_,hl,hxl,hget⟩:=DataW.trod_array hu h
        have key:∀ (j i:Nat),i + j=k→∃ ds,Sh.Hass (List.replicate j s') ds∧RepR (ghOf w) ds (cs.drop (i * P.cellsOf e)):=by
          intro j
          induction j with
          | zero =>
            intro i hij
            refine ⟨[],.nil,?_⟩
            have:i=k:=by omega
            subst this
            rw [List.drop_of_length_le (by omega)]
            exact ⟨rfl,by simp,by simp,by simp⟩
          | succ j ih =>
            intro i hij
            obtain ⟨ds',k1,k2⟩:=ih (i + 1) (by omega)
            have hlt:i < xs.length:=by omega
            have hy:=hget i (by omega)
            rw [List.getElem?_eq_getElem hlt] at hy
            obtain ⟨ds0,q1,q2,q3⟩:=open_sh n hs' hy
            refine ⟨ds0 ++ ds',.cons _ _ _ _ q1 k1,?_⟩
            have:=q2.append k2
            rwa [Nat.add_mul,Nat.one_mul,← List.drop_drop,List.take_append_drop] at this
        obtain ⟨ds,k1,k2⟩:=key k 0 (by omega)
        exact ⟨ds,.st _ _ k1,by simpa using k2,hl⟩
      · cases hs
    · cases hs
theorem RepR.agg {G:Gh} {ds:List V} {cs:List Value} (h:RepR G ds cs):Rep1 G (.agg ds) (.agg cs.toArray) :=
  .agg ds _ (by simp [h.1]) (fun i v hv=>h.2.1 v (List.mem_of_getElem? (by simpa using hv))) (fun i c v hc hv=>h.2.2.1 i c v hc (by simpa using hv))
theorem RepR.head {G:Gh} {d:V} {v:Value} (h:RepR G [d] [v]):Rep1 G d v:=h.2.2.1 0 d v rfl rfl
theorem arg_sh {W:World} (n:Nat) {t:TypeId} {s:Sh} {v:Value} {d:DataW H} {p:List MemPlace} (hs:shOf P n t=some s) (h:ArgIn enc P W base t v d p):∃ ds,s.Has ds∧Rep1 (ghOf W) (s.pack ds) v:=by
  cases n with
  | zero=>simp [shOf] at hs
  | succ n =>
  have hs0:=hs
  unfold shOf at hs
  split at hs
  · rename_i k hu
    split at hs
    · cases hs
      obtain ⟨m,rfl,hw⟩:=h.int hu
      exact ⟨_,.int k m hw,.sc _ rfl⟩
    · cases hs
  · rename_i hu
    split at hs
    · cases hs
      obtain ⟨b,rfl⟩:=h.bool hu
      exact ⟨_,.bool b,.sc _ rfl⟩
    · cases hs
  · rename_i hu
    split at hs
    · cases hs
      obtain ⟨b,rfl,hm⟩:=h.string hu
      exact ⟨_,.str b hm,.sc _ rfl⟩
    · cases hs
  · rename_i e hu
    split at hs
    · obtain ⟨s',hs',rfl⟩:=Option.map_eq_some_iff.1 hs
      obtain ⟨A,l,c,fuel,rfl,ht⟩:=h.slice hu
      obtain ⟨ds,k1,k2,_⟩:=open_sh _ hs0 ht
      refine ⟨ds,k1,?_⟩
      cases k1 with
      | sl _ l' h'=>exact k2.head
    · cases hs
  · rename_i fs hu
    split at hs
    · obtain ⟨ss,hss,rfl⟩:=Option.map_eq_some_iff.1 hs
      obtain ⟨cs,fuel,rfl,ht⟩:=h.struct hu
      obtain ⟨ds,k1,k2,_⟩:=open_sh _ hs0 ht
      exact ⟨ds,k1,k2.agg⟩
    · cases hs
  · rename_i k e hu
    split at hs
    · obtain ⟨s',hs',rfl⟩:=Option.map_eq_some_iff.1 hs
      have hwd:=h.wide
      simp only [Value.okWide,hu] at hwd
      obtain ⟨cs,rfl,_⟩:=hwd
      obtain ⟨fuel,ht⟩:=h.trod
      obtain ⟨ds,k1,k2,_⟩:=open_sh _ hs0 ht
      have ha:=k2.agg
      rw [show (Value.agg cs).cells.toList.toArray=cs from by simp [Value.cells]] at ha
      exact ⟨ds,k1,ha⟩
    · cases hs
  · cases hs
end
def st0 (w:World):St:=⟨fun _=>none,fun _=>none,w.heap.size⟩
theorem repW0 (w:World) (hT:Tabs w):RepW (Fr.of w hT) (ghOf w) (st0 w) w :=
  ⟨fun _ _ _ h=>h,fun _ _ h=>(by cases h),fun _ _ h=>(by cases h),fun _ _ h=>(by cases h),Nat.le_refl _,Below.refl _ _,fun _ _ h=>(by cases h)⟩
theorem v_calls {P:Program} {f:FuncId} {args:List V} {us:Array Value} {w:World} (h:VCalls P f args (st0 w) fun r _=>r=.sc (.bool true)) (hl:us.size=args.length)
    (hr:∀ (i:Nat) (d:V) (u:Value),args[i]?=some d→us[i]?=some u→Rep1 (ghOf w) d u) (hT:Tabs w:=by intro _ _ _ h; cases h):Calls P f us w (Pure w (.bool true)) :=
  (h (Fr.of w hT) (ghOf w) w us (repW0 w hT) hl hr).mono fun e w' ⟨u,r,st',G',h1,h2,h3,_,h5⟩=>by
    subst h2
    cases h3
    exact ⟨h1,h5.bel⟩
theorem reps3 {G:Gh} {d e f:V} {u q r:Value} (h:Rep1 G d u) (k:Rep1 G e q) (l:Rep1 G f r):∀ (i:Nat) (x:V) (v:Value),[d,e,f][i]?=some x→#[u,q,r][i]?=some v→Rep1 G x v:=fun i x v hx hv=>by
  match i with
  | 0=>simp at hx hv; subst hx hv; exact h
  | 1=>simp at hx hv; subst hx hv; exact k
  | 2=>simp at hx hv; subst hx hv; exact l
  | i + 3=>simp at hx
end
section
open Go Go.RowKit
theorem own:ownKnob Tryz.prog.godebug=none:=by kernel_rfl
theorem laidOut:laidOutB Tryz.prog=true:=by kernel_rfl
end
section
open Go Go.RowKit
theorem hass_nil {ds:List V} (h:Sh.Hass [] ds):ds=[]:=by cases h; rfl
theorem hass_str {l:List Sh} {ds:List V} (h:Sh.Hass (.str :: l) ds):∃ n b,ds=.sc (.string n) :: b∧n.size≤maxLen∧Sh.Hass l b:=by
  cases h with
  | cons _ _ a b h0 h1 =>
    cases h0 with
    | str n hn=>exact ⟨n,b,rfl,hn,h1⟩
theorem has_st {l:List Sh} {ds:List V} (h:Sh.Has (.st l) ds):Sh.Hass l ds:=by
  cases h with
  | st _ _ h=>exact h
theorem hasl_map {α:Type} {s:Sh} (f:α→V) (ok:α→Prop) (h1:∀ ds,Sh.Has s ds→∃ a,ok a∧s.pack ds=f a):∀ {l:List V},Sh.Hasl s l→∃ L:List α,(∀ a ∈ L,ok a)∧l=L.map f:=by
  intro l
  induction l with
  | nil=>exact fun _=>⟨[],by intro x hx; (cases hx),rfl⟩
  | cons d l ih =>
    intro h
    cases h with
    | cons _ ds _ h k =>
      obtain ⟨L,hB,rfl⟩:=ih k
      obtain ⟨a,ha,e⟩:=h1 ds h
      exact ⟨a :: L,by
          intro x hx
          rcases List.mem_cons.1 hx with rfl | hx
          · exact ha
          · exact hB x hx,by rw [e]; rfl⟩
theorem has_slmap {α:Type} {s:Sh} {f:α→V} {ok:α→Prop} (h1:∀ ds,Sh.Has s ds→∃ a,ok a∧s.pack ds=f a) {ds:List V} (h:Sh.Has (.sl s) ds):∃ L:List α,(∀ a ∈ L,ok a)∧ds=[.sl .no (L.map f)]:=by
  cases h with
  | sl _ l h =>
    obtain ⟨L,hB,rfl⟩:=hasl_map f ok h1 h
    exact ⟨L,hB,rfl⟩
end
end Go.Proofs.YtcoalhgmlbhhmaaGreat
