/- Steps of the proof, joined: VBe, VRef1, VRow, VRef3, VTextLaw, CidrLaw, VTextLaw2, VText1, RtN, RtE, Rt3, Base, Open, VEnter. -/
import Derived.Test.YtifeoamomonbjaaGreatDoorZec
import Derived.Test.YtifeoamomonbjaaGreatDoorVc
import Derived.Test.YtifeoamomonbjaaGreatDoorZwa
import Derived.Laws.BitsAllLaws
import Derived.Test.YtifeoamomonbjaaGreatDoorZwe
import Derived.Test.YtifeoamomonbjaaGreatDoorZwf
import Derived.Test.YtifeoamomonbjaaGreatDoorProg
import Derived.WalkKit
import Derived.WalkSpells
import Derived.WalkLawsBesides
import Derived.Deep.RegionHeld3
import Derived.Deep.DrawnRows
import Derived.BigQuiet
import Derived.Lib.Hide
import Derived.ProofKit
import Derived.OpenShut
import Derived.Deep.Slices
namespace Go.Proofs.YtifeoamomonbjaaGreatDoor
open Go
attribute [local go_sem] run_skip run_reg run_seq run_blk run_exit run_ret run_cond if_true if_false at_code_n at_code_x at_code_r at_blk_n at_blk_x at_blk_r at_rnd_n at_rnd_x at_rnd_r at_fin_n at_fin_r ops_nil ops_grd grd_und grd_tt grd_ff grd_tf grd_ft ops_mv ops_pick ops_bin ops_binZ ops_un ops_binb ops_eqs ops_isnil ops_pnil ops_b2s ops_s2b ops_b2sB ops_s2a ops_slcA ops_aidx vaidx vb2sB vs2a vslcA ops_sidx vs2b vsidx srcX ops_appx apx_mk ops_mks ops_mko mks_int mko_int vbinb veqs visnil vpnil vb2s ops_conv ops_fld ops_ix ops_ixa ops_load ops_nilck ops_ext ops_len ops_slen ops_mn ops_mx ops_bld ops_bsl ops_slc ops_sslc ops_box ops_alc ops_alcX ops_boxX ops_bslo ops_store ops_app ops_call ev_t ev_c put_get put_none opv_mk stb_some sto_ptr over_get rel_mk vnat Bx Stp vbld vbsl put_box_same put_box_ne put_sz put_own use_box use_sz put_put args0 List.getD_cons_zero List.getD_cons_succ List.getD_nil vpick vbin vbinZ vbinI vbinS vun vconv norm vfld vnil vlen vslen vext vmm vix vixa vload takeV takeB mono_nil mono_two mono_sc mono_any mono_und mono_sl mono_agg mono_ep vmlk vmlen vmnil vinil vent vmfn allSc vslc3 kOk fitsV ops_mlk ops_mlen ops_mnil ops_inil ops_ent ops_mfn ops_slc3 ops_mkm ops_mup mup_map mub_some ops_mdel mdl_nil mdl_map mdb_some ops_rng rng_none rng_map rgb_some ops_nxt ops_ment met_map meb_some ops_est est_map esb_some ops_clr clr_nil clr_box clb_some ops_calv clv_func vslc vsslc fillV splice V.cells strip strip1 allLen ptrV obsOk shAmt IntKind.bits List.map_cons List.map_nil List.length_cons List.length_nil List.getElem?_cons_zero List.getElem?_cons_succ List.take_succ_cons List.take_zero List.drop_succ_cons List.drop_zero List.cons_append List.nil_append List.append_nil List.take_nil List.drop_nil Option.map_some Option.map_none and_true true_and Int.toNat_natCast Nat.min_def Nat.zero_add Nat.add_zero Nat.zero_mul Nat.mul_one Nat.one_mul vret rvAll rvVal resv_1 resv_2 decide_true decide_false Int.lt_irrefl Bool.not_true Bool.not_false ne_eq not_true_eq_false not_false_eq_true eq_self Bool.true_eq_false Bool.false_eq_true List.contains_cons List.contains_nil Bool.false_or Bool.true_or Bool.or_false Bool.or_true List.mem_cons List.not_mem_nil or_false or_true true_or false_or mono_bs ops_aidxn vaidxn ops_fv vfv ops_mki vmki ops_inv ops_cpy cpy_box cpb_some Nat.reduceEqDiff Nat.reduceAdd Nat.reduceMul Nat.reduceSub Nat.reduceLT Nat.reduceLeDiff Int.reduceToNat Int.reduceLE Int.reduceLT Int.reducePow Int.reduceMul Int.reduceAdd Int.reduceSub Int.reduceNeg Int.reduceEq Int.reduceMod Int.reduceDiv Nat.reducePow Nat.reduceMod Nat.reduceDiv reduceCtorEq Nat.reduceBEq
section
open Go
section
variable {tk:Tk} {L:List Int} {st:St} {b at_:Nat} {bad:Bool}
theorem Own.nil {size:Nat} {st:St}:Own size st (.sl .nil []) []:=.inl ⟨rfl,rfl⟩
theorem Own.sl {size:Nat} {st:St} {v:V} {l:List V} (h:Own size st v l):∃ tk,v=.sl tk l:=by
  rcases h with ⟨rfl,rfl⟩ | ⟨g,rfl,_⟩
  · exact ⟨_,rfl⟩
  · exact ⟨_,rfl⟩
end
end
section
open Go
section
variable {tk tk':Tk} {L M:List Int} {st:St}
theorem Own.put {size:Nat} {st:St} {v:V} {l:List V} (h:Own size st v l) {b:Nat} {cs:List V}:Own size (st.put b cs) v l:=by
  rcases h with h | ⟨g,h1,h2,h3⟩
  · exact .inl h
  · exact .inr ⟨g,h1,h2,by simp only [put_sz]; omega⟩
theorem splice_bs {m:Nat} {T:List Int} {x:Int}:splice (bs (List.replicate (m + 1) 0 ++ T)) m [.sc (.int .u8 x)]=bs (List.replicate m 0 ++ x :: T):=by
  unfold splice
  have e:List.replicate (m + 1) (0:Int) ++ T=List.replicate m 0 ++ (0 :: T):=by rw [List.replicate_succ',List.append_assoc]; rfl
  have hl:(bs (List.replicate m 0)).length=m:=by simp [bs_len]
  rw [e,← bs_append,← bs_append,List.take_append_of_le_length (by omega),List.take_of_length_le (by omega),List.drop_append,hl]
  rw [List.drop_of_length_le (by simp; omega),show m + [V.sc (.int .u8 x)].length - m=1 by simp]
  simp [bs_cons]
theorem bs_flat (L:List Int):(bs L).flatMap V.cells=bs L:=by
  induction L with
  | nil=>rfl
  | cons x L ih=>rw [bs_cons,List.flatMap_cons,ih]; rfl
theorem St.weak.trans {a b c:St} (h:a.weak b) (k:b.weak c):a.weak c :=
  ⟨fun x cs hx=>⟨(k.box x cs (h.box x cs hx).1).1,(h.box x cs hx).2⟩,fun g m hg=>⟨(k.own g m (h.own g m hg).1).1,(h.own g m hg).2⟩,Nat.le_trans h.sz k.sz⟩
theorem AppSt.fresh {s s':St} {x r:V} (h:AppSt s x s' r) {t:St} (hs:t.sz≤s.sz) (hx:∀ g k l,x=.sl (.own g k) l→t.sz≤g):∀ g k l,r=.sl (.own g k) l→t.sz≤g:=fun g k l e=>by
  rcases h.tok g k l e with ⟨l',e'⟩ | h2
  · exact hx g k l' e'
  · omega
end
end
section
open Go
structure MRow (base s:St) (r:V) (L:List Int):Prop where
  weak:base.weak s
  lt:s.Lt
  row:∃ b cap spare,r=.sc (.slice (some ⟨b,0,none⟩) L.length cap)∧base.sz≤b∧s.box b=some (bs L ++ spare)∧L.length + spare.length=cap∧cap≤maxLen∧_root_.Go.Proofs.YtifeoamomonbjaaGreatDoor.mono (bs L ++ spare)
theorem mono_bsp {L M:List Int} {spare:List V} (h:mono (bs L ++ spare)) (hl:M.length=L.length):mono (bs M ++ spare):=by
  cases M with
  | nil =>
    have:L=[]:=List.eq_nil_of_length_eq_zero (by simpa using hl.symm)
    subst this; exact h
  | cons x M=>exact of_eq_true (mono_sc (v:=.int .u8 x) (l:=bs M ++ spare))
theorem MRow.put {base s:St} (hw:base.weak s) (hl:s.Lt) {b cap:Nat} {L:List Int} {spare:List V} (hb:base.sz≤b) (h:L.length + spare.length=cap) (hm:cap≤maxLen) (hmo:_root_.Go.Proofs.YtifeoamomonbjaaGreatDoor.mono (bs L ++ spare)):MRow base (s.put b (bs L ++ spare)) (.sc (.slice (some ⟨b,0,none⟩) L.length cap)) L :=
  ⟨weak_put hw hb,hl.put,b,cap,spare,rfl,hb,put_box_same,h,hm,hmo⟩
theorem MRow.frz {base s:St} {r:V} {L:List Int} (h:MRow base s r L):Frz s r (.sl .no (bs L)):=by
  obtain ⟨b,cap,spare,rfl,h1,h2,h3,h4,hmo⟩:=h.row
  have:=Frz.box (st:=s) b 0 cap 1 (bs L ++ spare) (bs L) h2 (fun i d hd=>allSz_bs L d (List.mem_of_getElem? hd)) (fun i d j x hd hj=>by
    have hi:=(List.getElem?_eq_some_iff.1 hd).1
    have:d.cells=[d]:=by
      obtain ⟨n,_,rfl⟩:=List.mem_map.1 (List.mem_of_getElem? hd); rfl
    rw [this] at hj
    have hj0:j=0:=by
      rcases Nat.eq_zero_or_pos j with h | h
      · exact h
      · rw [List.getElem?_eq_none (by simp; omega)] at hj; cases hj
    subst hj0
    simp at hj; subst hj
    rw [List.getElem?_append,if_pos (by omega)]
    simpa using hd) (by rw [bs_len]; omega) h4 hmo
  rwa [bs_len] at this
section
variable {P:Program} {k:Kt} {A:Nat→V} {base st:St} {d:Option Nat} {obs:List (Option Nat × X × Nat)} {rest:List VO} {x y:V} {L M:List Int} {tk:Tk}
def BSrc (st:St) (y:V) (M:List Int):Prop:=srcV 1 st y (bs M)
theorem BSrc.sl:BSrc st (.sl tk (bs M)) M:=.inl ⟨tk,rfl⟩
theorem MRow.src (h:MRow base st y M):BSrc st y M:=by
  obtain ⟨b,cap,spare,rfl,h1,h2,h3,h4,hmo⟩:=h.row
  refine .inr ⟨b,0,cap,bs M ++ spare,by rw [bs_len],h2,by simp [bs_len],?_,hmo⟩
  rw [bs_flat,bs_len,List.drop_zero,Nat.mul_one,List.take_append_of_le_length (by rw [bs_len]; exact Nat.le_refl _),List.take_of_length_le (by rw [bs_len]; exact Nat.le_refl _)]
theorem App.rowG (h:MRow base st x L) (hs:BSrc st y M) (hl:L.length + M.length≤100000000000000) (hk:∀ r s,MRow base s r (L ++ M)→(∀ b cs,base.box b=some cs→s.box b=some cs)→obsOk s A obs∧Ops P rest k (putV A d r) s):App P 1 1 x y d obs rest k A st:=by
  obtain ⟨b,cap,spare,rfl,h1,h2,h3,h4,hmo⟩:=h.row
  refine .inr (.inl ⟨b,L.length,cap,bs L ++ spare,bs M,rfl,h2,by rw [List.length_append,bs_len]; omega,hmo,by omega,h4,hs,allSz_bs _,by rw [bs_len]; unfold maxLen; omega,by rw [bs_len]; omega,fun b' cap' spare' k1 k2 k3 k4 k5 k6=>?_⟩)
  rw [bs_len] at k2 k4
  have e:(bs L ++ spare).take (L.length * 1)=bs L:=by rw [Nat.mul_one,List.take_append_of_le_length (by rw [bs_len]; exact Nat.le_refl _),List.take_of_length_le (by rw [bs_len]; exact Nat.le_refl _)]
  rw [e,bs_flat,bs_append] at k6
  rw [e,bs_flat,bs_append,bs_len,show L.length + M.length=(L ++ M).length by simp]
  have hb':base.sz≤b':=by have:=h.weak.sz; omega
  have hm:=MRow.put (L:=L ++ M) (spare:=spare') (cap:=cap') h.weak h.lt hb' (by simp; omega) k3 k6
  exact hk _ _ hm fun c cs hc=>(hm.weak.box c cs hc).1
theorem App.row (h:MRow base st x L) (hl:L.length + M.length≤100000000000000) (hk:∀ r s,MRow base s r (L ++ M)→(∀ b cs,base.box b=some cs→s.box b=some cs)→obsOk s A obs∧Ops P rest k (putV A d r) s):App P 1 1 x (.sl tk (bs M)) d obs rest k A st:=App.rowG h .sl hl hk
theorem Bo.row (hw:base.weak st) (hl:st.Lt) (hM:M.length≤100000000000000) (hk:∀ r s,MRow base s r M→(∀ b cs,base.box b=some cs→s.box b=some cs)→obsOk s A obs∧Ops P rest k (putV A d r) s):Bo P 1 (bs M) d obs rest k A st:=by
  refine Bo.mut (allLen_of (allSz_bs _)) fun b hb=>?_
  have hm:=MRow.put (L:=M) (spare:=[]) (cap:=M.length) hw hl (b:=b) (by have:=hw.sz; omega) rfl (by unfold maxLen; omega) (by rw [List.append_nil]; exact of_eq_true mono_bs)
  rw [List.append_nil] at hm
  rw [bs_flat,bs_len]
  exact hk _ _ hm fun c cs hc=>(hm.weak.box c cs hc).1
theorem splice_set {i:Nat} {z:Int} {spare:List V} (h:i < L.length):splice (bs L ++ spare) i [.sc (.int .u8 z)]=bs (L.set i z) ++ spare:=by
  unfold splice
  apply List.ext_getElem?
  intro j
  have hl:(bs L ++ spare).length=L.length + spare.length:=by simp [bs_len]
  have hgs:(bs (L.set i z))[j]?=if j=i then some (.sc (.int .u8 z)) else (bs L)[j]?:=by
    rw [bs_get,bs_get,List.getElem?_set]
    by_cases e:i=j
    · subst e; simp [h]
    · rw [if_neg e,if_neg (fun e'=>e e'.symm)]
  have hbs:(bs (L.set i z)).length=L.length:=by simp [bs_len]
  have htl:((bs L ++ spare).take i).length=i:=by rw [List.length_take,hl]; omega
  rw [List.append_assoc,List.getElem?_append,htl]
  by_cases c1:j < i
  · rw [if_pos c1,List.getElem?_take,if_pos c1,List.getElem?_append,if_pos (by rw [bs_len]; omega),List.getElem?_append,if_pos (by omega),hgs,if_neg (by omega)]
  · rw [if_neg c1]
    by_cases c2:j=i
    · subst c2
      rw [List.getElem?_append (l₁:=bs (L.set j z)),if_pos (by omega),hgs,if_pos rfl]
      simp
    · rw [List.getElem?_append,if_neg (by simp; omega),List.getElem?_drop]
      simp only [List.length_cons,List.length_nil,Nat.zero_add]
      rw [show i + 1 + (j - i - 1)=j by omega,List.getElem?_append,List.getElem?_append,hbs,bs_len]
      split
      · rw [hgs,if_neg c2]
      · rfl
theorem MRow.set {b i:Nat} {n cap:Nat} {z:Int} (h:MRow base st (.sc (.slice (some ⟨b,0,none⟩) n cap)) L) (hi:i < L.length):∃ spare,st.box b=some (bs L ++ spare)∧n=L.length∧base.sz≤b∧splice (bs L ++ spare) i [.sc (.int .u8 z)]=bs (L.set i z) ++ spare ∧
    MRow base (st.put b (bs (L.set i z) ++ spare)) (.sc (.slice (some ⟨b,0,none⟩) n cap)) (L.set i z):=by
  obtain ⟨b',cap',spare,e,h1,h2,h3,h4,hmo⟩:=h.row
  cases e
  refine ⟨spare,h2,rfl,h1,splice_set hi,?_⟩
  have:=MRow.put (L:=L.set i z) (spare:=spare) (cap:=cap) h.weak h.lt h1 (by simpa using h3) h4 (mono_bsp hmo (by simp))
  simpa using this
theorem Stb.row {z:Int} {i:Nat} {n cap b:Nat} (h:MRow base st (.sc (.slice (some ⟨b,0,none⟩) n cap)) L) (hi:i < L.length) (hk:∀ s,MRow base s (.sc (.slice (some ⟨b,0,none⟩) n cap)) (L.set i z)→(∀ b cs,base.box b=some cs→s.box b=some cs)→obsOk s A obs∧Ops P rest k (putV A d .und) s) :
    Stb P (st.box b) 1 b i [.sc (.int .u8 z)] obs d rest k A st:=by
  obtain ⟨spare,h1,rfl,h2,h3,h4⟩:=h.set (z:=z) hi
  have hmo:mono (bs L ++ spare):=by
    obtain ⟨b',cap',spare',e,_,q2,_,_,q5⟩:=h.row
    cases e
    rw [h1] at q2
    simp only [Option.some.injEq] at q2
    rw [q2]; exact q5
  rw [h1]
  unfold Stb
  simp only
  refine ⟨rfl,by omega,by simp [bs_len]; omega,hmo,?_⟩
  unfold Stp
  simp only [h3]
  exact hk _ h4 fun c cs hc=>(h4.weak.box c cs hc).1
theorem MRow.get {b i:Nat} {n cap:Nat} {z:Int} (h:MRow base st (.sc (.slice (some ⟨b,0,none⟩) n cap)) L) (hi:L[i]?=some z):vload st none (.sc (.pointer (some ⟨b,i,none⟩)))=(True,.sc (.int .u8 z)):=by
  obtain ⟨b',cap',spare,e,h1,h2,h3,h4,hmo⟩:=h.row
  cases e
  have hlt:=(List.getElem?_eq_some_iff.1 hi).1
  simp only [vload,h2,takeB,takeV]
  rw [List.getElem?_append,if_pos (by rw [bs_len]; exact hlt),bs_get,hi]
  simp [V.cells]
theorem MRow.is (h:MRow base st x L):∃ b cap,x=.sc (.slice (some ⟨b,0,none⟩) L.length cap)∧L.length≤cap∧cap≤maxLen:=by
  obtain ⟨b',cap',spare,e,h1,h2,h3,h4,hmo⟩:=h.row
  exact ⟨b',cap',e,by omega,h4⟩
theorem MRow.reads {f:FuncId} {v:Value} (h:MRow base st x L) (hc:∀ n,VCalls P f [.sl .no (bs L)] ⟨fun _=>none,fun _=>none,n⟩ fun r _=>r=.sc v):VCalls P f [x] st fun r st'=>r=.sc v∧st=st' :=
  VCalls.frz hc rfl fun i d d' h1 h2=>by
    cases i with
    | zero=>simp at h1 h2; subst h1 h2; exact h.frz
    | succ i=>simp at h1
end
section
variable {base st:St} {x:V} {L:List Int} {tk:Tk}
abbrev Same (base:St) (s:St):Prop:=∀ b cs,base.box b=some cs→s.box b=some cs
theorem MRow.keep {s:St} {r:V} {c:Nat} {cs:List V} (h:MRow base s r L) (hc:s.sz≤c):MRow base (s.put c cs) r L:=by
  obtain ⟨b,cap,spare,rfl,h1,h2,h3,h4,hmo⟩:=h.row
  have:=h.lt.box _ _ h2
  exact ⟨weak_put h.weak (by have:=h.weak.sz; omega),h.lt.put,b,cap,spare,rfl,h1,by rw [put_box_ne (by omega)]; exact h2,h3,h4,hmo⟩
theorem BSrc.same {s:St} {y:V} {M:List Int} (h:BSrc st y M) (hs:Same st s):BSrc s y M:=by
  rcases h with h | ⟨b,o,c,cs,h1,h2,h3⟩
  · exact .inl h
  · exact .inr ⟨b,o,c,cs,h1,hs b cs h2,h3⟩
end
end
section
open Go
section
variable {st:St} {L:List Int}
end
end
section
open Go
theorem digs_small {k n:Nat} (h:n < 10):digs k n=[48 + (n:Int)]:=by
  cases k with
  | zero=>rfl
  | succ k=>rw [digs,if_pos h]
theorem digs_big {k n:Nat} (h:¬ n < 10):digs (k + 1) n=digs k (n / 10) ++ [48 + ((n % 10:Nat):Int)]:=by rw [digs,if_neg h]
theorem digs_pos (k n:Nat):0 < (digs k n).length:=by
  cases k with
  | zero=>simp [digs]
  | succ k=>rw [digs]; split <;> simp
end
section
open Go
end
section
open Go
end
section
open Go
theorem nc0s:((0:Nat):Int)=0:=rfl
theorem u8s_bs3:∀ L:List Int,u8sOf (bs L)=some L
  | []=>rfl
  | x :: L=>by rw [bs_cons]; simp only [u8sOf,u8s_bs3 L,Option.map_some]
section
variable {tk:Tk} {st:St} {L:List Int}
theorem hexNum_v {n:Int} (h1:n≤9223372036854775807):VCalls Tryz.prog 17 [.sc (.int .i64 n)] st fun r st'=>r=.sc (.string (strOf (digs 19 n.toNat)))∧st=st':=by
  refine vcalls_enter vc17 (Nat.le_of_ble_eq_true rfl) fun hwf hok=>?_
  show Run _ Vc17.body (.fin (finQ Vc17.res _)) _ _
  unfold Vc17 zn zo
  obtain ⟨n0,hn0⟩:∃ n0:Nat,max n 0=(n0:Int):=⟨n.toNat,by omega⟩
  have hnn:n.toNat=n0:=by omega
  rw [hnn]
  have hlt:n0≤9223372036854775807:=by omega
  have hpw:(10:Nat) ^ 20=100000000000000000000:=by decide
  simp (maxSteps:=3000000) only [go_sem,↓reduceIte,hn0]
  intro b hb
  refine run_loop [0,4,5,8,9,10,11,12,13,14,15,16,17,18,19,20] (fun B s=>∃ (m q:Nat) (T:List Int),m≤20∧T.length + m=20∧B 4=.sc (.int .i64 m)∧B 0=.sc (.int .i64 q)∧s=st.put b (bs (List.replicate m 0 ++ T))∧IsB T∧q≤9223372036854775807 ∧
    ((B 5=.sc (.bool true)∧0 < m∧q < 10 ^ m∧digs (m - 1) q ++ T=digs 19 n0) ∨ (B 5=.sc (.bool false)∧T=digs 19 n0))) (fun B _=>match B 5 with | .sc (.bool true)=>1 + vnat (B 4) | _=>0) rfl ?_ ?_
  · simp (maxSteps:=3000000) only [go_sem,↓reduceIte]
    exact ⟨20,n0,[],by omega,rfl,rfl,rfl,rfl,isB_nil,hlt,(by first | exact .inl ⟨rfl,by omega,by omega,by simp⟩ | exact .inl ⟨by omega,by omega,by simp⟩ | exact ⟨by omega,by omega,by simp⟩)⟩
  · rintro B s ⟨m,q,T,hm,hTl,h4,h0,rfl,hT,hqb,hcase⟩
    rcases hcase with ⟨h5,hmp,hq,hd⟩ | ⟨h5,hd⟩
    · obtain ⟨m',rfl⟩:∃ m',m=m' + 1:=⟨m - 1,by omega⟩
      have e1:((m' + 1:Nat):Int) - 1=(m':Int):=by omega
      have hx:0≤(q:Int) % 10∧(q:Int) % 10 < 10:=by omega
      have e2:(48 + (q:Int) % 10) % 256=48 + (q:Int) % 10:=by omega
      have hs:=splice_bs (m:=m') (T:=T) (x:=48 + (q:Int) % 10)
      have hq10:(q:Int) / 10=((q / 10:Nat):Int):=by omega
      have hr10:(q:Int) % 10=((q % 10:Nat):Int):=by omega
      by_cases c1:q < 10
      · have hz:q / 10=0:=by omega
        have hqm:(q:Int) % 10=q:=by omega
        simp only [Nat.add_sub_cancel] at hd
        rw [digs_small c1] at hd
        simp (maxSteps:=3000000) only [go_sem,↓reduceIte,h5,h4,h0,e1,e2,hq10,hz,nc0s,bs_len,List.length_append,List.length_replicate]
        repeat (apply And.intro; focus (first | omega | (simp; done)))
        refine ⟨⟨m',0,(48 + (q:Int) % 10) :: T,by omega,by simp; omega,rfl,rfl,?_,?_,by omega,(by first | exact .inr ⟨rfl,by rw [hqm]; exact hd⟩ | exact .inr (by rw [hqm]; exact hd) | (rw [hqm]; exact hd))⟩,?_⟩
        · exact congrArg (st.put b) hs
        · intro y hy
          rcases List.mem_cons.1 hy with rfl | hy
          · omega
          · exact hT y hy
        · omega
      · have hm2:∃ m2,m'=m2 + 1:=by
          cases m' with
          | zero=>simp at hq; omega
          | succ m2=>exact ⟨m2,rfl⟩
        obtain ⟨m2,rfl⟩:=hm2
        simp only [Nat.add_sub_cancel] at hd
        rw [digs_big c1] at hd
        have hp:decide ((0:Int) < ((q / 10:Nat):Int))=true:=decide_eq_true (by omega)
        simp (maxSteps:=3000000) only [go_sem,↓reduceIte,h5,h4,h0,e1,e2,hq10,hp,bs_len,List.length_append,List.length_replicate]
        repeat (apply And.intro; focus (first | omega | (simp; done)))
        refine ⟨⟨m2 + 1,q / 10,(48 + (q:Int) % 10) :: T,by omega,by simp; omega,rfl,rfl,?_,?_,by omega,?_⟩,?_⟩
        · exact congrArg (st.put b) hs
        · intro y hy
          rcases List.mem_cons.1 hy with rfl | hy
          · omega
          · exact hT y hy
        · have h1:q / 10 < 10 ^ (m2 + 1):=by rw [Nat.pow_succ] at hq; omega
          have h2:digs (m2 + 1 - 1) (q / 10) ++ (48 + (q:Int) % 10) :: T=digs 19 n0:=by
            rw [Nat.add_sub_cancel,← hd,hr10]
            simp
          first | exact .inl ⟨rfl,by omega,h1,h2⟩ | exact .inl ⟨by omega,h1,h2⟩ | exact ⟨by omega,h1,h2⟩
        · omega
    · subst hd
      have hdl:=digs_pos 19 n0
      have hdr:(List.replicate m (0:Int) ++ digs 19 n0).drop m=digs 19 n0:=by
        rw [List.drop_append_of_le_length (by simp),List.drop_of_length_le (by simp),List.nil_append]
      have htk:(digs 19 n0).take (20 - m)=digs 19 n0:=List.take_of_length_le (by omega)
      have hm20:=eq_true (show ((m:Nat):Int) < ((20:Nat):Int) by omega)
      simp (maxSteps:=3000000) only [go_sem,↓reduceIte,h5,h4,hm20,bs_drop,bs_take,hdr,htk,u8s_bs3,bs_len,List.length_append,List.length_replicate]
      repeat (apply And.intro; focus (first | omega | (simp; done)))
      exact ⟨_,_,Wk.refl _,weak_put hwf.weak hb,rfl,rfl⟩
end
end
section
open Go
theorem digs_short:∀ (k n:Nat),n≤9223372036854775807→(digs k n).length≤20:=by
  have aux:∀ (j k n:Nat),n < 10 ^ (j + 1)→(digs k n).length≤j + 1:=by
    intro j
    induction j with
    | zero =>
      intro k n h
      cases k with
      | zero=>simp [digs]
      | succ k=>rw [digs,if_pos (by simpa using h)]; simp
    | succ j ih =>
      intro k n h
      cases k with
      | zero=>simp [digs]
      | succ k =>
        rw [digs]
        split
        · simp
        · have:=ih k (n / 10) (by rw [Nat.pow_succ] at h; omega)
          simp only [List.length_append,List.length_cons,List.length_nil]; omega
  intro k n h
  refine aux 19 k n ?_
  have:(10:Nat) ^ 20=100000000000000000000:=by decide
  omega
theorem numW_v:∀ (k n:Nat) (st:St),n < 10 ^ (k + 1)→n≤9223372036854775807→VCalls Tryz.prog 10 [.sc (.int .i64 n)] st fun r st'=>r=.sc (.string (strOf (digs k n)))∧st=st':=by
  have fin:∀ (n:Nat) (st:St),n < 10→VCalls Tryz.prog 10 [.sc (.int .i64 n)] st fun r st'=>r=.sc (.string (strOf [48 + (n:Int)]))∧st=st':=by
    intro n st h
    refine vcalls_enter vc10 (Nat.le_of_ble_eq_true rfl) fun hwf hok=>?_
    show Run _ Vc10.body (.fin (finQ Vc10.res _)) _ _
    unfold Vc10 zo
    have e1:(48 + (n:Int)) % 256=48 + n:=by omega
    simp (maxSteps:=3000000) only [go_sem,↓reduceIte,decide_eq_true (show (n:Int) < 10 by omega),decide_eq_false (show ¬ (n:Int) < 0 by omega),e1,u8sOf]
    repeat (apply And.intro; focus (first | omega | (simp; done)))
    exact ⟨_,_,Wk.refl _,hwf.weak,rfl,rfl⟩
  intro k
  induction k with
  | zero=>exact fun n st h _=>fin n st (by simpa using h)
  | succ k ih =>
    intro n st h hk
    by_cases h10:n < 10
    · unfold digs
      rw [if_pos h10]
      exact fin n st h10
    · unfold digs
      rw [if_neg h10]
      refine vcalls_enter vc10 (Nat.le_of_ble_eq_true rfl) fun hwf hok=>?_
      show Run _ Vc10.body (.fin (finQ Vc10.res _)) _ _
      unfold Vc10 zo
      have hq:((n:Int) / 10)=((n / 10:Nat):Int):=by omega
      have hr:((n:Int) % 10)=((n % 10:Nat):Int):=by omega
      have e1:(48 + ((n % 10:Nat):Int)) % 256=48 + ((n % 10:Nat):Int):=by omega
      have hdl:=digs_len k (n / 10)
      have hds:=digs_short k (n / 10) (by omega)
      simp (maxSteps:=3000000) only [go_sem,↓reduceIte,decide_eq_false (show ¬ (n:Int) < 10 by omega),hq,hr,e1,u8sOf]
      repeat (apply And.intro; focus (first | omega | (simp; done)))
      refine Cal.mk (ih (n / 10) _ (by rw [Nat.pow_succ] at h; omega) (by omega)) ?_
      rintro _ _ ⟨rfl,rfl⟩ -
      simp (maxSteps:=3000000) only [go_sem,↓reduceIte,strOf_size,strOf_append]
      repeat (apply And.intro; focus (first | omega | (simp; done)))
      exact ⟨_,_,Wk.refl _,hwf.weak,rfl,rfl⟩
theorem numB_v {st:St} {n:Int} (h:n < 0):VCalls Tryz.prog 10 [.sc (.int .i64 n)] st fun r st'=>r=.sc (.string (strOf (digs 19 n.toNat)))∧st=st':=by
  have e:n.toNat=0:=by omega
  have e2:digs 19 0=[48]:=rfl
  rw [e,e2]
  refine vcalls_enter vc10 (Nat.le_of_ble_eq_true rfl) fun hwf hok=>?_
  show Run _ Vc10.body (.fin (finQ Vc10.res _)) _ _
  unfold Vc10 zo
  simp (maxSteps:=3000000) only [go_sem,↓reduceIte,decide_eq_true (show n < 10 by omega),decide_eq_true (show n < 0 by omega),u8sOf]
  repeat (apply And.intro; focus (first | omega | (simp; done)))
  exact ⟨_,_,Wk.refl _,hwf.weak,rfl,rfl⟩
theorem numZ_v {st:St} {n:Int} (h:n≤9223372036854775807):VCalls Tryz.prog 10 [.sc (.int .i64 n)] st fun r st'=>r=.sc (.string (strOf (digs 19 n.toNat)))∧st=st':=by
  by_cases hn:n < 0
  · exact numB_v hn
  · have e:n=((n.toNat:Nat):Int):=by omega
    have hp20:(10:Nat) ^ (19 + 1)=100000000000000000000:=by decide
    have:=numW_v 19 n.toNat st (by omega) (by omega)
    rw [← e] at this
    exact this
end
section
open Go
def errL (c:Int):List Int:=[99,97,116,119,97,108,107,58,32,101,114,114,111,114,32] ++ ((if c < 0 then [45] else []) ++ digs 19 c.natAbs)
def wrongL (line c:Int):List Int:=[108,105,110,101,32] ++ digs 19 line.toNat ++ [58,32] ++ errL c
theorem str_err:(⟨#[99,97,116,119,97,108,107,58,32,101,114,114,111,114,32]⟩:ByteArray)=strOf [99,97,116,119,97,108,107,58,32,101,114,114,111,114,32]:=rfl
theorem str_line:(⟨#[108,105,110,101,32]⟩:ByteArray)=strOf [108,105,110,101,32]:=rfl
theorem str_col:(⟨#[58,32]⟩:ByteArray)=strOf [58,32]:=rfl
theorem str_min:(⟨#[45]⟩:ByteArray)=strOf [45]:=rfl
def absN:V→Nat
  | .sc (.int _ n)=>n.natAbs
  | _=>0
theorem ten_z (n:Int):(n.tmod 10).natAbs=n.natAbs % 10∧(n.tdiv 10).natAbs=n.natAbs / 10:=⟨Int.natAbs_tmod n 10,Int.natAbs_tdiv n 10⟩
section
variable {st:St}
theorem errno_v {c:Int} (h1:-9223372036854775808≤c) (h2:c≤9223372036854775807):VCalls Tryz.prog 11 [.sc (.int .i64 c)] st fun r st'=>r=.sc (.string (strOf (errL c)))∧st=st':=by
  have hp20:(10:Nat) ^ 20=100000000000000000000:=by decide
  obtain ⟨below,hbl⟩:∃ b,decide (c < 0)=b:=⟨_,rfl⟩
  have hq0:c.natAbs≤9223372036854775808:=by omega
  have hq1:c.natAbs < 10 ^ 20:=by omega
  refine vcalls_enter vc11 (Nat.le_of_ble_eq_true rfl) fun hwf hok=>?_
  show Run _ Vc11.body (.fin (finQ Vc11.res _)) _ _
  unfold Vc11 zo
  simp (maxSteps:=3000000) only [go_sem,↓reduceIte,hbl]
  refine run_loop [3,4,6,7,11,12,13,14,15,16,17,18,19,20,21,22,23,24,25,26,27,28] (fun B s=>st=s∧∃ (n:Int) (m:Nat) (T:List Int),B 5=.sc (.bool below)∧B 3=.sc (.int .i64 n)∧B 4=.sc (.string (strOf T))∧m≤20∧T.length + m=20∧n.natAbs≤9223372036854775808∧((B 6=.sc (.bool true)∧0 < m∧n.natAbs < 10 ^ m∧digs (m - 1) n.natAbs ++ T=digs 19 c.natAbs) ∨ (B 6=.sc (.bool false)∧T=digs 19 c.natAbs))) (fun B _=>match B 6 with | .sc (.bool true)=>1 + absN (B 3) | _=>0) rfl ?_ ?_
  · simp (maxSteps:=3000000) only [go_sem,↓reduceIte]
    exact ⟨c,20,[],rfl,rfl,by omega,by simp,hq0,(by first | exact .inl ⟨rfl,by omega,hq1,by simp⟩ | exact .inl ⟨by omega,hq1,by simp⟩ | exact ⟨by omega,hq1,by simp⟩)⟩
  · rintro B s ⟨rfl,n,m,T,h5,h3,h4,hm,hTl,hqb,hcase⟩
    rcases hcase with ⟨h6,hmp,hq,hd⟩ | ⟨h6,hd⟩
    · obtain ⟨m',rfl⟩:∃ m',m=m' + 1:=⟨m - 1,by omega⟩
      simp only [Nat.add_sub_cancel] at hd
      obtain ⟨z1,z2⟩:=ten_z n
      have hz0:0≤n→0≤n.tmod 10:=fun h=>Int.tmod_nonneg 10 h
      obtain ⟨dz,hdz⟩:∃ dz,n.tmod 10=dz:=⟨_,rfl⟩
      obtain ⟨nz,hnz⟩:∃ nz,n.tdiv 10=nz:=⟨_,rfl⟩
      rw [hdz] at z1
      rw [hnz] at z2
      obtain ⟨x,hx⟩:∃ x:Int,x=48 + ((n.natAbs % 10:Nat):Int):=⟨_,rfl⟩
      have fin:∃ (n:Int) (m:Nat) (T_1:List Int),V.sc (.int .i64 nz)=V.sc (.int .i64 n)∧V.sc (.string (strOf (x :: T)))=V.sc (.string (strOf T_1))∧m≤20∧T_1.length + m=20∧n.natAbs≤9223372036854775808 ∧
          ((V.sc (.bool (decide ¬nz=0))=V.sc (.bool true)∧0 < m∧n.natAbs < 10 ^ m∧digs (m - 1) n.natAbs ++ T_1=digs 19 c.natAbs) ∨ (V.sc (.bool (decide ¬nz=0))=V.sc (.bool false)∧T_1=digs 19 c.natAbs)):=by
        refine ⟨nz,m',x :: T,rfl,rfl,by omega,by simp only [List.length_cons]; omega,by omega,?_⟩
        by_cases c1:n.natAbs < 10
        · right
          have:nz=0:=by omega
          refine ⟨by rw [this]; rfl,?_⟩
          rw [digs_small c1] at hd
          rw [← hd,hx,show n.natAbs % 10=n.natAbs by omega]; rfl
        · left
          have hne:¬ nz=0:=by omega
          have hm2:∃ m2,m'=m2 + 1:=by
            cases m' with
            | zero=>simp at hq; omega
            | succ m2=>exact ⟨m2,rfl⟩
          obtain ⟨m2,rfl⟩:=hm2
          refine ⟨by rw [decide_eq_true hne],by omega,?_,?_⟩
          · rw [z2]; rw [Nat.pow_succ] at hq; omega
          · rw [digs_big c1] at hd
            rw [Nat.add_sub_cancel,z2,← hd,hx,List.append_assoc]; rfl
      by_cases c2:dz < 0
      · have e48:(48 + (0 - dz)) % 256=x:=by omega
        simp (maxSteps:=3000000) only [go_sem,↓reduceIte,h6,h4,h3,hdz,hnz,decide_eq_true c2,e48,u8sOf,strOf_append,strOf_size,List.cons_append,List.nil_append]
        refine ⟨by omega,by omega,by omega,by omega,fin,?_⟩
        by_cases hne:nz=0
        · simp only [hne,not_true_eq_false,decide_false]; show 0 < 1 + n.natAbs; omega
        · simp only [hne,not_false_eq_true,decide_true]; show 1 + nz.natAbs < 1 + n.natAbs; omega
      · have e48:(48 + dz) % 256=x:=by omega
        simp (maxSteps:=3000000) only [go_sem,↓reduceIte,h6,h4,h3,hdz,hnz,decide_eq_false c2,e48,u8sOf,strOf_append,strOf_size,List.cons_append,List.nil_append]
        refine ⟨by omega,by omega,by omega,fin,?_⟩
        by_cases hne:nz=0
        · simp only [hne,not_true_eq_false,decide_false]; show 0 < 1 + n.natAbs; omega
        · simp only [hne,not_false_eq_true,decide_true]; show 1 + nz.natAbs < 1 + n.natAbs; omega
    · subst hd
      have hdl:=digs_len 19 c.natAbs
      by_cases c3:c < 0
      · obtain rfl:true=below:=by rw [← hbl,decide_eq_true c3]
        have he:errL c=[99,97,116,119,97,108,107,58,32,101,114,114,111,114,32] ++ ([45] ++ digs 19 c.natAbs):=by unfold errL; rw [if_pos c3]
        rw [he]
        simp (maxSteps:=3000000) only [go_sem,↓reduceIte,h6,h4,str_min,str_err,strOf_append,strOf_size]
        exact ⟨by omega,by omega,_,_,Wk.refl _,hwf.weak,rfl,rfl⟩
      · obtain rfl:false=below:=by rw [← hbl,decide_eq_false c3]
        have he:errL c=[99,97,116,119,97,108,107,58,32,101,114,114,111,114,32] ++ digs 19 c.natAbs:=by unfold errL; rw [if_neg c3]; rfl
        rw [he]
        simp (maxSteps:=3000000) only [go_sem,↓reduceIte,h6,h4,str_err,strOf_append,strOf_size]
        exact ⟨by omega,_,_,Wk.refl _,hwf.weak,rfl,rfl⟩
theorem errL_len {c:Int}:(errL c).length≤36:=by
  have:=digs_len 19 c.natAbs
  unfold errL
  split <;> simp only [List.length_append,List.length_cons,List.length_nil] <;> omega
theorem wrongErr_v {d:Nat} {n c:Int} (hd:st.box d=some [.sc (.int .i64 n),.sc (.int .i64 c)]) (h0:n≤9223372036854775807) (h1:-9223372036854775808≤c) (h2:c≤9223372036854775807) :
    VCalls Tryz.prog 9 [.sc (.pointer (some ⟨d,0,none⟩))] st fun r st'=>r=.sc (.string (strOf (wrongL n c)))∧st=st':=by
  have l1:=digs_len 19 n.toNat
  have l2:=@errL_len c
  refine vcalls_enter vc9 (Nat.le_of_ble_eq_true rfl) fun hwf hok=>?_
  show Run _ Vc9.body (.fin (finQ Vc9.res _)) _ _
  unfold Vc9 zo
  simp (maxSteps:=3000000) only [go_sem,↓reduceIte,hd]
  refine Cal.mk (hexNum_v h0) ?_
  rintro _ _ ⟨rfl,rfl⟩ -
  simp (maxSteps:=3000000) only [go_sem,↓reduceIte,hd,str_line,str_col,strOf_append,strOf_size]
  repeat (apply And.intro; focus (first | omega | (simp; done)))
  refine Cal.mk (errno_v h1 h2) ?_
  rintro _ _ ⟨rfl,rfl⟩ -
  simp (maxSteps:=3000000) only [go_sem,↓reduceIte,strOf_append,strOf_size,List.length_append]
  repeat (apply And.intro; focus (first | omega | (simp; done)))
  exact ⟨_,_,Wk.refl _,hwf.weak,rfl,rfl⟩
theorem unwrap_v {d:Nat} {n c:Int} (hd:st.box d=some [.sc (.int .i64 n),.sc (.int .i64 c)]) :
    VCalls Tryz.prog 13 [.sc (.pointer (some ⟨d,0,none⟩))] st fun r st'=>r=.sc (.iface 22 (.int .i64 c))∧st=st':=by
  refine vcalls_enter vc13 (Nat.le_of_ble_eq_true rfl) fun hwf hok=>?_
  show Run _ Vc13.body (.fin (finQ Vc13.res _)) _ _
  unfold Vc13 zo
  simp (maxSteps:=3000000) only [go_sem,↓reduceIte,hd]
  exact ⟨_,_,Wk.refl _,hwf.weak,rfl,rfl⟩
end
end
section
open Go Go.Proofs.YtifeoamomonbjaaGreatDoor.Ev
section
variable {B:Nat→V} {s:St} {K:VQ} {more line code:Int}
theorem s5_v (h2:B 2=.sc (.int .i64 more)) (hK:K .normal (putV (putV (putV (putV (putV B (some 83) (.sc (.int .i64 more))) (some 84) (.sc (.int .i64 (max more 0)))) (some 85) (.sc (.int .i64 (min (max more 0) 20)))) (some 86) (.sc (.int .i64 (400 + min (max more 0) 20)))) (some 10) (.sc (.int .i64 (400 + min (max more 0) 20)))) s):vwp Tryz.prog rb5 K B s:=by
  show Run Tryz.prog rb5 (.fin K) B s
  unfold rb5 rbody
  unfold Vc3 zg zn zo
  simp only [tl4,hd1]
  simp (maxSteps:=3000000) only [go_sem,↓reduceIte,h2]
  exact ⟨by omega,hK⟩
theorem s8_v {b:Nat} {Q:V→St→Prop} (h0:B 0=.sc (.int .i64 line)) (h1:B 1=.sc (.int .i64 code)) (h7:B 7=.sc (.pointer (some ⟨b,0,none⟩))) (hb:s.box b=some [.sc (.int .i64 line),.sc (.int .i64 code)])
    (hl:line≤9223372036854775807) (hc1:-9223372036854775808≤code) (hc2:code≤9223372036854775807) (hlt:s.Lt) (hQ:Q (.sc (.bool true)) s):vwp Tryz.prog rb8 (finQ Vc3.res Q) B s:=by
  show Run Tryz.prog rb8 (.fin (finQ _ Q)) B s
  unfold rb8 rbody
  unfold Vc3 zg zn zo
  simp only [tl4,tl1,tl2]
  simp (maxSteps:=3000000) only [go_sem,↓reduceIte,h7]
  refine Cal.mk (wrongErr_v hb hl hc1 hc2) ?_
  rintro _ _ ⟨rfl,rfl⟩ -
  simp (maxSteps:=3000000) only [go_sem,↓reduceIte,h0]
  refine Cal.mk (numZ_v hl) ?_
  rintro _ _ ⟨rfl,rfl⟩ -
  have l1:=digs_len 19 line.toNat
  have l2:=@errL_len code
  simp (maxSteps:=3000000) only [go_sem,↓reduceIte,h1,str_line,str_col,strOf_append,strOf_size,List.length_append]
  refine ⟨by omega,by omega,?_⟩
  refine Cal.mk (errno_v hc1 hc2) ?_
  rintro _ _ ⟨rfl,rfl⟩ -
  simp (maxSteps:=3000000) only [go_sem,↓reduceIte,h1,h7,wrongL,strOf_append,strOf_size,List.length_append,List.append_assoc]
  refine ⟨by omega,?_⟩
  refine Cal.mk (codeW_v hb) ?_
  rintro _ _ ⟨rfl,rfl⟩ -
  simp (maxSteps:=3000000) only [go_sem,↓reduceIte,h1,h7]
  refine Cal.mk (unwrap_v hb) ?_
  rintro _ _ ⟨rfl,rfl⟩ -
  simp (maxSteps:=3000000) only [go_sem,↓reduceIte,h1]
  refine Cal.mk code_v ?_
  rintro _ _ ⟨rfl,rfl⟩ -
  simp (maxSteps:=3000000) only [go_sem,↓reduceIte,h1]
  refine Cal.mk code_v ?_
  rintro _ _ ⟨rfl,rfl⟩ -
  simp (maxSteps:=3000000) only [go_sem,↓reduceIte,h1]
  refine Cal.mk codeN_v ?_
  rintro _ _ ⟨rfl,rfl⟩ -
  simp (maxSteps:=3000000) only [go_sem,↓reduceIte,h1]
  refine Cal.mk (alive_v _) ?_
  rintro _ _ ⟨rfl,rfl⟩ -
  simp (maxSteps:=3000000) only [go_sem,↓reduceIte]
  exact ⟨_,_,Wk.refl _,hlt.weak,hQ⟩
set_option maxRecDepth 100000 in
theorem runTells_v {st:St} (hl:line≤9223372036854775807) (hc1:-9223372036854775808≤code) (hc2:code≤9223372036854775807) :
    VCalls Tryz.prog 3 [.sc (.int .i64 line),.sc (.int .i64 code),.sc (.int .i64 more)] st fun r _=>r=.sc (.bool true):=by
  refine vcalls_enter vc3 (Nat.le_of_ble_eq_true rfl) fun hwf hok=>?_
  have hget:∀ i,hp0.get i=.no:=fun i=>by simp only [Hp.get,hp0,get6,pj_rep8]
  have hS:Sim st (fun _=>none) hp0 st:=⟨fun _ _ h=>h,fun _ _ h=>h,Nat.le_refl _,hwf.lt,hwf.lt,fun i b h=>(by cases h),fun i j b h=>(by cases h),fun i b h=>(by cases h),by show (0:Nat)≤_; omega,fun i _ _=>hget i⟩
  have hA:EnR (fun _=>none) (rA0 line code more) (args0 [.sc (.int .i64 line),.sc (.int .i64 code),.sc (.int .i64 more)]):=args0_R (.cons (.int _ _) (.cons (.int _ _) (.cons (.int _ _) .nil)))
  have hr1:(cC rcfg.meth (fun _=>false) rbA).f (ecall rcfg 1000) (rA0 line code more) hp0=.ok .normal (rsA (run1 line code more)) (rsH (run1 line code more)):=rsN_ok (run1_n line code more)
  refine vwp_4 (c:=rbody) rfl ?_
  refine run_R (call_R rcfg_ok st 1000) rcfg_ok.meth rbA hr1 _ _ _ _ hS hA ?_
  intro ρ1 A1 st1 hle1 hS1 hA1
  show vwp Tryz.prog (tl4 rbody) _ A1 st1
  refine vwp_1 (c:=tl4 rbody) rfl ?_
  have h2:=hA1 2
  rw [run1_2] at h2
  refine s5_v h2.int_inv ?_
  have hA2:=((((hA1.put (d:=83) (R.any (.sc (.int .i64 more)))).put (d:=84) (R.any (.sc (.int .i64 (max more 0))))).put (d:=85) (R.any (.sc (.int .i64 (min (max more 0) 20))))).put (d:=86) (R.any (.sc (.int .i64 (400 + min (max more 0) 20))))).put (d:=10) (R.int .i64 (400 + min (max more 0) 20))
  refine vwp_2 (c:=tl1 (tl4 rbody)) rfl ?_
  obtain ⟨A3,H3,hr,e0,e1,e7,eH⟩:=fin2_ok (run2_all line code more (400 + min (max more 0) 20) (by omega) (by omega))
  refine run_R (call_R rcfg_ok st 1000) rcfg_ok.meth rbB hr ρ1 _ st1 _ hS1 hA2 ?_
  intro ρ3 A4 st3 hle3 hS3 hA3
  show vwp Tryz.prog (tl2 (tl1 (tl4 rbody))) _ A4 st3
  have q0:=hA3 0
  have q1:=hA3 1
  have q7:=hA3 7
  rw [e0] at q0
  rw [e1] at q1
  rw [e7] at q7
  obtain ⟨b,hb,q7⟩:=q7.ptr_inv
  have hx:=hS3.bx 0 b hb
  rw [eH] at hx
  obtain ⟨-,-,cs,hcs,hR⟩:=hx
  cases hR with
  | cells _ _ vs sp hv hm he =>
    obtain ⟨v1,m1,rfl,k1,ht⟩:=hv.cons_inv
    obtain ⟨v2,m2,rfl,k2,ht⟩:=ht.cons_inv
    obtain rfl:=ht.nil_inv
    have hsp:sp=[]:=he
    subst hsp
    rw [k1.int_inv,k2.int_inv] at hcs
    exact s8_v q0.int_inv q1.int_inv q7 hcs hl hc1 hc2 hS3.lt rfl
end
end
section
open Go Go.RowKit
def Pure (w:World) (v:Value) (e:Ending) (w':World):Prop:=e=.returned v∧Below w.heap.size w w'
theorem lt_of_cell {w:World} {a:Addr} {v:Value} (h:w.cell? a=some v):a.block < w.heap.size:=by
  rcases Nat.lt_or_ge a.block w.heap.size with hlt | hge
  · exact hlt
  · simp [World.cell?,Array.getElem?_eq_none hge] at h
theorem keep_cell {w w1:World} {a:Addr} {v:Value} (h:w.cell? a=some v) (hb:Below w.heap.size w w1):w1.cell? a=some v:=(hb.cell (lt_of_cell h)).trans h
structure More where
  blocks:List Obj
  count:Nat
instance:Nonempty More:=⟨⟨[],0⟩⟩
def ext (w:World) (e:More):World:={ w with heap:=w.heap ++ e.blocks.toArray,drawn:=e.count }
def Holds (w:World) (L:List (Addr × Value)):Prop:=∀ p ∈ L,w.cell? p.1=some p.2
theorem Holds.keep {w w1:World} {L:List (Addr × Value)} (h:Holds w L) (hb:Below w.heap.size w w1):Holds w1 L:=fun p hp=>keep_cell (h p hp) hb
theorem Holds.cons {w:World} {a:Addr} {v:Value} {L:List (Addr × Value)}:Holds w ((a,v) :: L) ↔ w.cell? a=some v∧Holds w L:=by
  simp [Holds]
theorem Holds.nil {w:World}:Holds w [] ↔ True:=by simp [Holds]
theorem Holds.append {w:World} {L M:List (Addr × Value)} (h:Holds w L) (h':Holds w M):Holds w (L ++ M):=by
  intro p hp
  rcases List.mem_append.1 hp with hp | hp
  · exact h p hp
  · exact h' p hp
def elemL (b o:Nat):List Value→List (Addr × Value)
  | []=>[]
  | v :: cs=>(⟨b,o,none⟩,v) :: elemL b (o + 1) cs
theorem elemL_holds {w:World} {b:Nat}:∀ (cs:List Value) (o:Nat),(∀ j v,cs[j]?=some v→w.cell? ⟨b,o + j,none⟩=some v)→Holds w (elemL b o cs)
  | [],_,_=>by simp [elemL,Holds]
  | v :: cs,o,h=>by
    rw [elemL,Holds.cons]
    refine ⟨by simpa using h 0 v rfl,elemL_holds cs (o + 1) fun j u hu=>?_⟩
    rw [show o + 1 + j=o + (j + 1) from by omega]
    exact h (j + 1) u (by simpa using hu)
end
section
open Go Go.RowKit Go.ChangeShapes Go.WideShapes Go.Deep
section
variable {H:Type} {enc:TypeId × Value→H} {P:Program} {w:World} {base:Nat} {spare:Nat→Bool} {held:Bool} {fuel:Nat} {t:TypeId} {cs:List Value} {x:DataW H × List MemPlace}
theorem trod_len {fs:Array Field} (ht:P.underlying t=some (.struct fs)) (h:DataW.trod enc P w base spare held fuel t cs=some x):cs.length=P.cellsOf t:=by
  obtain ⟨_,_,_,_,hl,_⟩:=DataW.trod_struct ht h
  exact hl
theorem trod_field {fs:Array Field} (ht:P.underlying t=some (.struct fs)) (h:DataW.trod enc P w base spare held fuel t cs=some x) (j:Nat) (f:Field) (hj:fs[j]?=some f) :
    ∃ n y,DataW.trod enc P w base spare held n f.type ((cs.drop f.offset).take (P.cellsOf f.type))=some y:=by
  obtain ⟨xs,n,_,_,_,hlen,hf⟩:=DataW.trod_struct ht h
  have h1:=hf j f hj
  have hjl:j < xs.length:=by rw [hlen]; exact (Array.getElem?_eq_some_iff.1 hj).1
  exact ⟨n,xs[j],h1.trans (List.getElem?_eq_getElem hjl)⟩
theorem open_struct {r:Reach} {b0:Nat} {v:Value} {d:DataW H} {p:List MemPlace} {fs:Array Field} (ht:P.underlying t=some (.struct fs)) (hv:Value.okWide P w r b0 t v) (h:DataW.Trod enc P w base spare held t v d p) :
    ∃ (cs:List Value) (fuel:Nat),v=.agg cs.toArray∧DataW.trod enc P w base spare held fuel t cs=some (d,p):=by
  obtain ⟨cs,rfl,_⟩:=okWide_struct ht hv
  obtain ⟨fuel,hf⟩:=h
  exact ⟨cs.toList,fuel,rfl,hf⟩
theorem list_of {α:Type} {Q:Nat→α→Prop}:∀ (n:Nat),(∀ i,i < n→∃ r,Q i r)→∃ l:List α,l.length=n∧∀ (i:Nat) (r:α),l[i]?=some r→Q i r
  | 0,_=>⟨[],rfl,by simp⟩
  | n + 1,h=>by
    obtain ⟨l,hl,hq⟩:=list_of n (fun i hi=>h i (by omega))
    obtain ⟨r,hr⟩:=h n (by omega)
    refine ⟨l ++ [r],by simp [hl],fun i r' hi=>?_⟩
    rw [List.getElem?_append] at hi
    split at hi
    · exact hq i r' hi
    · rename_i hge
      obtain rfl:i=n:=by
        have:=(List.getElem?_eq_some_iff.1 hi).1
        simp at this
        omega
      simp [hl] at hi
      subst hi
      exact hr
theorem open_elems {e:TypeId} {size:Nat} {v:Value} (ht:P.underlying t=some (.slice e)) (hc:P.cellsOf e=size) (hs:0 < size) (h:DataW.trod enc P w base spare held fuel t [v]=some x) :
    ∃ A len cap,v=.slice A len cap∧len≤cap∧cap≤maxLen∧(A=none→len=0∧cap=0) ∧
      ∀ i,i < len→∃ b o cs n y,A=some ⟨b,o,none⟩∧cs.length=size∧Holds w (elemL b (o + i * size) cs)∧DataW.trod enc P w base spare held n e cs=some y:=by
  rcases open_slice ht h with ⟨e1,_⟩ | ⟨a,len,cap,m,n,D,Pl,e1,hb,hl,hm,hmm,_,hi⟩
  · cases e1
    exact ⟨none,0,0,rfl,by omega,by omega,fun _=>⟨rfl,rfl⟩,fun i hi=>by omega⟩
  · cases e1
    refine ⟨some a,len,cap,rfl,hl,hm,(by intro h; cases h),fun i hil=>?_⟩
    obtain ⟨cs',hcs,ht'⟩:=hi i (by rw [hmm]; split <;> omega)
    rw [hc] at hcs
    obtain ⟨_,hlen,hcell⟩:=World.cells?_some hcs
    have h0:=hcell 0 hs
    have hlt0:0 < cs'.length:=by omega
    rw [List.getElem?_eq_getElem hlt0] at h0
    have hspot:=World.cell?_spot h0
    obtain ⟨b,o,sp⟩:=a
    have hsp:sp=none:=by
      by_cases hz:i * size=0
      · simpa [Addr.add,hz] using hspot
      · rcases Nat.eq_zero_or_pos i with h0' | h0'
        · simp [h0'] at hz
        · obtain ⟨cs0,hcs0,_⟩:=hi 0 (by rw [hmm]; split <;> omega)
          rw [hc] at hcs0
          obtain ⟨_,hlen0,hcell0⟩:=World.cells?_some hcs0
          have h00:=hcell0 0 hs
          rw [List.getElem?_eq_getElem (by omega)] at h00
          simpa [Addr.add] using World.cell?_spot h00
    subst hsp
    refine ⟨b,o,cs',n,_,rfl,hlen,elemL_holds _ _ fun j u hu=>?_,ht'⟩
    have hj:j < size:=by have:=(List.getElem?_eq_some_iff.1 hu).1; omega
    have:=(hcell j hj).trans hu
    have ea:((⟨b,o,none⟩:Addr).add (i * size)).add j=⟨b,o + i * size + j,none⟩:=by
      unfold Addr.add
      by_cases h1:i * size=0 <;> by_cases h2:j=0 <;> simp [h1,h2]
    rwa [ea] at this
end
structure ArgIn {H:Type} (enc:TypeId × Value→H) (P:Program) (W:World) (base:Nat) (t:TypeId) (v:Value) (d:DataW H) (p:List MemPlace):Prop where
  wide:Value.okWide P W .any base t v
  trod:DataW.Trod enc P W 0 (fun _=>true) true t v d p
section
variable {H:Type} {enc:TypeId × Value→H} {P:Program} {W:World} {base:Nat} {t:TypeId} {v:Value} {d:DataW H} {p:List MemPlace}
theorem ArgIn.slice {e:TypeId} (h:ArgIn enc P W base t v d p) (ht:P.underlying t=some (.slice e)) :
    ∃ A l c fuel,v=.slice A l c∧DataW.trod enc P W 0 (fun _=>true) true fuel t [.slice A l c]=some (d,p):=by
  obtain ⟨A,l,c,rfl⟩:=okWide_slice ht h.wide
  obtain ⟨fuel,hf⟩:=h.trod
  exact ⟨A,l,c,fuel,rfl,hf⟩
theorem ArgIn.struct {fs:Array Field} (h:ArgIn enc P W base t v d p) (ht:P.underlying t=some (.struct fs)) :
    ∃ (cs:List Value) (fuel:Nat),v=.agg cs.toArray∧DataW.trod enc P W 0 (fun _=>true) true fuel t cs=some (d,p) :=
  open_struct ht h.wide h.trod
theorem ArgIn.int {k:IntKind} (h:ArgIn enc P W base t v d p) (ht:P.underlying t=some (.int k)):∃ n,v=.int k n∧(Lit.int k n).wf=true:=by
  obtain ⟨n,rfl,_,_,hw⟩:=open_int ht h.wide h.trod
  exact ⟨n,rfl,hw⟩
theorem ArgIn.bool (h:ArgIn enc P W base t v d p) (ht:P.underlying t=some .bool):∃ b,v=.bool b:=by
  obtain ⟨b,rfl,_⟩:=open_bool ht h.wide h.trod
  exact ⟨b,rfl⟩
theorem ArgIn.string (h:ArgIn enc P W base t v d p) (ht:P.underlying t=some .string):∃ s:ByteArray,v=.string s∧s.size≤maxLen:=by
  obtain ⟨s,rfl,_,_,hs⟩:=Go.ChangeMaps.open_string ht h.wide h.trod
  exact ⟨s,rfl,hs⟩
end
end
section
open Go Go.RowKit Go.ChangeShapes Go.WideShapes Go.Deep
theorem elemL_get {w:World} {b:Nat}:∀ {cs:List Value} {o:Nat} (_:Holds w (elemL b o cs)) {j:Nat} {v:Value} (_:cs[j]?=some v),w.cell? ⟨b,o + j,none⟩=some v
  | [],_,_,_,_,h=>by simp at h
  | c :: cs,o,hh,j,v,h=>by
    rw [elemL,Holds.cons] at hh
    cases j with
    | zero=>simp at h; subst h; exact hh.1
    | succ j=>rw [show o + (j + 1)=o + 1 + j by omega]; exact elemL_get hh.2 (by simpa using h)
inductive Sh where
  | int (k:IntKind)
  | bool
  | str
  | sl (s:Sh)
  | st (l:List Sh)
def shFields (P:Program) (g:TypeId→Option Sh):Nat→List Field→Option (List Sh)
  | _,[]=>some []
  | o,f :: fs=>if f.offset=o then do
      let s ← g f.type
      let l ← shFields P g (o + P.cellsOf f.type) fs
      pure (s :: l)
    else none
def fieldsEnd (P:Program):Nat→List Field→Nat
  | o,[]=>o
  | o,f :: fs=>fieldsEnd P (o + P.cellsOf f.type) fs
def shOf (P:Program):Nat→TypeId→Option Sh
  | 0,_=>none
  | n + 1,t=>match P.underlying t with
    | some (.int k)=>if P.cellsOf t=1 then some (.int k) else none
    | some .bool=>if P.cellsOf t=1 then some .bool else none
    | some .string=>if P.cellsOf t=1 then some .str else none
    | some (.slice e)=>if P.cellsOf t=1∧0 < P.cellsOf e then (shOf P n e).map .sl else none
    | some (.struct fs)=>if fieldsEnd P 0 fs.toList=P.cellsOf t then (shFields P (shOf P n) 0 fs.toList).map .st else none
    | some (.array k e)=>if k * P.cellsOf e=P.cellsOf t then (shOf P n e).map fun s=>.st (List.replicate k s) else none
    | _=>none
def Sh.pack:Sh→List V→V
  | .st _,ds=>.agg ds
  | _,d :: _=>d
  | _,[]=>.und
mutual
inductive Sh.Has:Sh→List V→Prop where
  | int (k:IntKind) (n:Int) (h:(Lit.int k n).wf=true):Sh.Has (.int k) [.sc (.int k n)]
  | bool (b:Bool):Sh.Has .bool [.sc (.bool b)]
  | str (s:ByteArray) (h:s.size≤maxLen):Sh.Has .str [.sc (.string s)]
  | sl (s:Sh) (l:List V) (h:Sh.Hasl s l):Sh.Has (.sl s) [.sl .no l]
  | st (l:List Sh) (ds:List V) (h:Sh.Hass l ds):Sh.Has (.st l) ds
inductive Sh.Hasl:Sh→List V→Prop where
  | nil (s:Sh):Sh.Hasl s []
  | cons (s:Sh) (ds l:List V) (h:Sh.Has s ds) (k:Sh.Hasl s l):Sh.Hasl s (s.pack ds :: l)
inductive Sh.Hass:List Sh→List V→Prop where
  | nil:Sh.Hass [] []
  | cons (s:Sh) (l:List Sh) (a b:List V) (h:Sh.Has s a) (k:Sh.Hass l b):Sh.Hass (s :: l) (a ++ b)
end
theorem hasl_of {s:Sh}:∀ (l:List V),(∀ d,d ∈ l→∃ ds,d=s.pack ds∧Sh.Has s ds)→Sh.Hasl s l
  | [],_=>.nil s
  | d :: l,h=>by
    obtain ⟨ds,rfl,hd⟩:=h d (List.mem_cons_self ..)
    exact .cons s ds l hd (hasl_of l fun e he=>h e (List.mem_cons_of_mem _ he))
def ghOf (w:World):Gh:=⟨fun b o=>w.cell? ⟨b,o,none⟩,fun _=>none⟩
def RepR (G:Gh) (ds:List V) (cs:List Value):Prop:=ds.length=cs.length∧(∀ v ∈ cs,v.oneCell'=true)∧(∀ (i:Nat) (d:V) (v:Value),ds[i]?=some d→cs[i]?=some v→Rep1 G d v)∧∀ d ∈ ds,d.cells=[d]
theorem RepR.one {G:Gh} {d:V} {v:Value} (h:Rep1 G d v) (h1:v.oneCell'=true) (h2:d.cells=[d]):RepR G [d] [v] :=
  ⟨rfl,by simpa using h1,fun i d' v' hd hv=>by
    cases i with
    | zero=>simp at hd hv; subst hd hv; exact h
    | succ i=>simp at hd,by simpa using h2⟩
theorem RepR.append {G:Gh} {a b:List V} {c d:List Value} (h:RepR G a c) (k:RepR G b d):RepR G (a ++ b) (c ++ d) :=
  ⟨by simp [h.1,k.1],fun v hv=>by
    rcases List.mem_append.1 hv with h' | h'
    · exact h.2.1 v h'
    · exact k.2.1 v h',fun i x v hx hv=>by
    rw [List.getElem?_append] at hx hv
    rw [← h.1] at hv
    split at hx
    · rename_i hlt
      rw [if_pos hlt] at hv
      exact h.2.2.1 i x v hx hv
    · rename_i hlt
      rw [if_neg hlt] at hv
      exact k.2.2.1 _ x v hx hv,fun x hx=>by
    rcases List.mem_append.1 hx with h' | h'
    · exact h.2.2.2 x h'
    · exact k.2.2.2 x h'⟩
theorem pack_cells {s:Sh} {ds:List V} (h:s.Has ds) (hc:∀ d ∈ ds,d.cells=[d]):(s.pack ds).cells=ds:=by
  cases h with
  | int=>rfl
  | bool=>rfl
  | str=>rfl
  | sl=>rfl
  | st=>rfl
section
variable {H:Type} {enc:TypeId × Value→H} {P:Program} {w:World} {base:Nat} {spare:Nat→Bool} {held:Bool}
theorem open_sh:∀ (n:Nat) {t:TypeId} {s:Sh} (_:shOf P n t=some s) {fuel:Nat} {cs:List Value} {x:DataW H × List MemPlace} (_:DataW.trod enc P w base spare held fuel t cs=some x),
    ∃ ds,s.Has ds∧RepR (ghOf w) ds cs∧cs.length=P.cellsOf t
  | 0,_,_,hs,_,_,_,_=>by simp [shOf] at hs
  | n + 1,t,s,hs,fuel,cs,x,h=>by
    unfold shOf at hs
    split at hs
    · rename_i k hu
      split at hs
      · rename_i hc
        cases hs
        obtain ⟨m,rfl,_,hw⟩:=DataW.trod_int hu h
        exact ⟨_,.int k m hw,.one (.sc _ rfl) rfl rfl,by rw [hc]; rfl⟩
      · cases hs
    · rename_i hu
      split at hs
      · rename_i hc
        cases hs
        obtain ⟨m,rfl,_⟩:=DataW.trod_bool hu h
        exact ⟨_,.bool m,.one (.sc _ rfl) rfl rfl,by rw [hc]; rfl⟩
      · cases hs
    · rename_i hu
      split at hs
      · rename_i hc
        cases hs
        obtain ⟨m,rfl,_,hm⟩:=DataW.trod_string hu h
        exact ⟨_,.str m hm,.one (.sc _ rfl) rfl rfl,by rw [hc]; rfl⟩
      · cases hs
    · rename_i e hu
      split at hs
      · rename_i hc
        obtain ⟨s',hs',rfl⟩:=Option.map_eq_some_iff.1 hs
        have hlen1:∃ v,cs=[v]:=by
          rcases DataW.trod_slice hu h with ⟨rfl,_⟩ | ⟨a,len,cap,_,_,_,_,rfl,_⟩
          · exact ⟨_,rfl⟩
          · exact ⟨_,rfl⟩
        obtain ⟨v,rfl⟩:=hlen1
        obtain ⟨A,len,cap,rfl,hle,hm,hA,hel⟩:=open_elems hu rfl hc.2 h
        obtain ⟨l,hl,hq⟩:=list_of (Q:=fun i (p:V × List Value)=>∃ b o,A=some ⟨b,o,none⟩∧p.2.length=P.cellsOf e∧Holds w (elemL b (o + i * P.cellsOf e) p.2)∧∃ ds,p.1=s'.pack ds∧s'.Has ds∧RepR (ghOf w) ds p.2) len (fun i hi=>by
          obtain ⟨b,o,cs',n',y,hA',hlen,hh,ht⟩:=hel i hi
          obtain ⟨ds,k1,k2,k3⟩:=open_sh n hs' ht
          exact ⟨(s'.pack ds,cs'),b,o,hA',hlen,hh,ds,rfl,k1,k2⟩)
        refine ⟨[.sl .no (l.map (·.1))],.sl s' _ (hasl_of _ fun d hd=>?_),.one ?_ rfl rfl,by rw [hc.1]; rfl⟩
        · obtain ⟨p,hp,rfl⟩:=List.mem_map.1 hd
          obtain ⟨i,hi,rfl⟩:=List.mem_iff_getElem.1 hp
          obtain ⟨_,_,_,_,_,ds,k1,k2,_⟩:=hq i _ (List.getElem?_eq_getElem hi)
          exact ⟨ds,k1,k2⟩
        · cases A with
          | none =>
            obtain ⟨rfl,rfl⟩:=hA rfl
            obtain rfl:=List.eq_nil_of_length_eq_zero hl
            exact .nil .no (fun g k e=>by cases e)
          | some a =>
            by_cases h0:len=0
            · subst h0
              obtain rfl:=List.eq_nil_of_length_eq_zero hl
              exact .emp a cap hm
            · obtain ⟨b,o,_,_,_,hA',_⟩:=hel 0 (by omega)
              cases hA'
              have hlm:len=(l.map (·.1)).length:=by simp [hl]
              rw [hlm]
              refine .sl .no _ b o (P.cellsOf e) cap (fun i j=>((l[i]?.map (·.2)).getD []).getD j default) (fun i d hd=>?_) (fun i j hi hj=>?_) (fun i j hi hj=>?_) (fun i d j c hd hc'=>?_) (by simp; omega) hm (by simp) (fun g k e=>by cases e)
              · rw [List.getElem?_map] at hd
                obtain ⟨p,hp,rfl⟩:=Option.map_eq_some_iff.1 hd
                obtain ⟨_,_,_,k1,_,ds,k2,k3,k4⟩:=hq i p hp
                rw [k2,pack_cells k3 k4.2.2.2,k4.1,k1]
              · obtain ⟨p,hp⟩:∃ p,l[i]?=some p:=⟨_,List.getElem?_eq_getElem (by simpa using hi)⟩
                obtain ⟨b',o',e',k1,k0,ds,k2,k3,k4⟩:=hq i p hp
                cases e'
                have hj':j < p.2.length:=by omega
                simp only [hp,Option.map_some,Option.getD_some,ghOf]
                have:=elemL_get k0 (List.getElem?_eq_getElem hj')
                rw [this]
                simp [List.getD,hj']
              · obtain ⟨p,hp⟩:∃ p,l[i]?=some p:=⟨_,List.getElem?_eq_getElem (by simpa using hi)⟩
                obtain ⟨b',o',e',k1,k0,ds,k2,k3,k4⟩:=hq i p hp
                have hj':j < p.2.length:=by omega
                simp only [hp,Option.map_some,Option.getD_some]
                simp only [List.getD,List.getElem?_eq_getElem hj',Option.getD_some]
                exact k4.2.1 _ (List.getElem_mem hj')
              · rw [List.getElem?_map] at hd
                obtain ⟨p,hp,rfl⟩:=Option.map_eq_some_iff.1 hd
                obtain ⟨_,_,_,k1,_,ds,k2,k3,k4⟩:=hq i p hp
                rw [k2,pack_cells k3 k4.2.2.2] at hc'
                have hj':j < p.2.length:=by rw [← k4.1]; exact (List.getElem?_eq_some_iff.1 hc').1
                simp only [hp,Option.map_some,Option.getD_some]
                simp only [List.getD,List.getElem?_eq_getElem hj',Option.getD_some]
                exact k4.2.2.1 j c _ hc' (List.getElem?_eq_getElem hj')
      · cases hs
    · rename_i fs hu
      split at hs
      · rename_i hend
        obtain ⟨ss,hss,rfl⟩:=Option.map_eq_some_iff.1 hs
        have hl:=trod_len hu h
        have key:∀ (gs:List Field) (j0 o:Nat) (ss:List Sh),(∀ i f,gs[i]?=some f→fs[j0 + i]?=some f)→shFields P (shOf P n) o gs=some ss→fieldsEnd P o gs=cs.length →
            ∃ ds,Sh.Hass ss ds∧RepR (ghOf w) ds (cs.drop o):=by
          intro gs
          induction gs with
          | nil =>
            intro j0 o ss _ hss he
            simp only [shFields,Option.some.injEq] at hss
            subst hss
            simp only [fieldsEnd] at he
            exact ⟨[],.nil,by rw [List.drop_of_length_le (by omega)]; exact ⟨rfl,by simp,by simp,by simp⟩⟩
          | cons f gs ih =>
            intro j0 o ss hg hss he
            simp only [shFields] at hss
            split at hss
            · rename_i hof
              simp only [Option.bind_eq_bind,Option.bind_eq_some_iff] at hss
              obtain ⟨s0,h0,ss',h1,h2⟩:=hss
              cases h2
              simp only [fieldsEnd] at he
              obtain ⟨ds',k1,k2⟩:=ih (j0 + 1) _ ss' (fun i g hi=>by rw [show j0 + 1 + i=j0 + (i + 1) by omega]; exact hg (i + 1) g (by simpa using hi)) h1 he
              obtain ⟨m,y,hy⟩:=trod_field hu h j0 f (by simpa using hg 0 f rfl)
              rw [hof] at hy
              obtain ⟨ds0,q1,q2,q3⟩:=open_sh n h0 hy
              refine ⟨ds0 ++ ds',.cons _ _ _ _ q1 k1,?_⟩
              have:=q2.append k2
              rwa [← List.drop_drop,List.take_append_drop] at this
            · cases hss
        obtain ⟨ds,k1,k2⟩:=key fs.toList 0 0 ss (fun i f hf=>by simpa using hf) hss (by rw [hend,hl])
        exact ⟨ds,.st _ _ k1,by simpa using k2,hl⟩
      · cases hs
    · rename_i k e hu
      split at hs
      · rename_i hend
        obtain ⟨s',hs',rfl⟩:=Option.map_eq_some_iff.1 hs
        obtain ⟨xs,m,_,_,hl,hxl,hget⟩:=DataW.trod_array hu h
        have key:∀ (j i:Nat),i + j=k→∃ ds,Sh.Hass (List.replicate j s') ds∧RepR (ghOf w) ds (cs.drop (i * P.cellsOf e)):=by
          intro j
          induction j with
          | zero =>
            intro i hij
            refine ⟨[],.nil,?_⟩
            have:i=k:=by omega
            subst this
            rw [List.drop_of_length_le (by omega)]
            exact ⟨rfl,by simp,by simp,by simp⟩
          | succ j ih =>
            intro i hij
            obtain ⟨ds',k1,k2⟩:=ih (i + 1) (by omega)
            have hlt:i < xs.length:=by omega
            have hy:=hget i (by omega)
            rw [List.getElem?_eq_getElem hlt] at hy
            obtain ⟨ds0,q1,q2,q3⟩:=open_sh n hs' hy
            refine ⟨ds0 ++ ds',.cons _ _ _ _ q1 k1,?_⟩
            have:=q2.append k2
            rwa [Nat.add_mul,Nat.one_mul,← List.drop_drop,List.take_append_drop] at this
        obtain ⟨ds,k1,k2⟩:=key k 0 (by omega)
        exact ⟨ds,.st _ _ k1,by simpa using k2,hl⟩
      · cases hs
    · cases hs
theorem RepR.agg {G:Gh} {ds:List V} {cs:List Value} (h:RepR G ds cs):Rep1 G (.agg ds) (.agg cs.toArray) :=
  .agg ds _ (by simp [h.1]) (fun i v hv=>h.2.1 v (List.mem_of_getElem? (by simpa using hv))) (fun i c v hc hv=>h.2.2.1 i c v hc (by simpa using hv))
theorem RepR.head {G:Gh} {d:V} {v:Value} (h:RepR G [d] [v]):Rep1 G d v:=h.2.2.1 0 d v rfl rfl
theorem arg_sh {W:World} (n:Nat) {t:TypeId} {s:Sh} {v:Value} {d:DataW H} {p:List MemPlace} (hs:shOf P n t=some s) (h:ArgIn enc P W base t v d p):∃ ds,s.Has ds∧Rep1 (ghOf W) (s.pack ds) v:=by
  cases n with
  | zero=>simp [shOf] at hs
  | succ n =>
  have hs0:=hs
  unfold shOf at hs
  split at hs
  · rename_i k hu
    split at hs
    · cases hs
      obtain ⟨m,rfl,hw⟩:=h.int hu
      exact ⟨_,.int k m hw,.sc _ rfl⟩
    · cases hs
  · rename_i hu
    split at hs
    · cases hs
      obtain ⟨b,rfl⟩:=h.bool hu
      exact ⟨_,.bool b,.sc _ rfl⟩
    · cases hs
  · rename_i hu
    split at hs
    · cases hs
      obtain ⟨b,rfl,hm⟩:=h.string hu
      exact ⟨_,.str b hm,.sc _ rfl⟩
    · cases hs
  · rename_i e hu
    split at hs
    · obtain ⟨s',hs',rfl⟩:=Option.map_eq_some_iff.1 hs
      obtain ⟨A,l,c,fuel,rfl,ht⟩:=h.slice hu
      obtain ⟨ds,k1,k2,_⟩:=open_sh _ hs0 ht
      refine ⟨ds,k1,?_⟩
      cases k1 with
      | sl _ l' h'=>exact k2.head
    · cases hs
  · rename_i fs hu
    split at hs
    · obtain ⟨ss,hss,rfl⟩:=Option.map_eq_some_iff.1 hs
      obtain ⟨cs,fuel,rfl,ht⟩:=h.struct hu
      obtain ⟨ds,k1,k2,_⟩:=open_sh _ hs0 ht
      exact ⟨ds,k1,k2.agg⟩
    · cases hs
  · rename_i k e hu
    split at hs
    · obtain ⟨s',hs',rfl⟩:=Option.map_eq_some_iff.1 hs
      have hwd:=h.wide
      simp only [Value.okWide,hu] at hwd
      obtain ⟨cs,rfl,_⟩:=hwd
      obtain ⟨fuel,ht⟩:=h.trod
      obtain ⟨ds,k1,k2,_⟩:=open_sh _ hs0 ht
      have ha:=k2.agg
      rw [show (Value.agg cs).cells.toList.toArray=cs from by simp [Value.cells]] at ha
      exact ⟨ds,k1,ha⟩
    · cases hs
  · cases hs
end
def st0 (w:World):St:=⟨fun _=>none,fun _=>none,w.heap.size⟩
theorem repW0 (w:World) (hT:Tabs w):RepW (Fr.of w hT) (ghOf w) (st0 w) w :=
  ⟨fun _ _ _ h=>h,fun _ _ h=>(by cases h),fun _ _ h=>(by cases h),fun _ _ h=>(by cases h),Nat.le_refl _,Below.refl _ _,fun _ _ h=>(by cases h)⟩
theorem v_calls {P:Program} {f:FuncId} {args:List V} {us:Array Value} {w:World} (h:VCalls P f args (st0 w) fun r _=>r=.sc (.bool true)) (hl:us.size=args.length)
    (hr:∀ (i:Nat) (d:V) (u:Value),args[i]?=some d→us[i]?=some u→Rep1 (ghOf w) d u) (hT:Tabs w:=by intro _ _ _ h; cases h):Calls P f us w (Pure w (.bool true)) :=
  (h (Fr.of w hT) (ghOf w) w us (repW0 w hT) hl hr).mono fun e w' ⟨u,r,st',G',h1,h2,h3,_,h5⟩=>by
    subst h2
    cases h3
    exact ⟨h1,h5.bel⟩
theorem reps3 {G:Gh} {d e f:V} {u q r:Value} (h:Rep1 G d u) (k:Rep1 G e q) (l:Rep1 G f r):∀ (i:Nat) (x:V) (v:Value),[d,e,f][i]?=some x→#[u,q,r][i]?=some v→Rep1 G x v:=fun i x v hx hv=>by
  match i with
  | 0=>simp at hx hv; subst hx hv; exact h
  | 1=>simp at hx hv; subst hx hv; exact k
  | 2=>simp at hx hv; subst hx hv; exact l
  | i + 3=>simp at hx
end
end Go.Proofs.YtifeoamomonbjaaGreatDoor
