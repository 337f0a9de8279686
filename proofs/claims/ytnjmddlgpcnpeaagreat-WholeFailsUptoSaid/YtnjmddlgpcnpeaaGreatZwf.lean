/- Steps of the proof, joined: VBe, VRef1, VRow, VMsg, VMsg2, VMsgLaw, VRef3, VRef16, VMsg3, VMsg4, VMsg5, VMsgOf, VMsg6, VMsg7, VMsg8, VMsgB, VStrmLaw, VStrm, VStrm2, VStrm3, WfStrm, Wf1. -/
import Derived.Test.YtnjmddlgpcnpeaaGreatZec
import Derived.Test.YtnjmddlgpcnpeaaGreatVc
import Derived.Test.YtnjmddlgpcnpeaaGreatZwa
import Derived.Laws.BitsAllLaws
import Derived.Test.YtnjmddlgpcnpeaaGreatZwb
import Derived.KernelRfl
namespace Go.Proofs.YtnjmddlgpcnpeaaGreat
open Go
attribute [local go_sem] run_skip run_reg run_seq run_blk run_exit run_ret run_cond if_true if_false at_code_n at_code_x at_code_r at_blk_n at_blk_x at_blk_r at_rnd_n at_rnd_x at_rnd_r at_fin_n at_fin_r ops_nil ops_grd grd_und grd_tt grd_ff grd_tf grd_ft ops_mv ops_pick ops_bin ops_binZ ops_un ops_binb ops_eqs ops_isnil ops_pnil ops_b2s ops_s2b ops_b2sB ops_s2a ops_slcA ops_aidx vaidx vb2sB vs2a vslcA ops_sidx vs2b vsidx srcX ops_appx apx_mk ops_mks ops_mko mks_int mko_int vbinb veqs visnil vpnil vb2s ops_conv ops_fld ops_ix ops_ixa ops_load ops_nilck ops_ext ops_len ops_slen ops_mn ops_mx ops_bld ops_bsl ops_slc ops_sslc ops_box ops_alc ops_alcX ops_boxX ops_bslo ops_store ops_app ops_call ev_t ev_c put_get put_none opv_mk stb_some sto_ptr over_get rel_mk vnat Bx Stp vbld vbsl put_box_same put_box_ne put_sz put_own use_box use_sz put_put args0 List.getD_cons_zero List.getD_cons_succ List.getD_nil vpick vbin vbinZ vbinI vbinS vun vconv norm vfld vnil vlen vslen vext vmm vix vixa vload takeV takeB mono_nil mono_two mono_sc mono_any mono_und mono_sl mono_agg mono_ep vmlk vmlen vmnil vinil vent vmfn allSc vslc3 kOk fitsV ops_mlk ops_mlen ops_mnil ops_inil ops_ent ops_mfn ops_slc3 ops_mkm ops_mup mup_map mub_some ops_mdel mdl_nil mdl_map mdb_some ops_rng rng_none rng_map rgb_some ops_nxt ops_ment met_map meb_some ops_est est_map esb_some ops_clr clr_nil clr_box clb_some ops_calv clv_func vslc vsslc fillV splice V.cells strip strip1 allLen ptrV obsOk shAmt IntKind.bits List.map_cons List.map_nil List.length_cons List.length_nil List.getElem?_cons_zero List.getElem?_cons_succ List.take_succ_cons List.take_zero List.drop_succ_cons List.drop_zero List.cons_append List.nil_append List.append_nil List.take_nil List.drop_nil Option.map_some Option.map_none and_true true_and Int.toNat_natCast Nat.min_def Nat.zero_add Nat.add_zero Nat.zero_mul Nat.mul_one Nat.one_mul vret rvAll rvVal resv_1 resv_2 decide_true decide_false Int.lt_irrefl Bool.not_true Bool.not_false ne_eq not_true_eq_false not_false_eq_true eq_self Bool.true_eq_false Bool.false_eq_true List.contains_cons List.contains_nil Bool.false_or Bool.true_or Bool.or_false Bool.or_true List.mem_cons List.not_mem_nil or_false or_true true_or false_or mono_bs ops_aidxn vaidxn ops_fv vfv ops_mki vmki ops_inv ops_cpy cpy_box cpb_some Nat.reduceEqDiff Nat.reduceAdd Nat.reduceMul Nat.reduceSub Nat.reduceLT Nat.reduceLeDiff Int.reduceToNat Int.reduceLE Int.reduceLT Int.reducePow Int.reduceMul Int.reduceAdd Int.reduceSub Int.reduceNeg Int.reduceEq Int.reduceMod Int.reduceDiv Nat.reducePow Nat.reduceMod Nat.reduceDiv reduceCtorEq Nat.reduceBEq
section
open Go
def rdNum (L:List Int) (at_:Nat) (bad:Bool) (size:Int):Int × Nat × Bool :=
  if size < 1 ∨ 8 < size ∨ bad=true ∨ (L.length:Int) - at_ < size then (0,at_,true) else (numL ((L.drop at_).take size.toNat),at_ + size.toNat,false)
def rdTake (L:List Int) (at_:Nat) (bad:Bool) (k:Int):List Int × Nat × Bool :=
  if k < 0 ∨ bad=true ∨ (L.length:Int) - at_ < k then ([],at_,true) else ((L.drop at_).take k.toNat,at_ + k.toNat,false)
theorem rdNum_lt {L:List Int} {at_:Nat} {bad:Bool} (hB:IsB L) {k:Nat} (hk:1≤k):0≤(rdNum L at_ bad k).1∧(rdNum L at_ bad k).1 < 256 ^ k:=by
  have hp:=pow256_pos k
  unfold rdNum
  split
  · simp only; omega
  · have:=numL_range _ ((L.drop at_).take ((k:Int)).toNat) rfl ((hB.drop _).take _)
    have hl:((L.drop at_).take ((k:Int)).toNat).length=k:=by simp; omega
    rw [hl] at this
    exact this
def rdr (tk:Tk) (L:List Int) (at_:Nat) (bad:Bool):List V:=[.sl tk (bs L),.sc (.int .i64 at_),.sc (.bool bad)]
theorem rdr_max {st:St} (h:st.Wf) {b:Nat} {tk:Tk} {L:List Int} {at_:Nat} {bad:Bool} (hb:st.box b=some (rdr tk L at_ bad)):L.length≤9223372036854775807:=by
  have:=vlen_max (h.ok b _ hb _ (List.mem_cons_self ..))
  rw [bs_len] at this; omega
section
variable {tk:Tk} {L:List Int} {st:St} {b at_:Nat} {bad:Bool}
theorem Get16_v (hB:IsB L):VCalls Tryz.prog 92 [.sl tk (bs L)] st fun r st'=>r=.sc (.int .u16 (if L.length < 2 then 0 else numL (L.take 2)))∧st=st':=by
  refine vcalls_enter vc92 (Nat.le_of_ble_eq_true rfl) fun hwf hok=>?_
  show Run _ Vc92.body (.fin (finQ Vc92.res _)) _ _
  unfold Vc92 zl zm zo
  simp (config:={maxSteps:=3000000}) (disch:=((fail_if_success refine selfNe ?_); omega)) only [go_sem,↓reduceIte,bs_len]
  refine If.dec (fun h=>?_) (fun h=>?_)
  · simp (config:={maxSteps:=3000000}) (disch:=((fail_if_success refine selfNe ?_); omega)) only [go_sem,↓reduceIte]
    exact ⟨_,_,Wk.refl _,hwf.weak,by rw [if_pos (by omega)],rfl⟩
  · obtain ⟨a,h0⟩:=get_ex (L:=L) (i:=0) (by omega)
    obtain ⟨b,h1⟩:=get_ex (L:=L) (i:=1) (by omega)
    have b0:=hB.get h0
    have b1:=hB.get h1
    have hn:numL (L.take 2)=256 * a + b:=by
      match L,h with
      | x :: y :: L,_=>simp at h0 h1; subst h0 h1; simp [numL]
    simp (config:={maxSteps:=3000000}) (disch:=((fail_if_success refine selfNe ?_); omega)) only [go_sem,↓reduceIte,bs_get,h0,h1,emod_small,ibit_or,u16_join]
    exact ⟨_,_,Wk.refl _,hwf.weak,by rw [if_neg (by omega),hn],rfl⟩
theorem New_v:VCalls Tryz.prog 94 [.sl tk (bs L)] st fun r st'=>∃ b,st.sz≤b∧r=ptrV b∧st'=st.put b (rdr tk L 0 false):=by
  refine vcalls_enter vc94 (Nat.le_of_ble_eq_true rfl) fun hwf hok=>?_
  show Run _ Vc94.body (.fin (finQ Vc94.res _)) _ _
  unfold Vc94 zm zo
  simp (config:={maxSteps:=3000000}) (disch:=((fail_if_success refine selfNe ?_); omega)) only [go_sem,↓reduceIte]
  exact fun b hb=>⟨_,_,Wk.refl _,weak_both hwf.weak,b,hb,rfl,rfl⟩
theorem Left_v (hb:st.box b=some (rdr tk L at_ bad)) (h:at_≤L.length):VCalls Tryz.prog 178 [ptrV b] st fun r st'=>r=.sc (.int .i64 (L.length - at_))∧st=st':=by
  refine vcalls_enter vc178 (Nat.le_of_ble_eq_true rfl) fun hwf hok=>?_
  show Run _ Vc178.body (.fin (finQ Vc178.res _)) _ _
  unfold Vc178 zf zk zl zm zo
  have hm:=rdr_max hwf hb
  simp (config:={maxSteps:=3000000}) (disch:=((fail_if_success refine selfNe ?_); omega)) only [go_sem,↓reduceIte,hb,rdr,bs_len]
  repeat (apply And.intro; focus (first | omega | (simp; done)))
  exact ⟨_,_,Wk.refl _,hwf.weak,rfl,rfl⟩
theorem Num_v (hb:st.box b=some (rdr tk L at_ bad)) (h:at_≤L.length) (hB:IsB L) (size:Int):VCalls Tryz.prog 177 [ptrV b,.sc (.int .i64 size)] st fun r st' =>
    r=.sc (.int .u64 (rdNum L at_ bad size).1)∧st'=st.put b (rdr tk L (rdNum L at_ bad size).2.1 (rdNum L at_ bad size).2.2):=by
  refine vcalls_enter vc177 (Nat.le_of_ble_eq_true rfl) fun hwf hok=>?_
  show Run _ Vc177.body (.fin (finQ Vc177.res _)) _ _
  unfold Vc177 zf zg zk zl zm zn zo
  have hm:=rdr_max hwf hb
  by_cases h1:size < 1
  · have e:rdNum L at_ bad size=(0,at_,true):=if_pos (.inl h1)
    simp (config:={maxSteps:=3000000}) (disch:=((fail_if_success refine selfNe ?_); omega)) only [go_sem,↓reduceIte,hb,rdr,e,decide_eq_true h1]
    repeat (apply And.intro; focus (first | omega | (simp; done)))
    exact ⟨_,_,Wk.refl _,weak_both hwf.weak,rfl,rfl⟩
  by_cases h2:8 < size
  · have e:rdNum L at_ bad size=(0,at_,true):=if_pos (.inr (.inl h2))
    simp (config:={maxSteps:=3000000}) (disch:=((fail_if_success refine selfNe ?_); omega)) only [go_sem,↓reduceIte,hb,rdr,e,decide_eq_false h1,decide_eq_true h2]
    repeat (apply And.intro; focus (first | omega | (simp; done)))
    exact ⟨_,_,Wk.refl _,weak_both hwf.weak,rfl,rfl⟩
  cases bad with
  | true =>
    have e:rdNum L at_ true size=(0,at_,true):=if_pos (.inr (.inr (.inl rfl)))
    simp (config:={maxSteps:=3000000}) (disch:=((fail_if_success refine selfNe ?_); omega)) only [go_sem,↓reduceIte,hb,rdr,e,decide_eq_false h1,decide_eq_false h2]
    repeat (apply And.intro; focus (first | omega | (simp; done)))
    exact ⟨_,_,Wk.refl _,weak_both hwf.weak,rfl,rfl⟩
  | false =>
  simp (config:={maxSteps:=3000000}) (disch:=((fail_if_success refine selfNe ?_); omega)) only [go_sem,↓reduceIte,hb,rdr,decide_eq_false h1,decide_eq_false h2]
  repeat (apply And.intro; focus (first | omega | (simp; done)))
  refine Cal.mk (Left_v hb h) ?_
  rintro _ _ ⟨rfl,rfl⟩ -
  by_cases h3:(L.length:Int) - at_ < size
  · have e:rdNum L at_ false size=(0,at_,true):=if_pos (.inr (.inr (.inr h3)))
    simp (config:={maxSteps:=3000000}) (disch:=((fail_if_success refine selfNe ?_); omega)) only [go_sem,↓reduceIte,hb,rdr,e,decide_eq_true h3]
    repeat (apply And.intro; focus (first | omega | (simp; done)))
    exact ⟨_,_,Wk.refl _,weak_both hwf.weak,rfl,rfl⟩
  have e:rdNum L at_ false size=(numL ((L.drop at_).take size.toNat),at_ + size.toNat,false):=if_neg (by simp; omega)
  have hM:(L.take ((at_:Int) + size).toNat).drop at_=(L.drop at_).take size.toNat:=by rw [List.drop_take]; congr 1; omega
  have hMl:((L.drop at_).take size.toNat).length=size.toNat:=by simp; omega
  have hMB:IsB ((L.drop at_).take size.toNat):=(hB.drop _).take _
  generalize (L.drop at_).take size.toNat=M at *
  simp (config:={maxSteps:=3000000}) (disch:=((fail_if_success refine selfNe ?_); omega)) only [go_sem,↓reduceIte,hb,rdr,e,decide_eq_false h3,allSz_bs',bs_len,bs_take,bs_drop,hM]
  repeat (apply And.intro; focus (first | omega | (simp; done)))
  refine run_loop [5,7,45,46,47,48,49,50,51,52,53,54] (fun B s=>st=s∧∃ i:Nat,i≤size.toNat∧B 45=.sc (.int .i64 i)∧B 5=.sc (.int .u64 (numL (M.take i)))) (fun B _=>size.toNat - vnat (B 45)) rfl ?_ ?_
  · simp (config:={maxSteps:=3000000}) (disch:=((fail_if_success refine selfNe ?_); omega)) only [go_sem,↓reduceIte]
    exact ⟨0,by omega,by simp,by simp [numL_nil]⟩
  · rintro B s ⟨rfl,i,hi,h45,h5⟩
    by_cases hlt:i < size.toNat
    · obtain ⟨c,hc⟩:=get_ex (L:=M) (i:=i) (by omega)
      have bc:=hMB.get hc
      have hr:=numL_range _ (M.take i) rfl (hMB.take i)
      have hpw:(256:Int) ^ (M.take i).length≤72057594037927936:=by
        have h7:∀ k:Nat,k≤7→(256:Int) ^ k≤72057594037927936:=by decide
        exact h7 _ (by simp; omega)
      have hsn:numL (M.take (i + 1))=256 * numL (M.take i) + c:=by rw [List.take_add_one,hc]; exact numL_snoc _ _
      simp (config:={maxSteps:=3000000}) (disch:=((fail_if_success refine selfNe ?_); omega)) only [go_sem,↓reduceIte,h45,h5,decide_eq_true (show (i:Int) < (M.length:Int) by omega),bs_get,hc,emod_small,ibit_or,u64_join]
      repeat (apply And.intro; focus (first | omega | (simp; done)))
      exact ⟨⟨i + 1,by omega,by simp,by rw [hsn]⟩,by omega⟩
    · obtain rfl:i=size.toNat:=by omega
      have ht:M.take size.toNat=M:=List.take_of_length_le (by omega)
      rw [ht] at h5
      simp (config:={maxSteps:=3000000}) (disch:=((fail_if_success refine selfNe ?_); omega)) only [go_sem,↓reduceIte,h45,h5,decide_eq_false (show ¬ (size.toNat:Int) < (M.length:Int) by omega),hb,rdr]
      repeat (apply And.intro; focus (first | omega | (simp; done)))
      exact ⟨_,_,Wk.refl _,weak_both hwf.weak,rfl,by rw [show ((at_ + size.toNat:Nat):Int)=at_ + size by omega]⟩
theorem Own.nil {size:Nat} {st:St}:Own size st (.sl .nil []) []:=.inl ⟨rfl,rfl⟩
theorem Own.sl {size:Nat} {st:St} {v:V} {l:List V} (h:Own size st v l):∃ tk,v=.sl tk l:=by
  rcases h with ⟨rfl,rfl⟩ | ⟨g,rfl,_⟩
  · exact ⟨_,rfl⟩
  · exact ⟨_,rfl⟩
theorem U16_v (hb:st.box b=some (rdr tk L at_ bad)) (h:at_≤L.length) (hB:IsB L):VCalls Tryz.prog 96 [ptrV b] st fun r st' =>
    r=.sc (.int .u16 (rdNum L at_ bad 2).1)∧st'=st.put b (rdr tk L (rdNum L at_ bad 2).2.1 (rdNum L at_ bad 2).2.2):=by
  have hr:0≤(rdNum L at_ bad 2).1∧(rdNum L at_ bad 2).1 < 65536:=by simpa using rdNum_lt (L:=L) (at_:=at_) (bad:=bad) hB (k:=2) (by omega)
  refine vcalls_enter vc96 (Nat.le_of_ble_eq_true rfl) fun hwf hok=>?_
  show Run _ Vc96.body (.fin (finQ Vc96.res _)) _ _
  unfold Vc96 zm zo
  simp (config:={maxSteps:=3000000}) (disch:=((fail_if_success refine selfNe ?_); omega)) only [go_sem,↓reduceIte]
  refine Cal.mk (Num_v hb h hB 2) ?_
  rintro _ _ ⟨rfl,rfl⟩ -
  simp (config:={maxSteps:=3000000}) (disch:=((fail_if_success refine selfNe ?_); omega)) only [go_sem,↓reduceIte,emod_small]
  exact ⟨_,_,Wk.refl _,weak_both hwf.weak,rfl,rfl⟩
theorem U32_v (hb:st.box b=some (rdr tk L at_ bad)) (h:at_≤L.length) (hB:IsB L):VCalls Tryz.prog 97 [ptrV b] st fun r st' =>
    r=.sc (.int .u32 (rdNum L at_ bad 4).1)∧st'=st.put b (rdr tk L (rdNum L at_ bad 4).2.1 (rdNum L at_ bad 4).2.2):=by
  have hr:0≤(rdNum L at_ bad 4).1∧(rdNum L at_ bad 4).1 < 4294967296:=by simpa using rdNum_lt (L:=L) (at_:=at_) (bad:=bad) hB (k:=4) (by omega)
  refine vcalls_enter vc97 (Nat.le_of_ble_eq_true rfl) fun hwf hok=>?_
  show Run _ Vc97.body (.fin (finQ Vc97.res _)) _ _
  unfold Vc97 zm zo
  simp (config:={maxSteps:=3000000}) (disch:=((fail_if_success refine selfNe ?_); omega)) only [go_sem,↓reduceIte]
  refine Cal.mk (Num_v hb h hB 4) ?_
  rintro _ _ ⟨rfl,rfl⟩ -
  simp (config:={maxSteps:=3000000}) (disch:=((fail_if_success refine selfNe ?_); omega)) only [go_sem,↓reduceIte,emod_small]
  exact ⟨_,_,Wk.refl _,weak_both hwf.weak,rfl,rfl⟩
theorem Take_v (hb:st.box b=some (rdr tk L at_ bad)) (h:at_≤L.length) (hL:L.length≤1000000000000) (n:Int):VCalls Tryz.prog 98 [ptrV b,.sc (.int .i64 n)] st fun r st' =>
    r=.sl .no (bs (rdTake L at_ bad n).1)∧st'=st.put b (rdr tk L (rdTake L at_ bad n).2.1 (rdTake L at_ bad n).2.2):=by
  refine vcalls_enter vc98 (Nat.le_of_ble_eq_true rfl) fun hwf hok=>?_
  show Run _ Vc98.body (.fin (finQ Vc98.res _)) _ _
  unfold Vc98 zf zg zk zl zm zn zo
  by_cases h1:n < 0
  · have e:rdTake L at_ bad n=([],at_,true):=if_pos (.inl h1)
    simp (config:={maxSteps:=3000000}) (disch:=((fail_if_success refine selfNe ?_); omega)) only [go_sem,↓reduceIte,hb,rdr,e,decide_eq_true h1]
    repeat (apply And.intro; focus (first | omega | (simp; done)))
    exact ⟨_,_,Wk.no,weak_both hwf.weak,rfl,rfl⟩
  cases bad with
  | true =>
    have e:rdTake L at_ true n=([],at_,true):=if_pos (.inr (.inl rfl))
    simp (config:={maxSteps:=3000000}) (disch:=((fail_if_success refine selfNe ?_); omega)) only [go_sem,↓reduceIte,hb,rdr,e,decide_eq_false h1]
    repeat (apply And.intro; focus (first | omega | (simp; done)))
    exact ⟨_,_,Wk.no,weak_both hwf.weak,rfl,rfl⟩
  | false =>
  simp (config:={maxSteps:=3000000}) (disch:=((fail_if_success refine selfNe ?_); omega)) only [go_sem,↓reduceIte,hb,rdr,decide_eq_false h1]
  repeat (apply And.intro; focus (first | omega | (simp; done)))
  refine Cal.mk (Left_v hb h) ?_
  rintro _ _ ⟨rfl,rfl⟩ -
  by_cases h3:(L.length:Int) - at_ < n
  · have e:rdTake L at_ false n=([],at_,true):=if_pos (.inr (.inr h3))
    simp (config:={maxSteps:=3000000}) (disch:=((fail_if_success refine selfNe ?_); omega)) only [go_sem,↓reduceIte,hb,rdr,e,decide_eq_true h3]
    repeat (apply And.intro; focus (first | omega | (simp; done)))
    exact ⟨_,_,Wk.no,weak_both hwf.weak,rfl,rfl⟩
  have e:rdTake L at_ false n=((L.drop at_).take n.toNat,at_ + n.toNat,false):=if_neg (by simp; omega)
  have hM:(L.take ((at_:Int) + n).toNat).drop at_=(L.drop at_).take n.toNat:=by rw [List.drop_take]; congr 1; omega
  have hMl:((L.drop at_).take n.toNat).length=n.toNat:=by simp; omega
  generalize (L.drop at_).take n.toNat=M at *
  have ht:((at_:Int) + n - n).toNat=at_:=by omega
  simp (config:={maxSteps:=3000000}) (disch:=((fail_if_success refine selfNe ?_); omega)) only [go_sem,↓reduceIte,hb,rdr,e,decide_eq_false h3,allSz_bs',bs_len,bs_take,bs_drop,ht,hM]
  repeat (apply And.intro; focus (first | omega | (simp; done)))
  refine App.mk Own.nil (allSz_bs _) (by simp [bs_len,maxLen]; omega) (by simp [bs_len]; omega) ?_
  intro r s' k1 k2
  simp (config:={maxSteps:=3000000}) (disch:=((fail_if_success refine selfNe ?_); omega)) only [go_sem,↓reduceIte]
  obtain ⟨tk',rfl⟩:=k1.sl
  exact ⟨_,_,Wk.no,(by have:=k2.over hwf.lt.put; rwa [show (at_:Int) + n=((at_ + n.toNat:Nat):Int) by omega] at this),rfl,rfl⟩
end
end
section
open Go
section
variable {tk tk':Tk} {L M:List Int} {st:St}
theorem pow256_le {k:Nat} (h:k≤7):(256:Int) ^ k≤72057594037927936:=by
  have h7:∀ k:Nat,k≤7→(256:Int) ^ k≤72057594037927936:=by decide
  exact h7 _ h
theorem rNum_v (hB:IsB L) (hl:L.length≤8):VCalls Tryz.prog 15 [.sl tk (bs L)] st fun r st'=>r=.sc (.int .u64 (numL L))∧st=st':=by
  refine vcalls_enter vc15 (Nat.le_of_ble_eq_true rfl) fun hwf hok=>?_
  show Run _ Vc15.body (.fin (finQ Vc15.res _)) _ _
  unfold Vc15 zl zm zo
  simp (config:={maxSteps:=3000000}) (disch:=((fail_if_success refine selfNe ?_); omega)) only [go_sem]
  refine run_loop [3,4,5,6,7,8,9,10,11,12,13,14,15,16,17,18] (fun B s=>st=s∧∃ i:Nat,i≤L.length∧B 4=.sc (.int .i64 i)∧B 3=.sc (.int .u64 (numL (L.take i)))) (fun B _=>L.length - vnat (B 4)) rfl ?_ ?_
  · simp (config:={maxSteps:=3000000}) (disch:=((fail_if_success refine selfNe ?_); omega)) only [go_sem,↓reduceIte]
    exact ⟨0,by omega,by simp,by simp [numL_nil]⟩
  · rintro B s ⟨rfl,i,hi,h4,h3⟩
    by_cases hlt:i < L.length
    · obtain ⟨c,hc⟩:=get_ex hlt
      have bc:=hB.get hc
      have hr:=numL_range _ (L.take i) rfl (hB.take i)
      have hpw:=pow256_le (k:=(L.take i).length) (by simp; omega)
      have hsn:numL (L.take (i + 1))=256 * numL (L.take i) + c:=by rw [List.take_add_one,hc]; exact numL_snoc _ _
      simp (config:={maxSteps:=3000000}) (disch:=((fail_if_success refine selfNe ?_); omega)) only [go_sem,↓reduceIte,h4,h3,bs_len,decide_eq_true (show (i:Int) < (L.length:Int) by omega),bs_get,hc,emod_small]
      repeat (apply And.intro; focus (first | omega | (simp; done)))
      exact ⟨⟨i + 1,by omega,by simp,by rw [hsn]⟩,by omega⟩
    · obtain rfl:i=L.length:=by omega
      have ht:L.take L.length=L:=List.take_of_length_le (Nat.le_refl _)
      rw [ht] at h3
      simp (config:={maxSteps:=3000000}) (disch:=((fail_if_success refine selfNe ?_); omega)) only [go_sem,↓reduceIte,h4,h3,bs_len]
      exact ⟨_,_,Wk.refl _,hwf.weak,rfl,rfl⟩
theorem Own.put {size:Nat} {st:St} {v:V} {l:List V} (h:Own size st v l) {b:Nat} {cs:List V}:Own size (st.put b cs) v l:=by
  rcases h with h | ⟨g,h1,h2,h3⟩
  · exact .inl h
  · exact .inr ⟨g,h1,h2,by simp only [put_sz]; omega⟩
theorem bs_zeros (k:Nat):(List.replicate k [V.sc (.int .u8 0)]).flatten=bs (List.replicate k 0):=by
  induction k with
  | zero=>rfl
  | succ k ih=>rw [List.replicate_succ,List.flatten_cons,ih,List.replicate_succ,bs_cons]; rfl
theorem splice_bs {m:Nat} {T:List Int} {x:Int}:splice (bs (List.replicate (m + 1) 0 ++ T)) m [.sc (.int .u8 x)]=bs (List.replicate m 0 ++ x :: T):=by
  unfold splice
  have e:List.replicate (m + 1) (0:Int) ++ T=List.replicate m 0 ++ (0 :: T):=by rw [List.replicate_succ',List.append_assoc]; rfl
  have hl:(bs (List.replicate m 0)).length=m:=by simp [bs_len]
  rw [e,← bs_append,← bs_append,List.take_append_of_le_length (by omega),List.take_of_length_le (by omega),List.drop_append,hl]
  rw [List.drop_of_length_le (by simp; omega),show m + [V.sc (.int .u8 x)].length - m=1 by simp]
  simp [bs_cons]
theorem bs_flat (L:List Int):(bs L).flatMap V.cells=bs L:=by
  induction L with
  | nil=>rfl
  | cons x L ih=>rw [bs_cons,List.flatMap_cons,ih]; rfl
theorem St.weak.trans {a b c:St} (h:a.weak b) (k:b.weak c):a.weak c :=
  ⟨fun x cs hx=>⟨(k.box x cs (h.box x cs hx).1).1,(h.box x cs hx).2⟩,fun g m hg=>⟨(k.own g m (h.own g m hg).1).1,(h.own g m hg).2⟩,Nat.le_trans h.sz k.sz⟩
structure New (st st':St) (r:V):Prop where
  weak:st.weak st'
  lt:st'.Lt
  tok:∀ g k l,r=.sl (.own g k) l→st.sz≤g
theorem AppSt.keeps {s s':St} {x r:V} (h:AppSt s x s' r) {t:St} (hw:t.weak s) (hx:∀ g k l,x=.sl (.own g k) l→t.sz≤g):t.weak s' :=
  ⟨fun b cs hb=>⟨by rw [h.box]; exact (hw.box b cs hb).1,(hw.box b cs hb).2⟩,fun g m hg=>⟨h.own g m (hw.own g m hg).1 (fun l k e=>by have:=hx g k l e; have:=(hw.own g m hg).2; omega),(hw.own g m hg).2⟩,Nat.le_trans hw.sz h.sz⟩
theorem AppSt.fresh {s s':St} {x r:V} (h:AppSt s x s' r) {t:St} (hs:t.sz≤s.sz) (hx:∀ g k l,x=.sl (.own g k) l→t.sz≤g):∀ g k l,r=.sl (.own g k) l→t.sz≤g:=fun g k l e=>by
  rcases h.tok g k l e with ⟨l',e'⟩ | h2
  · exact hx g k l' e'
  · omega
theorem rPut_v {n size:Int} (hB:IsB L) (hl:L.length≤1000000000000) (h0:0≤n) (h1:n≤18446744073709551615):VCalls Tryz.prog 28 [.sl tk (bs L),.sc (.int .u64 n),.sc (.int .i64 size)] st fun r st' =>
    Own 1 st' r (bs (if size < 1 ∨ 8 < size then L else L ++ beL n size.toNat))∧New st st' r:=by
  refine vcalls_enter vc28 (Nat.le_of_ble_eq_true rfl) fun hwf hok=>?_
  show Run _ Vc28.body (.fin (finQ Vc28.res _)) _ _
  unfold Vc28 zg zm zn zo
  simp (config:={maxSteps:=3000000}) (disch:=((fail_if_success refine selfNe ?_); omega)) only [go_sem]
  refine Bo.own (by simp [allLen]) ?_
  intro g hg
  simp (config:={maxSteps:=3000000}) (disch:=((fail_if_success refine selfNe ?_); omega)) only [go_sem,↓reduceIte]
  refine App.mk (l:=[]) (.inr ⟨g,rfl,by simp [St.use],by simp only [St.use]; omega⟩) (allSz_bs _) (by simp [bs_len,maxLen]; omega) (by simp [bs_len]; omega) ?_
  intro r1 s1 k1 k2
  rw [List.nil_append] at k1
  have hx0:∀ g' k l,V.sl (.own g 1) []=.sl (.own g' k) l→st.sz≤g':=fun g' k l e=>by cases e; exact hg
  have w1:st.weak s1:=k2.keeps (weak_use hwf.weak hg) hx0
  have l1:s1.Lt:=hwf.lt.use.app k2
  have f1:=k2.fresh (t:=st) (by simp only [use_sz]; omega) hx0
  by_cases c1:size < 1
  · simp (config:={maxSteps:=3000000}) (disch:=((fail_if_success refine selfNe ?_); omega)) only [go_sem,↓reduceIte,c1]
    exact ⟨_,_,Wk.refl _,l1.weak,k1,w1,l1,f1⟩
  by_cases c2:8 < size
  · simp (config:={maxSteps:=3000000}) (disch:=((fail_if_success refine selfNe ?_); omega)) only [go_sem,↓reduceIte,c1,c2]
    exact ⟨_,_,Wk.refl _,l1.weak,k1,w1,l1,f1⟩
  rw [if_neg (by omega)]
  simp (config:={maxSteps:=3000000}) (disch:=((fail_if_success refine selfNe ?_); omega)) only [go_sem,↓reduceIte,decide_eq_false c1,decide_eq_false c2]
  repeat (apply And.intro; focus (first | omega | (simp; done)))
  intro b hb
  rw [bs_zeros]
  obtain ⟨sz,hsz⟩:∃ k:Nat,size=k:=⟨size.toNat,by omega⟩
  subst hsz
  rw [Int.toNat_natCast]
  have hsz8:sz≤8:=by omega
  refine run_loop [1,9,22,23,24,25,26,27,28,29,30,31,32,33,34,35,36,37] (fun B s=>∃ i:Nat,i≤sz∧B 9=.sc (.int .i64 i)∧B 1=.sc (.int .u64 (n / 256 ^ i))∧s=s1.put b (bs (List.replicate (sz - i) 0 ++ beL n i))) (fun B _=>sz - vnat (B 9)) rfl ?_ ?_
  · simp (config:={maxSteps:=3000000}) (disch:=((fail_if_success refine selfNe ?_); omega)) only [go_sem,↓reduceIte]
    exact ⟨0,by omega,by simp,by simp,by simp [beL]⟩
  · rintro B s ⟨i,hi,h9,h1',rfl⟩
    have hdiv:0≤n / 256 ^ i:=Int.ediv_nonneg h0 (by have:=pow256_pos i; omega)
    by_cases hlt:i < sz
    · have hdd:n / 256 ^ i / 256=n / 256 ^ (i + 1):=by rw [Int.pow_succ,Int.ediv_ediv_of_nonneg (by have:=pow256_pos i; omega)]
      have hle:n / 256 ^ i≤n:=Int.ediv_le_self _ h0
      obtain ⟨m,hm⟩:∃ m,sz - i=m + 1:=⟨sz - i - 1,by omega⟩
      have hm2:((sz:Int) - 1 - i).toNat=m:=by omega
      rw [hm]
      simp (config:={maxSteps:=3000000}) (disch:=((fail_if_success refine selfNe ?_); omega)) only [go_sem,↓reduceIte,h9,h1',decide_eq_true (show (i:Int) < (sz:Int) by omega),hm2,bs_len,List.length_append,List.length_replicate,beL_len,emod_small]
      repeat (apply And.intro; focus (first | omega | (simp; done)))
      have hsp:=splice_bs (m:=m) (T:=beL n i) (x:=n / 256 ^ i % 256)
      simp only [splice,List.length_cons,List.length_nil,Nat.zero_add] at hsp
      exact ⟨⟨i + 1,by omega,by simp,by rw [hdd],by rw [hsp,show sz - (i + 1)=m by omega]; rfl⟩,by omega⟩
    · obtain rfl:i=sz:=by omega
      simp (config:={maxSteps:=3000000}) (disch:=((fail_if_success refine selfNe ?_); omega)) only [go_sem,↓reduceIte,h9,Nat.sub_self,List.replicate_zero]
      obtain ⟨tk1,rfl⟩:=k1.sl
      refine App.box (b:=b) (cs:=bs (beL n i)) (ys:=bs (beL n i)) k1.put put_box_same (by simp [bs_len,beL_len]) (by simp [bs_len,beL_len]) (by rw [bs_flat,List.drop_zero,Nat.mul_one]; exact List.take_of_length_le (by simp [bs_len,beL_len])) (of_eq_true mono_bs) (allSz_bs _) (by simp [bs_len,maxLen]; omega) (by simp [bs_len]; omega) ?_
      intro r2 s2 k3 k4
      simp (config:={maxSteps:=3000000}) (disch:=((fail_if_success refine selfNe ?_); omega)) only [go_sem,↓reduceIte]
      have hx1:∀ g' k l,V.sl tk1 (bs L)=.sl (.own g' k) l→st.sz≤g':=f1
      exact ⟨_,_,Wk.refl _,(l1.put.app k4).weak,by rw [← bs_append]; exact k3,k4.keeps (weak_put w1 (by have:=w1.sz; omega)) hx1,l1.put.app k4,k4.fresh (by have:=w1.sz; simp only [put_sz]; omega) hx1⟩
end
end
section
open Go
def Tell (r:V) (s:St) (r':V) (s':St):Prop:=∀ (w0:Fr) (G:Gh) (w:World) (u:Value),RepW w0 G s w→Rep1 G r u→∃ G',G.le G'∧RepW w0 G' s' w∧Rep1 G' r' u
theorem VCalls.tell {P:Program} {f:FuncId} {args:List V} {st:St} {Q Q':V→St→Prop} (h:VCalls P f args st Q) (hk:∀ r s,Q r s→∃ r' s',Tell r s r' s'∧Q' r' s'):VCalls P f args st Q' :=
  fun w0 G w us hw hl hr=>(h w0 G w us hw hl hr).mono fun _ _ ⟨u,r,s,G',h1,h2,h3,h4,h5⟩=>by
    obtain ⟨r',s',t,q⟩:=hk r s h2
    obtain ⟨G2,k1,k2,k3⟩:=t _ _ _ _ h5 h3
    exact ⟨u,r',s',G2,h1,q,k3,h4.trans k1,k2⟩
theorem weak_drop {base s:St} {b:Nat} (h:base.weak s) (hb:base.sz≤b):base.weak (s.drop b) :=
  ⟨fun c cs hc=>⟨by simp only [St.drop]; rw [if_neg (by have:=(h.box c cs hc).2; omega)]; exact (h.box c cs hc).1,(h.box c cs hc).2⟩,h.own,h.sz⟩
structure MRow (base s:St) (r:V) (L:List Int):Prop where
  weak:base.weak s
  lt:s.Lt
  row:∃ b cap spare,r=.sc (.slice (some ⟨b,0,none⟩) L.length cap)∧base.sz≤b∧s.box b=some (bs L ++ spare)∧L.length + spare.length=cap∧cap≤maxLen∧_root_.Go.Proofs.YtnjmddlgpcnpeaaGreat.mono (bs L ++ spare)
theorem mono_bsp {L M:List Int} {spare:List V} (h:mono (bs L ++ spare)) (hl:M.length=L.length):mono (bs M ++ spare):=by
  cases M with
  | nil =>
    have:L=[]:=List.eq_nil_of_length_eq_zero (by simpa using hl.symm)
    subst this; exact h
  | cons x M=>exact of_eq_true (mono_sc (v:=.int .u8 x) (l:=bs M ++ spare))
theorem MRow.put {base s:St} (hw:base.weak s) (hl:s.Lt) {b cap:Nat} {L:List Int} {spare:List V} (hb:base.sz≤b) (h:L.length + spare.length=cap) (hm:cap≤maxLen) (hmo:_root_.Go.Proofs.YtnjmddlgpcnpeaaGreat.mono (bs L ++ spare)):MRow base (s.put b (bs L ++ spare)) (.sc (.slice (some ⟨b,0,none⟩) L.length cap)) L :=
  ⟨weak_put hw hb,hl.put,b,cap,spare,rfl,hb,put_box_same,h,hm,hmo⟩
theorem MRow.frz {base s:St} {r:V} {L:List Int} (h:MRow base s r L):Frz s r (.sl .no (bs L)):=by
  obtain ⟨b,cap,spare,rfl,h1,h2,h3,h4,hmo⟩:=h.row
  have:=Frz.box (st:=s) b 0 cap 1 (bs L ++ spare) (bs L) h2 (fun i d hd=>allSz_bs L d (List.mem_of_getElem? hd)) (fun i d j x hd hj=>by
    have hi:=(List.getElem?_eq_some_iff.1 hd).1
    have:d.cells=[d]:=by
      obtain ⟨n,_,rfl⟩:=List.mem_map.1 (List.mem_of_getElem? hd); rfl
    rw [this] at hj
    have hj0:j=0:=by
      rcases Nat.eq_zero_or_pos j with h | h
      · exact h
      · rw [List.getElem?_eq_none (by simp; omega)] at hj; cases hj
    subst hj0
    simp at hj; subst hj
    rw [List.getElem?_append,if_pos (by omega)]
    simpa using hd) (by rw [bs_len]; omega) h4 hmo
  rwa [bs_len] at this
theorem MRow.tell {base s:St} {r:V} {L:List Int} (h:MRow base s r L):Tell r s (.sl .no (bs L)) base:=by
  obtain ⟨b,cap,spare,rfl,h1,h2,h3,h4,hmo⟩:=h.row
  intro w0 G w u hw hr
  obtain ⟨G',k1,k2,k3⟩:=hw.seal h2 hmo
  refine ⟨G',k1,k2.weak (weak_drop h.weak h1),?_⟩
  rw [hr.sc_inv]
  have:=k3 0 cap 1 (bs L) (fun i d hd=>allSz_bs L d (List.mem_of_getElem? hd)) (fun i d j x hd hj=>by
    have hi:=(List.getElem?_eq_some_iff.1 hd).1
    have:d.cells=[d]:=by
      obtain ⟨n,_,rfl⟩:=List.mem_map.1 (List.mem_of_getElem? hd); rfl
    rw [this] at hj
    have hj0:j=0:=by
      rcases Nat.eq_zero_or_pos j with h | h
      · exact h
      · rw [List.getElem?_eq_none (by simp; omega)] at hj; cases hj
    subst hj0
    simp at hj; subst hj
    rw [List.getElem?_append,if_pos (by omega)]
    simpa using hd) (by rw [bs_len]; omega) h4
  rwa [bs_len] at this
theorem Tell.tup2 {r r':V} {s s':St} {x:Value} (h:Tell r s r' s'):Tell (.tup [r,.sc x]) s (.tup [r',.sc x]) s':=by
  intro w0 G w u hw hr
  cases hr with
  | tup _ vs hl hg =>
    have hs:vs.size=2:=hl
    have e0:vs[0]?=some vs[0]:=Array.getElem?_eq_getElem (by omega)
    have e1:vs[1]?=some vs[1]:=Array.getElem?_eq_getElem (by omega)
    obtain ⟨G',k1,k2,k3⟩:=h w0 G w _ hw (hg 0 r _ rfl e0)
    refine ⟨G',k1,k2,.tup _ vs hl fun i c v hc hv=>?_⟩
    match i,hc with
    | 0,hc=>simp at hc; subst hc; rw [e0] at hv; cases hv; exact k3
    | 1,hc=>simp at hc; subst hc; exact (hg 1 _ v rfl hv).mono k1
theorem Tell.weak {r:V} {s s':St} (h:s'.weak s):Tell r s r s':=fun _ G _ _ hw hr=>⟨G,.refl G,hw.weak h,hr⟩
section
variable {P:Program} {k:Kt} {A:Nat→V} {base st:St} {d:Option Nat} {obs:List (Option Nat × X × Nat)} {rest:List VO} {x y:V} {L M:List Int} {tk:Tk}
def BSrc (st:St) (y:V) (M:List Int):Prop:=srcV 1 st y (bs M)
theorem BSrc.sl:BSrc st (.sl tk (bs M)) M:=.inl ⟨tk,rfl⟩
theorem MRow.src (h:MRow base st y M):BSrc st y M:=by
  obtain ⟨b,cap,spare,rfl,h1,h2,h3,h4,hmo⟩:=h.row
  refine .inr ⟨b,0,cap,bs M ++ spare,by rw [bs_len],h2,by simp [bs_len],?_,hmo⟩
  rw [bs_flat,bs_len,List.drop_zero,Nat.mul_one,List.take_append_of_le_length (by rw [bs_len]; exact Nat.le_refl _),List.take_of_length_le (by rw [bs_len]; exact Nat.le_refl _)]
theorem App.rowG (h:MRow base st x L) (hs:BSrc st y M) (hl:L.length + M.length≤100000000000000) (hk:∀ r s,MRow base s r (L ++ M)→(∀ b cs,base.box b=some cs→s.box b=some cs)→obsOk s A obs∧Ops P rest k (putV A d r) s):App P 1 1 x y d obs rest k A st:=by
  obtain ⟨b,cap,spare,rfl,h1,h2,h3,h4,hmo⟩:=h.row
  refine .inr (.inl ⟨b,L.length,cap,bs L ++ spare,bs M,rfl,h2,by rw [List.length_append,bs_len]; omega,hmo,by omega,h4,hs,allSz_bs _,by rw [bs_len]; unfold maxLen; omega,by rw [bs_len]; omega,fun b' cap' spare' k1 k2 k3 k4 k5 k6=>?_⟩)
  rw [bs_len] at k2 k4
  have e:(bs L ++ spare).take (L.length * 1)=bs L:=by rw [Nat.mul_one,List.take_append_of_le_length (by rw [bs_len]; exact Nat.le_refl _),List.take_of_length_le (by rw [bs_len]; exact Nat.le_refl _)]
  rw [e,bs_flat,bs_append] at k6
  rw [e,bs_flat,bs_append,bs_len,show L.length + M.length=(L ++ M).length by simp]
  have hb':base.sz≤b':=by have:=h.weak.sz; omega
  have hm:=MRow.put (L:=L ++ M) (spare:=spare') (cap:=cap') h.weak h.lt hb' (by simp; omega) k3 k6
  exact hk _ _ hm fun c cs hc=>(hm.weak.box c cs hc).1
theorem App.row (h:MRow base st x L) (hl:L.length + M.length≤100000000000000) (hk:∀ r s,MRow base s r (L ++ M)→(∀ b cs,base.box b=some cs→s.box b=some cs)→obsOk s A obs∧Ops P rest k (putV A d r) s):App P 1 1 x (.sl tk (bs M)) d obs rest k A st:=App.rowG h .sl hl hk
theorem Bo.row (hw:base.weak st) (hl:st.Lt) (hM:M.length≤100000000000000) (hk:∀ r s,MRow base s r M→(∀ b cs,base.box b=some cs→s.box b=some cs)→obsOk s A obs∧Ops P rest k (putV A d r) s):Bo P 1 (bs M) d obs rest k A st:=by
  refine Bo.mut (allLen_of (allSz_bs _)) fun b hb=>?_
  have hm:=MRow.put (L:=M) (spare:=[]) (cap:=M.length) hw hl (b:=b) (by have:=hw.sz; omega) rfl (by unfold maxLen; omega) (by rw [List.append_nil]; exact of_eq_true mono_bs)
  rw [List.append_nil] at hm
  rw [bs_flat,bs_len]
  exact hk _ _ hm fun c cs hc=>(hm.weak.box c cs hc).1
theorem splice_set {i:Nat} {z:Int} {spare:List V} (h:i < L.length):splice (bs L ++ spare) i [.sc (.int .u8 z)]=bs (L.set i z) ++ spare:=by
  unfold splice
  apply List.ext_getElem?
  intro j
  have hl:(bs L ++ spare).length=L.length + spare.length:=by simp [bs_len]
  have hgs:(bs (L.set i z))[j]?=if j=i then some (.sc (.int .u8 z)) else (bs L)[j]?:=by
    rw [bs_get,bs_get,List.getElem?_set]
    by_cases e:i=j
    · subst e; simp [h]
    · rw [if_neg e,if_neg (fun e'=>e e'.symm)]
  have hbs:(bs (L.set i z)).length=L.length:=by simp [bs_len]
  have htl:((bs L ++ spare).take i).length=i:=by rw [List.length_take,hl]; omega
  rw [List.append_assoc,List.getElem?_append,htl]
  by_cases c1:j < i
  · rw [if_pos c1,List.getElem?_take,if_pos c1,List.getElem?_append,if_pos (by rw [bs_len]; omega),List.getElem?_append,if_pos (by omega),hgs,if_neg (by omega)]
  · rw [if_neg c1]
    by_cases c2:j=i
    · subst c2
      rw [List.getElem?_append (l₁:=bs (L.set j z)),if_pos (by omega),hgs,if_pos rfl]
      simp
    · rw [List.getElem?_append,if_neg (by simp; omega),List.getElem?_drop]
      simp only [List.length_cons,List.length_nil,Nat.zero_add]
      rw [show i + 1 + (j - i - 1)=j by omega,List.getElem?_append,List.getElem?_append,hbs,bs_len]
      split
      · rw [hgs,if_neg c2]
      · rfl
theorem MRow.set {b i:Nat} {n cap:Nat} {z:Int} (h:MRow base st (.sc (.slice (some ⟨b,0,none⟩) n cap)) L) (hi:i < L.length):∃ spare,st.box b=some (bs L ++ spare)∧n=L.length∧base.sz≤b∧splice (bs L ++ spare) i [.sc (.int .u8 z)]=bs (L.set i z) ++ spare ∧
    MRow base (st.put b (bs (L.set i z) ++ spare)) (.sc (.slice (some ⟨b,0,none⟩) n cap)) (L.set i z):=by
  obtain ⟨b',cap',spare,e,h1,h2,h3,h4,hmo⟩:=h.row
  cases e
  refine ⟨spare,h2,rfl,h1,splice_set hi,?_⟩
  have:=MRow.put (L:=L.set i z) (spare:=spare) (cap:=cap) h.weak h.lt h1 (by simpa using h3) h4 (mono_bsp hmo (by simp))
  simpa using this
theorem Stb.row {z:Int} {i:Nat} {n cap b:Nat} (h:MRow base st (.sc (.slice (some ⟨b,0,none⟩) n cap)) L) (hi:i < L.length) (hk:∀ s,MRow base s (.sc (.slice (some ⟨b,0,none⟩) n cap)) (L.set i z)→(∀ b cs,base.box b=some cs→s.box b=some cs)→obsOk s A obs∧Ops P rest k (putV A d .und) s) :
    Stb P (st.box b) 1 b i [.sc (.int .u8 z)] obs d rest k A st:=by
  obtain ⟨spare,h1,rfl,h2,h3,h4⟩:=h.set (z:=z) hi
  have hmo:mono (bs L ++ spare):=by
    obtain ⟨b',cap',spare',e,_,q2,_,_,q5⟩:=h.row
    cases e
    rw [h1] at q2
    simp only [Option.some.injEq] at q2
    rw [q2]; exact q5
  rw [h1]
  unfold Stb
  simp only
  refine ⟨rfl,by omega,by simp [bs_len]; omega,hmo,?_⟩
  unfold Stp
  simp only [h3]
  exact hk _ h4 fun c cs hc=>(h4.weak.box c cs hc).1
theorem MRow.get {b i:Nat} {n cap:Nat} {z:Int} (h:MRow base st (.sc (.slice (some ⟨b,0,none⟩) n cap)) L) (hi:L[i]?=some z):vload st none (.sc (.pointer (some ⟨b,i,none⟩)))=(True,.sc (.int .u8 z)):=by
  obtain ⟨b',cap',spare,e,h1,h2,h3,h4,hmo⟩:=h.row
  cases e
  have hlt:=(List.getElem?_eq_some_iff.1 hi).1
  simp only [vload,h2,takeB,takeV]
  rw [List.getElem?_append,if_pos (by rw [bs_len]; exact hlt),bs_get,hi]
  simp [V.cells]
theorem MRow.is (h:MRow base st x L):∃ b cap,x=.sc (.slice (some ⟨b,0,none⟩) L.length cap)∧L.length≤cap∧cap≤maxLen:=by
  obtain ⟨b',cap',spare,e,h1,h2,h3,h4,hmo⟩:=h.row
  exact ⟨b',cap',e,by omega,h4⟩
theorem MRow.reads {f:FuncId} {v:Value} (h:MRow base st x L) (hc:∀ n,VCalls P f [.sl .no (bs L)] ⟨fun _=>none,fun _=>none,n⟩ fun r _=>r=.sc v):VCalls P f [x] st fun r st'=>r=.sc v∧st=st' :=
  VCalls.frz hc rfl fun i d d' h1 h2=>by
    cases i with
    | zero=>simp at h1 h2; subst h1 h2; exact h.frz
    | succ i=>simp at h1
end
section
variable {base st:St} {x:V} {L:List Int} {tk:Tk}
abbrev Same (base:St) (s:St):Prop:=∀ b cs,base.box b=some cs→s.box b=some cs
theorem beL2 (n:Int):beL n 2=[n / 256 % 256,n % 256]:=by simp [beL]
theorem beL4 (n:Int):beL n 4=[n / 16777216 % 256,n / 65536 % 256,n / 256 % 256,n % 256]:=by simp [beL]
theorem MRow.keep {s:St} {r:V} {c:Nat} {cs:List V} (h:MRow base s r L) (hc:s.sz≤c):MRow base (s.put c cs) r L:=by
  obtain ⟨b,cap,spare,rfl,h1,h2,h3,h4,hmo⟩:=h.row
  have:=h.lt.box _ _ h2
  exact ⟨weak_put h.weak (by have:=h.weak.sz; omega),h.lt.put,b,cap,spare,rfl,h1,by rw [put_box_ne (by omega)]; exact h2,h3,h4,hmo⟩
theorem MRow.rebase {s:St} {r:V} (h:MRow st s r L) (hw:base.weak st):MRow base s r L:=by
  obtain ⟨b,cap,spare,rfl,h1,h2⟩:=h.row
  exact ⟨hw.trans h.weak,h.lt,b,cap,spare,rfl,by have:=hw.sz; omega,h2⟩
theorem BSrc.same {s:St} {y:V} {M:List Int} (h:BSrc st y M) (hs:Same st s):BSrc s y M:=by
  rcases h with h | ⟨b,o,c,cs,h1,h2,h3⟩
  · exact .inl h
  · exact .inr ⟨b,o,c,cs,h1,hs b cs h2,h3⟩
theorem rPut_b {n size:Int} (hx:BSrc st x L) (hl:L.length≤1000000000000) (h0:0≤n) (h1:n≤18446744073709551615):VCalls Tryz.prog 28 [x,.sc (.int .u64 n),.sc (.int .i64 size)] st fun r st' =>
    MRow st st' r (if size < 1 ∨ 8 < size then L else L ++ beL n size.toNat):=by
  refine vcalls_enter vc28 (Nat.le_of_ble_eq_true rfl) fun hwf hok=>?_
  show Run _ Vc28.body (.fin (finQ Vc28.res _)) _ _
  unfold Vc28 zg zm zn zo
  simp (config:={maxSteps:=3000000}) (disch:=((fail_if_success refine selfNe ?_); omega)) only [go_sem]
  refine Bo.row (M:=[]) hwf.weak hwf.lt (by simp) ?_
  intro r0 s0 k0 k0'
  simp (config:={maxSteps:=3000000}) (disch:=((fail_if_success refine selfNe ?_); omega)) only [go_sem,↓reduceIte]
  refine App.rowG k0 (hx.same k0') (by simp; omega) ?_
  intro r1 s1 k1 k1'
  rw [List.nil_append] at k1
  by_cases c1:size < 1
  · simp (config:={maxSteps:=3000000}) (disch:=((fail_if_success refine selfNe ?_); omega)) only [go_sem,↓reduceIte,c1]
    exact ⟨_,_,Wk.refl _,k1.lt.weak,k1⟩
  by_cases c2:8 < size
  · simp (config:={maxSteps:=3000000}) (disch:=((fail_if_success refine selfNe ?_); omega)) only [go_sem,↓reduceIte,c1,c2]
    exact ⟨_,_,Wk.refl _,k1.lt.weak,k1⟩
  rw [if_neg (by omega)]
  simp (config:={maxSteps:=3000000}) (disch:=((fail_if_success refine selfNe ?_); omega)) only [go_sem,↓reduceIte,decide_eq_false c1,decide_eq_false c2]
  repeat (apply And.intro; focus (first | omega | (simp; done)))
  intro b hb
  rw [bs_zeros]
  obtain ⟨sz,hsz⟩:∃ k:Nat,size=k:=⟨size.toNat,by omega⟩
  subst hsz
  rw [Int.toNat_natCast]
  have hsz8:sz≤8:=by omega
  refine run_loop [1,9,22,23,24,25,26,27,28,29,30,31,32,33,34,35,36,37] (fun B s=>∃ i:Nat,i≤sz∧B 9=.sc (.int .i64 i)∧B 1=.sc (.int .u64 (n / 256 ^ i))∧s=s1.put b (bs (List.replicate (sz - i) 0 ++ beL n i))) (fun B _=>sz - vnat (B 9)) rfl ?_ ?_
  · simp (config:={maxSteps:=3000000}) (disch:=((fail_if_success refine selfNe ?_); omega)) only [go_sem,↓reduceIte]
    exact ⟨0,by omega,by simp,by simp,by simp [beL]⟩
  · rintro B s ⟨i,hi,h9,h1',rfl⟩
    have hdiv:0≤n / 256 ^ i:=Int.ediv_nonneg h0 (by have:=pow256_pos i; omega)
    by_cases hlt:i < sz
    · have hdd:n / 256 ^ i / 256=n / 256 ^ (i + 1):=by rw [Int.pow_succ,Int.ediv_ediv_of_nonneg (by have:=pow256_pos i; omega)]
      have hle:n / 256 ^ i≤n:=Int.ediv_le_self _ h0
      obtain ⟨m,hm⟩:∃ m,sz - i=m + 1:=⟨sz - i - 1,by omega⟩
      have hm2:((sz:Int) - 1 - i).toNat=m:=by omega
      rw [hm]
      simp (config:={maxSteps:=3000000}) (disch:=((fail_if_success refine selfNe ?_); omega)) only [go_sem,↓reduceIte,h9,h1',decide_eq_true (show (i:Int) < (sz:Int) by omega),hm2,bs_len,List.length_append,List.length_replicate,beL_len,emod_small]
      repeat (apply And.intro; focus (first | omega | (simp; done)))
      have hsp:=splice_bs (m:=m) (T:=beL n i) (x:=n / 256 ^ i % 256)
      simp only [splice,List.length_cons,List.length_nil,Nat.zero_add] at hsp
      exact ⟨⟨i + 1,by omega,by simp,by rw [hdd],by rw [hsp,show sz - (i + 1)=m by omega]; rfl⟩,by omega⟩
    · obtain rfl:i=sz:=by omega
      simp (config:={maxSteps:=3000000}) (disch:=((fail_if_success refine selfNe ?_); omega)) only [go_sem,↓reduceIte,h9,Nat.sub_self,List.replicate_zero]
      have k2:=k1.keep (cs:=bs (beL n i)) hb
      refine App.rowG (M:=beL n i) k2 (.inr ⟨b,0,i,bs (beL n i),by rw [bs_len,beL_len],put_box_same,by simp [bs_len,beL_len],by rw [bs_flat,List.drop_zero,Nat.mul_one]; exact List.take_of_length_le (by simp [bs_len,beL_len]),of_eq_true mono_bs⟩) (by rw [beL_len]; omega) ?_
      intro r2 s2 k3 k4
      simp (config:={maxSteps:=3000000}) (disch:=((fail_if_success refine selfNe ?_); omega)) only [go_sem,↓reduceIte]
      exact ⟨_,_,Wk.refl _,k3.lt.weak,k3⟩
theorem rPut2_b {n:Int} (h:MRow base st x L) (hl:L.length≤1000000000000) (h0:0≤n) (h1:n≤18446744073709551615):VCalls Tryz.prog 28 [x,.sc (.int .u64 n),.sc (.int .i64 2)] st fun r st'=>MRow base st' r (L ++ beL n 2) :=
  (rPut_b h.src hl h0 h1).mono fun _ _ k=>by
    rw [if_neg (by omega)] at k
    exact k.rebase h.weak
theorem rPut4_b {n:Int} (h:MRow base st x L) (hl:L.length≤1000000000000) (h0:0≤n) (h1:n≤18446744073709551615):VCalls Tryz.prog 28 [x,.sc (.int .u64 n),.sc (.int .i64 4)] st fun r st'=>MRow base st' r (L ++ beL n 4) :=
  (rPut_b h.src hl h0 h1).mono fun _ _ k=>by
    rw [if_neg (by omega)] at k
    exact k.rebase h.weak
end
end
section
open Go Go.RowKit
def is (L:List Int):List V:=L.map fun n=>.sc (.int .i64 n)
def us (L:List Int):List V:=L.map fun n=>.sc (.int .u32 n)
def ts (L:List ByteArray):List V:=L.map fun s=>.sc (.string s)
theorem is_len (L:List Int):(is L).length=L.length:=by simp [is]
theorem is_get (L:List Int) (i:Nat):(is L)[i]?=(L[i]?).map fun n=>.sc (.int .i64 n):=by simp [is]
theorem us_len (L:List Int):(us L).length=L.length:=by simp [us]
theorem us_get (L:List Int) (i:Nat):(us L)[i]?=(L[i]?).map fun n=>.sc (.int .u32 n):=by simp [us]
def layoutL (t:Int):List Int :=
  if t=1 then [2,-2,4,4,2,2,64,64] else
  if t=2 then [2,1,1,4,4,2,2,64,64] else
  if t=3 then [1,-3] else
  if t=4 then [1,1,-2] else
  if t=5 then [4] else
  if t=6 then [4,1,1,-2] else
  if t=7 then [2,2,4,4,4,4,2,2,2,-2,64,64] else
  if t=8 then [2,2,1,1,2,4,2,2,4] else
  if t=9 then [2,2,4,4,2,2,64,64,64] else
  if t=10 then [2,2,1,1,2,2,-2] else
  if t=11 then [2,-2,4,2,2,4] else
  if t=12 then [2,-2] else
  if t=13 then [2,1,1,2,-2,128] else
  if t=14 then [2,-2,4,4,4,4,4,4] else
  if t=15 then [2,-2,4,4] else
  []
section
variable {st:St}
theorem layout_v (t:Int):VCalls Tryz.prog 216 [.sc (.int .i64 t)] st fun r st'=>r=.sl .no (is (layoutL t))∧st=st':=by
  refine vcalls_enter vc216 (Nat.le_of_ble_eq_true rfl) fun hwf hok=>?_
  show Run _ Vc216.body (.fin (finQ Vc216.res _)) _ _
  unfold Vc216 zm zo
  by_cases h1:t=1
  · subst h1
    simp (maxSteps:=3000000) only [go_sem,↓reduceIte]
    refine Bo.own (by simp [allLen,V.cells]) ?_
    intro g hg
    simp (maxSteps:=3000000) only [go_sem,↓reduceIte]
    exact ⟨_,_,Wk.no,weak_use hwf.weak hg,rfl,rfl⟩
  by_cases h2:t=2
  · subst h2
    simp (maxSteps:=3000000) only [go_sem,↓reduceIte]
    refine Bo.own (by simp [allLen,V.cells]) ?_
    intro g hg
    simp (maxSteps:=3000000) only [go_sem,↓reduceIte]
    exact ⟨_,_,Wk.no,weak_use hwf.weak hg,rfl,rfl⟩
  by_cases h3:t=3
  · subst h3
    simp (maxSteps:=3000000) only [go_sem,↓reduceIte]
    refine Bo.own (by simp [allLen,V.cells]) ?_
    intro g hg
    simp (maxSteps:=3000000) only [go_sem,↓reduceIte]
    exact ⟨_,_,Wk.no,weak_use hwf.weak hg,rfl,rfl⟩
  by_cases h4:t=4
  · subst h4
    simp (maxSteps:=3000000) only [go_sem,↓reduceIte]
    refine Bo.own (by simp [allLen,V.cells]) ?_
    intro g hg
    simp (maxSteps:=3000000) only [go_sem,↓reduceIte]
    exact ⟨_,_,Wk.no,weak_use hwf.weak hg,rfl,rfl⟩
  by_cases h5:t=5
  · subst h5
    simp (maxSteps:=3000000) only [go_sem,↓reduceIte]
    refine Bo.own (by simp [allLen,V.cells]) ?_
    intro g hg
    simp (maxSteps:=3000000) only [go_sem,↓reduceIte]
    exact ⟨_,_,Wk.no,weak_use hwf.weak hg,rfl,rfl⟩
  by_cases h6:t=6
  · subst h6
    simp (maxSteps:=3000000) only [go_sem,↓reduceIte]
    refine Bo.own (by simp [allLen,V.cells]) ?_
    intro g hg
    simp (maxSteps:=3000000) only [go_sem,↓reduceIte]
    exact ⟨_,_,Wk.no,weak_use hwf.weak hg,rfl,rfl⟩
  by_cases h7:t=7
  · subst h7
    simp (maxSteps:=3000000) only [go_sem,↓reduceIte]
    refine Bo.own (by simp [allLen,V.cells]) ?_
    intro g hg
    simp (maxSteps:=3000000) only [go_sem,↓reduceIte]
    exact ⟨_,_,Wk.no,weak_use hwf.weak hg,rfl,rfl⟩
  by_cases h8:t=8
  · subst h8
    simp (maxSteps:=3000000) only [go_sem,↓reduceIte]
    refine Bo.own (by simp [allLen,V.cells]) ?_
    intro g hg
    simp (maxSteps:=3000000) only [go_sem,↓reduceIte]
    exact ⟨_,_,Wk.no,weak_use hwf.weak hg,rfl,rfl⟩
  by_cases h9:t=9
  · subst h9
    simp (maxSteps:=3000000) only [go_sem,↓reduceIte]
    refine Bo.own (by simp [allLen,V.cells]) ?_
    intro g hg
    simp (maxSteps:=3000000) only [go_sem,↓reduceIte]
    exact ⟨_,_,Wk.no,weak_use hwf.weak hg,rfl,rfl⟩
  by_cases h10:t=10
  · subst h10
    simp (maxSteps:=3000000) only [go_sem,↓reduceIte]
    refine Bo.own (by simp [allLen,V.cells]) ?_
    intro g hg
    simp (maxSteps:=3000000) only [go_sem,↓reduceIte]
    exact ⟨_,_,Wk.no,weak_use hwf.weak hg,rfl,rfl⟩
  by_cases h11:t=11
  · subst h11
    simp (maxSteps:=3000000) only [go_sem,↓reduceIte]
    refine Bo.own (by simp [allLen,V.cells]) ?_
    intro g hg
    simp (maxSteps:=3000000) only [go_sem,↓reduceIte]
    exact ⟨_,_,Wk.no,weak_use hwf.weak hg,rfl,rfl⟩
  by_cases h12:t=12
  · subst h12
    simp (maxSteps:=3000000) only [go_sem,↓reduceIte]
    refine Bo.own (by simp [allLen,V.cells]) ?_
    intro g hg
    simp (maxSteps:=3000000) only [go_sem,↓reduceIte]
    exact ⟨_,_,Wk.no,weak_use hwf.weak hg,rfl,rfl⟩
  by_cases h13:t=13
  · subst h13
    simp (maxSteps:=3000000) only [go_sem,↓reduceIte]
    refine Bo.own (by simp [allLen,V.cells]) ?_
    intro g hg
    simp (maxSteps:=3000000) only [go_sem,↓reduceIte]
    exact ⟨_,_,Wk.no,weak_use hwf.weak hg,rfl,rfl⟩
  by_cases h14:t=14
  · subst h14
    simp (maxSteps:=3000000) only [go_sem,↓reduceIte]
    refine Bo.own (by simp [allLen,V.cells]) ?_
    intro g hg
    simp (maxSteps:=3000000) only [go_sem,↓reduceIte]
    exact ⟨_,_,Wk.no,weak_use hwf.weak hg,rfl,rfl⟩
  by_cases h15:t=15
  · subst h15
    simp (maxSteps:=3000000) only [go_sem,↓reduceIte]
    refine Bo.own (by simp [allLen,V.cells]) ?_
    intro g hg
    simp (maxSteps:=3000000) only [go_sem,↓reduceIte]
    exact ⟨_,_,Wk.no,weak_use hwf.weak hg,rfl,rfl⟩
  simp (maxSteps:=3000000) only [go_sem,↓reduceIte,decide_eq_false h1,decide_eq_false h2,decide_eq_false h3,decide_eq_false h4,decide_eq_false h5,decide_eq_false h6,decide_eq_false h7,decide_eq_false h8,decide_eq_false h9,decide_eq_false h10,decide_eq_false h11,decide_eq_false h12,decide_eq_false h13,decide_eq_false h14,decide_eq_false h15]
  refine ⟨_,_,Wk.no,hwf.weak,?_,rfl⟩
  unfold layoutL
  rw [if_neg h1,if_neg h2,if_neg h3,if_neg h4,if_neg h5,if_neg h6,if_neg h7,if_neg h8,if_neg h9,if_neg h10,if_neg h11,if_neg h12,if_neg h13,if_neg h14,if_neg h15]
  rfl
end
end
section
open Go Go.RowKit
def e0:ByteArray:=⟨#[]⟩
def isNum (k:Int):Bool:=decide (0 < k) && decide (k≤4)
def layouts:List (List Int):=[[],[2,-2,4,4,2,2,64,64],[2,1,1,4,4,2,2,64,64],[1,-3],[1,1,-2],[4],[4,1,1,-2],[2,2,4,4,4,4,2,2,2,-2,64,64],[2,2,1,1,2,4,2,2,4],[2,2,4,4,2,2,64,64,64],[2,2,1,1,2,2,-2],[2,-2,4,2,2,4],[2,-2],[2,1,1,2,-2,128],[2,-2,4,4,4,4,4,4],[2,-2,4,4]]
theorem layout_mem (t:Int):layoutL t ∈ layouts:=by
  unfold layoutL
  by_cases h1:t=1
  · rw [if_pos h1]; decide
  rw [if_neg h1]
  by_cases h2:t=2
  · rw [if_pos h2]; decide
  rw [if_neg h2]
  by_cases h3:t=3
  · rw [if_pos h3]; decide
  rw [if_neg h3]
  by_cases h4:t=4
  · rw [if_pos h4]; decide
  rw [if_neg h4]
  by_cases h5:t=5
  · rw [if_pos h5]; decide
  rw [if_neg h5]
  by_cases h6:t=6
  · rw [if_pos h6]; decide
  rw [if_neg h6]
  by_cases h7:t=7
  · rw [if_pos h7]; decide
  rw [if_neg h7]
  by_cases h8:t=8
  · rw [if_pos h8]; decide
  rw [if_neg h8]
  by_cases h9:t=9
  · rw [if_pos h9]; decide
  rw [if_neg h9]
  by_cases h10:t=10
  · rw [if_pos h10]; decide
  rw [if_neg h10]
  by_cases h11:t=11
  · rw [if_pos h11]; decide
  rw [if_neg h11]
  by_cases h12:t=12
  · rw [if_pos h12]; decide
  rw [if_neg h12]
  by_cases h13:t=13
  · rw [if_pos h13]; decide
  rw [if_neg h13]
  by_cases h14:t=14
  · rw [if_pos h14]; decide
  rw [if_neg h14]
  by_cases h15:t=15
  · rw [if_pos h15]; decide
  rw [if_neg h15]
  decide
theorem layout_cnt (t:Int):(layoutL t).countP isNum≤9:=(by decide:∀ K ∈ layouts,K.countP isNum≤9) _ (layout_mem t)
theorem layout_len (t:Int):(layoutL t).length≤12:=(by decide:∀ K ∈ layouts,K.length≤12) _ (layout_mem t)
section
variable {tk:Tk} {st:St}
end
end
section
open Go
def isTxt (k:Int):Bool:=decide (4 < k)
def stripN (L:List Int):Nat→Nat
  | 0=>0
  | n + 1=>if L[n]?=some 0 then stripN L n else n + 1
def stripL (L:List Int):List Int:=L.take (stripN L L.length)
theorem stripN_le (L:List Int):∀ n,stripN L n≤n
  | 0=>Nat.le_refl _
  | n + 1=>by
    unfold stripN
    split
    · have:=stripN_le L n; omega
    · exact Nat.le_refl _
theorem stripN_zero (L:List Int):∀ n j,stripN L n≤j→j < n→L[j]?=some 0
  | 0,j,_,h=>by omega
  | n + 1,j,h1,h2=>by
    unfold stripN at h1
    split at h1
    · rename_i h
      by_cases e:j=n
      · subst e; exact h
      · exact stripN_zero L n j h1 (by omega)
    · omega
theorem stripN_cong {L M:List Int}:∀ n,(∀ j,j < n→L[j]?=M[j]?)→stripN L n=stripN M n
  | 0,_=>rfl
  | n + 1,h=>by
    unfold stripN
    rw [h n (by omega),stripN_cong n (fun j hj=>h j (by omega))]
theorem stripN_idem (L:List Int):∀ n,stripN L (stripN L n)=stripN L n
  | 0=>rfl
  | n + 1=>by
    rw [stripN]
    split
    · exact stripN_idem L n
    · rename_i h; rw [stripN,if_neg h]
theorem stripL_len (L:List Int):(stripL L).length=stripN L L.length:=by
  have:=stripN_le L L.length
  unfold stripL
  rw [List.length_take]; omega
theorem stripL_eq {L:List Int}:stripL L=L ↔ stripN L L.length=L.length :=
  ⟨fun h=>by have:=stripL_len L; rw [h] at this; exact this.symm,fun h=>by unfold stripL; rw [h]; exact List.take_of_length_le (Nat.le_refl _)⟩
theorem stripL_idem (L:List Int):stripL (stripL L)=stripL L:=by
  rw [stripL_eq,stripL_len]
  have hle:=stripN_le L L.length
  rw [stripN_cong (M:=L) _ (fun j hj=>by unfold stripL; rw [List.getElem?_take,if_pos hj])]
  exact stripN_idem L _
theorem stripL_isB {L:List Int} (h:IsB L):IsB (stripL L):=h.take _
def padT (k:Nat) (t:List Int):List Int:=t ++ List.replicate (k - t.length) 0
theorem padT_strip (L:List Int):padT L.length (stripL L)=L:=by
  have hle:=stripN_le L L.length
  have hsl:=stripL_len L
  unfold padT
  apply List.ext_getElem?
  intro i
  rw [List.getElem?_append,hsl]
  split
  · rename_i h
    unfold stripL
    rw [List.getElem?_take,if_pos h]
  · rename_i h
    rw [List.getElem?_replicate]
    by_cases hi:i < L.length
    · rw [if_pos (by omega)]
      exact (stripN_zero L _ i (by omega) hi).symm
    · rw [if_neg (by omega),List.getElem?_eq_none (by omega)]
def tOk (k:Int) (t:List Int):Bool:=decide ((t.length:Int)≤k) && decide (stripL t=t)
def bK:List Int→List Int→List (List Int)→List Int
  | [],_,_=>[]
  | k :: K,N,T=>if k < 0 then List.replicate (-k).toNat 0 ++ bK K N T
      else if 4 < k then padT k.toNat (T.headD []) ++ bK K N T.tail
      else beL (N.headD 0) k.toNat ++ bK K N.tail T
def rK:List Int→List Int→List (List Int)→Bool
  | [],N,T=>N.all (fun x=>decide (x=0)) && T.all (fun x=>decide (x=[]))
  | k :: K,N,T=>if k < 0 then rK K N T else if 4 < k then tOk k (T.headD []) && rK K N T.tail else decide (N.headD 0 < 256 ^ k.toNat) && rK K N.tail T
def pK:List Int→List Int→Option (List Int × List (List Int))
  | [],_=>some ([],[])
  | k :: K,L=>if k < 0 then (if (L.take (-k).toNat).all (fun x=>decide (x=0))=true then pK K (L.drop (-k).toNat) else none)
     else if 4 < k then (pK K (L.drop k.toNat)).map fun p=>(p.1,stripL (L.take k.toNat) :: p.2)
     else (pK K (L.drop k.toNat)).map fun p=>(numL (L.take k.toNat) :: p.1,p.2)
def kOkM (k:Int):Prop:=k=-3 ∨ k=-2 ∨ k=1 ∨ k=2 ∨ k=4 ∨ k=64 ∨ k=128
instance (k:Int):Decidable (kOkM k):=by unfold kOkM; exact inferInstance
def sumN:List Int→Nat
  | []=>0
  | k :: K=>k.natAbs + sumN K
theorem layout_kOk (t:Int):∀ k ∈ layoutL t,kOkM k:=(by decide:∀ K ∈ layouts,∀ k ∈ K,kOkM k) _ (layout_mem t)
theorem layout_txt (t:Int):(layoutL t).countP isTxt≤3:=(by decide:∀ K ∈ layouts,K.countP isTxt≤3) _ (layout_mem t)
theorem layout_sum (t:Int):sumN (layoutL t)≤300:=(by decide:∀ K ∈ layouts,sumN K≤300) _ (layout_mem t)
def sizeT (t:Int):Int:=if layoutL t=[] then 0 else 12 + (sumN (layoutL t):Int)
theorem sizeT_pos {t:Int}:0 < sizeT t ↔ layoutL t ≠ []:=by
  unfold sizeT
  split
  · rename_i h; simp [h]
  · rename_i h; simp [h]; omega
theorem bK_nil (N:List Int) (T:List (List Int)):bK [] N T=[]:=rfl
section
variable {k:Int} {K N:List Int} {T:List (List Int)} {L:List Int}
theorem bK_neg (h:k < 0):bK (k :: K) N T=List.replicate (-k).toNat 0 ++ bK K N T:=if_pos h
theorem bK_txt (h:4 < k):bK (k :: K) N T=padT k.toNat (T.headD []) ++ bK K N T.tail:=by rw [bK,if_neg (by omega),if_pos h]
theorem bK_num (h:0≤k) (h4:k≤4):bK (k :: K) N T=beL (N.headD 0) k.toNat ++ bK K N.tail T:=by rw [bK,if_neg (by omega),if_neg (by omega)]
theorem rK_neg (h:k < 0):rK (k :: K) N T=rK K N T:=if_pos h
theorem rK_txt (h:4 < k):rK (k :: K) N T=(tOk k (T.headD []) && rK K N T.tail):=by rw [rK,if_neg (by omega),if_pos h]
theorem rK_num (h:0≤k) (h4:k≤4):rK (k :: K) N T=(decide (N.headD 0 < 256 ^ k.toNat) && rK K N.tail T):=by rw [rK,if_neg (by omega),if_neg (by omega)]
theorem pK_neg (h:k < 0):pK (k :: K) L=if (L.take (-k).toNat).all (fun x=>decide (x=0))=true then pK K (L.drop (-k).toNat) else none:=if_pos h
theorem pK_txt (h:4 < k):pK (k :: K) L=(pK K (L.drop k.toNat)).map fun p=>(p.1,stripL (L.take k.toNat) :: p.2):=by rw [pK,if_neg (by omega),if_pos h]
theorem pK_num (h:0≤k) (h4:k≤4):pK (k :: K) L=(pK K (L.drop k.toNat)).map fun p=>(numL (L.take k.toNat) :: p.1,p.2):=by rw [pK,if_neg (by omega),if_neg (by omega)]
end
theorem all_zeros:∀ (L:List Int),L.all (fun x=>decide (x=0))=true→L=List.replicate L.length 0
  | [],_=>rfl
  | x :: L,h=>by
    simp only [List.all_cons,Bool.and_eq_true,decide_eq_true_eq] at h
    rw [List.length_cons,List.replicate_succ,← all_zeros L h.2,h.1]
theorem zeros_all (n:Nat):(List.replicate n (0:Int)).all (fun x=>decide (x=0))=true:=by
  rw [List.all_eq_true]; intro x hx; simp [List.eq_of_mem_replicate hx]
theorem nils_all (n:Nat):(List.replicate n ([]:List Int)).all (fun x=>decide (x=[]))=true:=by
  rw [List.all_eq_true]; intro x hx; simp [List.eq_of_mem_replicate hx]
theorem bK_pK:∀ (K L a:List Int) (b:List (List Int)) (p q:Nat),(∀ k ∈ K,kOkM k)→IsB L→L.length=sumN K→pK K L=some (a,b) →
    rK K (a ++ List.replicate p 0) (b ++ List.replicate q [])=true∧bK K (a ++ List.replicate p 0) (b ++ List.replicate q [])=L∧a.length=K.countP isNum∧b.length=K.countP isTxt∧(∀ x ∈ a,0≤x∧x < 4294967296)∧∀ t ∈ b,IsB t
  | [],L,a,b,p,q,_,_,hl,h=>by
    simp only [pK,Option.some.injEq,Prod.mk.injEq] at h
    obtain ⟨rfl,rfl⟩:=h
    have:L=[]:=List.eq_nil_of_length_eq_zero hl
    subst this
    simp only [rK,List.nil_append,bK,Bool.and_eq_true]
    exact ⟨⟨zeros_all _,nils_all _⟩,by trivial,by trivial,by trivial,(by intro x hx; cases hx),(by intro x hx; cases hx)⟩
  | k :: K,L,a,b,p,q,hk,hB,hl,h=>by
    have hk1:=hk k (by simp)
    have hk2:∀ k ∈ K,kOkM k:=fun x hx=>hk x (by simp [hx])
    unfold kOkM at hk1
    rw [List.countP_cons,List.countP_cons]
    simp only [sumN] at hl
    by_cases c1:k < 0
    · rw [pK_neg c1] at h
      split at h
      · rename_i hz
        obtain ⟨h1,h2,h3,h4,h5,h6⟩:=bK_pK K (L.drop (-k).toNat) a b p q hk2 (hB.drop _) (by rw [List.length_drop]; omega) h
        have e1:isTxt k=false:=by simp [isTxt]; omega
        have e2:isNum k=false:=by simp [isNum]; omega
        rw [e1,e2,rK_neg c1,bK_neg c1]
        have hzz:=all_zeros _ hz
        rw [List.length_take,Nat.min_eq_left (by omega)] at hzz
        exact ⟨h1,by rw [h2,← hzz,List.take_append_drop],by simpa using h3,by simpa using h4,h5,h6⟩
      · cases h
    by_cases c2:4 < k
    · rw [pK_txt c2,Option.map_eq_some_iff] at h
      obtain ⟨⟨a',b'⟩,h,he⟩:=h
      simp only [Prod.mk.injEq] at he
      obtain ⟨rfl,rfl⟩:=he
      obtain ⟨h1,h2,h3,h4,h5,h6⟩:=bK_pK K (L.drop k.toNat) a' b' p q hk2 (hB.drop _) (by rw [List.length_drop]; omega) h
      have e1:isTxt k=true:=by simp [isTxt,c2]
      have e2:isNum k=false:=by simp [isNum]; omega
      have htl:(L.take k.toNat).length=k.toNat:=by rw [List.length_take]; omega
      rw [e1,e2,rK_txt c2,bK_txt c2]
      simp only [List.cons_append,List.headD_cons,List.tail_cons,Bool.and_eq_true]
      refine ⟨⟨?_,h1⟩,?_,by simpa using h3,by simp [h4],h5,?_⟩
      · simp only [tOk,Bool.and_eq_true,decide_eq_true_eq]
        have:=stripL_len (L.take k.toNat)
        have:=stripN_le (L.take k.toNat) (L.take k.toNat).length
        exact ⟨by omega,stripL_idem _⟩
      · have:=padT_strip (L.take k.toNat)
        rw [htl] at this
        rw [this,h2,List.take_append_drop]
      · intro t ht
        rcases List.mem_cons.1 ht with rfl | ht
        · exact stripL_isB (hB.take _)
        · exact h6 t ht
    · have hk3:0≤k∧k≤4∧0 < k:=by omega
      rw [pK_num hk3.1 hk3.2.1,Option.map_eq_some_iff] at h
      obtain ⟨⟨a',b'⟩,h,he⟩:=h
      simp only [Prod.mk.injEq] at he
      obtain ⟨rfl,rfl⟩:=he
      obtain ⟨h1,h2,h3,h4,h5,h6⟩:=bK_pK K (L.drop k.toNat) a' b' p q hk2 (hB.drop _) (by rw [List.length_drop]; omega) h
      have e2:isNum k=true:=by simp [isNum]; omega
      have e1:isTxt k=false:=by simp [isTxt]; omega
      have htl:(L.take k.toNat).length=k.toNat:=by rw [List.length_take]; omega
      have hr:=numL_range _ (L.take k.toNat) htl (hB.take _)
      rw [htl] at hr
      rw [e1,e2,rK_num hk3.1 hk3.2.1,bK_num hk3.1 hk3.2.1]
      simp only [List.cons_append,List.headD_cons,List.tail_cons,Bool.and_eq_true]
      refine ⟨⟨decide_eq_true hr.2,h1⟩,?_,by simp [h3],by simpa using h4,?_,h6⟩
      · rw [numL_eq_beL _ _ htl (hB.take _),h2,List.take_append_drop]
      · intro x hx
        rcases List.mem_cons.1 hx with rfl | hx
        · refine ⟨hr.1,Int.lt_of_lt_of_le hr.2 ?_⟩
          have:k.toNat=1 ∨ k.toNat=2 ∨ k.toNat=4:=by omega
          rcases this with e | e | e <;> rw [e] <;> decide
        · exact h5 x hx
end
section
open Go
theorem num03_v:∀ (k n:Nat) (st:St),n < 10 ^ (k + 1)→k≤13→VCalls Tryz.prog 122 [.sc (.int .i64 n)] st fun r st'=>r=.sc (.string (strOf (digs k n)))∧st=st':=by
  have fin:∀ (n:Nat) (st:St),n < 10→VCalls Tryz.prog 122 [.sc (.int .i64 n)] st fun r st'=>r=.sc (.string (strOf [48 + (n:Int)]))∧st=st':=by
    intro n st h
    refine vcalls_enter vc122 (Nat.le_of_ble_eq_true rfl) fun hwf hok=>?_
    show Run _ Vc122.body (.fin (finQ Vc122.res _)) _ _
    unfold Vc122 zm zo
    have e1:(48 + (n:Int)) % 256=48 + n:=by omega
    simp (maxSteps:=3000000) only [go_sem,↓reduceIte,decide_eq_true (show (n:Int) < 10 by omega),decide_eq_false (show ¬ (n:Int) < 0 by omega),e1,u8sOf]
    repeat (apply And.intro; focus (first | omega | (simp; done)))
    exact ⟨_,_,Wk.refl _,hwf.weak,rfl,rfl⟩
  intro k
  induction k with
  | zero=>exact fun n st h _=>fin n st (by simpa using h)
  | succ k ih =>
    intro n st h hk
    by_cases h10:n < 10
    · unfold digs
      rw [if_pos h10]
      exact fin n st h10
    · have hpw:(10:Nat) ^ (k + 1 + 1)≤1000000000000000:=by
        have h13:∀ k:Nat,k≤13→(10:Nat) ^ (k + 1)≤1000000000000000:=by decide
        exact h13 _ hk
      unfold digs
      rw [if_neg h10]
      refine vcalls_enter vc122 (Nat.le_of_ble_eq_true rfl) fun hwf hok=>?_
      show Run _ Vc122.body (.fin (finQ Vc122.res _)) _ _
      unfold Vc122 zm zo
      have hq:((n:Int) / 10)=((n / 10:Nat):Int):=by omega
      have hr:((n:Int) % 10)=((n % 10:Nat):Int):=by omega
      have e1:(48 + ((n % 10:Nat):Int)) % 256=48 + ((n % 10:Nat):Int):=by omega
      have hdl:=digs_len k (n / 10)
      simp (maxSteps:=3000000) only [go_sem,↓reduceIte,decide_eq_false (show ¬ (n:Int) < 10 by omega),hq,hr,e1,u8sOf]
      repeat (apply And.intro; focus (first | omega | (simp; done)))
      refine Cal.mk (ih (n / 10) _ (by rw [Nat.pow_succ] at h; omega) (by omega)) ?_
      rintro _ _ ⟨rfl,rfl⟩ -
      simp (maxSteps:=3000000) only [go_sem,↓reduceIte,strOf_size,strOf_append]
      repeat (apply And.intro; focus (first | omega | (simp; done)))
      exact ⟨_,_,Wk.refl _,hwf.weak,rfl,rfl⟩
section
variable {st:St} {L:List Int}
theorem readNum03_v (hB:IsB L):VCalls Tryz.prog 60 [.sc (.string (strOf L))] st fun r st'=>r=.tup [.sc (.int .i64 (rdN L).1),.sc (.bool (rdN L).2)]∧st=st':=by
  refine vcalls_enter vc60 (Nat.le_of_ble_eq_true rfl) fun hwf hok=>?_
  show Run _ Vc60.body (.fin (finQ Vc60.res _)) _ _
  unfold Vc60 zg zm zo
  by_cases h13:13 < L.length
  · have e:rdN L=(0,false):=by unfold rdN; rw [if_pos h13]
    rw [e]
    simp (maxSteps:=3000000) only [go_sem,↓reduceIte,strOf_size,decide_eq_true (show (13:Int) < (L.length:Int) by omega)]
    exact ⟨_,_,Wk.refl _,hwf.weak,rfl,rfl⟩
  simp (maxSteps:=3000000) only [go_sem,↓reduceIte,strOf_size,decide_eq_false (show ¬ (13:Int) < (L.length:Int) by omega)]
  refine run_loop [2,3,4,5,9,10,11,12,13,14,15,16,17,18,19,20,21,22,23,24,25,26,27,28,29,30,31,32] (fun B s=>st=s∧∃ i:Nat,i≤L.length∧B 5=.sc (.int .i64 i)∧B 4=.sc (.int .i64 (valL (L.take i)))∧(L.take i).all digOk=true) (fun B _=>L.length - vnat (B 5)) rfl ?_ ?_
  · simp (maxSteps:=3000000) only [go_sem,↓reduceIte]
    exact ⟨0,by omega,by simp,by simp [valL],by simp⟩
  · rintro B s ⟨rfl,i,hi,h5,h4,hd⟩
    by_cases hlt:i < L.length
    · obtain ⟨c,hc⟩:=get_ex hlt
      have bc:=hB.get hc
      have hv:=valL_le hd (by simp; omega)
      have hsn:valL (L.take (i + 1))=10 * valL (L.take i) + c - 48:=by rw [List.take_add_one,hc]; exact valL_snoc _ _
      have hall:(L.take (i + 1)).all digOk=digOk c:=by rw [List.take_add_one,hc]; simp [hd]
      have hbad:¬ (48≤c∧c≤57)→rdN L=(0,false):=fun hn=>by
        unfold rdN
        rw [if_neg h13,if_neg]
        intro hA
        have:=List.all_eq_true.1 hA c (List.mem_of_getElem? hc)
        simp [digOk] at this
        exact hn this
      have hlt':=decide_eq_true (show (i:Int) < (L.length:Int) by omega)
      by_cases c1:c < 48
      · rw [hbad (by omega)]
        simp (maxSteps:=3000000) only [go_sem,↓reduceIte,h5,strOf_size,hlt',bytesOf_strOf hB,hc,decide_eq_true c1]
        repeat (apply And.intro; focus (first | omega | (simp; done)))
        exact ⟨_,_,Wk.refl _,hwf.weak,rfl,rfl⟩
      by_cases c2:57 < c
      · rw [hbad (by omega)]
        simp (maxSteps:=3000000) only [go_sem,↓reduceIte,h5,strOf_size,hlt',bytesOf_strOf hB,hc,decide_eq_false c1,decide_eq_true c2]
        repeat (apply And.intro; focus (first | omega | (simp; done)))
        exact ⟨_,_,Wk.refl _,hwf.weak,rfl,rfl⟩
      simp (maxSteps:=3000000) only [go_sem,↓reduceIte,h5,h4,strOf_size,hlt',bytesOf_strOf hB,hc,decide_eq_false c1,decide_eq_false c2]
      repeat (apply And.intro; focus (first | omega | (simp; done)))
      exact ⟨⟨i + 1,by omega,by simp,by rw [hsn],by rw [hall]; simp [digOk]; omega⟩,by omega⟩
    · obtain rfl:i=L.length:=by omega
      rw [List.take_of_length_le (Nat.le_refl _)] at h4 hd
      have hv:=valL_le hd (by omega)
      obtain ⟨n,hn⟩:∃ n:Nat,valL L=n:=⟨(valL L).toNat,by omega⟩
      have hrd:rdN L=if digs 13 n=L∧(n:Int)≤1099511627776 then ((n:Int),true) else (0,false):=by
        unfold rdN
        rw [if_neg h13,if_pos hd,hn,Int.toNat_natCast]
      rw [hrd]
      rw [hn] at h4 hv
      simp (maxSteps:=3000000) only [go_sem,↓reduceIte,h5,h4,strOf_size]
      refine Cal.mk (num03_v 13 n _ (by omega) (by omega)) ?_
      rintro _ _ ⟨rfl,rfl⟩ -
      have hdB:=digs_isB 13 n (by omega)
      have hdec:=strOf_inj hdB hB
      by_cases d1:digs 13 n=L
      · by_cases d2:(1099511627776:Int) < n
        · rw [if_neg (by omega)]
          simp (maxSteps:=3000000) only [go_sem,↓reduceIte,h4,decide_eq_false (show ¬ ¬ strOf (digs 13 n)=strOf L from fun h=>h (hdec.2 d1)),decide_eq_true d2]
          exact ⟨_,_,Wk.refl _,hwf.weak,rfl,rfl⟩
        · rw [if_pos ⟨d1,by omega⟩]
          simp (maxSteps:=3000000) only [go_sem,↓reduceIte,h4,decide_eq_false (show ¬ ¬ strOf (digs 13 n)=strOf L from fun h=>h (hdec.2 d1)),decide_eq_false d2]
          exact ⟨_,_,Wk.refl _,hwf.weak,rfl,rfl⟩
      · rw [if_neg (fun h=>d1 h.1)]
        simp (maxSteps:=3000000) only [go_sem,↓reduceIte,decide_eq_true (show ¬ strOf (digs 13 n)=strOf L from fun h=>d1 (hdec.1 h))]
        exact ⟨_,_,Wk.refl _,hwf.weak,rfl,rfl⟩
theorem New.nil (h:st.weak st) (hl:st.Lt):New st st (.sl .nil []):=⟨h,hl,fun g k l e=>by cases e⟩
theorem New.app {s s':St} {x r:V} (h:New st s x) (k:AppSt s x s' r):New st s' r :=
  ⟨k.keeps h.weak h.tok,h.lt.app k,k.fresh h.weak.sz h.tok⟩
theorem split03_v {c:Int} (hB:IsB L) (hl:L.length≤1000000):VCalls Tryz.prog 121 [.sc (.string (strOf L)),.sc (.int .u8 c)] st fun r st'=>Own 1 st' r (ss (splL c L))∧New st st' r:=by
  refine vcalls_enter vc121 (Nat.le_of_ble_eq_true rfl) fun hwf hok=>?_
  show Run _ Vc121.body (.fin (finQ Vc121.res _)) _ _
  unfold Vc121 zm zo
  simp (maxSteps:=3000000) only [go_sem]
  refine run_loop [5,6,7,8,9,10,11,12,13,14,15,16,17,18,19,20,21,22,23,24,25,26,27,28,29] (fun B s=>∃ i:Nat,i≤L.length∧B 7=.sc (.int .i64 i)∧B 6=.sc (.string (strOf (splF c (L.take i)).2))∧Own 1 s (B 5) (ss (splF c (L.take i)).1)∧New st s (B 5)) (fun B _=>L.length - vnat (B 7)) rfl ?_ ?_
  · simp (maxSteps:=3000000) only [go_sem,↓reduceIte]
    exact ⟨0,by omega,by simp,by simp [splF,strOf_nil],.inl ⟨rfl,by simp [splF,ss]⟩,.nil hwf.weak hwf.lt⟩
  · rintro B s ⟨i,hi,h7,h6,ho,hn⟩
    have hlen:=splF_len c (L.take i) ([],[])
    have hln:(L.take i).length≤i:=by simp; omega
    simp only [List.length_nil,Nat.zero_add] at hlen
    by_cases hlt:i < L.length
    · obtain ⟨x,hx⟩:=get_ex hlt
      have bx:=hB.get hx
      have hsn:splF c (L.take (i + 1))=splS c (splF c (L.take i)) x:=by rw [List.take_add_one,hx]; exact splF_snoc _ _ _
      have hlt':=decide_eq_true (show (i:Int) < (L.length:Int) by omega)
      change (splF c (L.take i)).1.length≤_∧(splF c (L.take i)).2.length≤_ at hlen
      generalize splF c (L.take i)=q at *
      obtain ⟨acc,one⟩:=q
      simp only at h6 ho hlen
      by_cases c1:x=c
      · have hst:splS c (acc,one) x=(acc ++ [one],[]):=if_pos c1
        simp (maxSteps:=3000000) only [go_sem,↓reduceIte,h7,h6,strOf_size,hlt',bytesOf_strOf hB,hx,decide_eq_true c1]
        repeat (apply And.intro; focus (first | omega | (simp; done)))
        refine App.mk (l:=ss acc) ho (ys:=ss [one]) (allSz_ss _) (by simp [ss_len,maxLen]; omega) (by simp [ss_len]; omega) ?_
        intro r s1 k1 k2
        rw [ss_append] at k1
        simp (maxSteps:=3000000) only [go_sem,↓reduceIte,h7]
        repeat (apply And.intro; focus (first | omega | (simp; done)))
        exact ⟨⟨i + 1,by omega,by simp,by rw [hsn,hst,strOf_nil],by rw [hsn,hst]; exact k1,hn.app k2⟩,by omega⟩
      · have hst:splS c (acc,one) x=(acc,one ++ [x]):=if_neg c1
        simp (maxSteps:=3000000) only [go_sem,↓reduceIte,h7,h6,strOf_size,hlt',bytesOf_strOf hB,hx,decide_eq_false c1,u8sOf,strOf_append]
        repeat (apply And.intro; focus (first | omega | (simp; done)))
        exact ⟨⟨i + 1,by omega,by simp,by rw [hsn,hst],by rw [hsn,hst]; exact ho,hn⟩,by omega⟩
    · obtain rfl:i=L.length:=by omega
      rw [List.take_of_length_le (Nat.le_refl _)] at h6 ho hlen
      change (splF c L).1.length≤_∧(splF c L).2.length≤_ at hlen
      simp (maxSteps:=3000000) only [go_sem,↓reduceIte,h7,h6,strOf_size]
      refine App.mk (l:=ss (splF c L).1) ho (ys:=ss [(splF c L).2]) (allSz_ss _) (by simp [ss_len,maxLen]; omega) (by simp [ss_len]; omega) ?_
      intro r s1 k1 k2
      rw [ss_append] at k1
      have hn2:=hn.app k2
      simp (maxSteps:=3000000) only [go_sem,↓reduceIte]
      exact ⟨_,_,Wk.refl _,hn2.lt.weak,k1,hn2⟩
theorem words03_v (hB:IsB L) (hl:L.length≤1000000):VCalls Tryz.prog 58 [.sc (.string (strOf L))] st fun r st'=>Own 1 st' r (ss (wordsL L))∧New st st' r:=by
  refine vcalls_enter vc58 (Nat.le_of_ble_eq_true rfl) fun hwf hok=>?_
  show Run _ Vc58.body (.fin (finQ Vc58.res _)) _ _
  unfold Vc58 zl zm zo
  simp (maxSteps:=3000000) only [go_sem,↓reduceIte]
  refine Cal.mk (split03_v hB hl) ?_
  rintro r s0 ⟨k1,k2⟩ -
  obtain ⟨tk,rfl⟩:=k1.sl
  have hQ:∀ M ∈ splL 32 L,IsB M:=splL_isB hB
  have hQl:=splL_len 32 L
  have hW:wordsL L=(splL 32 L).filter fun M=>M ≠ []:=rfl
  generalize splL 32 L=Q at *
  simp (maxSteps:=3000000) only [go_sem,↓reduceIte]
  refine run_loop [3,5,8,9,10,11,12,13,14,15,16,17,18,19,20,21,22,23,24,25] (fun B s=>∃ i:Nat,i≤Q.length∧B 5=.sc (.int .i64 i)∧Own 1 s (B 3) (ss ((Q.take i).filter fun M=>M ≠ []))∧New st s (B 3)) (fun B _=>Q.length - vnat (B 5)) rfl ?_ ?_
  · simp (maxSteps:=3000000) only [go_sem,↓reduceIte]
    exact ⟨0,by omega,by simp,.inl ⟨rfl,by simp [ss]⟩,k2.weak,k2.lt,fun g k l e=>by cases e⟩
  · rintro B s ⟨i,hi,h5,ho,hn⟩
    by_cases hlt:i < Q.length
    · obtain ⟨M,hM⟩:=get_ex hlt
      have bM:=hQ M (List.mem_of_getElem? hM)
      have hsn:(Q.take (i + 1)).filter (fun M=>M ≠ [])=(Q.take i).filter (fun M=>M ≠ []) ++ (if M=[] then [] else [M]):=by
        rw [List.take_add_one,hM,List.filter_append]
        by_cases h:M=[] <;> simp [h]
      have hlt':=decide_eq_true (show (i:Int) < (Q.length:Int) by omega)
      have hfl:((Q.take i).filter fun M=>M ≠ []).length≤i:=Nat.le_trans (List.length_filter_le _ _) (by simp; omega)
      have hdec:=strOf_inj bM isB_nil
      by_cases c1:M=[]
      · rw [if_pos c1,List.append_nil] at hsn
        simp (maxSteps:=3000000) only [go_sem,↓reduceIte,h5,ss_len,ss_get,hM,hlt',strOf_nil,decide_eq_false (show ¬ ¬ strOf M=strOf [] from fun h=>h (hdec.2 c1))]
        repeat (apply And.intro; focus (first | omega | (simp; done)))
        exact ⟨⟨i + 1,by omega,by simp,by rw [hsn]; exact ho,hn⟩,by omega⟩
      · rw [if_neg c1] at hsn
        simp (maxSteps:=3000000) only [go_sem,↓reduceIte,h5,ss_len,ss_get,hM,hlt',strOf_nil,decide_eq_true (show ¬ strOf M=strOf [] from fun h=>c1 (hdec.1 h))]
        repeat (apply And.intro; focus (first | omega | (simp; done)))
        refine App.mk (l:=ss ((Q.take i).filter fun M=>M ≠ [])) ho (ys:=ss [M]) (allSz_ss _) (by simp only [ss_len,maxLen,List.length_cons,List.length_nil]; omega) (by simp only [ss_len,List.length_cons,List.length_nil]; omega) ?_
        intro r s1 k1 k2
        rw [ss_append,← hsn] at k1
        simp (maxSteps:=3000000) only [go_sem,↓reduceIte,h5]
        repeat (apply And.intro; focus (first | omega | (simp; done)))
        exact ⟨⟨i + 1,by omega,by simp,k1,hn.app k2⟩,by omega⟩
    · obtain rfl:i=Q.length:=by omega
      rw [List.take_of_length_le (Nat.le_refl _)] at ho
      simp (maxSteps:=3000000) only [go_sem,↓reduceIte,h5,ss_len]
      exact ⟨_,_,Wk.refl _,hn.lt.weak,by rw [hW]; exact ho,hn⟩
end
end
section
open Go
def rowL (t:Int):List Int :=
  if t=1 then [50,110,32,50,95,32,52,110,32,52,110,32,50,110,32,50,110,32,54,52,116,32,54,52,116] else
  if t=2 then [50,110,32,49,110,32,49,110,32,52,110,32,52,110,32,50,110,32,50,110,32,54,52,116,32,54,52,116] else
  if t=3 then [49,110,32,51,95] else
  if t=4 then [49,110,32,49,110,32,50,95] else
  if t=5 then [52,110] else
  if t=6 then [52,110,32,49,110,32,49,110,32,50,95] else
  if t=7 then [50,110,32,50,110,32,52,110,32,52,110,32,52,110,32,52,110,32,50,110,32,50,110,32,50,110,32,50,95,32,54,52,116,32,54,52,116] else
  if t=8 then [50,110,32,50,110,32,49,110,32,49,110,32,50,110,32,52,110,32,50,110,32,50,110,32,52,110] else
  if t=9 then [50,110,32,50,110,32,52,110,32,52,110,32,50,110,32,50,110,32,54,52,116,32,54,52,116,32,54,52,116] else
  if t=10 then [50,110,32,50,110,32,49,110,32,49,110,32,50,110,32,50,110,32,50,95] else
  if t=11 then [50,110,32,50,95,32,52,110,32,50,110,32,50,110,32,52,110] else
  if t=12 then [50,110,32,50,95] else
  if t=13 then [50,110,32,49,110,32,49,110,32,50,110,32,50,95,32,49,50,56,116] else
  if t=14 then [50,110,32,50,95,32,52,110,32,52,110,32,52,110,32,52,110,32,52,110,32,52,110] else
  if t=15 then [50,110,32,50,95,32,52,110,32,52,110] else
  []
def toPart (k:Int):Int × Int:=if k < 0 then (95,-k) else if 4 < k then (116,k) else (110,k)
def wordPart (M:List Int):Int × Int:=(M.getD (M.length - 1) 0,(rdN (M.take (M.length - 1))).1)
theorem rowL_none {t:Int} (h:t < 1 ∨ 15 < t):rowL t=[]:=by
  unfold rowL
  rw [if_neg (by omega),if_neg (by omega),if_neg (by omega),if_neg (by omega),if_neg (by omega),if_neg (by omega),if_neg (by omega),if_neg (by omega),if_neg (by omega),if_neg (by omega),if_neg (by omega),if_neg (by omega),if_neg (by omega),if_neg (by omega),if_neg (by omega)]
theorem layoutL_none {t:Int} (h:t < 1 ∨ 15 < t):layoutL t=[]:=by
  unfold layoutL
  rw [if_neg (by omega),if_neg (by omega),if_neg (by omega),if_neg (by omega),if_neg (by omega),if_neg (by omega),if_neg (by omega),if_neg (by omega),if_neg (by omega),if_neg (by omega),if_neg (by omega),if_neg (by omega),if_neg (by omega),if_neg (by omega),if_neg (by omega)]
theorem t_cases {t:Int}:(t < 1 ∨ 15 < t) ∨ t=1 ∨ t=2 ∨ t=3 ∨ t=4 ∨ t=5 ∨ t=6 ∨ t=7 ∨ t=8 ∨ t=9 ∨ t=10 ∨ t=11 ∨ t=12 ∨ t=13 ∨ t=14 ∨ t=15:=by omega
theorem rowL_isB (t:Int):IsB (rowL t):=by
  rcases t_cases (t:=t) with h | rfl | rfl | rfl | rfl | rfl | rfl | rfl | rfl | rfl | rfl | rfl | rfl | rfl | rfl | rfl
  · rw [rowL_none h]; exact isB_nil
  all_goals (intro x hx; revert x; decide)
theorem rowL_len (t:Int):(rowL t).length≤100:=by
  rcases t_cases (t:=t) with h | rfl | rfl | rfl | rfl | rfl | rfl | rfl | rfl | rfl | rfl | rfl | rfl | rfl | rfl | rfl
  · rw [rowL_none h]; decide
  all_goals decide
theorem parts_eq (t:Int):(wordsL (rowL t)).map wordPart=(layoutL t).map toPart:=by
  rcases t_cases (t:=t) with h | rfl | rfl | rfl | rfl | rfl | rfl | rfl | rfl | rfl | rfl | rfl | rfl | rfl | rfl | rfl
  · rw [rowL_none h,layoutL_none h]; decide
  all_goals decide
theorem words_lenM (t:Int):∀ M ∈ wordsL (rowL t),M.length≤10000:=by
  rcases t_cases (t:=t) with h | rfl | rfl | rfl | rfl | rfl | rfl | rfl | rfl | rfl | rfl | rfl | rfl | rfl | rfl | rfl
  · rw [rowL_none h]; decide
  all_goals decide
theorem words_long {L M:List Int} (h:M ∈ wordsL L):0 < M.length:=by
  have:=(List.mem_filter.1 h).2
  simp only [ne_eq,decide_not,Bool.not_eq_eq_eq_not,Bool.not_true,decide_eq_false_iff_not] at this
  exact List.length_pos_iff.2 this
theorem words_cnt (L:List Int):(wordsL L).length≤L.length + 1:=Nat.le_trans (List.length_filter_le _ _) (splL_len _ _)
def ps (P:List (Int × Int)):List V:=P.map fun p=>.agg [.sc (.int .u8 p.1),.sc (.int .i64 p.2)]
theorem ps_len (P:List (Int × Int)):(ps P).length=P.length:=by simp [ps]
theorem ps_get (P:List (Int × Int)) (i:Nat):(ps P)[i]?=(P[i]?).map fun p=>.agg [.sc (.int .u8 p.1),.sc (.int .i64 p.2)]:=by simp [ps]
theorem ps_append (A B:List (Int × Int)):ps A ++ ps B=ps (A ++ B):=by simp [ps]
theorem allSz_ps (P:List (Int × Int)):allSz 2 (ps P):=fun d hd=>by
  obtain ⟨x,_,rfl⟩:=List.mem_map.1 hd; rfl
section
variable {st:St}
theorem row16_v (t:Int):VCalls Tryz.prog 59 [.sc (.int .i64 t)] st fun r st'=>r=.sc (.string (strOf (rowL t)))∧st=st':=by
  refine vcalls_enter vc59 (Nat.le_of_ble_eq_true rfl) fun hwf hok=>?_
  show Run _ Vc59.body (.fin (finQ Vc59.res _)) _ _
  unfold Vc59 zg zl zm zn zo
  by_cases c1:t < 0
  · rw [rowL_none (by omega)]
    simp (maxSteps:=3000000) only [go_sem,↓reduceIte]
    intro b hb
    simp (maxSteps:=3000000) only [go_sem,↓reduceIte,decide_eq_true c1]
    exact ⟨_,_,Wk.refl _,weak_put hwf.weak hb,rfl,rfl⟩
  by_cases c2:15 < t
  · rw [rowL_none (by omega)]
    simp (maxSteps:=3000000) only [go_sem,↓reduceIte]
    intro b hb
    simp (maxSteps:=3000000) only [go_sem,↓reduceIte,decide_eq_false c1,decide_eq_true c2]
    exact ⟨_,_,Wk.refl _,weak_put hwf.weak hb,rfl,rfl⟩
  have hc:t=0 ∨ t=1 ∨ t=2 ∨ t=3 ∨ t=4 ∨ t=5 ∨ t=6 ∨ t=7 ∨ t=8 ∨ t=9 ∨ t=10 ∨ t=11 ∨ t=12 ∨ t=13 ∨ t=14 ∨ t=15:=by omega
  rcases hc with rfl | rfl | rfl | rfl | rfl | rfl | rfl | rfl | rfl | rfl | rfl | rfl | rfl | rfl | rfl | rfl
  · simp (maxSteps:=3000000) only [go_sem,↓reduceIte]
    intro b hb
    exact ⟨by omega,_,_,Wk.refl _,weak_put hwf.weak hb,rfl,rfl⟩
  · simp (maxSteps:=3000000) only [go_sem,↓reduceIte]
    intro b hb
    exact ⟨by omega,_,_,Wk.refl _,weak_put hwf.weak hb,rfl,rfl⟩
  · simp (maxSteps:=3000000) only [go_sem,↓reduceIte]
    intro b hb
    exact ⟨by omega,_,_,Wk.refl _,weak_put hwf.weak hb,rfl,rfl⟩
  · simp (maxSteps:=3000000) only [go_sem,↓reduceIte]
    intro b hb
    exact ⟨by omega,_,_,Wk.refl _,weak_put hwf.weak hb,rfl,rfl⟩
  · simp (maxSteps:=3000000) only [go_sem,↓reduceIte]
    intro b hb
    exact ⟨by omega,_,_,Wk.refl _,weak_put hwf.weak hb,rfl,rfl⟩
  · simp (maxSteps:=3000000) only [go_sem,↓reduceIte]
    intro b hb
    exact ⟨by omega,_,_,Wk.refl _,weak_put hwf.weak hb,rfl,rfl⟩
  · simp (maxSteps:=3000000) only [go_sem,↓reduceIte]
    intro b hb
    exact ⟨by omega,_,_,Wk.refl _,weak_put hwf.weak hb,rfl,rfl⟩
  · simp (maxSteps:=3000000) only [go_sem,↓reduceIte]
    intro b hb
    exact ⟨by omega,_,_,Wk.refl _,weak_put hwf.weak hb,rfl,rfl⟩
  · simp (maxSteps:=3000000) only [go_sem,↓reduceIte]
    intro b hb
    exact ⟨by omega,_,_,Wk.refl _,weak_put hwf.weak hb,rfl,rfl⟩
  · simp (maxSteps:=3000000) only [go_sem,↓reduceIte]
    intro b hb
    exact ⟨by omega,_,_,Wk.refl _,weak_put hwf.weak hb,rfl,rfl⟩
  · simp (maxSteps:=3000000) only [go_sem,↓reduceIte]
    intro b hb
    exact ⟨by omega,_,_,Wk.refl _,weak_put hwf.weak hb,rfl,rfl⟩
  · simp (maxSteps:=3000000) only [go_sem,↓reduceIte]
    intro b hb
    exact ⟨by omega,_,_,Wk.refl _,weak_put hwf.weak hb,rfl,rfl⟩
  · simp (maxSteps:=3000000) only [go_sem,↓reduceIte]
    intro b hb
    exact ⟨by omega,_,_,Wk.refl _,weak_put hwf.weak hb,rfl,rfl⟩
  · simp (maxSteps:=3000000) only [go_sem,↓reduceIte]
    intro b hb
    exact ⟨by omega,_,_,Wk.refl _,weak_put hwf.weak hb,rfl,rfl⟩
  · simp (maxSteps:=3000000) only [go_sem,↓reduceIte]
    intro b hb
    exact ⟨by omega,_,_,Wk.refl _,weak_put hwf.weak hb,rfl,rfl⟩
  · simp (maxSteps:=3000000) only [go_sem,↓reduceIte]
    intro b hb
    exact ⟨by omega,_,_,Wk.refl _,weak_put hwf.weak hb,rfl,rfl⟩
theorem parts16_v (t:Int):VCalls Tryz.prog 29 [.sc (.int .i64 t)] st fun r st'=>r=.sl .no (ps ((layoutL t).map toPart))∧st=st':=by
  rw [← parts_eq t]
  have hR:=rowL_isB t
  have hl:=rowL_len t
  have hQ:∀ M ∈ wordsL (rowL t),IsB M∧0 < M.length:=fun M hM=>⟨wordsL_isB hR M hM,words_long hM⟩
  have hQl:=words_cnt (rowL t)
  have hlen:∀ M ∈ wordsL (rowL t),M.length≤10000:=fun M hM=>words_lenM t M hM
  have hw:=fun st:St=>words03_v (st:=st) hR (by omega)
  generalize hr:rowL t=R at *
  generalize wordsL R=Q at *
  refine vcalls_enter vc29 (Nat.le_of_ble_eq_true rfl) fun hwf hok=>?_
  show Run _ Vc29.body (.fin (finQ Vc29.res _)) _ _
  unfold Vc29 zl zm zo
  simp (maxSteps:=3000000) only [go_sem,↓reduceIte]
  refine Cal.mk (row16_v t) ?_
  rintro _ _ ⟨rfl,rfl⟩ -
  rw [hr]
  simp (maxSteps:=3000000) only [go_sem,↓reduceIte]
  refine Cal.mk (hw _) ?_
  rintro r s0 ⟨k1,k2⟩ -
  obtain ⟨tk,rfl⟩:=k1.sl
  simp (maxSteps:=3000000) only [go_sem,↓reduceIte]
  refine run_loop [3,5,6,7,11,12,13,14,15,16,17,18,19,20,21,22,23,24,25,26,27,28,29,30,31,32,33,34,35,36,37,38,39,40,41,42,43,44,45,46,47] (fun B s=>∃ i:Nat,i≤Q.length∧B 5=.sc (.int .i64 i)∧Own 2 s (B 3) (ps ((Q.take i).map wordPart))∧New st s (B 3)) (fun B _=>Q.length - vnat (B 5)) rfl ?_ ?_
  · simp (maxSteps:=3000000) only [go_sem,↓reduceIte]
    exact ⟨0,by omega,by simp,.inl ⟨rfl,by simp [ps]⟩,k2.weak,k2.lt,fun g k l e=>by cases e⟩
  · rintro B s ⟨i,hi,h5,ho,hn⟩
    by_cases hlt:i < Q.length
    · obtain ⟨M,hM⟩:=get_ex hlt
      obtain ⟨bM,pM⟩:=hQ M (List.mem_of_getElem? hM)
      have lM:=hlen M (List.mem_of_getElem? hM)
      obtain ⟨c,hc⟩:=get_ex (L:=M) (i:=M.length - 1) (by omega)
      have hsn:(Q.take (i + 1)).map wordPart=(Q.take i).map wordPart ++ [wordPart M]:=by rw [List.take_add_one,hM]; simp
      have hwp:wordPart M=(c,(rdN (M.take (M.length - 1))).1):=by unfold wordPart; simp [hc]
      have hlt':=decide_eq_true (show (i:Int) < (Q.length:Int) by omega)
      have e1:((M.length:Int) - 1).toNat=M.length - 1:=by omega
      simp (maxSteps:=3000000) only [go_sem,↓reduceIte,h5,ss_len,ss_get,hM,hlt',strOf_size,e1,strOf_ext]
      repeat (apply And.intro; focus (first | omega | (simp; done)))
      refine Cal.mk (readNum03_v (bM.take _)) ?_
      rintro _ _ ⟨rfl,rfl⟩ -
      simp (maxSteps:=3000000) only [go_sem,↓reduceIte,h5,ss_get,hM,strOf_size,e1,bytesOf_strOf bM,hc]
      repeat (apply And.intro; focus (first | omega | (simp; done)))
      refine App.mk (l:=ps ((Q.take i).map wordPart)) ho (ys:=ps [(c,(rdN (M.take (M.length - 1))).1)]) (allSz_ps _) (by simp only [ps_len,maxLen,List.length_cons,List.length_nil,List.length_map,List.length_take]; omega) (by simp only [ps_len,List.length_cons,List.length_nil,List.length_map,List.length_take]; omega) ?_
      intro r s1 k1 k2
      rw [ps_append,← hwp,← hsn] at k1
      simp (maxSteps:=3000000) only [go_sem,↓reduceIte,h5]
      repeat (apply And.intro; focus (first | omega | (simp; done)))
      exact ⟨⟨i + 1,by omega,by simp,k1,hn.app k2⟩,by omega⟩
    · obtain rfl:i=Q.length:=by omega
      rw [List.take_of_length_le (Nat.le_refl _)] at ho
      obtain ⟨tk2,h3⟩:=ho.sl
      simp (maxSteps:=3000000) only [go_sem,↓reduceIte,h5,h3,ss_len]
      exact ⟨_,_,Wk.no,hn.weak,rfl,rfl⟩
end
end
section
open Go
structure MB where
  ty:Int
  N:List Int
  T:List (List Int)
def MB.cells (m:MB):List V:=.sc (.int .i64 m.ty) :: (us m.N ++ ss m.T)
def MB.v (m:MB):V:=.agg m.cells
structure MB.Ok (m:MB):Prop where
  ty:-9223372036854775808≤m.ty∧m.ty≤9223372036854775807
  n9:m.N.length=9
  t3:m.T.length=3
  nr:∀ x ∈ m.N,0≤x∧x < 4294967296
  tb:∀ t ∈ m.T,IsB t
  tl:∀ t ∈ m.T,t.length≤1000000
theorem MB.len {m:MB} (h9:m.N.length=9) (h3:m.T.length=3):m.cells.length=13:=by simp [MB.cells,us_len,ss_len,h9,h3]
theorem MB.getN {m:MB} {n:Nat} {x:Int} (h:m.N[n]?=some x):m.cells[1 + n]?=some (.sc (.int .u32 x)):=by
  have hl:=(List.getElem?_eq_some_iff.1 h).1
  rw [show 1 + n=n + 1 by omega]
  simp only [MB.cells,List.getElem?_cons_succ]
  rw [List.getElem?_append_left (by rw [us_len]; exact hl),us_get,h]
  rfl
theorem MB.getT {m:MB} (h9:m.N.length=9) {s:Nat} {t:List Int} (h:m.T[s]?=some t):m.cells[10 + s]?=some (.sc (.string (strOf t))):=by
  rw [show 10 + s=(9 + s) + 1 by omega]
  simp only [MB.cells,List.getElem?_cons_succ]
  rw [List.getElem?_append_right (by rw [us_len]; omega),us_len,h9,show 9 + s - 9=s by omega,ss_get,h]
  rfl
theorem nc0:((0:Nat):Int)=0:=rfl
theorem nc9':((9:Nat):Int)=9:=rfl
theorem nc3':((3:Nat):Int)=3:=rfl
theorem u8s_bs:∀ L:List Int,u8sOf (bs L)=some L
  | []=>rfl
  | x :: L=>by rw [bs_cons]; simp only [u8sOf,u8s_bs L,Option.map_some]
theorem drop_cons {α:Type} {K:List α} {i:Nat} {k:α} (h:K[i]?=some k):K.drop i=k :: K.drop (i + 1):=by
  obtain ⟨hl,he⟩:=List.getElem?_eq_some_iff.1 h
  rw [List.drop_eq_getElem_cons hl,he]
section
variable {st:St} {tk:Tk} {L:List Int}
theorem layoutN_v {t:Int} (h:t < 1 ∨ 15 < t):VCalls Tryz.prog 216 [.sc (.int .i64 t)] st fun r st'=>r=.sl .nil []∧st=st':=by
  refine vcalls_enter vc216 (Nat.le_of_ble_eq_true rfl) fun hwf hok=>?_
  show Run _ Vc216.body (.fin (finQ Vc216.res _)) _ _
  unfold Vc216 zm zo
  simp (maxSteps:=3000000) only [go_sem,↓reduceIte,decide_eq_false (show ¬ t=1 by omega),decide_eq_false (show ¬ t=2 by omega),decide_eq_false (show ¬ t=3 by omega),decide_eq_false (show ¬ t=4 by omega),decide_eq_false (show ¬ t=5 by omega),decide_eq_false (show ¬ t=6 by omega),decide_eq_false (show ¬ t=7 by omega),decide_eq_false (show ¬ t=8 by omega),decide_eq_false (show ¬ t=9 by omega),decide_eq_false (show ¬ t=10 by omega),decide_eq_false (show ¬ t=11 by omega),decide_eq_false (show ¬ t=12 by omega),decide_eq_false (show ¬ t=13 by omega),decide_eq_false (show ¬ t=14 by omega),decide_eq_false (show ¬ t=15 by omega)]
  exact ⟨_,_,Wk.refl _,hwf.weak,rfl,rfl⟩
theorem layoutL_some {t:Int} (h:¬ (t < 1 ∨ 15 < t)):layoutL t ≠ []:=by
  rcases t_cases (t:=t) with h | rfl | rfl | rfl | rfl | rfl | rfl | rfl | rfl | rfl | rfl | rfl | rfl | rfl | rfl | rfl
  · contradiction
  all_goals decide
theorem sumN_snoc:∀ (K:List Int) (k:Int),sumN (K ++ [k])=sumN K + k.natAbs
  | [],k=>by simp [sumN]
  | x :: K,k=>by rw [List.cons_append,sumN,sumN_snoc K k,sumN]; omega
theorem sumN_take (K:List Int):∀ i,sumN (K.take i)≤sumN K:=by
  induction K with
  | nil=>intro i; simp
  | cons k K ih =>
    intro i
    cases i with
    | zero=>simp [sumN]
    | succ i=>simp only [List.take_succ_cons,sumN]; have:=ih i; omega
theorem msgSize_v (t:Int):VCalls Tryz.prog 218 [.sc (.int .i64 t)] st fun r st'=>r=.sc (.int .i64 (sizeT t))∧st=st':=by
  refine vcalls_enter vc218 (Nat.le_of_ble_eq_true rfl) fun hwf hok=>?_
  show Run _ Vc218.body (.fin (finQ Vc218.res _)) _ _
  unfold Vc218 zl zm zo
  by_cases h:t < 1 ∨ 15 < t
  · simp (maxSteps:=3000000) only [go_sem,↓reduceIte]
    refine Cal.mk (layoutN_v h) ?_
    rintro _ _ ⟨rfl,rfl⟩ -
    simp (maxSteps:=3000000) only [go_sem,↓reduceIte]
    refine ⟨_,_,Wk.refl _,hwf.weak,?_,rfl⟩
    unfold sizeT
    rw [if_pos (layoutL_none h)]
  · have hne:=layoutL_some h
    have hs:sizeT t=12 + (sumN (layoutL t):Int):=if_neg hne
    have h3:=layout_sum t
    have h4:=layout_kOk t
    have hl:=layout_len t
    have hL:=layout_v (st:=st) t
    rw [hs]
    generalize layoutL t=K at *
    obtain ⟨k0,K0,hK⟩:∃ k0 K0,K=k0 :: K0:=by
      cases K with
      | nil=>exact absurd rfl hne
      | cons k0 K0=>exact ⟨k0,K0,rfl⟩
    have hIs:is K=.sc (.int .i64 k0) :: is K0:=by rw [hK]; rfl
    simp (maxSteps:=3000000) only [go_sem,↓reduceIte]
    refine Cal.mk hL ?_
    rintro _ _ ⟨rfl,rfl⟩ -
    rw [hIs]
    simp (maxSteps:=3000000) only [go_sem,↓reduceIte]
    rw [← hIs]
    simp (maxSteps:=3000000) only [go_sem,is_len]
    have el:K.length=K0.length + 1:=by rw [hK]; simp
    refine run_loop [4,6,13,14,15,16,17,18,19,20,21,22,23] (fun B s=>st=s∧∃ i:Nat,i≤K.length∧B 13=.sc (.int .i64 i)∧B 4=.sc (.int .i64 (12 + (sumN (K.take i):Int)))) (fun B _=>K.length - vnat (B 13)) rfl ?_ ?_
    · simp (maxSteps:=3000000) only [go_sem,↓reduceIte]
      exact ⟨0,by omega,by simp,by simp [sumN]⟩
    · rintro B s ⟨rfl,i,hi,h13,hB4⟩
      by_cases hlt:i < K.length
      · obtain ⟨k,hk⟩:=get_ex hlt
        have hkk:=h4 k (List.mem_of_getElem? hk)
        unfold kOkM at hkk
        have hsn:sumN (K.take (i + 1))=sumN (K.take i) + k.natAbs:=by rw [List.take_add_one,hk]; exact sumN_snoc _ _
        have hst:=sumN_take K i
        have hmx:max k (0 - k)=(k.natAbs:Int):=by omega
        have hlt':=decide_eq_true (show (i:Int) < ((K0.length + 1:Nat):Int) by omega)
        simp (maxSteps:=3000000) only [go_sem,↓reduceIte,h13,hB4,is_get,hk,hlt',hmx]
        repeat (apply And.intro; focus (first | omega | (simp; done)))
        exact ⟨⟨i + 1,by omega,by simp,by rw [hsn]; exact congrArg (fun z=>V.sc (.int .i64 z)) (by omega)⟩,by omega⟩
      · obtain rfl:i=K.length:=by omega
        rw [List.take_of_length_le (Nat.le_refl _)] at hB4
        simp (maxSteps:=3000000) only [go_sem,↓reduceIte,h13,hB4,decide_eq_false (show ¬ (K.length:Int) < ((K0.length + 1:Nat):Int) by omega)]
        exact ⟨_,_,Wk.refl _,hwf.weak,rfl,rfl⟩
theorem toPart_sz (k:Int) (h:kOkM k):(toPart k).2=(k.natAbs:Int):=by
  unfold kOkM at h
  unfold toPart
  split
  · simp only; omega
  · split <;> (simp only; omega)
theorem refSize_v (t:Int):VCalls Tryz.prog 27 [.sc (.int .i64 t)] st fun r st'=>r=.sc (.int .i64 (sizeT t))∧st=st':=by
  refine vcalls_enter vc27 (Nat.le_of_ble_eq_true rfl) fun hwf hok=>?_
  show Run _ Vc27.body (.fin (finQ Vc27.res _)) _ _
  unfold Vc27 zf zl zm zo
  have h3:=layout_sum t
  have h4:=layout_kOk t
  have hl:=layout_len t
  have hL:=parts16_v (st:=st) t
  have hs:sizeT t=if layoutL t=[] then 0 else 12 + (sumN (layoutL t):Int):=rfl
  rw [hs]
  generalize layoutL t=K at *
  simp (maxSteps:=3000000) only [go_sem,↓reduceIte]
  refine Cal.mk hL ?_
  rintro _ _ ⟨rfl,rfl⟩ -
  simp (maxSteps:=3000000) only [go_sem,↓reduceIte]
  refine run_loop [4,5,8,9,10,11,12,13,14,15,16,17,18,19,20] (fun B s=>st=s∧∃ i:Nat,i≤K.length∧B 5=.sc (.int .i64 i)∧B 4=.sc (.int .i64 (sumN (K.take i):Int))) (fun B _=>K.length - vnat (B 5)) rfl ?_ ?_
  · simp (maxSteps:=3000000) only [go_sem,↓reduceIte]
    exact ⟨0,by omega,by simp,by simp [sumN]⟩
  · rintro B s ⟨rfl,i,hi,h13,hB4⟩
    by_cases hlt:i < K.length
    · obtain ⟨k,hk⟩:=get_ex hlt
      have hkk:=h4 k (List.mem_of_getElem? hk)
      have hsn:sumN (K.take (i + 1))=sumN (K.take i) + k.natAbs:=by rw [List.take_add_one,hk]; exact sumN_snoc _ _
      have hst:=sumN_take K (i + 1)
      have hp:=toPart_sz k hkk
      have hlt':=decide_eq_true (show (i:Int) < (K.length:Int) by omega)
      simp (maxSteps:=3000000) only [go_sem,↓reduceIte,h13,hB4,ps_len,List.length_map,ps_get,List.getElem?_map,hk,hlt',hp]
      repeat (apply And.intro; focus (first | omega | (simp; done)))
      exact ⟨⟨i + 1,by omega,by simp,by rw [hsn]; rfl⟩,by omega⟩
    · obtain rfl:i=K.length:=by omega
      rw [List.take_of_length_le (Nat.le_refl _)] at hB4
      by_cases hK:K=[]
      · subst hK
        simp (maxSteps:=3000000) only [go_sem,↓reduceIte,h13,hB4,ps_len,sumN,nc0]
        exact ⟨_,_,Wk.refl _,hwf.weak,rfl,rfl⟩
      · rw [if_neg hK]
        have hpos:0 < sumN K:=by
          cases K with
          | nil=>exact absurd rfl hK
          | cons k K =>
            have:=h4 k (by simp)
            unfold kOkM at this
            simp only [sumN]; omega
        simp (maxSteps:=3000000) only [go_sem,↓reduceIte,h13,hB4,ps_len,List.length_map,decide_eq_true (show (0:Int) < (sumN K:Int) by omega)]
        repeat (apply And.intro; focus (first | omega | (simp; done)))
        exact ⟨_,_,Wk.refl _,hwf.weak,by rw [Int.add_comm],rfl⟩
theorem text_v (hl:L.length≤100000000):VCalls Tryz.prog 273 [.sl tk (bs L)] st fun r st'=>r=.sc (.string (strOf (stripL L)))∧st=st':=by
  refine vcalls_enter vc273 (Nat.le_of_ble_eq_true rfl) fun hwf hok=>?_
  show Run _ Vc273.body (.fin (finQ Vc273.res _)) _ _
  unfold Vc273 zg zm zo
  simp (maxSteps:=3000000) only [go_sem,↓reduceIte,bs_len]
  refine run_loop [3,6,7,8,9,10,11,12,13,14,15,16,17] (fun B s=>st=s∧∃ i:Nat,i≤L.length∧B 3=.sc (.int .i64 i)∧stripN L L.length=stripN L i) (fun B _=>vnat (B 3)) rfl ?_ ?_
  · simp (maxSteps:=3000000) only [go_sem,↓reduceIte]
    exact ⟨L.length,by omega,by simp,rfl⟩
  · rintro B s ⟨rfl,i,hi,h3,he⟩
    have hfin:stripN L i=i→stripL L=L.take i:=fun h=>by unfold stripL; rw [he,h]
    cases i with
    | zero =>
      rw [hfin rfl]
      simp (maxSteps:=3000000) only [go_sem,↓reduceIte,h3,bs_len,bs_take,allSz_bs',u8sOf,bs_nil,nc0]
      exact ⟨by omega,_,_,Wk.refl _,hwf.weak,rfl,rfl⟩
    | succ i =>
      obtain ⟨c,hc⟩:=get_ex (L:=L) (i:=i) (by omega)
      have e1:(((i + 1:Nat):Int) - 1).toNat=i:=by omega
      have e2:((i + 1:Nat):Int) - 1=(i:Int):=by omega
      by_cases c0:c=0
      · subst c0
        have hst:stripN L (i + 1)=stripN L i:=by rw [stripN,if_pos hc]
        simp (maxSteps:=3000000) only [go_sem,↓reduceIte,h3,bs_get,e2,hc,decide_eq_true (show (0:Int) < ((i + 1:Nat):Int) by omega)]
        repeat (apply And.intro; focus (first | omega | (simp; done)))
        exact ⟨⟨i,by omega,by simp,by rw [he,hst]⟩,by omega⟩
      · have hst:stripN L (i + 1)=i + 1:=by rw [stripN,if_neg]; rw [hc]; intro h; cases h; exact c0 rfl
        rw [hfin hst]
        simp (maxSteps:=3000000) only [go_sem,↓reduceIte,h3,bs_len,bs_get,bs_take,allSz_bs',u8s_bs,e2,hc,decide_eq_true (show (0:Int) < ((i + 1:Nat):Int) by omega),decide_eq_false c0]
        repeat (apply And.intro; focus (first | omega | (simp; done)))
        exact ⟨_,_,Wk.refl _,hwf.weak,rfl,rfl⟩
theorem noughts_v (hl:L.length≤100000000):VCalls Tryz.prog 272 [.sl tk (bs L)] st fun r st'=>r=.sc (.bool (L.all fun x=>decide (x=0)))∧st=st':=by
  refine vcalls_enter vc272 (Nat.le_of_ble_eq_true rfl) fun hwf hok=>?_
  show Run _ Vc272.body (.fin (finQ Vc272.res _)) _ _
  unfold Vc272 zl zm zo
  simp (maxSteps:=3000000) only [go_sem,↓reduceIte,bs_len]
  refine run_loop [2,4,7,8,9,10,11,12,13] (fun B s=>st=s∧∃ i:Nat,i≤L.length∧B 7=.sc (.int .i64 i)∧L.all (fun x=>decide (x=0))=(L.drop i).all (fun x=>decide (x=0))) (fun B _=>L.length - vnat (B 7)) rfl ?_ ?_
  · simp (maxSteps:=3000000) only [go_sem,↓reduceIte]
    exact ⟨0,by omega,by simp,rfl⟩
  · rintro B s ⟨rfl,i,hi,h7,he⟩
    rw [he]
    by_cases hlt:i < L.length
    · obtain ⟨c,hc⟩:=get_ex hlt
      have hlt':=decide_eq_true (show (i:Int) < (L.length:Int) by omega)
      rw [drop_cons hc,List.all_cons] at he ⊢
      by_cases c0:c=0
      · simp (maxSteps:=3000000) only [go_sem,↓reduceIte,h7,bs_get,hc,hlt',decide_eq_false (show ¬ ¬ c=0 from fun h=>h c0)]
        repeat (apply And.intro; focus (first | omega | (simp; done)))
        exact ⟨⟨i + 1,by omega,by simp,by simp [c0]⟩,by omega⟩
      · simp (maxSteps:=3000000) only [go_sem,↓reduceIte,h7,bs_get,hc,hlt',decide_eq_true c0]
        exact ⟨by omega,_,_,Wk.refl _,hwf.weak,by rw [decide_eq_false c0,Bool.false_and],rfl⟩
    · obtain rfl:i=L.length:=by omega
      rw [List.drop_of_length_le (Nat.le_refl _)]
      simp (maxSteps:=3000000) only [go_sem,↓reduceIte,h7]
      exact ⟨_,_,Wk.refl _,hwf.weak,rfl,rfl⟩
end
end
section
open Go
theorem tail_drop' {α:Type} (L:List α) (n:Nat):(L.drop n).tail=L.drop (n + 1):=by rw [List.tail_drop]
theorem headD_drop {α:Type} {L:List α} {n:Nat} {x d:α} (h:L[n]?=some x):(L.drop n).headD d=x:=by rw [drop_cons h]; rfl
section
variable {st:St} {m:MB}
end
end
section
open Go
section
variable {st s s':St} {b:Nat} {cs:List V} {r r' x:V} {L M L':List Int} {tk:Tk} {P:Program} {k:Kt} {A:Nat→V} {d:Option Nat} {obs:List (Option Nat × X × Nat)} {rest:List VO}
theorem bs_rep (n:Nat):List.replicate n (V.sc (.int .u8 0))=bs (List.replicate n 0):=by simp [bs]
theorem AppSt.refl (h:st.Wf) {x:V}:AppSt st x st x:=⟨rfl,fun k=>k,Nat.le_refl _,fun g m hg _=>hg,fun g k l e=>.inl ⟨l,e⟩⟩
def hdrL (size ty:Int):List Int:=beL size 2 ++ beL 1 2 ++ beL 439041101 4 ++ beL ty 2 ++ beL 0 2
def bytesM (m:MB):List Int:=hdrL (sizeT m.ty) m.ty ++ bK (layoutL m.ty) m.N m.T
def okM (m:MB):Bool:=rK (layoutL m.ty) m.N m.T && decide (0 < sizeT m.ty)
theorem hdrL_len (a b:Int):(hdrL a b).length=12:=by simp [hdrL,beL_len]
theorem sizeT_le (t:Int):0≤sizeT t∧sizeT t≤312:=by
  unfold sizeT
  have:=layout_sum t
  split <;> omega
theorem okM_ty {m:MB} (h:okM m=true):1≤m.ty∧m.ty≤15:=by
  unfold okM at h
  rw [Bool.and_eq_true,decide_eq_true_eq] at h
  have:=sizeT_pos.1 h.2
  by_cases c:m.ty < 1 ∨ 15 < m.ty
  · exact absurd (layoutL_none c) this
  · omega
end
end
section
open Go
section
variable {tk:Tk} {st:St}
theorem toPart_num {k:Int} (h:kOkM k):decide ((toPart k).1=110)=isNum k:=by
  unfold kOkM at h
  rcases h with rfl | rfl | rfl | rfl | rfl | rfl | rfl <;> decide
end
end
section
open Go
structure MB.Ok0 (m:MB):Prop where
  n9:m.N.length=9
  t3:m.T.length=3
  nr:∀ x ∈ m.N,0≤x∧x < 4294967296
  tb:∀ t ∈ m.T,IsB t
theorem MRow.later {base s s':St} {r:V} {L:List Int} (h:MRow base s r L) (hw:s.weak s') (hl:s'.Lt):MRow base s' r L:=by
  obtain ⟨b,cap,spare,rfl,h1,h2,h3,h4⟩:=h.row
  exact ⟨h.weak.trans hw,hl,b,cap,spare,rfl,h1,(hw.box _ _ h2).1,h3,h4⟩
theorem Wk.tup2' {a a':V} {x:Value} (h:Wk a a'):Wk (.tup [a,.sc x]) (.tup [a',.sc x]):=fun G v hv=>by
  cases hv with
  | tup _ vs hl hg =>
    refine .tup _ vs hl fun i c u hc hu=>?_
    match i,hc with
    | 0,hc=>simp at hc; subst hc; exact h _ _ (hg 0 _ u rfl hu)
    | 1,hc=>simp at hc; subst hc; exact hg 1 _ u rfl hu
theorem strip_last {t:List Int} (h:0 < t.length):stripL t=t ↔ t[t.length - 1]? ≠ some 0:=by
  rw [stripL_eq]
  obtain ⟨n,hn⟩:∃ n,t.length=n + 1:=⟨t.length - 1,by omega⟩
  rw [hn,Nat.add_sub_cancel,stripN]
  split
  · rename_i h0
    have:=stripN_le t n
    exact ⟨fun e=>by omega,fun e=>absurd h0 e⟩
  · rename_i h0; exact ⟨fun _=>h0,fun _=>rfl⟩
theorem toPart_txt {k:Int} (h:kOkM k):decide ((toPart k).1=116)=isTxt k:=by
  unfold kOkM at h
  rcases h with rfl | rfl | rfl | rfl | rfl | rfl | rfl <;> decide
section
variable {st:St} {m:MB}
set_option maxRecDepth 100000 in
set_option maxHeartbeats 4000000 in
theorem refBuild_v (hm:m.Ok0):VCalls Tryz.prog 7 [m.v] st fun r st'=>r=.tup [.sl .no (bs (if okM m then bytesM m else [])),.sc (.bool (okM m))]∧st=st':=by
  have key:VCalls Tryz.prog 7 [m.v] st fun r s=>(okM m=false∧r=.tup [.sl .nil [],.sc (.bool false)]∧st=s) ∨ (okM m=true∧∃ row,MRow st s row (bytesM m)∧r=.tup [row,.sc (.bool true)]):=by
    refine vcalls_enter vc7 (Nat.le_of_ble_eq_true rfl) fun hwf hok=>?_
    show Run _ Vc7.body (.fin (finQ Vc7.res _)) _ _
    unfold Vc7 zf zg zl zm zn zo
    have hK4:=layout_kOk m.ty
    have hl:=layout_len m.ty
    have hcn:=layout_cnt m.ty
    have hct:=layout_txt m.ty
    have hsm:=layout_sum m.ty
    have hS:=fun st:St=>refSize_v (st:=st) m.ty
    have hL:=fun st:St=>parts16_v (st:=st) m.ty
    have hsz:=sizeT_le m.ty
    have hpos:=sizeT_pos (t:=m.ty)
    have hty:0 < sizeT m.ty→1≤m.ty∧m.ty≤15:=fun h=>by
      have:=sizeT_pos.1 h
      by_cases c:m.ty < 1 ∨ 15 < m.ty
      · exact absurd (layoutL_none c) this
      · omega
    obtain ⟨W,hW⟩:∃ W,bytesM m=W:=⟨_,rfl⟩
    have hWd:=hW
    unfold bytesM at hWd
    obtain ⟨X,hX⟩:∃ X,rK (layoutL m.ty) m.N m.T=X:=⟨_,rfl⟩
    have hok2:okM m=(X && decide (0 < sizeT m.ty)):=by unfold okM; rw [hX]
    rw [hW,hok2]
    clear hok2 hW
    generalize layoutL m.ty=K at *
    generalize sizeT m.ty=Z at *
    obtain ⟨C,hC⟩:∃ C,C=m.cells:=⟨_,rfl⟩
    have hC13:C.length=13:=by rw [hC]; exact MB.len hm.n9 hm.t3
    have g0:C[0]?=some (.sc (.int .i64 m.ty)):=by rw [hC]; rfl
    have gN:∀ {n:Nat} {x:Int},m.N[n]?=some x→C[1 + n]?=some (.sc (.int .u32 x)):=fun h=>by rw [hC]; exact MB.getN h
    have gT:∀ {s:Nat} {t:List Int},m.T[s]?=some t→C[10 + s]?=some (.sc (.string (strOf t))):=fun h=>by rw [hC]; exact MB.getT hm.n9 h
    have hv:m.v=.agg C:=by rw [hC]; rfl
    have n9:=hm.n9
    have t3:=hm.t3
    rw [hv]
    clear hok
    simp (maxSteps:=3000000) only [go_sem,↓reduceIte,hC13,g0]
    intro b hb
    refine Cal.mk (hS _) ?_
    rintro _ _ ⟨rfl,rfl⟩ -
    by_cases hZ0:Z=0
    · simp (maxSteps:=3000000) only [go_sem,↓reduceIte,hZ0]
      exact ⟨_,_,Wk.refl _,weak_put hwf.weak hb,.inl ⟨by simp [],rfl,rfl⟩⟩
    have hZp:0 < Z:=by omega
    have hty:=hty hZp
    have eX:(X && decide (0 < Z))=X:=by rw [decide_eq_true hZp,Bool.and_true]
    rw [eX]
    have e1:Z % 18446744073709551616=Z:=by omega
    have e2:m.ty % 18446744073709551616=m.ty:=by omega
    simp (maxSteps:=3000000) only [go_sem,↓reduceIte,decide_eq_false hZ0,g0]
    refine Cal.mk (hS _) ?_
    rintro _ _ ⟨rfl,rfl⟩ -
    simp (maxSteps:=3000000) only [go_sem,↓reduceIte,e1]
    have hw0:(st.put b C).weak (st.put b C):=(hwf.lt.put).weak
    refine Cal.mk (rPut_b (L:=[]) (size:=2) (BSrc.sl (tk:=.nil) (M:=[])) (by simp) (by omega) (by omega)) ?_
    rintro r1 s1 k1 -
    rw [if_neg (by omega),List.nil_append] at k1
    change MRow _ s1 r1 (beL Z 2) at k1
    simp (maxSteps:=3000000) only [go_sem,↓reduceIte]
    refine Cal.mk (rPut2_b k1 (by simp [beL_len]) (by omega) (by omega)) ?_
    rintro r2 s2 k2 -
    simp (maxSteps:=3000000) only [go_sem,↓reduceIte]
    refine Cal.mk (rPut4_b k2 (by simp [beL_len]) (by omega) (by omega)) ?_
    rintro r3 s3 k3 -
    have bx3:s3.box b=some C:=(k3.weak.box b C put_box_same).1
    simp (maxSteps:=3000000) only [go_sem,↓reduceIte,bx3,g0,e2]
    refine Cal.mk (rPut4_b k3 (by simp [beL_len]) (by omega) (by omega)) ?_
    rintro r4 s4 k4 -
    clear k1 k2 k3 bx3
    have eL:beL Z 2 ++ beL 1 2 ++ beL 439041101 4 ++ beL m.ty 4=[Z / 256 % 256,Z % 256,0,1,26,43,60,77,m.ty / 16777216 % 256,m.ty / 65536 % 256,m.ty / 256 % 256,m.ty % 256]:=by
      simp [beL2,beL4]
    rw [eL] at k4
    have eH:[Z / 256 % 256,Z % 256,0,1,26,43,60,77,m.ty / 256 % 256,m.ty % 256,m.ty / 16777216 % 256,m.ty / 65536 % 256]=hdrL Z m.ty:=by
      have q1:m.ty / 16777216 % 256=0:=by omega
      have q2:m.ty / 65536 % 256=0:=by omega
      rw [q1,q2]
      simp [hdrL,beL2,beL4]
    obtain ⟨c,cap,spare,rfl,hge,hbox,hlen,hcm,_⟩:=k4.row
    have bx4:s4.box b=some C:=(k4.weak.box b C put_box_same).1
    have hbc:b < c:=by simp only [put_sz] at hge; omega
    simp (maxSteps:=3000000) only [go_sem,↓reduceIte,hbox,bs_cons,put_box_ne (Nat.ne_of_lt hbc),bx4,g0]
    repeat (apply And.intro; focus (first | omega | (simp; done)))
    refine Cal.mk (hL _) ?_
    rintro _ _ ⟨rfl,rfl⟩ -
    have hdone:∀ {s:St} {x:V} {L:List Int},MRow (st.put b C) s x L→MRow st s x L:=fun h=>h.rebase (weak_put hwf.weak hb)
    simp (maxSteps:=3000000) only [go_sem,↓reduceIte]
    refine run_loop [2,3,4,6,7,8,9,10,11,52,53,54,55,56,57,58,59,60,61,62,63,64,65,66,67,68,69,70,71,72,73,74,75,76,77,78,79,80,81,82,83,84,85,86,87,88,89,90,91,92,93,94,95,96,97,98,99,100,101,102,103,104,105,106,107,108,109,110,111,112,113,114,115,116,117,118,119,120,121,122,123,124,125] (fun B s=>∃ (i n q:Nat) (L':List Int),i≤K.length∧B 8=.sc (.int .i64 i)∧B 6=.sc (.int .i64 n)∧B 7=.sc (.int .i64 q)∧MRow (st.put b C) s (B 4) L'∧L' ++ bK (K.drop i) (m.N.drop n) (m.T.drop q)=W∧X=rK (K.drop i) (m.N.drop n) (m.T.drop q) ∧
      n + (K.drop i).countP isNum≤9∧q + (K.drop i).countP isTxt≤3∧L'.length≤12 + 200000000 * i) (fun B _=>K.length - vnat (B 8)) rfl ?_ ?_
    · simp (maxSteps:=3000000) only [go_sem,↓reduceIte]
      refine ⟨0,0,0,hdrL Z m.ty,by omega,by simp,by simp,by simp,?_,hWd,hX.symm,by simpa using hcn,by simpa using hct,by rw [hdrL_len]; omega⟩
      rw [← eH]
      exact MRow.put (L:=[Z / 256 % 256,Z % 256,0,1,26,43,60,77,m.ty / 256 % 256,m.ty % 256,m.ty / 16777216 % 256,m.ty / 65536 % 256]) k4.weak k4.lt hge hlen hcm (mono_len (by rw [List.length_append,bs_len]; simp only [List.length_cons,List.length_nil]; omega))
    · clear eH eL hbox hlen bx4 hX
      rintro B s ⟨i,n,q,L',hi,h8,h6,h7,hR,he,hr,hn,hq,hll⟩
      have bx:s.box b=some C:=(hR.weak.box b C put_box_same).1
      have hwk:st.weak s:=(weak_put hwf.weak hb).trans hR.weak
      have bad:X=false→∀ {A:Nat→V},A 2=.sl .nil []→A 3=.sc (.bool false)→True:=fun _ _ _ _=>trivial
      clear bad
      by_cases hlt:i < K.length
      · obtain ⟨k,hk⟩:=get_ex hlt
        have hko:=hK4 k (List.mem_of_getElem? hk)
        have hpn:=toPart_num hko
        have hpt:=toPart_txt hko
        have hps:=toPart_sz k hko
        have hkk:=hko
        unfold kOkM at hkk
        have hlt':=decide_eq_true (show (i:Int) < (K.length:Int) by omega)
        have hsd:K.drop i=k :: K.drop (i + 1):=drop_cons hk
        rw [hsd,List.countP_cons] at hn hq
        rw [hsd] at he hr
        by_cases c1:0 < k∧k≤4
        · have e1':isTxt k=false:=by simp [isTxt]; omega
          have e2':isNum k=true:=by simp [isNum]; omega
          rw [e2'] at hn hpn; rw [e1'] at hq
          simp only [↓reduceIte] at hn
          obtain ⟨x,hx⟩:=get_ex (L:=m.N) (i:=n) (by omega)
          have xr:=hm.nr x (List.mem_of_getElem? hx)
          have gx:=gN hx
          have ex:x % 18446744073709551616=x:=by omega
          have hka:(k.natAbs:Int)=k:=by omega
          rw [bK_num (by omega) (by omega),headD_drop hx,tail_drop',← List.append_assoc] at he
          rw [rK_num (by omega) (by omega),headD_drop hx,tail_drop'] at hr
          rw [hka] at hps
          simp (maxSteps:=3000000) only [go_sem,↓reduceIte,h8,h6,ps_len,List.length_map,ps_get,List.getElem?_map,hk,hlt',hpn,hps,bx,gx,ex]
          repeat (apply And.intro; focus (first | omega | (simp; done)))
          refine Cal.mk (rPut_v (tk:=.nil) (L:=[]) (size:=k) isB_nil (by simp) (by omega) (by omega)) ?_
          rintro r6 s6 ⟨q1,q2⟩ -
          rw [if_neg (by omega),List.nil_append] at q1
          have hR6:=hR.later q2.weak q2.lt
          have bx6:s6.box b=some C:=(hR6.weak.box b C put_box_same).1
          obtain ⟨tk6,rfl⟩:=q1.sl
          have hnum:numL (beL x k.toNat)=x % 256 ^ k.toNat:=numL_beL x xr.1 k.toNat
          simp (maxSteps:=3000000) only [go_sem,↓reduceIte,h6,bx6,gx,ex]
          repeat (apply And.intro; focus (first | omega | (simp; done)))
          refine Cal.mk (rNum_v (beL_isB _ _) (by rw [beL_len]; omega)) ?_
          rintro _ _ ⟨rfl,rfl⟩ -
          rw [hnum]
          have hp:0 < (256:Int) ^ k.toNat:=pow256_pos _
          by_cases c3:x < 256 ^ k.toNat
          · have em:x % 256 ^ k.toNat=x:=Int.emod_eq_of_lt xr.1 c3
            rw [decide_eq_true c3,Bool.true_and] at hr
            simp (maxSteps:=3000000) only [go_sem,↓reduceIte,em,bx6,gx]
            repeat (apply And.intro; focus (first | omega | (simp; done)))
            refine App.row hR6 (by rw [beL_len]; omega) ?_
            intro r7 s7 k7 _
            simp (maxSteps:=3000000) only [go_sem,↓reduceIte,h8,h6,h7]
            repeat (apply And.intro; focus (first | omega | (simp; done)))
            exact ⟨⟨i + 1,n + 1,q,_,by omega,by simp,by simp,by first | exact h7 | simp,k7,he,hr,by omega,by simpa using hq,by simp [beL_len]; omega⟩,by omega⟩
          · have hlt2:=Int.emod_lt_of_pos x hp
            rw [decide_eq_false c3,Bool.false_and] at hr
            have hne:=decide_eq_true (show ¬ x % 256 ^ k.toNat=x by omega)
            simp (maxSteps:=3000000) only [go_sem,↓reduceIte,bx6,gx,hne]
            repeat (apply And.intro; focus (first | omega | (simp; done)))
            exact ⟨_,_,Wk.refl _,(weak_put hwf.weak hb).trans hR6.weak,.inl ⟨hr,rfl,rfl⟩⟩
        · have e2':isNum k=false:=by simp [isNum]; omega
          rw [e2'] at hn hpn
          by_cases c2:4 < k
          · have e1':isTxt k=true:=by simp [isTxt,c2]
            rw [e1'] at hq hpt
            simp only [↓reduceIte] at hq
            obtain ⟨t,ht⟩:=get_ex (L:=m.T) (i:=q) (by omega)
            have tB:=hm.tb t (List.mem_of_getElem? ht)
            have gt:=gT ht
            have hbl:byL (strOf t)=bs t:=byL_strOf tB
            have hbt:bytesOf (strOf t)=t:=bytesOf_strOf tB
            have hka:(k.natAbs:Int)=k:=by omega
            rw [hka] at hps
            rw [bK_txt c2,headD_drop ht,tail_drop',padT,List.append_assoc,← List.append_assoc,← List.append_assoc] at he
            rw [rK_txt c2,headD_drop ht,tail_drop'] at hr
            have etn:(k - (t.length:Int)).toNat=k.toNat - t.length:=by omega
            by_cases d1:k < (t.length:Int)
            · have hf:tOk k t=false:=by simp [tOk]; omega
              rw [hf,Bool.false_and] at hr
              simp (maxSteps:=3000000) only [go_sem,↓reduceIte,h8,h7,ps_len,List.length_map,ps_get,List.getElem?_map,hk,hlt',hpn,hpt,hps,bx,gt,strOf_size,decide_eq_true d1]
              repeat (apply And.intro; focus (first | omega | (simp; done)))
              exact ⟨_,_,Wk.refl _,hwk,.inl ⟨hr,rfl,rfl⟩⟩
            by_cases d2:t.length=0
            · have ht0:t=[]:=List.eq_nil_of_length_eq_zero d2
              have hf:tOk k t=true:=by rw [ht0]; simp [tOk,stripL]; omega
              rw [hf,Bool.true_and] at hr
              simp (maxSteps:=3000000) only [go_sem,↓reduceIte,h8,h7,ps_len,List.length_map,ps_get,List.getElem?_map,hk,hlt',hpn,hpt,hps,bx,gt,strOf_size,decide_eq_false d1,decide_eq_false (show ¬ (0:Int) < (t.length:Int) by omega),hbl]
              repeat (apply And.intro; focus (first | omega | (simp; done)))
              refine App.row hR (by omega) ?_
              intro r6 s6 k6 _
              simp (maxSteps:=3000000) only [go_sem,↓reduceIte,strOf_size,etn]
              repeat (apply And.intro; focus (first | omega | (simp; done)))
              rw [bs_rep]
              refine App.row k6 (by simp; omega) ?_
              intro r7 s7 k7 _
              simp (maxSteps:=3000000) only [go_sem,↓reduceIte,h8,h6]
              repeat (apply And.intro; focus (first | omega | (simp; done)))
              exact ⟨⟨i + 1,n,q + 1,_,by omega,by simp,by first | exact h6 | simp,by simp,k7,he,hr,by simpa using hn,by omega,by simp; omega⟩,by omega⟩
            · obtain ⟨z,hz⟩:=get_ex (L:=t) (i:=t.length - 1) (by omega)
              have eln:((t.length:Int) - 1).toNat=t.length - 1:=by omega
              have hsl:=strip_last (t:=t) (by omega)
              rw [hz] at hsl
              by_cases d3:z=0
              · have hf:tOk k t=false:=by
                  have:¬ stripL t=t:=fun h=>(hsl.1 h) (by rw [d3])
                  simp [tOk,this]
                rw [hf,Bool.false_and] at hr
                simp (maxSteps:=3000000) only [go_sem,↓reduceIte,h8,h7,ps_len,List.length_map,ps_get,List.getElem?_map,hk,hlt',hpn,hpt,hps,bx,gt,strOf_size,decide_eq_false d1,decide_eq_true (show (0:Int) < (t.length:Int) by omega),hbt,eln,hz,decide_eq_true d3]
                repeat (apply And.intro; focus (first | omega | (simp; done)))
                exact ⟨_,_,Wk.refl _,hwk,.inl ⟨hr,rfl,rfl⟩⟩
              · have hf:tOk k t=true:=by
                  have:stripL t=t:=hsl.2 (fun h=>d3 (by cases h; rfl))
                  simp [tOk,this]; omega
                rw [hf,Bool.true_and] at hr
                simp (maxSteps:=3000000) only [go_sem,↓reduceIte,h8,h7,ps_len,List.length_map,ps_get,List.getElem?_map,hk,hlt',hpn,hpt,hps,bx,gt,strOf_size,decide_eq_false d1,decide_eq_true (show (0:Int) < (t.length:Int) by omega),hbt,eln,hz,decide_eq_false d3,hbl]
                repeat (apply And.intro; focus (first | omega | (simp; done)))
                refine App.row hR (by omega) ?_
                intro r6 s6 k6 _
                simp (maxSteps:=3000000) only [go_sem,↓reduceIte,strOf_size,etn]
                repeat (apply And.intro; focus (first | omega | (simp; done)))
                rw [bs_rep]
                refine App.row k6 (by simp; omega) ?_
                intro r7 s7 k7 _
                simp (maxSteps:=3000000) only [go_sem,↓reduceIte,h8,h6]
                repeat (apply And.intro; focus (first | omega | (simp; done)))
                exact ⟨⟨i + 1,n,q + 1,_,by omega,by simp,by first | exact h6 | simp,by simp,k7,he,hr,by simpa using hn,by omega,by simp; omega⟩,by omega⟩
          · have e1':isTxt k=false:=by simp [isTxt]; omega
            rw [e1'] at hq hpt
            have c3:k < 0:=by omega
            rw [bK_neg c3,← List.append_assoc] at he
            rw [rK_neg c3] at hr
            have hbl:byL (strOf [])=bs []:=byL_strOf isB_nil
            have ekn:k.natAbs=(-k).toNat:=by omega
            simp (maxSteps:=3000000) only [go_sem,↓reduceIte,h8,ps_len,List.length_map,ps_get,List.getElem?_map,hk,hlt',hpn,hpt,hps,strOf_nil,strOf_size,hbl,nc0,decide_eq_false (show ¬ (k.natAbs:Int) < 0 by omega)]
            repeat (apply And.intro; focus (first | omega | (simp; done)))
            refine App.row hR (by simp; omega) ?_
            intro r6 s6 k6 _
            rw [List.append_nil] at k6
            simp (maxSteps:=3000000) only [go_sem,↓reduceIte,strOf_size]
            repeat (apply And.intro; focus (first | omega | (simp; done)))
            rw [bs_rep]
            refine App.row k6 (by simp; omega) ?_
            intro r7 s7 k7 _
            simp (maxSteps:=3000000) only [go_sem,↓reduceIte,h8,h6,h7]
            repeat (apply And.intro; focus (first | omega | (simp; done)))
            exact ⟨⟨i + 1,n,q,_,by omega,by simp,by first | exact h6 | simp,by first | exact h7 | simp,k7,by rw [← he]; simp [ekn]; omega,hr,by simpa using hn,by simpa using hq,by simp; omega⟩,by omega⟩
      · obtain rfl:i=K.length:=by omega
        rw [List.drop_of_length_le (Nat.le_refl _)] at he hr hn hq
        rw [bK_nil,List.append_nil] at he
        subst he
        simp only [List.countP_nil,Nat.add_zero] at hn hq
        obtain ⟨c',cap',hR4,hc1,hc2⟩:=hR.is
        simp (maxSteps:=3000000) only [go_sem,↓reduceIte,h8,ps_len,List.length_map]
        refine run_loop [2,3,6,126,127,128,129,130,131,132,133,134] (fun B s'=>s'=s∧∃ n:Nat,n≤9∧B 6=.sc (.int .i64 n)∧X=rK [] (m.N.drop n) (m.T.drop q)) (fun B _=>9 - vnat (B 6)) rfl ?_ ?_
        · simp (maxSteps:=3000000) only [go_sem,↓reduceIte,h6]
          exact ⟨n,hn,rfl,hr⟩
        · rintro B2 s2 ⟨rfl,n,hn,h6,hX⟩
          have hX2:X=((m.N.drop n).all (fun x=>decide (x=0)) && (m.T.drop q).all (fun x=>decide (x=[]))):=hX
          by_cases hlt:n < 9
          · obtain ⟨x,hx⟩:=get_ex (L:=m.N) (i:=n) (by omega)
            have gx:=gN hx
            rw [drop_cons hx,List.all_cons] at hX2
            by_cases c0:x=0
            · simp (maxSteps:=3000000) only [go_sem,↓reduceIte,h6,gx,bx,decide_eq_true (show (n:Int) < 9 by omega),decide_eq_false (show ¬ ¬ x=0 from fun h=>h c0)]
              repeat (apply And.intro; focus (first | omega | (simp; done)))
              exact ⟨⟨n + 1,by omega,by simp,by rw [hX2,decide_eq_true c0,Bool.true_and]; rfl⟩,by omega⟩
            · simp (maxSteps:=3000000) only [go_sem,↓reduceIte,h6,gx,bx,decide_eq_true (show (n:Int) < 9 by omega),decide_eq_true c0]
              repeat (apply And.intro; focus (first | omega | (simp; done)))
              exact ⟨_,_,Wk.refl _,hwk,.inl ⟨by rw [hX2,decide_eq_false c0]; rfl,rfl,rfl⟩⟩
          · obtain rfl:n=9:=by omega
            rw [List.drop_of_length_le (by omega),List.all_nil,Bool.true_and] at hX2
            clear hX hr
            simp (maxSteps:=3000000) only [go_sem,↓reduceIte,h6,nc9']
            refine run_loop [2,3,7,135,136,137,138,139,140,141,142,143] (fun B s'=>s'=s2∧∃ q:Nat,q≤3∧B 7=.sc (.int .i64 q)∧X=(m.T.drop q).all (fun x=>decide (x=[]))) (fun B _=>3 - vnat (B 7)) rfl ?_ ?_
            · simp (maxSteps:=3000000) only [go_sem,↓reduceIte,h7]
              exact ⟨q,hq,rfl,hX2⟩
            · rintro B3 s3 ⟨rfl,q,hq,h7,hX3⟩
              by_cases hlt:q < 3
              · obtain ⟨t,ht⟩:=get_ex (L:=m.T) (i:=q) (by omega)
                have gt:=gT ht
                have hinj:=strOf_inj (hm.tb t (List.mem_of_getElem? ht)) isB_nil
                rw [drop_cons ht,List.all_cons] at hX3
                by_cases c0:t=[]
                · simp (maxSteps:=3000000) only [go_sem,↓reduceIte,h7,gt,bx,strOf_nil,decide_eq_true (show (q:Int) < 3 by omega),decide_eq_false (show ¬ ¬ strOf t=strOf [] from fun h=>h (hinj.2 c0))]
                  repeat (apply And.intro; focus (first | omega | (simp; done)))
                  exact ⟨⟨q + 1,by omega,by simp,by rw [hX3,decide_eq_true c0,Bool.true_and]⟩,by omega⟩
                · simp (maxSteps:=3000000) only [go_sem,↓reduceIte,h7,gt,bx,strOf_nil,decide_eq_true (show (q:Int) < 3 by omega),decide_eq_true (show ¬ strOf t=strOf [] from fun h=>c0 (hinj.1 h))]
                  repeat (apply And.intro; focus (first | omega | (simp; done)))
                  exact ⟨_,_,Wk.refl _,hwk,.inl ⟨by rw [hX3,decide_eq_false c0]; rfl,rfl,rfl⟩⟩
              · obtain rfl:q=3:=by omega
                rw [List.drop_of_length_le (by omega),List.all_nil] at hX3
                simp (maxSteps:=3000000) only [go_sem,↓reduceIte,h7,nc3']
                exact ⟨_,_,Wk.refl _,hR.lt.weak,.inr ⟨hX3,_,hdone hR,rfl⟩⟩
  refine key.tell fun r s h=>?_
  rcases h with ⟨h1,rfl,rfl⟩ | ⟨h1,row,h2,rfl⟩
  · rw [h1]
    refine ⟨_,_,?_,rfl,rfl⟩
    intro w0 G w u hw hr
    exact ⟨G,.refl G,hw,Wk.tup2' Wk.no G u hr⟩
  · rw [h1]
    exact ⟨_,_,h2.tell.tup2,rfl,rfl⟩
end
end
section
open Go
def zM:MB:=⟨0,List.replicate 9 0,[[],[],[]]⟩
theorem mono_cells (m:MB):mono m.cells=True:=mono_sc
def mkM (t:Int) (a:List Int) (b:List (List Int)):MB:=⟨t,a ++ List.replicate (9 - a.length) 0,b ++ List.replicate (3 - b.length) []⟩
def parseM (L:List Int):MB × Int :=
  if L.length < 12 then (zM,10) else if numL ((L.drop 4).take 4) ≠ 439041101 then (zM,140) else
  if numL ((L.drop 2).take 2) ≠ 1 ∨ sizeT (numL ((L.drop 8).take 2))=0 then (zM,141) else
  if numL (L.take 2) ≠ sizeT (numL ((L.drop 8).take 2)) ∨ (L.length:Int) ≠ sizeT (numL ((L.drop 8).take 2)) then (zM,12) else
  if numL ((L.drop 10).take 2) ≠ 0 then (zM,11) else
  match pK (layoutL (numL ((L.drop 8).take 2))) (L.drop 12) with
  | none=>(zM,11)
  | some (a,b)=>(mkM (numL ((L.drop 8).take 2)) a b,0)
theorem splice_one {C:List V} {i:Nat} {v:V} (h:i < C.length):splice C i [v]=C.set i v:=by
  unfold splice
  rw [List.set_eq_take_append_cons_drop,if_pos h]
  simp
theorem MB.setN {t:Int} {N:List Int} {T:List (List Int)} {n:Nat} (h:n < N.length) (x:Int):splice (MB.mk t N T).cells (1 + n) [.sc (.int .u32 x)]=(MB.mk t (N.set n x) T).cells:=by
  rw [splice_one (by simp [MB.cells,us_len]; omega),show 1 + n=n + 1 by omega]
  simp only [MB.cells,List.set_cons_succ]
  rw [List.set_append_left _ _ (by rw [us_len]; exact h)]
  simp [us,List.map_set]
theorem MB.setT {t:Int} {N:List Int} {T:List (List Int)} {q:Nat} (h9:N.length=9) (h:q < T.length) (x:List Int):splice (MB.mk t N T).cells (10 + q) [.sc (.string (strOf x))]=(MB.mk t N (T.set q x)).cells:=by
  rw [splice_one (by simp [MB.cells,us_len,ss_len]; omega),show 10 + q=(9 + q) + 1 by omega]
  simp only [MB.cells,List.set_cons_succ]
  rw [List.set_append_right _ _ (by rw [us_len]; omega),us_len,h9,show 9 + q - 9=q by omega]
  simp [ss,List.map_set]
theorem set_pad {α:Type} (A:List α) (z x:α) (n:Nat) (h:A.length < n):(A ++ List.replicate (n - A.length) z).set A.length x=(A ++ [x]) ++ List.replicate (n - (A ++ [x]).length) z:=by
  rw [List.set_append_right _ _ (Nat.le_refl _),Nat.sub_self,show n - A.length=(n - (A ++ [x]).length) + 1 by simp; omega,List.replicate_succ,List.set_cons_zero]
  simp
theorem mkM_setN {t:Int} {A:List Int} {B:List (List Int)} (h:A.length < 9) (x:Int):splice (mkM t A B).cells (1 + A.length) [.sc (.int .u32 x)]=(mkM t (A ++ [x]) B).cells:=by
  unfold mkM
  rw [MB.setN (by simp; omega),set_pad _ _ _ _ h]
theorem mkM_setT {t:Int} {A:List Int} {B:List (List Int)} (h9:A.length≤9) (h:B.length < 3) (x:List Int):splice (mkM t A B).cells (10 + B.length) [.sc (.string (strOf x))]=(mkM t A (B ++ [x])).cells:=by
  unfold mkM
  rw [MB.setT (by simp; omega) (by simp; omega),set_pad _ _ _ _ h]
theorem mkM_n {t:Int} {A:List Int} {B:List (List Int)} (h9:A.length≤9):(mkM t A B).N.length=9:=by simp [mkM]; omega
theorem mkM_t {t:Int} {A:List Int} {B:List (List Int)} (h3:B.length≤3):(mkM t A B).T.length=3:=by simp [mkM]; omega
section
variable {k:Int} {K:List Int} {M A:List Int} {B:List (List Int)}
theorem pS_num (h:0≤k) (h4:k≤4):(pK (k :: K) M).map (fun p=>(A ++ p.1,B ++ p.2))=(pK K (M.drop k.toNat)).map fun p=>((A ++ [numL (M.take k.toNat)]) ++ p.1,B ++ p.2):=by
  rw [pK_num h h4,Option.map_map]
  congr 1
  funext p
  simp
theorem pS_txt (h:4 < k):(pK (k :: K) M).map (fun p=>(A ++ p.1,B ++ p.2))=(pK K (M.drop k.toNat)).map fun p=>(A ++ p.1,(B ++ [stripL (M.take k.toNat)]) ++ p.2):=by
  rw [pK_txt h,Option.map_map]
  congr 1
  funext p
  simp
end
theorem rdNum_in {L:List Int} {at_:Nat} {k:Int} (h1:1≤k) (h8:k≤8) (h:at_ + k.toNat≤L.length):rdNum L at_ false k=(numL ((L.drop at_).take k.toNat),at_ + k.toNat,false):=by
  unfold rdNum
  rw [if_neg]
  simp only [Bool.false_eq_true,false_or,not_or]
  omega
theorem rdTake_in {L:List Int} {at_:Nat} {k:Int} (h0:0≤k) (h:at_ + k.toNat≤L.length):rdTake L at_ false k=((L.drop at_).take k.toNat,at_ + k.toNat,false):=by
  unfold rdTake
  rw [if_neg]
  simp only [Bool.false_eq_true,false_or,not_or]
  omega
structure P3 (st s:St) (b c d:Nat) (X Y Z:List V):Prop where
  weak:st.weak s
  lt:s.Lt
  hb:st.sz≤b
  bc:b < c
  cd:c < d
  x:s.box b=some X
  y:s.box c=some Y
  z:s.box d=some Z
theorem P3.py {st s:St} {b c d:Nat} {X Y Z Y':List V} (h:P3 st s b c d X Y Z):P3 st (s.put c Y') b c d X Y' Z :=
  ⟨weak_put h.weak (by have:=h.hb; have:=h.bc; omega),h.lt.put,h.hb,h.bc,h.cd,by rw [put_box_ne (Nat.ne_of_lt h.bc)]; exact h.x,put_box_same,by rw [put_box_ne (Nat.ne_of_gt h.cd)]; exact h.z⟩
theorem P3.pz {st s:St} {b c d:Nat} {X Y Z Z':List V} (h:P3 st s b c d X Y Z):P3 st (s.put d Z') b c d X Y Z' :=
  ⟨weak_put h.weak (by have:=h.hb; have:=h.bc; have:=h.cd; omega),h.lt.put,h.hb,h.bc,h.cd,by rw [put_box_ne (by have:=h.bc; have:=h.cd; omega)]; exact h.x,by rw [put_box_ne (Nat.ne_of_lt h.cd)]; exact h.y,put_box_same⟩
def zCells:List V:=[.sc (.int .i64 0),.sc (.int .u32 0),.sc (.int .u32 0),.sc (.int .u32 0),.sc (.int .u32 0),.sc (.int .u32 0),.sc (.int .u32 0),.sc (.int .u32 0),.sc (.int .u32 0),.sc (.int .u32 0),.sc (.string ⟨#[]⟩),.sc (.string ⟨#[]⟩),.sc (.string ⟨#[]⟩)]
section
variable {tk:Tk} {st:St} {L:List Int}
theorem parse_v (hB:IsB L) (hL:L.length≤1000000):VCalls Tryz.prog 188 [.sl tk (bs L)] st fun r st'=>r=.tup [(parseM L).1.v,.sc (.int .i64 (parseM L).2)]∧st=st':=by
  refine vcalls_enter vc188 (Nat.le_of_ble_eq_true rfl) fun hwf hok=>?_
  show Run _ Vc188.body (.fin (finQ Vc188.res _)) _ _
  unfold Vc188 zf zg zl zm zn zo
  by_cases h12:L.length < 12
  · have e:parseM L=(zM,10):=if_pos h12
    rw [e]
    simp (maxSteps:=3000000) only [go_sem,↓reduceIte,bs_len]
    intro b hb
    simp (maxSteps:=3000000) only [go_sem,↓reduceIte,decide_eq_true (show (L.length:Int) < 12 by omega)]
    exact ⟨_,_,Wk.refl _,weak_put hwf.weak hb,rfl,rfl⟩
  have e0:rdNum L 0 false 2=(numL (L.take 2),2,false):=by rw [rdNum_in (by omega) (by omega) (by simp; omega)]; rfl
  have e2:rdNum L 2 false 2=(numL ((L.drop 2).take 2),4,false):=by rw [rdNum_in (by omega) (by omega) (by simp; omega)]; rfl
  have e4:rdNum L 4 false 4=(numL ((L.drop 4).take 4),8,false):=by rw [rdNum_in (by omega) (by omega) (by simp; omega)]; rfl
  have e8:rdNum L 8 false 2=(numL ((L.drop 8).take 2),10,false):=by rw [rdNum_in (by omega) (by omega) (by simp; omega)]; rfl
  have e10:rdNum L 10 false 2=(numL ((L.drop 10).take 2),12,false):=by rw [rdNum_in (by omega) (by omega) (by simp; omega)]; rfl
  have r2:∀ n,0≤numL ((L.drop n).take 2)∧numL ((L.drop n).take 2) < 65536:=fun n=>by
    have h:=numL_range _ ((L.drop n).take 2) rfl ((hB.drop _).take _)
    have hl:((L.drop n).take 2).length≤2:=by simp; omega
    have hp:(256:Int) ^ ((L.drop n).take 2).length≤256 ^ 2:=by
      have:∀ k:Nat,k≤2→(256:Int) ^ k≤256 ^ 2:=by decide
      exact this _ hl
    rw [show (256:Int) ^ 2=65536 from rfl] at hp
    omega
  have r0:=r2 0
  rw [List.drop_zero] at r0
  have r22:=r2 2
  have r28:=r2 8
  have r210:=r2 10
  have r4:0≤numL ((L.drop 4).take 4)∧numL ((L.drop 4).take 4) < 4294967296:=by
    have h:=numL_range _ ((L.drop 4).take 4) rfl ((hB.drop _).take _)
    have hl:((L.drop 4).take 4).length=4:=by simp; omega
    rw [hl] at h
    exact h
  have hp:parseM L=(if numL ((L.drop 4).take 4) ≠ 439041101 then (zM,140) else
    if numL ((L.drop 2).take 2) ≠ 1 ∨ sizeT (numL ((L.drop 8).take 2))=0 then (zM,141) else
    if numL (L.take 2) ≠ sizeT (numL ((L.drop 8).take 2)) ∨ (L.length:Int) ≠ sizeT (numL ((L.drop 8).take 2)) then (zM,12) else
    if numL ((L.drop 10).take 2) ≠ 0 then (zM,11) else
    match pK (layoutL (numL ((L.drop 8).take 2))) (L.drop 12) with
    | none=>(zM,11)
    | some (a,b)=>(mkM (numL ((L.drop 8).take 2)) a b,0):MB × Int):=if_neg h12
  rw [hp]
  clear hp r2
  have hS:=fun st:St=>msgSize_v (st:=st) (numL ((L.drop 8).take 2))
  have hLy:=fun st:St=>layout_v (st:=st) (numL ((L.drop 8).take 2))
  have hK4:=layout_kOk (numL ((L.drop 8).take 2))
  have hkl:=layout_len (numL ((L.drop 8).take 2))
  have hcn:=layout_cnt (numL ((L.drop 8).take 2))
  have hct:=layout_txt (numL ((L.drop 8).take 2))
  have hsz:=sizeT_le (numL ((L.drop 8).take 2))
  have hsd:sizeT (numL ((L.drop 8).take 2)) ≠ 0→sizeT (numL ((L.drop 8).take 2))=12 + (sumN (layoutL (numL ((L.drop 8).take 2))):Int):=fun h=>by
    have:=sizeT_pos (t:=numL ((L.drop 8).take 2))
    exact if_neg (this.1 (by omega))
  generalize numL ((L.drop 8).take 2)=t at *
  generalize numL ((L.drop 10).take 2)=z0 at *
  generalize numL ((L.drop 4).take 4)=ck at *
  generalize numL ((L.drop 2).take 2)=kd at *
  generalize numL (L.take 2)=sz0 at *
  generalize sizeT t=Z at *
  generalize layoutL t=K at *
  simp (maxSteps:=3000000) only [go_sem,↓reduceIte,bs_len]
  intro b hb
  simp (maxSteps:=3000000) only [go_sem,↓reduceIte,decide_eq_false (show ¬ (L.length:Int) < 12 by omega)]
  refine Cal.mk New_v ?_
  rintro _ _ ⟨c,hc,rfl,rfl⟩ -
  obtain ⟨hc1,hbc⟩:st.sz≤c∧b < c:=by simp only [put_sz] at hc; omega
  clear hc
  simp (maxSteps:=3000000) only [go_sem,↓reduceIte]
  refine Cal.mk (U16_v (L:=L) (at_:=0) (bad:=false) put_box_same (by omega) hB) ?_
  rintro _ _ ⟨rfl,rfl⟩ -
  rw [e0]
  simp (maxSteps:=3000000) only [go_sem,↓reduceIte]
  repeat (apply And.intro; focus (first | omega | (simp; done)))
  refine Cal.mk (U16_v (L:=L) (at_:=2) (bad:=false) put_box_same (by omega) hB) ?_
  rintro _ _ ⟨rfl,rfl⟩ -
  rw [e2]
  simp (maxSteps:=3000000) only [go_sem,↓reduceIte]
  refine Cal.mk (U32_v (L:=L) (at_:=4) (bad:=false) put_box_same (by omega) hB) ?_
  rintro _ _ ⟨rfl,rfl⟩ -
  rw [e4]
  simp (maxSteps:=3000000) only [go_sem,↓reduceIte]
  refine Cal.mk (U16_v (L:=L) (at_:=8) (bad:=false) put_box_same (by omega) hB) ?_
  rintro _ _ ⟨rfl,rfl⟩ -
  rw [e8]
  simp (maxSteps:=3000000) only [go_sem,↓reduceIte]
  repeat (apply And.intro; focus (first | omega | (simp; done)))
  refine Cal.mk (U16_v (L:=L) (at_:=10) (bad:=false) put_box_same (by omega) hB) ?_
  rintro _ _ ⟨rfl,rfl⟩ -
  rw [e10]
  have hw3:∀ cs ds:List V,st.weak (((st.put b cs).put c ds).put b cs):=fun cs ds=>weak_put (weak_put (weak_put hwf.weak hb) hc1) hb
  by_cases c1:ck=439041101
  case neg =>
    rw [if_pos c1]
    simp (maxSteps:=3000000) only [go_sem,↓reduceIte,decide_eq_true c1,put_box_ne (Nat.ne_of_lt hbc)]
    repeat (apply And.intro; focus (first | omega | (simp; done)))
    exact ⟨_,_,Wk.refl _,hw3 _ _,rfl,rfl⟩
  rw [if_neg (fun h=>h c1)]
  have c1':=decide_eq_false (show ¬ ¬ ck=439041101 from fun h=>h c1)
  by_cases c2:kd=1
  case neg =>
    rw [if_pos (Or.inl c2)]
    simp (maxSteps:=3000000) only [go_sem,↓reduceIte,c1',decide_eq_true c2,put_box_ne (Nat.ne_of_lt hbc)]
    repeat (apply And.intro; focus (first | omega | (simp; done)))
    exact ⟨_,_,Wk.refl _,hw3 _ _,rfl,rfl⟩
  have c2':=decide_eq_false (show ¬ ¬ kd=1 from fun h=>h c2)
  simp (maxSteps:=3000000) only [go_sem,↓reduceIte,c1',c2']
  repeat (apply And.intro; focus (first | omega | (simp; done)))
  refine Cal.mk (hS _) ?_
  rintro _ _ ⟨rfl,rfl⟩ -
  by_cases c3:Z=0
  · rw [if_pos (Or.inr c3)]
    simp (maxSteps:=3000000) only [go_sem,↓reduceIte,decide_eq_true c3,put_box_ne (Nat.ne_of_lt hbc)]
    exact ⟨_,_,Wk.refl _,hw3 _ _,rfl,rfl⟩
  rw [if_neg (show ¬ (kd ≠ 1 ∨ Z=0) by omega)]
  simp (maxSteps:=3000000) only [go_sem,↓reduceIte,decide_eq_false c3]
  refine Cal.mk (hS _) ?_
  rintro _ _ ⟨rfl,rfl⟩ -
  by_cases c4:sz0=Z
  case neg =>
    rw [if_pos (Or.inl c4)]
    simp (maxSteps:=3000000) only [go_sem,↓reduceIte,decide_eq_true c4,put_box_ne (Nat.ne_of_lt hbc)]
    exact ⟨_,_,Wk.refl _,hw3 _ _,rfl,rfl⟩
  subst c4
  have c4':=decide_eq_false (show ¬ ¬ sz0=sz0 from fun h=>h rfl)
  by_cases c5:(L.length:Int)=sz0
  case neg =>
    rw [if_pos (Or.inr c5)]
    simp (maxSteps:=3000000) only [go_sem,↓reduceIte,decide_eq_true c5,bs_len,put_box_ne (Nat.ne_of_lt hbc)]
    exact ⟨_,_,Wk.refl _,hw3 _ _,rfl,rfl⟩
  rw [if_neg (show ¬ (sz0 ≠ sz0 ∨ (L.length:Int) ≠ sz0) by omega)]
  have c5':=decide_eq_false (show ¬ ¬ (L.length:Int)=sz0 from fun h=>h c5)
  by_cases c6:z0=0
  case neg =>
    rw [if_pos c6]
    simp (maxSteps:=3000000) only [go_sem,↓reduceIte,c5',decide_eq_true c6,bs_len,put_box_ne (Nat.ne_of_lt hbc)]
    exact ⟨_,_,Wk.refl _,hw3 _ _,rfl,rfl⟩
  rw [if_neg (fun h=>h c6)]
  have c6':=decide_eq_false (show ¬ ¬ z0=0 from fun h=>h c6)
  have hsum:=hsd c3
  simp (maxSteps:=3000000) only [go_sem,↓reduceIte,c5',c6',bs_len]
  intro d hd
  obtain ⟨hd1,hcd⟩:st.sz≤d∧c < d:=by first | omega | (simp only [put_sz] at hd; omega)
  clear hd
  refine Cal.mk (hLy _) ?_
  rintro _ _ ⟨rfl,rfl⟩ -
  simp (maxSteps:=3000000) only [go_sem,↓reduceIte,is_len]
  obtain ⟨X,hX⟩:∃ X,pK K (L.drop 12)=X:=⟨_,rfl⟩
  rw [hX]
  refine run_loop [3,11,12,14,67,68,69,70,71,72,73,74,75,76,77,78,79,80,81,82,83,84,85,86,87,88,89,90,91,92,93,94,95,96,97,98,99,100,101,102] (fun B s=>∃ (i at_:Nat) (A:List Int) (T:List (List Int)),i≤K.length∧B 67=.sc (.int .i64 i)∧B 11=.sc (.int .i64 A.length)∧B 12=.sc (.int .i64 T.length)∧P3 st s b c d zCells (rdr tk L at_ false) (mkM t A T).cells ∧
    X=(pK (K.drop i) (L.drop at_)).map (fun p=>(A ++ p.1,T ++ p.2))∧A.length + (K.drop i).countP isNum≤9∧T.length + (K.drop i).countP isTxt≤3∧at_ + sumN (K.drop i)=L.length) (fun B _=>K.length - vnat (B 67)) rfl ?_ ?_
  · simp (maxSteps:=3000000) only [go_sem,↓reduceIte]
    refine ⟨0,12,[],[],by omega,by simp,by simp,by simp,?_,by rw [List.drop_zero,hX]; cases X <;> rfl,by simpa using hcn,by simpa using hct,by simp; omega⟩
    exact ⟨weak_put (weak_put (weak_put hwf.weak hb) hc1) hd1,hwf.lt.put.put.put,hb,hbc,hcd,by rw [put_box_ne (by omega),put_box_ne (by omega)]; exact put_box_same,by rw [put_box_ne (by omega)]; exact put_box_same,put_box_same⟩
  · rintro B s ⟨i,at_,A,T,hi,h67,h11,h12',hP,he,hn,hq,hat⟩
    clear hX
    by_cases hlt:i < K.length
    · obtain ⟨k,hk⟩:=get_ex hlt
      have hko:=hK4 k (List.mem_of_getElem? hk)
      unfold kOkM at hko
      have hlt':=decide_eq_true (show (i:Int) < (K.length:Int) by omega)
      have hsd2:K.drop i=k :: K.drop (i + 1):=drop_cons hk
      rw [hsd2,List.countP_cons] at hn hq
      rw [hsd2] at he hat
      simp only [sumN] at hat
      by_cases d1:k < 0
      · have e1':isTxt k=false:=by simp [isTxt]; omega
        have e2':isNum k=false:=by simp [isNum]; omega
        rw [e2'] at hn; rw [e1'] at hq
        have etk:=rdTake_in (L:=L) (at_:=at_) (k:=-k) (by omega) (by omega)
        simp (maxSteps:=3000000) only [go_sem,↓reduceIte,h67,is_get,hk,hlt',decide_eq_true d1,Int.zero_sub]
        repeat (apply And.intro; focus (first | omega | (simp; done)))
        refine Cal.mk (Take_v hP.y (by omega) (by omega) (-k)) ?_
        rintro _ _ ⟨rfl,rfl⟩ -
        rw [etk]
        simp (maxSteps:=3000000) only [go_sem,↓reduceIte]
        refine Cal.mk (noughts_v (by simp; omega)) ?_
        rintro _ _ ⟨rfl,rfl⟩ -
        have hPy:=hP.py (Y':=rdr tk L (at_ + (-k).toNat) false)
        rw [pK_neg d1] at he
        cases hz:((L.drop at_).take (-k).toNat).all (fun x=>decide (x=0))
        · rw [hz] at he
          simp only [Bool.false_eq_true,↓reduceIte,Option.map_none] at he
          have hx3:=hPy.x
          have hw5:st.weak ((s.put c (rdr tk L (at_ + (-k).toNat) false)).put b zCells):=weak_put hPy.weak hb
          have hz13:zCells.length=13:=rfl
          have htk:zCells.take 13=zCells:=rfl
          have hdr:zCells.drop 13=[]:=rfl
          simp only [zCells] at hx3 hw5
          simp (maxSteps:=3000000) only [go_sem,↓reduceIte,hx3]
          exact ⟨_,_,Wk.refl _,hw5,by rw [he]; rfl,rfl⟩
        · rw [hz] at he
          simp only [↓reduceIte] at he
          simp (maxSteps:=3000000) only [go_sem,↓reduceIte,h67,h11,h12']
          repeat (apply And.intro; focus (first | omega | (simp; done)))
          exact ⟨⟨i + 1,_,A,T,by omega,by simp,by first | exact h11 | simp,by first | exact h12' | simp,hPy,by rw [he,List.drop_drop],by simpa using hn,by simpa using hq,by omega⟩,by omega⟩
      have d1':=decide_eq_false d1
      by_cases d2:4 < k
      · have e1':isTxt k=true:=by simp [isTxt,d2]
        have e2':isNum k=false:=by simp [isNum]; omega
        rw [e2'] at hn; rw [e1'] at hq
        simp only [↓reduceIte] at hq
        have etk:=rdTake_in (L:=L) (at_:=at_) (k:=k) (by omega) (by omega)
        rw [pS_txt d2] at he
        simp (maxSteps:=3000000) only [go_sem,↓reduceIte,h67,h12',is_get,hk,hlt',d1',decide_eq_true d2]
        repeat (apply And.intro; focus (first | omega | (simp; done)))
        refine Cal.mk (Take_v hP.y (by omega) (by omega) k) ?_
        rintro _ _ ⟨rfl,rfl⟩ -
        rw [etk]
        have hPy:=hP.py (Y':=rdr tk L (at_ + k.toNat) false)
        simp (maxSteps:=3000000) only [go_sem,↓reduceIte]
        refine Cal.mk (text_v (by simp; omega)) ?_
        rintro _ _ ⟨rfl,rfl⟩ -
        have hbz:=hPy.z
        have hD13:(mkM t A T).cells.length=13:=MB.len (mkM_n (by omega)) (mkM_t (by omega))
        have hset:=mkM_setT (t:=t) (A:=A) (B:=T) (by omega) (by omega) (stripL ((L.drop at_).take k.toNat))
        simp (maxSteps:=3000000) only [go_sem,↓reduceIte,h67,h11,h12',hbz,hD13,mono_cells]
        repeat (apply And.intro; focus (first | omega | (simp; done)))
        exact ⟨⟨i + 1,_,A,T ++ [stripL ((L.drop at_).take k.toNat)],by omega,by simp,by first | exact h11 | simp,by simp,by rw [← hset]; exact hPy.pz,by rw [he,List.drop_drop],by simpa using hn,by simp; omega,by omega⟩,by omega⟩
      · have e1':isTxt k=false:=by simp [isTxt]; omega
        have e2':isNum k=true:=by simp [isNum]; omega
        rw [e2'] at hn; rw [e1'] at hq
        simp only [↓reduceIte] at hn
        rw [pS_num (by omega) (by omega)] at he
        have enm:=rdNum_in (L:=L) (at_:=at_) (k:=k) (by omega) (by omega) (by omega)
        have hnr:0≤numL ((L.drop at_).take k.toNat)∧numL ((L.drop at_).take k.toNat) < 4294967296:=by
          have h:=numL_range _ ((L.drop at_).take k.toNat) rfl ((hB.drop _).take _)
          have hl:((L.drop at_).take k.toNat).length=k.toNat:=by simp; omega
          rw [hl] at h
          refine ⟨h.1,Int.lt_of_lt_of_le h.2 ?_⟩
          have:k.toNat=1 ∨ k.toNat=2 ∨ k.toNat=4:=by omega
          rcases this with e | e | e <;> rw [e] <;> decide
        have em:numL ((L.drop at_).take k.toNat) % 4294967296=numL ((L.drop at_).take k.toNat):=by omega
        simp (maxSteps:=3000000) only [go_sem,↓reduceIte,h67,h11,is_get,hk,hlt',d1',decide_eq_false d2]
        repeat (apply And.intro; focus (first | omega | (simp; done)))
        refine Cal.mk (Num_v hP.y (by omega) hB k) ?_
        rintro _ _ ⟨rfl,rfl⟩ -
        rw [enm]
        have hPy:=hP.py (Y':=rdr tk L (at_ + k.toNat) false)
        have hbz:=hPy.z
        have hD13:(mkM t A T).cells.length=13:=MB.len (mkM_n (by omega)) (mkM_t (by omega))
        have hset:=mkM_setN (t:=t) (A:=A) (B:=T) (by omega) (numL ((L.drop at_).take k.toNat))
        simp (maxSteps:=3000000) only [go_sem,↓reduceIte,h67,h11,h12',em,hbz,hD13,mono_cells]
        repeat (apply And.intro; focus (first | omega | (simp; done)))
        exact ⟨⟨i + 1,_,A ++ [numL ((L.drop at_).take k.toNat)],T,by omega,by simp,by simp,by first | exact h12' | simp,by rw [← hset]; exact hPy.pz,by rw [he,List.drop_drop],by simp; omega,by simpa using hq,by omega⟩,by omega⟩
    · obtain rfl:i=K.length:=by omega
      rw [List.drop_of_length_le (Nat.le_refl _)] at he hn hq hat
      simp only [pK,Option.map_some,List.append_nil] at he
      have hx3:=hP.x
      have hbz:=hP.z
      simp only [List.countP_nil,Nat.add_zero] at hn hq
      have hv:(mkM t A T).v=.agg (mkM t A T).cells:=rfl
      have hD13:(mkM t A T).cells.length=13:=MB.len (mkM_n (by omega)) (mkM_t (by omega))
      have htk:(mkM t A T).cells.take 13=(mkM t A T).cells:=List.take_of_length_le (by omega)
      have hdr:zCells.drop 13=[]:=rfl
      have hz13:zCells.length=13:=rfl
      have hw5:=fun cs=>weak_put (cs:=cs) hP.weak hb
      simp (maxSteps:=3000000) only [go_sem,↓reduceIte,h67,hx3,hbz,hD13,htk,hdr,hz13]
      refine ⟨?_,?_,?_,_,_,Wk.refl _,hw5 _,by rw [he]; rfl,rfl⟩
      · exact of_eq_true (mono_cells _)
      · exact mono_len (by rw [show zCells.length=13 from rfl]; omega)
      · exact of_eq_true (mono_cells _)
end
end
section
open Go
theorem stripN_all (L:List Int):stripN L L.length=0 ↔ L.all (fun x=>decide (x=0))=true:=by
  constructor
  · intro h
    rw [List.all_eq_true]
    intro x hx
    obtain ⟨i,hi,rfl⟩:=List.mem_iff_getElem.1 hx
    have:=stripN_zero L L.length i (by omega) hi
    rw [List.getElem?_eq_getElem hi] at this
    simpa using this
  · intro h
    rcases Nat.eq_zero_or_pos (stripN L L.length) with h0 | h0
    · exact h0
    · have h1:=stripN_idem L L.length
      have h2:=stripN_le L L.length
      obtain ⟨n,hn⟩:∃ n,stripN L L.length=n + 1:=⟨stripN L L.length - 1,by omega⟩
      rw [hn,stripN] at h1
      have hz:L[n]?=some 0:=by
        have hlt:n < L.length:=by omega
        rw [List.getElem?_eq_getElem hlt]
        have:=List.all_eq_true.1 h L[n] (List.getElem_mem hlt)
        simpa using this
      rw [if_pos hz] at h1
      have:=stripN_le L n
      omega
section
variable {tk:Tk} {st:St} {L:List Int}
set_option maxRecDepth 100000 in
set_option maxHeartbeats 4000000 in
theorem refParse_v (hB:IsB L) (hL:L.length≤1000000):VCalls Tryz.prog 16 [.sl tk (bs L)] st fun r st'=>r=.tup [(parseM L).1.v,.sc (.int .i64 (parseM L).2)]∧st=st':=by
  refine vcalls_enter vc16 (Nat.le_of_ble_eq_true rfl) fun hwf hok=>?_
  show Run _ Vc16.body (.fin (finQ Vc16.res _)) _ _
  unfold Vc16 zf zg zl zm zn zo
  simp (maxSteps:=3000000) only [go_sem,↓reduceIte,bs_len]
  intro b hb c hc
  obtain ⟨hc1,hbc⟩:st.sz≤c∧b < c:=by first | omega | (simp only [put_sz] at hc; omega)
  clear hc
  have hw3:∀ cs ds es:List V,st.weak (((st.put b cs).put c ds).put b es):=fun cs ds es=>weak_put (weak_put (weak_put hwf.weak hb) hc1) hb
  by_cases h12:L.length < 12
  · have e:parseM L=(zM,10):=if_pos h12
    rw [e]
    simp (maxSteps:=3000000) only [go_sem,↓reduceIte,decide_eq_true (show (L.length:Int) < 12 by omega),put_box_ne (Nat.ne_of_lt hbc)]
    exact ⟨_,_,Wk.refl _,hw3 _ _ _,rfl,rfl⟩
  have r2:∀ n,0≤numL ((L.drop n).take 2)∧numL ((L.drop n).take 2) < 65536:=fun n=>by
    have h:=numL_range _ ((L.drop n).take 2) rfl ((hB.drop _).take _)
    have hl:((L.drop n).take 2).length≤2:=by simp; omega
    have hp:(256:Int) ^ ((L.drop n).take 2).length≤256 ^ 2:=by
      have:∀ k:Nat,k≤2→(256:Int) ^ k≤256 ^ 2:=by decide
      exact this _ hl
    rw [show (256:Int) ^ 2=65536 from rfl] at hp
    omega
  have r0:=r2 0
  rw [List.drop_zero] at r0
  have r28:=r2 8
  obtain ⟨z1,hz1⟩:=get_ex (L:=L) (i:=10) (by omega)
  obtain ⟨z2,hz2⟩:=get_ex (L:=L) (i:=11) (by omega)
  have hzb1:=hB.get hz1
  have hzb2:=hB.get hz2
  have hz12:numL ((L.drop 10).take 2)=256 * z1 + z2:=by
    rw [drop_cons hz1,drop_cons hz2]
    simp [numL]
  have hp:parseM L=(if numL ((L.drop 4).take 4) ≠ 439041101 then (zM,140) else
    if numL ((L.drop 2).take 2) ≠ 1 ∨ sizeT (numL ((L.drop 8).take 2))=0 then (zM,141) else
    if numL (L.take 2) ≠ sizeT (numL ((L.drop 8).take 2)) ∨ (L.length:Int) ≠ sizeT (numL ((L.drop 8).take 2)) then (zM,12) else
    if numL ((L.drop 10).take 2) ≠ 0 then (zM,11) else
    match pK (layoutL (numL ((L.drop 8).take 2))) (L.drop 12) with
    | none=>(zM,11)
    | some (a,b)=>(mkM (numL ((L.drop 8).take 2)) a b,0):MB × Int):=if_neg h12
  rw [hp]
  clear hp r2
  have hS:=fun st:St=>refSize_v (st:=st) (numL ((L.drop 8).take 2))
  have hLy:=fun st:St=>parts16_v (st:=st) (numL ((L.drop 8).take 2))
  have hK4:=layout_kOk (numL ((L.drop 8).take 2))
  have hkl:=layout_len (numL ((L.drop 8).take 2))
  have hcn:=layout_cnt (numL ((L.drop 8).take 2))
  have hct:=layout_txt (numL ((L.drop 8).take 2))
  have hsz:=sizeT_le (numL ((L.drop 8).take 2))
  have hsd:sizeT (numL ((L.drop 8).take 2)) ≠ 0→sizeT (numL ((L.drop 8).take 2))=12 + (sumN (layoutL (numL ((L.drop 8).take 2))):Int):=fun h=>by
    have:=sizeT_pos (t:=numL ((L.drop 8).take 2))
    exact if_neg (this.1 (by omega))
  have n4:=fun st:St=>rNum_v (tk:=.no) (st:=st) (L:=(L.drop 4).take 4) ((hB.drop _).take _) (by simp; omega)
  have n8:=fun st:St=>rNum_v (tk:=.no) (st:=st) (L:=(L.drop 8).take 2) ((hB.drop _).take _) (by simp; omega)
  have n2:=fun st:St=>rNum_v (tk:=.no) (st:=st) (L:=(L.drop 2).take 2) ((hB.drop _).take _) (by simp; omega)
  have n0:=fun st:St=>rNum_v (tk:=.no) (st:=st) (L:=L.take 2) (hB.take _) (by simp; omega)
  generalize numL ((L.drop 8).take 2)=t at *
  generalize numL ((L.drop 10).take 2)=z0 at *
  generalize numL ((L.drop 4).take 4)=ck at *
  generalize numL ((L.drop 2).take 2)=kd at *
  generalize numL (L.take 2)=sz0 at *
  generalize sizeT t=Z at *
  generalize layoutL t=K at *
  have e48:(L.take 8).drop 4=(L.drop 4).take 4:=by rw [List.drop_take]
  have e810:(L.take 10).drop 8=(L.drop 8).take 2:=by rw [List.drop_take]
  have e24:(L.take 4).drop 2=(L.drop 2).take 2:=by rw [List.drop_take]
  simp (maxSteps:=3000000) only [go_sem,↓reduceIte,bs_len,decide_eq_false (show ¬ (L.length:Int) < 12 by omega),bs_take,bs_drop,e48,allSz_bs']
  repeat (apply And.intro; focus (first | omega | (simp; done)))
  refine Cal.mk (n4 _) ?_
  rintro _ _ ⟨rfl,rfl⟩ -
  by_cases c1:ck=439041101
  case neg =>
    rw [if_pos c1]
    simp (maxSteps:=3000000) only [go_sem,↓reduceIte,decide_eq_true c1,put_box_ne (Nat.ne_of_lt hbc)]
    repeat (apply And.intro; focus (first | omega | (simp; done)))
    exact ⟨_,_,Wk.refl _,hw3 _ _ _,rfl,rfl⟩
  rw [if_neg (fun h=>h c1)]
  simp (maxSteps:=3000000) only [go_sem,↓reduceIte,decide_eq_false (show ¬ ¬ ck=439041101 from fun h=>h c1),bs_len,bs_take,bs_drop,e810,allSz_bs']
  repeat (apply And.intro; focus (first | omega | (simp; done)))
  refine Cal.mk (n8 _) ?_
  rintro _ _ ⟨rfl,rfl⟩ -
  simp (maxSteps:=3000000) only [go_sem,↓reduceIte,bs_len,bs_take,bs_drop,e24,allSz_bs']
  repeat (apply And.intro; focus (first | omega | (simp; done)))
  refine Cal.mk (n2 _) ?_
  rintro _ _ ⟨rfl,rfl⟩ -
  by_cases c2:kd=1
  case neg =>
    rw [if_pos (Or.inl c2)]
    simp (maxSteps:=3000000) only [go_sem,↓reduceIte,decide_eq_true c2,put_box_ne (Nat.ne_of_lt hbc)]
    repeat (apply And.intro; focus (first | omega | (simp; done)))
    exact ⟨_,_,Wk.refl _,hw3 _ _ _,rfl,rfl⟩
  simp (maxSteps:=3000000) only [go_sem,↓reduceIte,decide_eq_false (show ¬ ¬ kd=1 from fun h=>h c2)]
  refine Cal.mk (hS _) ?_
  rintro _ _ ⟨rfl,rfl⟩ -
  by_cases c3:Z=0
  · rw [if_pos (Or.inr c3)]
    simp (maxSteps:=3000000) only [go_sem,↓reduceIte,decide_eq_true c3,put_box_ne (Nat.ne_of_lt hbc)]
    exact ⟨_,_,Wk.refl _,hw3 _ _ _,rfl,rfl⟩
  rw [if_neg (show ¬ (kd ≠ 1 ∨ Z=0) by omega)]
  simp (maxSteps:=3000000) only [go_sem,↓reduceIte,decide_eq_false c3]
  refine Cal.mk (hS _) ?_
  rintro _ _ ⟨rfl,rfl⟩ -
  by_cases c5:(L.length:Int)=Z
  case neg =>
    rw [if_pos (Or.inr c5)]
    simp (maxSteps:=3000000) only [go_sem,↓reduceIte,decide_eq_true c5,bs_len,put_box_ne (Nat.ne_of_lt hbc)]
    exact ⟨_,_,Wk.refl _,hw3 _ _ _,rfl,rfl⟩
  simp (maxSteps:=3000000) only [go_sem,↓reduceIte,bs_len,bs_take,allSz_bs',decide_eq_false (show ¬ ¬ (L.length:Int)=Z from fun h=>h c5)]
  repeat (apply And.intro; focus (first | omega | (simp; done)))
  refine Cal.mk (n0 _) ?_
  rintro _ _ ⟨rfl,rfl⟩ -
  by_cases c4:sz0=L.length
  case neg =>
    rw [if_pos (Or.inl (by omega))]
    simp (maxSteps:=3000000) only [go_sem,↓reduceIte,decide_eq_true c4,bs_len,put_box_ne (Nat.ne_of_lt hbc)]
    repeat (apply And.intro; focus (first | omega | (simp; done)))
    exact ⟨_,_,Wk.refl _,hw3 _ _ _,rfl,rfl⟩
  rw [if_neg (show ¬ (sz0 ≠ Z ∨ (L.length:Int) ≠ Z) by omega)]
  have hsum:=hsd c3
  simp (maxSteps:=3000000) only [go_sem,↓reduceIte,decide_eq_false (show ¬ ¬ sz0=L.length from fun h=>h c4),bs_len]
  repeat (apply And.intro; focus (first | omega | (simp; done)))
  intro d hd
  obtain ⟨hd1,hcd⟩:st.sz≤d∧c < d:=by first | omega | (simp only [put_sz] at hd; omega)
  clear hd
  have hw4:∀ cs ds es fs:List V,st.weak ((((st.put b cs).put c ds).put d fs).put b es):=fun cs ds es fs=>weak_put (weak_put (weak_put (weak_put hwf.weak hb) hc1) hd1) hb
  have hbd:b < d:=by omega
  by_cases c6:z1=0
  case neg =>
    rw [if_pos (by omega)]
    simp (maxSteps:=3000000) only [go_sem,↓reduceIte,bs_get,hz1,decide_eq_true c6,put_box_ne (Nat.ne_of_lt hbc),put_box_ne (Nat.ne_of_lt hbd),put_box_ne (Nat.ne_of_lt hcd)]
    exact ⟨_,_,Wk.refl _,hw4 _ _ _ _,rfl,rfl⟩
  by_cases c7:z2=0
  case neg =>
    rw [if_pos (by omega)]
    simp (maxSteps:=3000000) only [go_sem,↓reduceIte,bs_get,hz1,hz2,decide_eq_false (show ¬ ¬ z1=0 from fun h=>h c6),decide_eq_true c7,put_box_ne (Nat.ne_of_lt hbc),put_box_ne (Nat.ne_of_lt hbd),put_box_ne (Nat.ne_of_lt hcd)]
    exact ⟨_,_,Wk.refl _,hw4 _ _ _ _,rfl,rfl⟩
  rw [if_neg (by omega)]
  simp (maxSteps:=3000000) only [go_sem,↓reduceIte,bs_get,hz1,hz2,decide_eq_false (show ¬ ¬ z1=0 from fun h=>h c6),decide_eq_false (show ¬ ¬ z2=0 from fun h=>h c7)]
  refine Cal.mk (hLy _) ?_
  rintro _ _ ⟨rfl,rfl⟩ -
  simp (maxSteps:=3000000) only [go_sem,↓reduceIte]
  obtain ⟨X,hX⟩:∃ X,pK K (L.drop 12)=X:=⟨_,rfl⟩
  rw [hX]
  refine run_loop [3,8,9,10,11,12,13,68,69,70,71,72,73,74,75,76,77,78,79,80,81,82,83,84,85,86,87,88,89,90,91,92,93,94,95,96,97,98,99,100,101,102,103,104,105,106,107,108,109,110,111,112,113,114,115,116,117,118,119,120,121,122,123,124,125,126,127,128,129,130,131,132,133,134,135,136] (fun B s=>∃ (i at_:Nat) (A:List Int) (T:List (List Int)),i≤K.length∧B 11=.sc (.int .i64 i)∧B 10=.sc (.int .i64 at_)∧B 8=.sc (.int .i64 A.length)∧B 9=.sc (.int .i64 T.length)∧P3 st s b c d zCells zCells (mkM t A T).cells ∧
    X=(pK (K.drop i) (L.drop at_)).map (fun p=>(A ++ p.1,T ++ p.2))∧A.length + (K.drop i).countP isNum≤9∧T.length + (K.drop i).countP isTxt≤3∧at_ + sumN (K.drop i)=L.length) (fun B _=>K.length - vnat (B 11)) rfl ?_ ?_
  · simp (maxSteps:=3000000) only [go_sem,↓reduceIte]
    refine ⟨0,12,[],[],by omega,by simp,by simp,by simp,by simp,?_,by rw [List.drop_zero,hX]; cases X <;> rfl,by simpa using hcn,by simpa using hct,by simp; omega⟩
    exact ⟨weak_put (weak_put (weak_put hwf.weak hb) hc1) hd1,hwf.lt.put.put.put,hb,hbc,hcd,by rw [put_box_ne (by omega),put_box_ne (by omega)]; exact put_box_same,by rw [put_box_ne (by omega)]; exact put_box_same,put_box_same⟩
  · rintro B s ⟨i,at_,A,T,hi,h11,h10,h8,h9,hP,he,hn,hq,hat⟩
    clear hX
    have hx3:=hP.x
    have hy3:=hP.y
    have hbz:=hP.z
    have hz13:zCells.length=13:=rfl
    have htk0:zCells.take 13=zCells:=rfl
    have hdr:zCells.drop 13=[]:=rfl
    have hw5:=fun cs=>weak_put (cs:=cs) hP.weak hb
    by_cases hlt:i < K.length
    · obtain ⟨k,hk⟩:=get_ex hlt
      have hko':=hK4 k (List.mem_of_getElem? hk)
      have hpn:=toPart_num hko'
      have hpt:=toPart_txt hko'
      have hps:=toPart_sz k hko'
      have hko:=hko'
      unfold kOkM at hko
      have hlt':=decide_eq_true (show (i:Int) < (K.length:Int) by omega)
      have hsd2:K.drop i=k :: K.drop (i + 1):=drop_cons hk
      rw [hsd2,List.countP_cons] at hn hq
      rw [hsd2] at he hat
      simp only [sumN] at hat
      have eto:((at_:Int) + (k.natAbs:Int)).toNat=at_ + k.natAbs:=by omega
      have esl:(L.take (at_ + k.natAbs)).drop at_=(L.drop at_).take k.natAbs:=by rw [List.drop_take]; congr 1; omega
      have hxl:((L.drop at_).take k.natAbs).length=k.natAbs:=by simp; omega
      have hxB:IsB ((L.drop at_).take k.natAbs):=(hB.drop _).take _
      by_cases d1:0 < k∧k≤4
      · have e1':isTxt k=false:=by simp [isTxt]; omega
        have e2':isNum k=true:=by simp [isNum]; omega
        rw [e2'] at hn hpn; rw [e1'] at hq
        simp only [↓reduceIte] at hn
        rw [pS_num (by omega) (by omega)] at he
        have hkt:k.toNat=k.natAbs:=by omega
        rw [hkt] at he
        have hr8:=fun st:St=>rNum_v (tk:=.no) (st:=st) hxB (by omega)
        have hnr:0≤numL ((L.drop at_).take k.natAbs)∧numL ((L.drop at_).take k.natAbs) < 4294967296:=by
          have h:=numL_range _ _ hxl hxB
          rw [hxl] at h
          refine ⟨h.1,Int.lt_of_lt_of_le h.2 ?_⟩
          have:k.natAbs=1 ∨ k.natAbs=2 ∨ k.natAbs=4:=by omega
          rcases this with e | e | e <;> rw [e] <;> decide
        generalize hxx:(L.drop at_).take k.natAbs=x at *
        have em:numL x % 4294967296=numL x:=by omega
        have hD13:(mkM t A T).cells.length=13:=MB.len (mkM_n (by omega)) (mkM_t (by omega))
        have hset:=mkM_setN (t:=t) (A:=A) (B:=T) (by omega) (numL x)
        simp (maxSteps:=3000000) only [go_sem,↓reduceIte,h11,h10,h8,ps_len,List.length_map,ps_get,List.getElem?_map,hk,hlt',hps,hpn,bs_len,bs_take,bs_drop,allSz_bs',eto,esl]
        repeat (apply And.intro; focus (first | omega | (simp; done)))
        refine Cal.mk (hr8 _) ?_
        rintro _ _ ⟨rfl,rfl⟩ -
        simp (maxSteps:=3000000) only [go_sem,↓reduceIte,h11,h8,h9,em,hbz,hD13,mono_cells]
        repeat (apply And.intro; focus (first | omega | (simp; done)))
        exact ⟨⟨i + 1,at_ + k.natAbs,A ++ [numL x],T,by omega,by simp,by simp,by simp,by first | exact h9 | simp,by rw [← hset]; exact hP.pz,by rw [he,List.drop_drop],by simp; omega,by simpa using hq,by omega⟩,by omega⟩
      · have e2':isNum k=false:=by simp [isNum]; omega
        rw [e2'] at hn hpn
        generalize hxx:(L.drop at_).take k.natAbs=x at *
        simp (maxSteps:=3000000) only [go_sem,↓reduceIte,h11,h10,ps_len,List.length_map,ps_get,List.getElem?_map,hk,hlt',hps,hpn,bs_len,bs_take,bs_drop,allSz_bs',eto,esl]
        repeat (apply And.intro; focus (first | omega | (simp; done)))
        refine run_loop [13,107,108,109,110,111,112,113,114,115,116,117,118] (fun B s'=>s'=s∧∃ e:Nat,e≤x.length∧B 13=.sc (.int .i64 e)∧stripN x x.length=stripN x e) (fun B _=>vnat (B 13)) rfl ?_ ?_
        · simp (maxSteps:=3000000) only [go_sem,↓reduceIte]
          exact ⟨x.length,by omega,rfl,rfl⟩
        · rintro B2 s2 ⟨rfl,e,hel,h13,hst⟩
          by_cases h0:e=0
          · have hfin:stripN x x.length=e:=by rw [hst,h0]; rfl
            by_cases d2:4 < k
            · have e1':isTxt k=true:=by simp [isTxt,d2]
              rw [e1'] at hq hpt
              simp only [↓reduceIte] at hq
              rw [pS_txt d2] at he
              have hkt:k.toNat=k.natAbs:=by omega
              rw [hkt,hxx] at he
              have hD13:(mkM t A T).cells.length=13:=MB.len (mkM_n (by omega)) (mkM_t (by omega))
              have hset:=mkM_setT (t:=t) (A:=A) (B:=T) (by omega) (by omega) (stripL x)
              have hsl:x.take e=stripL x:=by unfold stripL; rw [hfin]
              simp (maxSteps:=3000000) only [go_sem,↓reduceIte,h13,h11,h8,h9,decide_eq_false (show ¬ (0:Int) < (e:Int) by omega),ps_get,List.getElem?_map,hk,hpt,bs_len,bs_take,allSz_bs',u8s_bs,hsl,hbz,hD13,mono_cells]
              repeat (apply And.intro; focus (first | omega | (simp; done)))
              exact ⟨⟨i + 1,at_ + k.natAbs,A,T ++ [stripL x],by omega,by simp,by first | exact h10 | simp,by first | exact h8 | simp,by simp,by rw [← hset]; exact hP.pz,by rw [he,List.drop_drop],by simpa using hn,by simp; omega,by omega⟩,by omega⟩
            · have e1':isTxt k=false:=by simp [isTxt]; omega
              rw [e1'] at hq hpt
              rw [pK_neg (by omega)] at he
              have hkt:(-k).toNat=k.natAbs:=by omega
              rw [hkt,hxx] at he
              have hall:=stripN_all x
              rw [hfin] at hall
              by_cases d3:e=0
              · rw [hall.1 d3] at he
                simp only [↓reduceIte] at he
                simp (maxSteps:=3000000) only [go_sem,↓reduceIte,h13,h11,h8,h9,ps_get,List.getElem?_map,hk,hpt,decide_eq_false (show ¬ (0:Int) < (e:Int) by omega)]
                repeat (apply And.intro; focus (first | omega | (simp; done)))
                exact ⟨⟨i + 1,at_ + k.natAbs,A,T,by omega,by simp,by first | exact h10 | simp,by first | exact h8 | simp,by first | exact h9 | simp,hP,by rw [he,List.drop_drop],by simpa using hn,by simpa using hq,by omega⟩,by omega⟩
              · exact absurd h0 d3
          · obtain ⟨z,hz⟩:=get_ex (L:=x) (i:=e - 1) (by omega)
            have e1:((e:Int) - 1).toNat=e - 1:=by omega
            have hs1:stripN x e=if x[e - 1]?=some 0 then stripN x (e - 1) else e:=by
              obtain ⟨e',rfl⟩:∃ e',e=e' + 1:=⟨e - 1,by omega⟩
              rfl
            by_cases z0':z=0
            · rw [hz,z0',if_pos rfl] at hs1
              simp (maxSteps:=3000000) only [go_sem,↓reduceIte,h13,bs_get,e1,hz,decide_eq_true (show (0:Int) < (e:Int) by omega),decide_eq_true z0']
              repeat (apply And.intro; focus (first | omega | (simp; done)))
              exact ⟨⟨e - 1,by omega,congrArg (fun v=>V.sc (.int .i64 v)) (by omega),by rw [hst,hs1]⟩,by omega⟩
            · rw [hz,if_neg (fun h=>z0' (by cases h; rfl))] at hs1
              have hfin:stripN x x.length=e:=by rw [hst,hs1]
              by_cases d2:4 < k
              · have e1':isTxt k=true:=by simp [isTxt,d2]
                rw [e1'] at hq hpt
                simp only [↓reduceIte] at hq
                rw [pS_txt d2] at he
                have hkt:k.toNat=k.natAbs:=by omega
                rw [hkt,hxx] at he
                have hD13:(mkM t A T).cells.length=13:=MB.len (mkM_n (by omega)) (mkM_t (by omega))
                have hset:=mkM_setT (t:=t) (A:=A) (B:=T) (by omega) (by omega) (stripL x)
                have hsl:x.take e=stripL x:=by unfold stripL; rw [hfin]
                simp (maxSteps:=3000000) only [go_sem,↓reduceIte,h13,h11,h8,h9,bs_get,e1,hz,decide_eq_true (show (0:Int) < (e:Int) by omega),decide_eq_false z0',ps_get,List.getElem?_map,hk,hpt,bs_len,bs_take,allSz_bs',u8s_bs,hsl,hbz,hD13,mono_cells]
                repeat (apply And.intro; focus (first | omega | (simp; done)))
                exact ⟨⟨i + 1,at_ + k.natAbs,A,T ++ [stripL x],by omega,by simp,by first | exact h10 | simp,by first | exact h8 | simp,by simp,by rw [← hset]; exact hP.pz,by rw [he,List.drop_drop],by simpa using hn,by simp; omega,by omega⟩,by omega⟩
              · have e1':isTxt k=false:=by simp [isTxt]; omega
                rw [e1'] at hq hpt
                rw [pK_neg (by omega)] at he
                have hkt:(-k).toNat=k.natAbs:=by omega
                rw [hkt,hxx] at he
                have hall:=stripN_all x
                rw [hfin] at hall
                by_cases d3:e=0
                · exact absurd d3 h0
                · have hnz:x.all (fun x=>decide (x=0))=false:=by
                    cases hh:x.all (fun x=>decide (x=0))
                    · rfl
                    · exact absurd (hall.2 hh) d3
                  rw [hnz] at he
                  simp only [Bool.false_eq_true,↓reduceIte,Option.map_none] at he
                  simp (maxSteps:=3000000) only [go_sem,↓reduceIte,h13,h11,bs_get,e1,hz,decide_eq_false z0',ps_get,List.getElem?_map,hk,hpt,decide_eq_true (show (0:Int) < (e:Int) by omega),hx3,hy3,htk0,hdr,hz13]
                  repeat (apply And.intro; focus (first | omega | (simp; done)))
                  first | exact ⟨_,_,Wk.refl _,hw5 _,by rw [he]; rfl,rfl⟩ | exact ⟨mono_len (by rw [show zCells.length=13 from rfl]; omega),_,_,Wk.refl _,hw5 _,by rw [he]; rfl,rfl⟩ | exact ⟨of_eq_true (mono_cells _),mono_len (by rw [show zCells.length=13 from rfl]; omega),of_eq_true (mono_cells _),_,_,Wk.refl _,hw5 _,by rw [he]; rfl,rfl⟩ | exact ⟨of_eq_true (mono_cells _),mono_len (by rw [show zCells.length=13 from rfl]; omega),_,_,Wk.refl _,hw5 _,by rw [he]; rfl,rfl⟩ | exact ⟨mono_len (by rw [show zCells.length=13 from rfl]; omega),of_eq_true (mono_cells _),_,_,Wk.refl _,hw5 _,by rw [he]; rfl,rfl⟩ | exact ⟨mono_len (by rw [show zCells.length=13 from rfl]; omega),mono_len (by rw [show zCells.length=13 from rfl]; omega),_,_,Wk.refl _,hw5 _,by rw [he]; rfl,rfl⟩ | exact ⟨mono_len (by rw [show zCells.length=13 from rfl]; omega),mono_len (by rw [show zCells.length=13 from rfl]; omega),mono_len (by rw [show zCells.length=13 from rfl]; omega),_,_,Wk.refl _,hw5 _,by rw [he]; rfl,rfl⟩ | exact ⟨of_eq_true (mono_cells _),_,_,Wk.refl _,hw5 _,by rw [he]; rfl,rfl⟩
    · obtain rfl:i=K.length:=by omega
      rw [List.drop_of_length_le (Nat.le_refl _)] at he hn hq hat
      simp only [pK,Option.map_some,List.append_nil] at he
      simp only [List.countP_nil,Nat.add_zero] at hn hq
      have hD13:(mkM t A T).cells.length=13:=MB.len (mkM_n (by omega)) (mkM_t (by omega))
      have htk:(mkM t A T).cells.take 13=(mkM t A T).cells:=List.take_of_length_le (by omega)
      simp (maxSteps:=3000000) only [go_sem,↓reduceIte,h11,ps_len,List.length_map,hx3,hbz,hD13,htk,hdr,hz13]
      first | exact ⟨_,_,Wk.refl _,hw5 _,by rw [he]; rfl,rfl⟩ | exact ⟨mono_len (by rw [show zCells.length=13 from rfl]; omega),_,_,Wk.refl _,hw5 _,by rw [he]; rfl,rfl⟩ | exact ⟨of_eq_true (mono_cells _),mono_len (by rw [show zCells.length=13 from rfl]; omega),of_eq_true (mono_cells _),_,_,Wk.refl _,hw5 _,by rw [he]; rfl,rfl⟩ | exact ⟨of_eq_true (mono_cells _),mono_len (by rw [show zCells.length=13 from rfl]; omega),_,_,Wk.refl _,hw5 _,by rw [he]; rfl,rfl⟩ | exact ⟨mono_len (by rw [show zCells.length=13 from rfl]; omega),of_eq_true (mono_cells _),_,_,Wk.refl _,hw5 _,by rw [he]; rfl,rfl⟩ | exact ⟨mono_len (by rw [show zCells.length=13 from rfl]; omega),mono_len (by rw [show zCells.length=13 from rfl]; omega),_,_,Wk.refl _,hw5 _,by rw [he]; rfl,rfl⟩ | exact ⟨mono_len (by rw [show zCells.length=13 from rfl]; omega),mono_len (by rw [show zCells.length=13 from rfl]; omega),mono_len (by rw [show zCells.length=13 from rfl]; omega),_,_,Wk.refl _,hw5 _,by rw [he]; rfl,rfl⟩ | exact ⟨of_eq_true (mono_cells _),_,_,Wk.refl _,hw5 _,by rw [he]; rfl,rfl⟩
end
end
section
open Go
theorem pK_len:∀ (K L a:List Int) (b:List (List Int)),pK K L=some (a,b)→∀ t ∈ b,t.length≤L.length
  | [],L,a,b,h,t,ht=>by
    simp only [pK,Option.some.injEq,Prod.mk.injEq] at h
    obtain ⟨_,rfl⟩:=h
    cases ht
  | k :: K,L,a,b,h,t,ht=>by
    by_cases c1:k < 0
    · rw [pK_neg c1] at h
      split at h
      · have:=pK_len K _ a b h t ht
        rw [List.length_drop] at this; omega
      · cases h
    by_cases c2:4 < k
    · rw [pK_txt c2,Option.map_eq_some_iff] at h
      obtain ⟨⟨a',b'⟩,h,he⟩:=h
      simp only [Prod.mk.injEq] at he
      obtain ⟨rfl,rfl⟩:=he
      rcases List.mem_cons.1 ht with rfl | ht
      · have h1:=stripL_len (L.take k.toNat)
        have h2:=stripN_le (L.take k.toNat) (L.take k.toNat).length
        have h3:(L.take k.toNat).length≤L.length:=by simp; omega
        omega
      · have:=pK_len K _ a' b' h t ht
        rw [List.length_drop] at this; omega
    · rw [pK_num (by omega) (by omega),Option.map_eq_some_iff] at h
      obtain ⟨⟨a',b'⟩,h,he⟩:=h
      simp only [Prod.mk.injEq] at he
      obtain ⟨rfl,rfl⟩:=he
      have:=pK_len K _ a' b' h t ht
      rw [List.length_drop] at this; omega
theorem bytes_parseM {L:List Int} (hB:IsB L) (hl:L.length≤1000000) (h:(parseM L).2=0):∃ m,parseM L=(m,0)∧m.Ok∧okM m=true∧bytesM m=L:=by
  unfold parseM at h ⊢
  split at h
  · cases h
  rename_i h12
  rw [if_neg h12]
  split at h
  · cases h
  rename_i h4
  rw [if_neg h4]
  split at h
  · cases h
  rename_i h2
  rw [if_neg h2]
  split at h
  · cases h
  rename_i h0
  rw [if_neg h0]
  split at h
  · cases h
  rename_i h10
  rw [if_neg h10]
  split at h
  · cases h
  rename_i a b hp
  have h4:numL ((L.drop 4).take 4)=439041101:=by omega
  have h2a:numL ((L.drop 2).take 2)=1:=by omega
  have h2b:sizeT (numL ((L.drop 8).take 2)) ≠ 0:=by omega
  have h0a:numL (L.take 2)=sizeT (numL ((L.drop 8).take 2)):=by omega
  have h0b:(L.length:Int)=sizeT (numL ((L.drop 8).take 2)):=by omega
  have h10:numL ((L.drop 10).take 2)=0:=by omega
  have b0:=numL_eq_beL 2 (L.take 2) (by simp; omega) (hB.take _)
  have b2:=numL_eq_beL 2 ((L.drop 2).take 2) (by simp; omega) ((hB.drop _).take _)
  have b4:=numL_eq_beL 4 ((L.drop 4).take 4) (by simp; omega) ((hB.drop _).take _)
  have b8:=numL_eq_beL 2 ((L.drop 8).take 2) (by simp; omega) ((hB.drop _).take _)
  have b10:=numL_eq_beL 2 ((L.drop 10).take 2) (by simp; omega) ((hB.drop _).take _)
  have hn8:=numL_range 2 ((L.drop 8).take 2) (by simp; omega) ((hB.drop _).take _)
  rw [h0a] at b0
  rw [h2a] at b2
  rw [h4] at b4
  rw [h10] at b10
  generalize ht:numL ((L.drop 8).take 2)=t at *
  have hle:=sizeT_le t
  have hZ:sizeT t=12 + (sumN (layoutL t):Int):=if_neg (sizeT_pos.1 (by omega))
  obtain ⟨h1,h3,h5,h6,h7,h8⟩:=bK_pK (layoutL t) (L.drop 12) a b (9 - a.length) (3 - b.length) (layout_kOk t) (hB.drop _) (by rw [List.length_drop]; omega) hp
  have hcn:=layout_cnt t
  have hct:=layout_txt t
  have hok:okM (mkM t a b)=true:=by
    unfold okM mkM
    simp only [Bool.and_eq_true,decide_eq_true_eq]
    exact ⟨h1,by omega⟩
  have hbytes:bytesM (mkM t a b)=L:=by
    unfold bytesM mkM hdrL
    simp only
    rw [h3,b0,b2,b4,b8,b10]
    have s1:L.take 2 ++ (L.drop 2).take 2=L.take 4:=by rw [← List.take_append_drop 2 (L.take 4),List.take_take,List.drop_take]; rfl
    have s2:L.take 4 ++ (L.drop 4).take 4=L.take 8:=by rw [← List.take_append_drop 4 (L.take 8),List.take_take,List.drop_take]; rfl
    have s3:L.take 8 ++ (L.drop 8).take 2=L.take 10:=by rw [← List.take_append_drop 8 (L.take 10),List.take_take,List.drop_take]; rfl
    have s4:L.take 10 ++ (L.drop 10).take 2=L.take 12:=by rw [← List.take_append_drop 10 (L.take 12),List.take_take,List.drop_take]; rfl
    rw [s1,s2,s3,s4,List.take_append_drop]
  refine ⟨mkM t a b,rfl,⟨?_,mkM_n (by omega),mkM_t (by omega),?_,?_,?_⟩,hok,hbytes⟩
  · have:=okM_ty hok
    unfold mkM at this ⊢
    simp only at this ⊢
    omega
  · intro x hx
    rcases List.mem_append.1 hx with hx | hx
    · exact h7 x hx
    · rw [List.eq_of_mem_replicate hx]; omega
  · intro x hx
    rcases List.mem_append.1 hx with hx | hx
    · exact h8 x hx
    · rw [List.eq_of_mem_replicate hx]; exact isB_nil
  · intro x hx
    have hrk:=hok
    unfold okM at hrk
    rw [Bool.and_eq_true] at hrk
    rcases List.mem_append.1 hx with hx | hx
    · have:=pK_len _ _ _ _ hp x hx
      rw [List.length_drop] at this; omega
    · rw [List.eq_of_mem_replicate hx]; simp
theorem parseM_n (L:List Int):(parseM L).1.N.length=9∧(parseM L).1.T.length=3 ∨ (parseM L).2=0:=by
  unfold parseM
  repeat' split
  all_goals first | exact .inr rfl | exact .inl ⟨rfl,rfl⟩
section
variable {tk:Tk} {st:St}
end
end
section
open Go
def earlyL (P:List Int):Int :=
  if 2≤P.length∧(numL (P.take 2) < 12 ∨ 220 < numL (P.take 2)) then 12 else
  if 4≤P.length∧numL ((P.drop 2).take 2) ≠ 1 then 141 else
  if 8≤P.length∧numL ((P.drop 4).take 4) ≠ 439041101 then 140 else 0
def sizeP (P:List Int):Nat:=(numL (P.take 2)).toNat
def scanF:Nat→List Int→List MB × List Int × Int
  | 0,P=>([],P,0)
  | f + 1,P=>if earlyL P ≠ 0 then ([],P,earlyL P) else
    if P.length < 12 ∨ (P.length:Int) < numL (P.take 2) then ([],P,0) else
    if (parseM (P.take (sizeP P))).2 ≠ 0 then ([],P,(parseM (P.take (sizeP P))).2) else
    ((parseM (P.take (sizeP P))).1 :: (scanF f (P.drop (sizeP P))).1,(scanF f (P.drop (sizeP P))).2)
def scan (P:List Int):List MB × List Int × Int:=scanF (P.length + 1) P
theorem early_size {P:List Int} (h:earlyL P=0) (h2:2≤P.length):12≤numL (P.take 2)∧numL (P.take 2)≤220:=by
  unfold earlyL at h
  split at h
  · cases h
  · omega
theorem scanF_eq:∀ (f g:Nat) (P:List Int),P.length < f→P.length < g→scanF f P=scanF g P
  | 0,_,P,h,_=>by omega
  | _,0,P,_,h=>by omega
  | f + 1,g + 1,P,h1,h2=>by
    unfold scanF
    by_cases c1:earlyL P ≠ 0
    · rw [if_pos c1,if_pos c1]
    rw [if_neg c1,if_neg c1]
    by_cases c2:P.length < 12 ∨ (P.length:Int) < numL (P.take 2)
    · rw [if_pos c2,if_pos c2]
    rw [if_neg c2,if_neg c2]
    by_cases c3:(parseM (P.take (sizeP P))).2 ≠ 0
    · rw [if_pos c3,if_pos c3]
    rw [if_neg c3,if_neg c3]
    have hs:=early_size (P:=P) (by omega) (by omega)
    have:(P.drop (sizeP P)).length < P.length:=by rw [List.length_drop]; unfold sizeP; omega
    rw [scanF_eq f g (P.drop (sizeP P)) (by omega) (by omega)]
theorem scan_err {P:List Int} (h:earlyL P ≠ 0):scan P=([],P,earlyL P):=if_pos h
theorem scan_short {P:List Int} (h:earlyL P=0) (h2:P.length < 12 ∨ (P.length:Int) < numL (P.take 2)):scan P=([],P,0):=by
  unfold scan scanF
  rw [if_neg (fun k=>k h),if_pos h2]
theorem scan_bad {P:List Int} (h:earlyL P=0) (h2:¬ (P.length < 12 ∨ (P.length:Int) < numL (P.take 2))) (h3:(parseM (P.take (sizeP P))).2 ≠ 0):scan P=([],P,(parseM (P.take (sizeP P))).2):=by
  unfold scan scanF
  rw [if_neg (fun k=>k h),if_neg h2,if_pos h3]
theorem scan_cons {P:List Int} (h:earlyL P=0) (h2:¬ (P.length < 12 ∨ (P.length:Int) < numL (P.take 2))) (h3:(parseM (P.take (sizeP P))).2=0) :
    scan P=((parseM (P.take (sizeP P))).1 :: (scan (P.drop (sizeP P))).1,(scan (P.drop (sizeP P))).2):=by
  have hs:=early_size h (by omega)
  have hd:(P.drop (sizeP P)).length < P.length:=by rw [List.length_drop]; unfold sizeP; omega
  unfold scan
  rw [scanF_eq ((P.drop (sizeP P)).length + 1) P.length _ (by omega) hd]
  rw [scanF,if_neg (fun k=>k h),if_neg h2,if_neg (fun k=>k h3)]
theorem size_bound {P:List Int} (h:earlyL P=0) (h2:¬ (P.length < 12 ∨ (P.length:Int) < numL (P.take 2))):12≤sizeP P∧sizeP P≤P.length∧sizeP P≤220:=by
  have hs:=early_size h (by omega)
  unfold sizeP
  omega
end
section
open Go
theorem num2_rng {L:List Int} (hB:IsB L) (n:Nat):0≤numL ((L.drop n).take 2)∧numL ((L.drop n).take 2) < 65536:=by
  have h:=numL_range _ ((L.drop n).take 2) rfl ((hB.drop _).take _)
  have hl:((L.drop n).take 2).length≤2:=by simp; omega
  have hp:(256:Int) ^ ((L.drop n).take 2).length≤256 ^ 2:=by
    have:∀ k:Nat,k≤2→(256:Int) ^ k≤256 ^ 2:=by decide
    exact this _ hl
  rw [show (256:Int) ^ 2=65536 from rfl] at hp
  omega
theorem num2_rng0 {L:List Int} (hB:IsB L):0≤numL (L.take 2)∧numL (L.take 2) < 65536:=by
  have:=num2_rng hB 0
  rwa [List.drop_zero] at this
theorem num4_split {L:List Int} (h:4≤L.length):numL (L.take 4)=65536 * numL (L.take 2) + numL ((L.drop 2).take 2):=by
  match L,h with
  | a :: b :: c :: d :: L,_=>simp [numL]; omega
def mv (l:List MB):List V:=l.map MB.v
theorem mv_len (l:List MB):(mv l).length=l.length:=by simp [mv]
theorem mv_append (a b:List MB):mv a ++ mv b=mv (a ++ b):=by simp [mv]
def Sz (m:MB):Prop:=m.N.length=9∧m.T.length=3
theorem MB.strip (m:MB):m.cells.map strip1=m.cells:=by
  have h:∀ c ∈ m.cells,strip1 c=c:=by
    intro c hc
    simp only [MB.cells,List.mem_cons,List.mem_append,us,ss,List.mem_map] at hc
    rcases hc with rfl | ⟨x,_,rfl⟩ | ⟨x,_,rfl⟩ <;> rfl
  exact (List.map_congr_left h).trans (List.map_id _)
theorem parseM_sz {L:List Int} (hB:IsB L) (hl:L.length≤1000000):Sz (parseM L).1:=by
  rcases parseM_n L with h | h
  · exact h
  · obtain ⟨m,e,hm,_⟩:=bytes_parseM hB hl h
    rw [e]; exact ⟨hm.n9,hm.t3⟩
section
variable {tk tk':Tk} {st:St} {L P:List Int}
theorem get32_v (hB:IsB L) (h:4≤L.length):VCalls Tryz.prog 271 [.sl tk (bs L)] st fun r st'=>r=.sc (.int .u32 (numL (L.take 4)))∧st=st':=by
  refine vcalls_enter vc271 (Nat.le_of_ble_eq_true rfl) fun hwf hok=>?_
  show Run _ Vc271.body (.fin (finQ Vc271.res _)) _ _
  unfold Vc271 zm zo
  have r0:=num2_rng0 hB
  have r2:=num2_rng hB 2
  have hj:=u32_join (numL (L.take 2)) (numL ((L.drop 2).take 2)) r0.1 r0.2 r2.1 r2.2
  have g0:=fun st:St=>Get16_v (tk:=tk) (st:=st) hB
  have g2:=fun st:St=>Get16_v (tk:=.no) (st:=st) (hB.drop 2)
  rw [if_neg (show ¬ L.length < 2 by omega)] at g0
  rw [if_neg (show ¬ (L.drop 2).length < 2 by simp; omega)] at g2
  rw [num4_split h]
  generalize numL (L.take 2)=a at *
  generalize numL ((L.drop 2).take 2)=c at *
  have e1:a * 65536 % 4294967296=a * 65536:=by omega
  have e2:a % 4294967296=a:=by omega
  have e3:c % 4294967296=c:=by omega
  simp (maxSteps:=3000000) only [go_sem,↓reduceIte,bs_len,decide_eq_false (show ¬ (L.length:Int) < 4 by omega),bs_drop,allSz_bs']
  repeat (apply And.intro; focus (first | omega | (simp; done)))
  refine Cal.mk (g0 _) ?_
  rintro _ _ ⟨rfl,rfl⟩ -
  simp (maxSteps:=3000000) only [go_sem,↓reduceIte,e1,e2]
  repeat (apply And.intro; focus (first | omega | (simp; done)))
  refine Cal.mk (g2 _) ?_
  rintro _ _ ⟨rfl,rfl⟩ -
  simp (maxSteps:=3000000) only [go_sem,↓reduceIte,e3,ibit_or,hj]
  exact ⟨_,_,Wk.refl _,hwf.weak,rfl,rfl⟩
theorem sEarly_v (hB:IsB P) (hl:P.length≤1000000000):VCalls Tryz.prog 187 [.sl tk (bs P)] st fun r st'=>r=.sc (.int .i64 (earlyL P))∧st=st':=by
  refine vcalls_enter vc187 (Nat.le_of_ble_eq_true rfl) fun hwf hok=>?_
  show Run _ Vc187.body (.fin (finQ Vc187.res _)) _ _
  unfold Vc187 zg zm zo
  have r0:=num2_rng0 hB
  have g0:=fun st:St=>Get16_v (tk:=tk) (st:=st) hB
  have g2:=fun st:St=>Get16_v (tk:=.no) (st:=st) (hB.drop 2)
  have g4:=fun (h:8≤P.length) (st:St)=>get32_v (tk:=.no) (st:=st) (hB.drop 4) (by simp; omega)
  by_cases h2:2≤P.length
  case neg =>
    have e:earlyL P=0:=by unfold earlyL; rw [if_neg (by omega),if_neg (by omega),if_neg (by omega)]
    rw [e]
    simp (maxSteps:=3000000) only [go_sem,↓reduceIte,bs_len,decide_eq_false (show ¬ (2:Int)≤(P.length:Int) by omega),decide_eq_false (show ¬ (4:Int)≤(P.length:Int) by omega),decide_eq_false (show ¬ (8:Int)≤(P.length:Int) by omega)]
    exact ⟨_,_,Wk.refl _,hwf.weak,rfl,rfl⟩
  rw [if_neg (show ¬ P.length < 2 by omega)] at g0
  have h2':=decide_eq_true (show (2:Int)≤(P.length:Int) by omega)
  simp (maxSteps:=3000000) only [go_sem,↓reduceIte,bs_len,h2']
  refine Cal.mk (g0 _) ?_
  rintro _ _ ⟨rfl,rfl⟩ -
  by_cases c1:numL (P.take 2) < 12
  · have e:earlyL P=12:=by unfold earlyL; rw [if_pos ⟨h2,.inl c1⟩]
    rw [e]
    simp (maxSteps:=3000000) only [go_sem,↓reduceIte,decide_eq_true c1]
    exact ⟨_,_,Wk.refl _,hwf.weak,rfl,rfl⟩
  simp (maxSteps:=3000000) only [go_sem,↓reduceIte,decide_eq_false c1]
  refine Cal.mk (g0 _) ?_
  rintro _ _ ⟨rfl,rfl⟩ -
  by_cases c2:220 < numL (P.take 2)
  · have e:earlyL P=12:=by unfold earlyL; rw [if_pos ⟨h2,.inr c2⟩]
    rw [e]
    simp (maxSteps:=3000000) only [go_sem,↓reduceIte,decide_eq_true c2]
    repeat (apply And.intro; focus (first | omega | (simp; done)))
    exact ⟨_,_,Wk.refl _,hwf.weak,rfl,rfl⟩
  by_cases h4:4≤P.length
  case neg =>
    have e:earlyL P=0:=by unfold earlyL; rw [if_neg (by omega),if_neg (by omega),if_neg (by omega)]
    rw [e]
    simp (maxSteps:=3000000) only [go_sem,↓reduceIte,bs_len,decide_eq_false c2,decide_eq_false (show ¬ (4:Int)≤(P.length:Int) by omega),decide_eq_false (show ¬ (8:Int)≤(P.length:Int) by omega)]
    repeat (apply And.intro; focus (first | omega | (simp; done)))
    exact ⟨_,_,Wk.refl _,hwf.weak,rfl,rfl⟩
  rw [if_neg (show ¬ (P.drop 2).length < 2 by simp; omega)] at g2
  simp (maxSteps:=3000000) only [go_sem,↓reduceIte,bs_len,decide_eq_false c2,decide_eq_true (show (4:Int)≤(P.length:Int) by omega),bs_drop,allSz_bs']
  repeat (apply And.intro; focus (first | omega | (simp; done)))
  refine Cal.mk (g2 _) ?_
  rintro _ _ ⟨rfl,rfl⟩ -
  by_cases c3:numL ((P.drop 2).take 2)=1
  case neg =>
    have e:earlyL P=141:=by unfold earlyL; rw [if_neg (by omega),if_pos ⟨h4,c3⟩]
    rw [e]
    simp (maxSteps:=3000000) only [go_sem,↓reduceIte,decide_eq_true c3]
    exact ⟨_,_,Wk.refl _,hwf.weak,rfl,rfl⟩
  have c3':=decide_eq_false (show ¬ ¬ numL ((P.drop 2).take 2)=1 from fun h=>h c3)
  by_cases h8:8≤P.length
  case neg =>
    have e:earlyL P=0:=by unfold earlyL; rw [if_neg (by omega),if_neg (by omega),if_neg (by omega)]
    rw [e]
    simp (maxSteps:=3000000) only [go_sem,↓reduceIte,bs_len,c3',decide_eq_false (show ¬ (8:Int)≤(P.length:Int) by omega)]
    exact ⟨_,_,Wk.refl _,hwf.weak,rfl,rfl⟩
  simp (maxSteps:=3000000) only [go_sem,↓reduceIte,bs_len,c3',decide_eq_true (show (8:Int)≤(P.length:Int) by omega),bs_drop,allSz_bs']
  repeat (apply And.intro; focus (first | omega | (simp; done)))
  refine Cal.mk (g4 h8 _) ?_
  rintro _ _ ⟨rfl,rfl⟩ -
  by_cases c4:numL ((P.drop 4).take 4)=439041101
  case neg =>
    have e:earlyL P=140:=by unfold earlyL; rw [if_neg (by omega),if_neg (by omega),if_pos ⟨h8,c4⟩]
    rw [e]
    simp (maxSteps:=3000000) only [go_sem,↓reduceIte,decide_eq_true c4]
    exact ⟨_,_,Wk.refl _,hwf.weak,rfl,rfl⟩
  have e:earlyL P=0:=by unfold earlyL; rw [if_neg (by omega),if_neg (by omega),if_neg (by omega)]
  rw [e]
  simp (maxSteps:=3000000) only [go_sem,↓reduceIte,decide_eq_false (show ¬ ¬ numL ((P.drop 4).take 4)=439041101 from fun h=>h c4)]
  exact ⟨_,_,Wk.refl _,hwf.weak,rfl,rfl⟩
theorem rEarly_v (hB:IsB P) (hl:P.length≤1000000000):VCalls Tryz.prog 14 [.sl tk (bs P)] st fun r st'=>r=.sc (.int .i64 (earlyL P))∧st=st':=by
  refine vcalls_enter vc14 (Nat.le_of_ble_eq_true rfl) fun hwf hok=>?_
  show Run _ Vc14.body (.fin (finQ Vc14.res _)) _ _
  unfold Vc14 zg zm zo
  have n4:=fun st:St=>rNum_v (tk:=.no) (st:=st) (L:=(P.drop 4).take 4) ((hB.drop _).take _) (by simp; omega)
  have n2:=fun st:St=>rNum_v (tk:=.no) (st:=st) (L:=(P.drop 2).take 2) ((hB.drop _).take _) (by simp; omega)
  have n0:=fun st:St=>rNum_v (tk:=.no) (st:=st) (L:=P.take 2) (hB.take _) (by simp; omega)
  have e48:(P.take 8).drop 4=(P.drop 4).take 4:=by rw [List.drop_take]
  have e24:(P.take 4).drop 2=(P.drop 2).take 2:=by rw [List.drop_take]
  by_cases h2:2≤P.length
  case neg =>
    have e:earlyL P=0:=by unfold earlyL; rw [if_neg (by omega),if_neg (by omega),if_neg (by omega)]
    rw [e]
    simp (maxSteps:=3000000) only [go_sem,↓reduceIte,bs_len,decide_eq_false (show ¬ (2:Int)≤(P.length:Int) by omega),decide_eq_false (show ¬ (4:Int)≤(P.length:Int) by omega),decide_eq_false (show ¬ (8:Int)≤(P.length:Int) by omega)]
    exact ⟨_,_,Wk.refl _,hwf.weak,rfl,rfl⟩
  simp (maxSteps:=3000000) only [go_sem,↓reduceIte,bs_len,decide_eq_true (show (2:Int)≤(P.length:Int) by omega),bs_take,allSz_bs']
  repeat (apply And.intro; focus (first | omega | (simp; done)))
  refine Cal.mk (n0 _) ?_
  rintro _ _ ⟨rfl,rfl⟩ -
  by_cases c1:numL (P.take 2) < 12
  · have e:earlyL P=12:=by unfold earlyL; rw [if_pos ⟨h2,.inl c1⟩]
    rw [e]
    simp (maxSteps:=3000000) only [go_sem,↓reduceIte,decide_eq_true c1]
    exact ⟨_,_,Wk.refl _,hwf.weak,rfl,rfl⟩
  by_cases c2:220 < numL (P.take 2)
  · have e:earlyL P=12:=by unfold earlyL; rw [if_pos ⟨h2,.inr c2⟩]
    rw [e]
    simp (maxSteps:=3000000) only [go_sem,↓reduceIte,decide_eq_false c1,decide_eq_true c2]
    exact ⟨_,_,Wk.refl _,hwf.weak,rfl,rfl⟩
  by_cases h4:4≤P.length
  case neg =>
    have e:earlyL P=0:=by unfold earlyL; rw [if_neg (by omega),if_neg (by omega),if_neg (by omega)]
    rw [e]
    simp (maxSteps:=3000000) only [go_sem,↓reduceIte,bs_len,decide_eq_false c1,decide_eq_false c2,decide_eq_false (show ¬ (4:Int)≤(P.length:Int) by omega),decide_eq_false (show ¬ (8:Int)≤(P.length:Int) by omega)]
    exact ⟨_,_,Wk.refl _,hwf.weak,rfl,rfl⟩
  simp (maxSteps:=3000000) only [go_sem,↓reduceIte,bs_len,decide_eq_false c1,decide_eq_false c2,decide_eq_true (show (4:Int)≤(P.length:Int) by omega),bs_take,bs_drop,allSz_bs',e24]
  repeat (apply And.intro; focus (first | omega | (simp; done)))
  refine Cal.mk (n2 _) ?_
  rintro _ _ ⟨rfl,rfl⟩ -
  by_cases c3:numL ((P.drop 2).take 2)=1
  case neg =>
    have e:earlyL P=141:=by unfold earlyL; rw [if_neg (by omega),if_pos ⟨h4,c3⟩]
    rw [e]
    simp (maxSteps:=3000000) only [go_sem,↓reduceIte,decide_eq_true c3]
    exact ⟨_,_,Wk.refl _,hwf.weak,rfl,rfl⟩
  have c3':=decide_eq_false (show ¬ ¬ numL ((P.drop 2).take 2)=1 from fun h=>h c3)
  by_cases h8:8≤P.length
  case neg =>
    have e:earlyL P=0:=by unfold earlyL; rw [if_neg (by omega),if_neg (by omega),if_neg (by omega)]
    rw [e]
    simp (maxSteps:=3000000) only [go_sem,↓reduceIte,bs_len,c3',decide_eq_false (show ¬ (8:Int)≤(P.length:Int) by omega)]
    exact ⟨_,_,Wk.refl _,hwf.weak,rfl,rfl⟩
  simp (maxSteps:=3000000) only [go_sem,↓reduceIte,bs_len,c3',decide_eq_true (show (8:Int)≤(P.length:Int) by omega),bs_take,bs_drop,allSz_bs',e48]
  repeat (apply And.intro; focus (first | omega | (simp; done)))
  refine Cal.mk (n4 _) ?_
  rintro _ _ ⟨rfl,rfl⟩ -
  by_cases c4:numL ((P.drop 4).take 4)=439041101
  case neg =>
    have e:earlyL P=140:=by unfold earlyL; rw [if_neg (by omega),if_neg (by omega),if_pos ⟨h8,c4⟩]
    rw [e]
    simp (maxSteps:=3000000) only [go_sem,↓reduceIte,decide_eq_true c4]
    exact ⟨_,_,Wk.refl _,hwf.weak,rfl,rfl⟩
  have e:earlyL P=0:=by unfold earlyL; rw [if_neg (by omega),if_neg (by omega),if_neg (by omega)]
  rw [e]
  simp (maxSteps:=3000000) only [go_sem,↓reduceIte,decide_eq_false (show ¬ ¬ numL ((P.drop 4).take 4)=439041101 from fun h=>h c4)]
  exact ⟨_,_,Wk.refl _,hwf.weak,rfl,rfl⟩
end
end
section
open Go
theorem New.put {st s:St} {r:V} {d:Nat} {cs:List V} (h:New st s r) (hd:s.sz≤d):New st (s.put d cs) r :=
  ⟨weak_put h.weak (by have:=h.weak.sz; omega),h.lt.put,h.tok⟩
theorem Wk.tup3 {a a':V} {x y:Value} (h:Wk a a'):Wk (.tup [a,.sc x,.sc y]) (.tup [a',.sc x,.sc y]):=fun G v hv=>by
  cases hv with
  | tup _ vs hl hg =>
    refine .tup _ vs hl fun i c u hc hu=>?_
    match i,hc with
    | 0,hc=>simp at hc; subst hc; exact h _ _ (hg 0 _ u rfl hu)
    | 1,hc=>simp at hc; subst hc; exact hg 1 _ u rfl hu
    | 2,hc=>simp at hc; subst hc; exact hg 2 _ u rfl hu
def slen:V→Nat
  | .sl _ l=>l.length
  | _=>0
theorem slen_bs {tk:Tk} (L:List Int):slen (.sl tk (bs L))=L.length:=bs_len L
section
variable {tk:Tk} {st:St} {P:List Int}
theorem rAll_v (hB:IsB P) (hl:P.length≤1100000):VCalls Tryz.prog 4 [.sl tk (bs P)] st fun r st'=>r=.tup [.sl .no (mv (scan P).1),.sc (.int .i64 (scan P).2.1.length),.sc (.int .i64 (scan P).2.2)]∧st=st':=by
  refine vcalls_enter vc4 (Nat.le_of_ble_eq_true rfl) fun hwf hok=>?_
  show Run _ Vc4.body (.fin (finQ Vc4.res _)) _ _
  unfold Vc4 zm zn zo
  obtain ⟨S,hS⟩:∃ S,scan P=S:=⟨_,rfl⟩
  rw [hS]
  simp (maxSteps:=3000000) only [go_sem]
  refine run_loop [0,2,3,4,5,6,7,8,9,10,11,12,13,14,15,16,17,18,19,20,21,22,23,24,25,26,27,28,29,30,31,32,33,34,35,36,37,38,39,40,41,42,43,44,45,46,47,48,49,50,51,52,53,54] (fun B s=>∃ (P':List Int) (ms:List MB) (tk':Tk),B 0=.sl tk' (bs P')∧IsB P'∧P'.length + 12 * ms.length≤P.length∧Own 13 s (B 5) (mv ms)∧New st s (B 5)∧(∀ m ∈ ms,Sz m)∧S=(ms ++ (scan P').1,(scan P').2)) (fun B _=>slen (B 0)) rfl ?_ ?_
  · simp (maxSteps:=3000000) only [go_sem,↓reduceIte]
    exact ⟨P,[],tk,rfl,hB,by simp,.inl ⟨rfl,rfl⟩,.nil hwf.weak hwf.lt,(by intro m hm; cases hm),by rw [← hS]; rfl⟩
  · rintro B s ⟨P',ms,tk',h0,hB',hlen,ho,hn,hms,hs⟩
    obtain ⟨tk5,h5⟩:=ho.sl
    rw [h5] at ho hn
    have hbs:=slen_bs (tk:=tk') P'
    simp (maxSteps:=3000000) only [go_sem,↓reduceIte,h0]
    refine Cal.mk (rEarly_v hB' (by omega)) ?_
    rintro _ _ ⟨rfl,rfl⟩ -
    by_cases c1:earlyL P'=0
    case neg =>
      rw [scan_err c1,List.append_nil] at hs
      rw [hs]
      simp (maxSteps:=3000000) only [go_sem,↓reduceIte,h0,h5,bs_len,decide_eq_true c1]
      exact ⟨_,_,Wk.tup3 Wk.no,hn.weak,rfl,rfl⟩
    have c1':=decide_eq_false (show ¬ ¬ earlyL P'=0 from fun h=>h c1)
    by_cases c2:P'.length < 2
    · rw [scan_short c1 (by omega),List.append_nil] at hs
      rw [hs]
      simp (maxSteps:=3000000) only [go_sem,↓reduceIte,h0,h5,bs_len,c1',decide_eq_true (show (P'.length:Int) < 2 by omega)]
      exact ⟨_,_,Wk.tup3 Wk.no,hn.weak,rfl,rfl⟩
    have hsz:=early_size c1 (by omega)
    have r0:=num2_rng0 hB'
    simp (maxSteps:=3000000) only [go_sem,↓reduceIte,h0,bs_len,c1',decide_eq_false (show ¬ (P'.length:Int) < 2 by omega),bs_take,allSz_bs']
    repeat (apply And.intro; focus (first | omega | (simp; done)))
    refine Cal.mk (rNum_v (hB'.take _) (by simp; omega)) ?_
    rintro _ _ ⟨rfl,rfl⟩ -
    by_cases c3:(P'.length:Int) < numL (P'.take 2)
    · rw [scan_short c1 (by omega),List.append_nil] at hs
      rw [hs]
      simp (maxSteps:=3000000) only [go_sem,↓reduceIte,h0,h5,bs_len,decide_eq_true c3]
      repeat (apply And.intro; focus (first | omega | (simp; done)))
      exact ⟨_,_,Wk.tup3 Wk.no,hn.weak,rfl,rfl⟩
    have hnot:¬ (P'.length < 12 ∨ (P'.length:Int) < numL (P'.take 2)):=by omega
    obtain ⟨b1,b2,b3⟩:=size_bound c1 hnot
    have hnz:numL (P'.take 2)=(sizeP P':Int):=by unfold sizeP; omega
    have hszm:=parseM_sz (hB'.take (sizeP P')) (by simp; omega)
    have hC13:(parseM (P'.take (sizeP P'))).1.cells.length=13:=MB.len hszm.1 hszm.2
    have htk:(parseM (P'.take (sizeP P'))).1.cells.take 13=(parseM (P'.take (sizeP P'))).1.cells:=List.take_of_length_le (by omega)
    have hstr:=MB.strip (parseM (P'.take (sizeP P'))).1
    have hv:(parseM (P'.take (sizeP P'))).1.v=.agg (parseM (P'.take (sizeP P'))).1.cells:=rfl
    have hpp:=fun st:St=>refParse_v (tk:=.no) (st:=st) (hB'.take (sizeP P')) (by simp; omega)
    rw [hnz] at c3 ⊢
    generalize hM:(parseM (P'.take (sizeP P'))).1=M at *
    generalize hE:(parseM (P'.take (sizeP P'))).2=E at *
    rw [hv] at hpp
    generalize hC:M.cells=C at *
    have hdr:C.drop 13=[]:=List.drop_of_length_le (by omega)
    simp (maxSteps:=3000000) only [go_sem,↓reduceIte,h0,bs_len,decide_eq_false c3,bs_take,allSz_bs']
    repeat (apply And.intro; focus (first | omega | (simp; done)))
    refine Cal.mk (hpp _) ?_
    rintro _ _ ⟨rfl,rfl⟩ -
    simp (maxSteps:=3000000) only [go_sem,↓reduceIte]
    intro d hd
    by_cases c4:E=0
    case neg =>
      rw [scan_bad c1 hnot (by rw [hE]; exact c4),List.append_nil,hE] at hs
      rw [hs]
      simp (maxSteps:=3000000) only [go_sem,↓reduceIte,h0,h5,bs_len,hC13,decide_eq_true c4]
      exact ⟨_,_,Wk.tup3 Wk.no,weak_put hn.weak (by have:=hn.weak.sz; omega),rfl,rfl⟩
    have hn2:=hn.put (cs:=C) hd
    have ho2:Own 13 (s.put d C) (.sl tk5 (mv ms)) (mv ms):=ho.put
    have hmo:=eq_true (mono_len (cs:=C) (by omega))
    simp (maxSteps:=3000000) only [go_sem,↓reduceIte,h5,hC13,htk,hstr,hmo,decide_eq_false (show ¬ ¬ E=0 from fun h=>h c4)]
    repeat (apply And.intro; focus (first | omega | (simp; done)))
    refine App.mk (l:=mv ms) ho2 (ys:=[V.agg C]) (by intro x hx; simp at hx; subst hx; exact hC13) (by rw [mv_len]; simp [maxLen]; omega) (by rw [mv_len]; simp; omega) ?_
    intro r1 s1 k1 k2
    have k1':Own 13 s1 r1 (mv (ms ++ [M])):=by
      rw [← mv_append]
      have:mv [M]=[V.agg C]:=by rw [← hC]; rfl
      rw [this]; exact k1
    rw [scan_cons c1 hnot (by rw [hE]; exact c4),hM] at hs
    simp (maxSteps:=3000000) only [go_sem,↓reduceIte,h0,bs_len,bs_drop,allSz_bs',slen_bs,hbs]
    repeat (apply And.intro; focus (first | omega | (simp; done)))
    refine ⟨⟨P'.drop (sizeP P'),ms ++ [M],.no,rfl,hB'.drop _,by simp; omega,k1',hn2.app k2,?_,by rw [hs]; simp⟩,?_⟩
    · intro m hm
      rcases List.mem_append.1 hm with hm | hm
      · exact hms m hm
      · simp at hm; subst hm; exact hszm
    · simp; omega
end
end
section
open Go
def Dj (x y:V):Prop:=∀ g k l k' l',x=.sl (.own g k) l→y=.sl (.own g k') l'→False
theorem Dj.symm {x y:V} (h:Dj x y):Dj y x:=fun g k l k' l' e e'=>h g k' l' k l e' e
theorem Dj.nil (y:V):Dj (.sl .nil []) y:=fun g k l k' l' e _=>by cases e
theorem Own.tlt {size:Nat} {st:St} {y:V} {l:List V} (h:Own size st y l):∀ g k l',y=.sl (.own g k) l'→g < st.sz∧∃ m,st.own g=some m:=fun g k l' e=>by
  rcases h with ⟨rfl,_⟩ | ⟨g',rfl,h1,h2⟩
  · cases e
  · cases e; exact ⟨h2,_,h1⟩
theorem Own.beside {size:Nat} {st st':St} {x r y:V} {l:List V} (h:Own size st y l) (k:AppSt st x st' r) (hd:Dj x y):Own size st' y l:=by
  rcases h with h | ⟨g,rfl,h1,h2⟩
  · exact .inl h
  · exact .inr ⟨g,rfl,k.own g _ h1 (fun l' k' e=>hd g k' l' size l e rfl),by have:=k.sz; omega⟩
theorem Dj.app {size:Nat} {st st':St} {x r y:V} {l:List V} (h:Dj x y) (ho:Own size st y l) (k:AppSt st x st' r):Dj r y:=fun g k1 l1 k2 l2 e e'=>by
  rcases k.tok g k1 l1 e with ⟨l',e2⟩ | h2
  · exact h g k1 l' k2 l2 e2 e'
  · have:=(ho.tlt g k2 l2 e').1; omega
structure Fed (st st':St) (c:Nat) (x x':V):Prop where
  box:∀ b cs,b ≠ c→st.box b=some cs→st'.box b=some cs
  own:∀ g m,st.own g=some m→(∀ k l,x ≠ .sl (.own g k) l)→st'.own g=some m
  sz:st.sz≤st'.sz
  lt:st'.Lt
  tok:∀ g k l,x'=.sl (.own g k) l→(∃ l',x=.sl (.own g k) l') ∨ st.sz≤g
section
variable {st s s':St} {c d:Nat} {x x' y r:V} {cs:List V}
theorem Fed.put (h:Fed st s c x x'):Fed st (s.put c cs) c x x' :=
  ⟨fun b ds hb hx=>by rw [put_box_ne hb]; exact h.box b ds hb hx,h.own,by have:=h.sz; simp only [put_sz]; omega,h.lt.put,h.tok⟩
theorem Fed.putN (h:Fed st s c x x') (hst:st.Lt) (hd:s.sz≤d):Fed st (s.put d cs) c x x' :=
  ⟨fun b ds hb hx=>by rw [put_box_ne (by have:=hst.box b ds hx; have:=h.sz; omega)]; exact h.box b ds hb hx,h.own,by have:=h.sz; simp only [put_sz]; omega,h.lt.put,h.tok⟩
theorem Fed.other (h:Fed st s c x x') (hst:st.Lt) (k:AppSt s y s' r) (hy:∀ g k l,y=.sl (.own g k) l→st.sz≤g):Fed st s' c x x' :=
  ⟨fun b ds hb hx=>by rw [k.box]; exact h.box b ds hb hx,fun g m hg hx=>k.own g m (h.own g m hg hx) (fun l q e=>by have:=hy g q l e; have:=hst.own g m hg; omega),by have:=h.sz; have:=k.sz; omega,h.lt.app k,h.tok⟩
theorem Fed.self (h:Fed st s c x x') (hst:st.Lt) (k:AppSt s x' s' r):Fed st s' c x r:=by
  refine ⟨fun b ds hb hx=>by rw [k.box]; exact h.box b ds hb hx,fun g m hg hx=>k.own g m (h.own g m hg hx) (fun l q e=>?_),by have:=h.sz; have:=k.sz; omega,h.lt.app k,fun g q l e=>?_⟩
  · rcases h.tok g q l e with ⟨l',e'⟩ | h2
    · exact hx q l' e'
    · have:=hst.own g m hg; omega
  · rcases k.tok g q l e with ⟨l',e'⟩ | h2
    · exact h.tok g q l' e'
    · exact .inr (by have:=h.sz; omega)
theorem Fed.fresh (h:Fed st s c x x') (hst:st.Lt) (k:AppSt s (.sl .nil []) s' r):Fed st s' c x r :=
  ⟨fun b ds hb hx=>by rw [k.box]; exact h.box b ds hb hx,fun g m hg hx=>k.own g m (h.own g m hg hx) (fun l q e=>by cases e),by have:=h.sz; have:=k.sz; omega,h.lt.app k,fun g q l e=>by
    rcases k.tok g q l e with ⟨l',e'⟩ | h2
    · cases e'
    · exact .inr (by have:=h.sz; omega)⟩
theorem Fed.start (h:st.Lt):Fed st st c x x:=⟨fun _ _ _ h=>h,fun _ _ h _=>h,Nat.le_refl _,h,fun g k l e=>.inl ⟨l,e⟩⟩
end
section
variable {tk:Tk} {st:St} {P L:List Int} {x:V} {c:Nat} {why many:Int}
end
end
section
open Go
def bxlw (c:Nat) (s:St):Nat:=match s.box c with
  | some (_ :: _ :: v :: _)=>slen v
  | _=>0
theorem bxlw_put {c:Nat} {s:St} {tk:Tk} {L:List Int} {cs:List V} {a0 a1:V} (h:s.box c=some (a0 :: a1 :: .sl tk (bs L) :: cs)):bxlw c s=L.length:=by
  unfold bxlw
  rw [h]
  exact slen_bs L
section
variable {tk:Tk} {st:St} {P L:List Int} {x a0 a1 a5 a6 a7 a8 a9 y1 y2:V} {c:Nat} {why many:Int}
set_option maxRecDepth 100000 in
set_option maxHeartbeats 4000000 in
theorem feedW_v (hbox:st.box c=some [a0,a1,x,.sc (.int .i64 0),.sc (.int .i64 many),a5,a6,a7,a8,a9,y1,y2]) (hown:Own 1 st x (bs P)) (hBP:IsB P) (hBL:IsB L) (hl:P.length + L.length≤1000000) (hm:0≤many∧many≤1000000000) :
    VCalls Tryz.prog 106 [.sc (.pointer (some ⟨c,2,none⟩)),.sl tk (bs L)] st fun r st'=>∃ x',st'.box c=some [a0,a1,x',.sc (.int .i64 (scan (P ++ L)).2.2),.sc (.int .i64 (many + (scan (P ++ L)).1.length)),a5,a6,a7,a8,a9,y1,y2]∧Own 1 st' x' (bs (scan (P ++ L)).2.1)∧Fed st st' c x x' ∧
      r=.tup [.sl .no (mv (scan (P ++ L)).1),.sc (.int .i64 (scan (P ++ L)).2.2)]:=by
  refine vcalls_enter vc106 (Nat.le_of_ble_eq_true rfl) fun hwf hok=>?_
  show Run _ Vc106.body (.fin (finQ Vc106.res _)) _ _
  unfold Vc106 zf zg zk zl zm zn zo
  obtain ⟨S,hS⟩:∃ S,scan (P ++ L)=S:=⟨_,rfl⟩
  rw [hS]
  obtain ⟨tk0,hx0⟩:=hown.sl
  have hst:=hwf.lt
  have hcst:=hst.box c _ hbox
  subst hx0
  simp (maxSteps:=3000000) only [go_sem,↓reduceIte,hbox]
  refine App.mk hown (allSz_bs _) (by rw [bs_len,bs_len]; unfold maxLen; omega) (by rw [bs_len,bs_len]; omega) ?_
  intro r1 s1 k1 k2
  rw [bs_append] at k1
  have F1:=(Fed.start (c:=c) (x:=.sl tk0 (bs P)) hst).self hst k2
  have hb1:s1.box c=some [a0,a1,.sl tk0 (bs P),.sc (.int .i64 0),.sc (.int .i64 many),a5,a6,a7,a8,a9,y1,y2]:=by rw [k2.box]; exact hbox
  have o1:=k1.put (b:=c) (cs:=[a0,a1,r1,.sc (.int .i64 0),.sc (.int .i64 many),a5,a6,a7,a8,a9,y1,y2])
  have F2:=F1.put (cs:=[a0,a1,r1,.sc (.int .i64 0),.sc (.int .i64 many),a5,a6,a7,a8,a9,y1,y2])
  obtain ⟨tk1,hx1⟩:=k1.sl
  subst hx1
  simp (maxSteps:=3000000) only [go_sem,↓reduceIte,hb1]
  refine run_loop [4,5,6,7,8,9,28,29,30,31,32,33,34,35,36,37,38,39,40,41,42,43,44,45,46,47,48,49,50,51,52,53,54,55,56,57,58,59,60,61,62,63,64,65,66,67,68,69,70,71,72,73,74,75,76,77,78,79,80,81,82,83,84,85,86,87,88,89,90,91,92,93,94,95,96,97,98,99,100,101,102,103,104,105,106] (fun B s=>∃ (P':List Int) (ms:List MB) (xc:V),s.box c=some [a0,a1,xc,.sc (.int .i64 0),.sc (.int .i64 (many + ms.length)),a5,a6,a7,a8,a9,y1,y2]∧Own 1 s xc (bs P')∧Own 13 s (B 6) (mv ms)∧Fed st s c (.sl tk0 (bs P)) xc∧(∀ g k l,B 6=.sl (.own g k) l→st.sz≤g)∧Dj xc (B 6) ∧
    IsB P'∧P'.length + 12 * ms.length≤P.length + L.length∧(∀ m ∈ ms,Sz m)∧S=(ms ++ (scan P').1,(scan P').2)) (fun B s=>bxlw c s) rfl ?_ ?_
  · simp (maxSteps:=3000000) only [go_sem,↓reduceIte]
    exact ⟨P ++ L,[],_,by simp,o1,.inl ⟨rfl,rfl⟩,F2,(by intro g k l e; cases e),(Dj.nil _).symm,hBP.append hBL,by simp,(by intro m hm; cases hm),by rw [← hS]; rfl⟩
  · rintro B s ⟨P',ms,xc,hbx,ho,h6o,hF,h6t,hdj,hB',hlen,hms,hs⟩
    obtain ⟨tk',hx'⟩:=ho.sl
    subst hx'
    obtain ⟨tk6,h6⟩:=h6o.sl
    rw [h6] at h6o h6t hdj
    have hsc:c < s.sz:=hF.lt.box c _ hbx
    have hbl:=bxlw_put hbx
    simp (maxSteps:=3000000) only [go_sem,↓reduceIte,hbx]
    refine Cal.mk (sEarly_v hB' (by omega)) ?_
    rintro _ _ ⟨rfl,rfl⟩ -
    by_cases c1:earlyL P'=0
    case neg =>
      rw [scan_err c1,List.append_nil] at hs
      rw [hs]
      simp (maxSteps:=3000000) only [go_sem,↓reduceIte,hbx,h6,decide_eq_true c1]
      exact ⟨_,_,Wk.tup2' Wk.no,hF.lt.put.weak,_,put_box_same,ho.put,hF.put,rfl⟩
    have c1':=decide_eq_false (show ¬ ¬ earlyL P'=0 from fun h=>h c1)
    rw [c1]
    have r0:=num2_rng0 hB'
    simp (maxSteps:=3000000) only [go_sem,↓reduceIte,hbx]
    refine Cal.mk (Get16_v hB') ?_
    rintro _ _ ⟨rfl,rfl⟩ -
    obtain ⟨g,hg⟩:∃ g,(if P'.length < 2 then (0:Int) else numL (P'.take 2))=g:=⟨_,rfl⟩
    rw [hg]
    have hgr:0≤g∧g < 65536:=by rw [← hg]; split <;> omega
    have hg2:¬ P'.length < 2→g=numL (P'.take 2):=fun h=>by rw [← hg,if_neg h]
    clear hg
    by_cases c2:P'.length < 12
    · rw [scan_short c1 (.inl c2),List.append_nil] at hs
      rw [hs]
      simp (maxSteps:=3000000) only [go_sem,↓reduceIte,h6,bs_len,decide_eq_true (show (P'.length:Int) < 12 by omega)]
      repeat (apply And.intro; focus (first | omega | (simp; done)))
      exact ⟨_,_,Wk.tup2' Wk.no,hF.lt.put.weak,_,put_box_same,ho.put,hF.put,rfl⟩
    have hg3:=hg2 (by omega)
    subst hg3
    have c2':=decide_eq_false (show ¬ (P'.length:Int) < 12 by omega)
    by_cases c3:(P'.length:Int) < numL (P'.take 2)
    · rw [scan_short c1 (.inr c3),List.append_nil] at hs
      rw [hs]
      simp (maxSteps:=3000000) only [go_sem,↓reduceIte,h6,bs_len,c2',decide_eq_true c3]
      repeat (apply And.intro; focus (first | omega | (simp; done)))
      exact ⟨_,_,Wk.tup2' Wk.no,hF.lt.put.weak,_,put_box_same,ho.put,hF.put,rfl⟩
    have hnot:¬ (P'.length < 12 ∨ (P'.length:Int) < numL (P'.take 2)):=by omega
    obtain ⟨b1,b2,b3⟩:=size_bound c1 hnot
    have hnz:numL (P'.take 2)=(sizeP P':Int):=by unfold sizeP; omega
    have hszm:=parseM_sz (hB'.take (sizeP P')) (by simp; omega)
    have hC13:(parseM (P'.take (sizeP P'))).1.cells.length=13:=MB.len hszm.1 hszm.2
    have htk:(parseM (P'.take (sizeP P'))).1.cells.take 13=(parseM (P'.take (sizeP P'))).1.cells:=List.take_of_length_le (by omega)
    have hstr:=MB.strip (parseM (P'.take (sizeP P'))).1
    have hv:(parseM (P'.take (sizeP P'))).1.v=.agg (parseM (P'.take (sizeP P'))).1.cells:=rfl
    have hpp:=fun st:St=>parse_v (tk:=.no) (st:=st) (hB'.take (sizeP P')) (by simp; omega)
    rw [hnz] at c3 ⊢
    have hcons:=scan_cons c1 hnot
    have hbad:=scan_bad c1 hnot
    generalize hM:(parseM (P'.take (sizeP P'))).1=M at *
    generalize hE:(parseM (P'.take (sizeP P'))).2=E at *
    rw [hv] at hpp
    generalize hC:M.cells=C at *
    have hdr:C.drop 13=[]:=List.drop_of_length_le (by omega)
    simp (maxSteps:=3000000) only [go_sem,↓reduceIte,bs_len,c2',decide_eq_false c3,bs_take,allSz_bs']
    repeat (apply And.intro; focus (first | omega | (simp; done)))
    refine Cal.mk (hpp _) ?_
    rintro _ _ ⟨rfl,rfl⟩ -
    simp (maxSteps:=3000000) only [go_sem,↓reduceIte]
    intro d hd
    obtain ⟨hd1,hcd⟩:s.sz≤d∧c < d:=by first | omega | (simp only [put_sz] at hd; omega)
    clear hd
    by_cases c4:E=0
    case neg =>
      have hb2:=hbad c4
      rw [hb2,List.append_nil] at hs
      rw [hs]
      simp (maxSteps:=3000000) only [go_sem,↓reduceIte,h6,hC13,decide_eq_true c4,put_box_ne (Nat.ne_of_lt hcd)]
      exact ⟨_,_,Wk.tup2' Wk.no,((hF.put.putN hst (by simp only [put_sz]; omega)).put).lt.weak,_,put_box_same,ho.put.put.put,(hF.put.putN hst (by simp only [put_sz]; omega)).put,rfl⟩
    have F3:=(hF.put (cs:=[a0,a1,.sl tk' (bs P'),.sc (.int .i64 0),.sc (.int .i64 (many + ms.length)),a5,a6,a7,a8,a9,y1,y2])).putN (d:=d) (cs:=C) hst (by simp only [put_sz]; omega)
    have o3:=(ho.put (b:=c) (cs:=[a0,a1,.sl tk' (bs P'),.sc (.int .i64 0),.sc (.int .i64 (many + ms.length)),a5,a6,a7,a8,a9,y1,y2])).put (b:=d) (cs:=C)
    have p3:Own 13 ((s.put c [a0,a1,.sl tk' (bs P'),.sc (.int .i64 0),.sc (.int .i64 (many + ms.length)),a5,a6,a7,a8,a9,y1,y2]).put d C) (.sl tk6 (mv ms)) (mv ms):=h6o.put.put
    have hmo:=eq_true (mono_len (cs:=C) (by omega))
    simp (maxSteps:=3000000) only [go_sem,↓reduceIte,h6,hC13,htk,hstr,hmo,decide_eq_false (show ¬ ¬ E=0 from fun h=>h c4)]
    repeat (apply And.intro; focus (first | omega | (simp; done)))
    refine App.mk (l:=mv ms) p3 (ys:=[V.agg C]) (by intro x hx; simp at hx; subst hx; exact hC13) (by rw [mv_len]; simp [maxLen]; omega) (by rw [mv_len]; simp; omega) ?_
    intro r6 s6 k1 k2
    have k1':Own 13 s6 r6 (mv (ms ++ [M])):=by
      rw [← mv_append]
      have:mv [M]=[V.agg C]:=by rw [← hC]; rfl
      rw [this]; exact k1
    have F4:=F3.other hst k2 h6t
    have o4:=o3.beside k2 hdj.symm
    have hb4:s6.box c=some [a0,a1,.sl tk' (bs P'),.sc (.int .i64 0),.sc (.int .i64 (many + ms.length)),a5,a6,a7,a8,a9,y1,y2]:=by rw [k2.box,put_box_ne (Nat.ne_of_lt hcd)]; exact put_box_same
    have d4:Dj r6 (.sl tk' (bs P')):=hdj.symm.app o3 k2
    have t4:∀ g k l,r6=.sl (.own g k) l→st.sz≤g:=k2.fresh (by have:=F3.sz; omega) h6t
    rw [hcons c4] at hs
    have o5:=o4.put (b:=c) (cs:=[a0,a1,.sl tk' (bs P'),.sc (.int .i64 0),.sc (.int .i64 (many + ms.length + 1)),a5,a6,a7,a8,a9,y1,y2])
    have p5:=k1'.put (b:=c) (cs:=[a0,a1,.sl tk' (bs P'),.sc (.int .i64 0),.sc (.int .i64 (many + ms.length + 1)),a5,a6,a7,a8,a9,y1,y2])
    have F5:=F4.put (cs:=[a0,a1,.sl tk' (bs P'),.sc (.int .i64 0),.sc (.int .i64 (many + ms.length + 1)),a5,a6,a7,a8,a9,y1,y2])
    simp (maxSteps:=3000000) only [go_sem,↓reduceIte,hb4,bs_len,bs_drop,allSz_bs']
    repeat (apply And.intro; focus (first | omega | (simp; done)))
    refine App.mk (l:=[]) Own.nil (ys:=bs (P'.drop (sizeP P'))) (allSz_bs _) (by simp [bs_len,maxLen]; omega) (by simp [bs_len]; omega) ?_
    intro r7 s7 k3 k4
    rw [List.nil_append] at k3
    have F6:=F5.fresh hst k4
    have p7:Own 13 s7 r6 (mv (ms ++ [M])):=p5.beside k4 (Dj.nil _)
    have hb7:s7.box c=some [a0,a1,.sl tk' (bs P'),.sc (.int .i64 0),.sc (.int .i64 (many + ms.length + 1)),a5,a6,a7,a8,a9,y1,y2]:=by rw [k4.box]; exact put_box_same
    have d7:Dj r7 r6:=(Dj.nil r6).app p5 k4
    obtain ⟨tk7,h7⟩:=k3.sl
    subst h7
    have hbl7:bxlw c (s7.put c [a0,a1,.sl tk7 (bs (P'.drop (sizeP P'))),.sc (.int .i64 0),.sc (.int .i64 (many + ms.length + 1)),a5,a6,a7,a8,a9,y1,y2])=(P'.drop (sizeP P')).length:=bxlw_put put_box_same
    simp (maxSteps:=3000000) only [go_sem,↓reduceIte,hb7,hbl7,hbl]
    repeat (apply And.intro; focus (first | omega | (simp; done)))
    refine ⟨⟨P'.drop (sizeP P'),ms ++ [M],_,?_,k3.put,p7.put,F6.put,t4,d7,hB'.drop _,by simp; omega,?_,by rw [hs]; simp⟩,?_⟩
    · simp [Int.add_assoc]
    · intro m hm
      rcases List.mem_append.1 hm with hm | hm
      · exact hms m hm
      · simp at hm; subst hm; exact hszm
    · simp; omega
end
end
section
namespace Ev
open Go Go.Proofs Go.Proofs.YtnjmddlgpcnpeaaGreat
theorem parseM_err {L:List Int}:0≤(parseM L).2∧(parseM L).2 < 1000:=by
  unfold parseM
  repeat' split
  all_goals first | exact ⟨(by decide:(0:Int)≤10),(by decide:(10:Int) < 1000)⟩ | exact ⟨(by decide:(0:Int)≤140),(by decide:(140:Int) < 1000)⟩ | exact ⟨(by decide:(0:Int)≤141),(by decide:(141:Int) < 1000)⟩ | exact ⟨(by decide:(0:Int)≤12),(by decide:(12:Int) < 1000)⟩ | exact ⟨(by decide:(0:Int)≤0),(by decide:(0:Int) < 1000)⟩ | (constructor <;> decide)
theorem early_err {L:List Int}:0≤earlyL L∧earlyL L < 1000:=by
  unfold earlyL
  repeat' split
  all_goals (constructor <;> decide)
theorem scan_one {L:List Int} (h:(scan L).1=[]):0≤(scan L).2.2∧(scan L).2.2 < 1000:=by
  by_cases h1:earlyL L=0
  · by_cases h2:L.length < 12 ∨ (L.length:Int) < numL (L.take 2)
    · rw [scan_short h1 h2]; exact ⟨(by decide:(0:Int)≤0),(by decide:(0:Int) < 1000)⟩
    · by_cases h3:(parseM (L.take (sizeP L))).2=0
      · rw [scan_cons h1 h2 h3] at h; cases h
      · rw [scan_bad h1 h2 h3]; exact parseM_err
  · rw [scan_err h1]; exact early_err
section
variable {s0:S0} {st:St} {ρ:Rn} {H H2:Hp} {r:W}
theorem sy_self {k:IntKind} {i c:Nat} {ne:List Int} (h:ρ i=some c) (hb:c < 2 ^ 32) (hn:∀ n ∈ ne,(c:Int) ≠ n):R ρ (.sy k i 0 32 0 ne) (.sc (.int k (c:Int))):=by
  have:=R.sy (ρ:=ρ) k i 0 32 0 ne c h hb hn
  have e:c / 2 ^ 0 % 2 ^ 32 * 2 ^ 0=c:=by rw [Nat.pow_zero,Nat.div_one,Nat.mul_one,Nat.mod_eq_of_lt hb]
  rwa [e] at this
theorem bi_okw {c:Bool} {x:Ro} {l:List Nat} (h:bi c x (.bad l)=.ok r H2):c=true∧x=.ok r H2:=by
  cases c with
  | false=>cases h
  | true=>exact ⟨rfl,h⟩
theorem hfeed_ok {args:List W} (h:hfeed args H=.ok r H2):∃ i,args=[.ptr i 2,.opq 1]∧hfeed2 i H (H.get i)=.ok r H2:=by
  unfold hfeed at h
  split at h
  · exact ⟨_,rfl,h⟩
  · cases h
theorem hfeed2_ok {i:Nat} {x:Bx} (h:hfeed2 i H x=.ok r H2):∃ (m:Nat) (w0 w1 w5 w6 w7 w8 w9 w10 w11:W),x=.cells none [w0,w1,.sl .nil [],.int .i64 (.ofNat 0),.int .i64 (.ofNat m),w5,w6,w7,w8,w9,w10,w11]∧m≤1000∧H2=H.up i (.cells none [w0,w1,.any,.sy .i64 2 0 32 0 [0],.int .i64 (.ofNat m),w5,w6,w7,w8,w9,w10,w11])∧r=.tup [.sl .no [],.sy .i64 2 0 32 0 [0]]:=by
  unfold hfeed2 at h
  split at h
  · obtain ⟨hm1,h⟩:=bi_okw h
    have hm1:=ble_t hm1
    rw [Hp.put_eq] at h
    cases h
    exact ⟨_,_,_,_,_,_,_,_,_,_,rfl,hm1,rfl,rfl⟩
  · cases h
theorem hfeed_R {c1 e:Nat} (h1:s0.g 1=some c1) (h2:s0.g 2=some e) (hB:IsB (decB c1)) (hl:(decB c1).length≤300) (hm:(scan (decB c1)).1=[]) (he:(scan (decB c1)).2.2=(e:Int)) (hne:e ≠ 0) :
    CallR Tryz.prog s0 fun f args H=>if f=106 then bi (isOpq args) (hfeed args H) (.bad []) else .bad []:=by
  intro f args H r H2 h
  have h:(if f=106 then bi (isOpq args) (hfeed args H) (.bad []) else .bad [])=Ro.ok r H2:=h
  by_cases hf:f=106
  · subst hf
    rw [if_pos rfl] at h
    refine ⟨by kernel_rfl,fun ρ st vs hS hv=>?_⟩
    obtain ⟨-,h⟩:=bi_okw h
    obtain ⟨i,rfl,h⟩:=hfeed_ok h
    obtain ⟨m,w0,w1,w5,w6,w7,w8,w9,w10,w11,hg,hm1,rfl,rfl⟩:=hfeed2_ok h
    obtain ⟨_,_,rfl,r1,hv⟩:=hv.cons_inv
    obtain ⟨_,_,rfl,r2,hv⟩:=hv.cons_inv
    obtain rfl:=hv.nil_inv
    obtain ⟨b,hi,rfl⟩:=r1.ptr_inv
    cases r2 with
    | opq _ c hc hcl hcb =>
    have hc1:=hS.gh 1 c1 h1
    rw [hc] at hc1
    cases hc1
    have hx:=hS.bx i b hi
    rw [hg] at hx
    obtain ⟨-,-,cs,hcs,hR⟩:=hx
    cases hR with
    | cells _ _ vs sp hv hmo hsp =>
      have hsp:sp=[]:=hsp
      subst hsp
      obtain ⟨a0,_,rfl,p0,hv⟩:=hv.cons_inv
      obtain ⟨a1,_,rfl,p1,hv⟩:=hv.cons_inv
      obtain ⟨_,_,rfl,q1,hv⟩:=hv.cons_inv
      obtain ⟨_,_,rfl,q2,hv⟩:=hv.cons_inv
      obtain ⟨_,_,rfl,q3,hv⟩:=hv.cons_inv
      obtain ⟨a5,_,rfl,p5,hv⟩:=hv.cons_inv
      obtain ⟨a6,_,rfl,p6,hv⟩:=hv.cons_inv
      obtain ⟨a7,_,rfl,p7,hv⟩:=hv.cons_inv
      obtain ⟨a8,_,rfl,p8,hv⟩:=hv.cons_inv
      obtain ⟨a9,_,rfl,p9,hv⟩:=hv.cons_inv
      obtain ⟨a10,_,rfl,p10,hv⟩:=hv.cons_inv
      obtain ⟨a11,_,rfl,p11,hv⟩:=hv.cons_inv
      obtain rfl:=hv.nil_inv
      obtain ⟨t,l,rfl,ht,hl0⟩:=q1.sl_inv
      obtain rfl:=hl0.nil_inv
      cases ht
      cases q2.int_inv
      cases q3.int_inv
      have hbox:st.box b=some [a0,a1,.sl .nil [],.sc (.int .i64 0),.sc (.int .i64 (m:Int)),a5,a6,a7,a8,a9,a10,a11]:=hcs
      refine (feedW_v (P:=[]) (L:=decB c1) (tk:=.no) hbox Own.nil isB_nil hB (by simp; omega) (by omega)).mono fun v s ⟨x',k1,_,k3,k4⟩=>?_
      rw [List.nil_append,hm,he] at k1 k4
      have hs2:=hS.gh 2 e h2
      have hb:e < 2 ^ 32:=by
        have:=(scan_one hm).2
        rw [he] at this
        omega
      have hsy:R ρ (.sy .i64 2 0 32 0 [0]) (.sc (.int .i64 (e:Int))):=sy_self hs2 hb (fun n hn=>by
        simp only [List.mem_cons,List.not_mem_nil,or_false] at hn
        subst hn; omega)
      refine ⟨ρ,Rn.rfl',hS.turn hi (by rw [hg]; rfl) rfl (fun c ds hc hd=>k3.box c ds hc hd) (fun g q hq=>k3.own g q hq fun k l e=>by cases e) k3.sz k3.lt k1 ?_,?_⟩
      · have hmm:(m:Int) + (([]:List MB).length:Nat)=(m:Int):=by simp
        rw [hmm]
        exact RB.cells none [w0,w1,.any,.sy .i64 2 0 32 0 [0],.int .i64 (.ofNat m),w5,w6,w7,w8,w9,w10,w11] [a0,a1,x',.sc (.int .i64 (e:Int)),.sc (.int .i64 (m:Int)),a5,a6,a7,a8,a9,a10,a11] [] (.cons p0 (.cons p1 (.cons (.any _) (.cons hsy (.cons (.int _ _) (.cons p5 (.cons p6 (.cons p7 (.cons p8 (.cons p9 (.cons p10 (.cons p11 .nil)))))))))))) (by rw [List.append_nil]; exact mono_len (by simp)) rfl
      · rw [k4]
        exact (RL.cons (RL.nil.mkSl .no) (.cons hsy .nil)).mkTup
  · rw [if_neg hf] at h; cases h
end
end Ev
end
end Go.Proofs.YtnjmddlgpcnpeaaGreat
