/- Steps of the proof, joined: VFr, VIpLaw, VLopt1, VLopt2, VLopt3, VIopt, VIopt2, VLopt4, VNeg2, VNeg3, VNeg4, VNeg5, VNeg6, VLcp1, VLcp2, VLcpLaw2, VRef1, VR15, VLcp3, VLp1, VIp1. -/
import Derived.Test.YtcoalhgmlbhhmaaGreatZwa
import Derived.Test.YtcoalhgmlbhhmaaGreatPc
import Derived.Test.YtcoalhgmlbhhmaaGreatVc
namespace Go.Proofs.YtcoalhgmlbhhmaaGreat
open Go
attribute [local go_sem] run_skip run_reg run_seq run_blk run_exit run_ret run_cond if_true if_false at_code_n at_code_x at_code_r at_blk_n at_blk_x at_blk_r at_rnd_n at_rnd_x at_rnd_r at_fin_n at_fin_r ops_nil ops_grd grd_und grd_tt grd_ff grd_tf grd_ft ops_mv ops_pick ops_bin ops_un ops_binb ops_eqs ops_isnil ops_pnil ops_b2s ops_s2b ops_b2sB ops_s2a ops_slcA ops_aidx vaidx vb2sB vs2a vslcA ops_sidx vs2b vsidx srcX ops_appx apx_mk ops_mks ops_mko mks_int mko_int vbinb veqs visnil vpnil vb2s ops_conv ops_fld ops_ix ops_ixa ops_load ops_nilck ops_ext ops_len ops_slen ops_mn ops_mx ops_bld ops_bsl ops_slc ops_sslc ops_box ops_alc ops_alcX ops_boxX ops_bslo ops_store ops_app ops_call ev_t ev_c put_get put_none opv_mk stb_some sto_ptr over_get rel_mk vnat Bx Stp vbld vbsl put_box_same put_box_ne put_sz put_own use_box use_sz put_put args0 List.getD_cons_zero List.getD_cons_succ List.getD_nil vpick vbin vbinI vbinS vun vconv norm vfld vnil vlen vslen vext vmm vix vixa vload takeV takeB mono_nil mono_two mono_sc mono_any mono_und mono_sl mono_agg mono_ep vmlk vmlen vmnil vent vmfn allSc vslc3 kOk fitsV ops_mlk ops_mlen ops_mnil ops_ent ops_mfn ops_slc3 ops_mkm ops_mup mup_map mub_some ops_mdel mdl_nil mdl_map mdb_some ops_rng rng_none rng_map rgb_some ops_nxt ops_ment met_map meb_some ops_est est_map esb_some ops_clr clr_nil clr_box clb_some ops_calv clv_func vslc vsslc fillV splice V.cells strip strip1 allLen ptrV obsOk shAmt IntKind.bits List.map_cons List.map_nil List.length_cons List.length_nil List.getElem?_cons_zero List.getElem?_cons_succ List.take_succ_cons List.take_zero List.drop_succ_cons List.drop_zero List.cons_append List.nil_append List.append_nil List.take_nil List.drop_nil Option.map_some Option.map_none and_true true_and Int.toNat_natCast Nat.min_def Nat.zero_add Nat.add_zero Nat.zero_mul Nat.mul_one Nat.one_mul vret rvAll rvVal resv_1 resv_2 decide_true decide_false Int.lt_irrefl Bool.not_true Bool.not_false ne_eq not_true_eq_false not_false_eq_true eq_self Bool.true_eq_false Bool.false_eq_true List.contains_cons List.contains_nil Bool.false_or Bool.true_or Bool.or_false Bool.or_true List.mem_cons List.not_mem_nil or_false or_true true_or false_or mono_bs ops_aidxn vaidxn ops_fv vfv ops_mki vmki ops_inv ops_cpy cpy_box cpb_some at_finp_n at_finp_r vretp rpAll rpVal vpv resp_0 resp_1 resp_2 Nat.reduceEqDiff Nat.reduceAdd Nat.reduceMul Nat.reduceSub Nat.reduceLT Nat.reduceLeDiff Int.reduceToNat Int.reduceLE Int.reduceLT Int.reducePow Int.reduceMul Int.reduceAdd Int.reduceSub Int.reduceNeg Int.reduceEq Int.reduceMod Int.reduceDiv Nat.reducePow Nat.reduceMod Nat.reduceDiv reduceCtorEq Nat.reduceBEq
section
open Go
section
variable {st:St} {L D:List Int} {tk:Tk} {proto:Int} {bare short:Bool} {p:Ctl}
set_option maxRecDepth 100000 in
theorem frBuild_v (h0:256≤proto) (h1:proto < 65536) (hD:D.length≤1000000):VCalls Tryz.prog 130 [.agg [.sc (.int .u16 proto),.sl tk (bs D)],.sc (.bool bare),.sc (.bool short)] st fun r s=>r=.sl .no (bs (buildFr proto D bare short))∧st=s:=by
  refine vcalls_enterq pc130 (Nat.le_of_ble_eq_true rfl) rfl fun hwf hok=>?_
  show Run _ Pc130.body (.fin (finP Pc130.res _)) _ _
  unfold Pc130 zg zn zo
  have hlt:=hwf.lt
  obtain ⟨E,hE⟩:∃ E:Bool,E=(!bare || decide (proto=49185)):=⟨_,rfl⟩
  obtain ⟨X,hX⟩:∃ X:List Int,(if E=true then [255,3] else [])=X:=⟨_,rfl⟩
  have hXl:X.length≤2:=by rw [← hX]; split <;> simp
  have e:beL proto 2=[proto / 256 % 256,proto % 256]:=by simp [beL]
  have hY:buildFr proto D bare short=X ++ beL proto 2 ++ D:=by
    unfold buildFr
    rw [e,if_neg (c:=short=true∧proto < 256) (by omega),show proto / 256 % 256=proto / 256 by omega,← hX,hE]
    cases bare <;> by_cases c:proto=49185 <;> simp [c]
  rw [hY]
  have c1:decide (proto < 256)=false:=decide_eq_false (by omega)
  simp (maxSteps:=3000000) only [go_sem,↓reduceIte]
  refine Grd.cut [12,13,14] (fun B=>B 14=.sc (.bool E)) rfl ?_ ?_
  · cases bare <;> · simp (maxSteps:=3000000) only [go_sem,↓reduceIte,at_cut]; rw [hE]; rfl
  · intro B h14
    simp (maxSteps:=3000000) only [go_sem,↓reduceIte,h14]
    refine If.cut [16,17,7] (fun B s=>∃ t,B 7=.sl t (bs X)∧RO 1 st s (.sl t (bs X)) (bs X)) rfl ?_ ?_
    · cases E with
      | false =>
        obtain rfl:([]:List Int)=X:=hX
        simp (maxSteps:=3000000) only [go_sem,↓reduceIte,at_cutk_n]
        exact ⟨_,rfl,RO.nil hwf.weak hlt⟩
      | true =>
        obtain rfl:([255,3]:List Int)=X:=hX
        simp (maxSteps:=3000000) only [go_sem,↓reduceIte]
        refine App.mk (bytes:=1) (l:=[]) (ys:=bs [255,3]) .nil (allSz_bs _) (by simp only [bs_len,List.length_nil,List.length_cons]; unfold maxLen; omega) (by simp only [bs_len,List.length_cons,List.length_nil]; omega) ?_
        intro r2 s2 k1 k2
        have R2:=(RO.nil (size:=1) hwf.weak hlt).app k1 k2
        obtain ⟨t2,rfl⟩:=R2.sl
        simp (maxSteps:=3000000) only [go_sem,↓reduceIte,at_cutk_n]
        exact ⟨t2,rfl,R2⟩
    · rintro B2 s1 ⟨t1,h7,R1⟩
      cases short
      all_goals
        simp (maxSteps:=3000000) only [go_sem,↓reduceIte,h7,c1]
        refine Cal.mk (Put16_v (L:=X) R1.own (by omega) (by omega) h1) ?_
        rintro r2 s2 ⟨k1,k2⟩ -
        rw [← bs_append] at k1
        have R2:=R1.app k1 k2
        rw [bs_append] at R2
        obtain ⟨t2,rfl⟩:=R2.sl
        simp (maxSteps:=3000000) only [go_sem,↓reduceIte]
        refine App.mk (bytes:=1) (ys:=bs D) R2.own (allSz_bs _) (by simp only [bs_len,List.length_append,beL_len]; unfold maxLen; omega) (by simp only [bs_len,List.length_append,beL_len]; omega) ?_
        intro r3 s3 k3 k4
        have R3:=R2.app k3 k4
        rw [bs_append] at R3
        obtain ⟨t3,rfl⟩:=R3.sl
        simp (maxSteps:=3000000) only [go_sem,↓reduceIte]
        exact ⟨_,_,Wk.no,R3.weak,by first | rfl | simp only [List.append_assoc],rfl⟩
set_option maxRecDepth 100000 in
theorem frParse_v (hp:proto=49185 ∨ proto=49699 ∨ proto=32801) (hD:D.length≤1000000) (hDB:IsB D):VCalls Tryz.prog 41 [.sl tk (bs (buildFr proto D false false))] st fun r s=>(∃ t,r=.tup [.agg [.sc (.int .u16 proto),.sl t (bs D)],.sc (.int .i64 0)])∧st=s:=by
  have hr:VCalls Tryz.prog 94 [.sc (.int .u16 proto)] st fun r s=>r=.sc (.bool true)∧st=s:=by
    rcases hp with rfl | rfl | rfl
    all_goals
      refine vcalls_enterq pc94 (Nat.le_of_ble_eq_true rfl) rfl fun hwf hok=>?_
      show Run _ Pc94.body (.fin (finP Pc94.res _)) _ _
      unfold Pc94 zg zo
      simp (maxSteps:=3000000) only [go_sem,↓reduceIte,show ibit .and .u16 49185 1=1 from rfl,show ibit .and .u16 49699 1=1 from rfl,show ibit .and .u16 32801 1=1 from rfl,show ibit .and .u16 192 1=0 from rfl,show ibit .and .u16 194 1=0 from rfl,show ibit .and .u16 128 1=0 from rfl]
      exact ⟨_,_,Wk.refl _,hwf.weak,rfl,rfl⟩
  have hB:∃ hi lo,buildFr proto D false false=255 :: 3 :: hi :: lo :: D∧ibit .and .u16 hi 1=0∧hi * 256 + lo=proto∧0≤hi∧hi < 256∧0≤lo∧lo < 256:=by
    rcases hp with rfl | rfl | rfl
    · exact ⟨192,33,rfl,rfl,rfl,by decide⟩
    · exact ⟨194,35,rfl,rfl,rfl,by decide⟩
    · exact ⟨128,33,rfl,rfl,rfl,by decide⟩
  obtain ⟨hi,lo,hB,hi0,hpr,h0,h1,h2,h3⟩:=hB
  rw [hB]
  clear hB
  refine vcalls_enterq pc41 (Nat.le_of_ble_eq_true rfl) rfl fun hwf hok=>?_
  show Run _ Pc41.body (.fin (finP Pc41.res _)) _ _
  unfold Pc41 zg zo
  have hlt:=hwf.lt
  have c0:decide ((2:Int)≤((D.length + 4:Nat):Int))=true:=decide_eq_true (by omega)
  have c1:decide (((D.length + 2:Nat):Int)=0)=false:=decide_eq_false (by omega)
  have c2:decide (((D.length + 2:Nat):Int) < 2)=false:=decide_eq_false (by omega)
  have l4:(bs (255 :: 3 :: hi :: lo :: D)).length=D.length + 4:=by rw [bs_len]; rfl
  have l2:(bs (hi :: lo :: D)).length=D.length + 2:=by rw [bs_len]; rfl
  have g0:(bs (255 :: 3 :: hi :: lo :: D))[0]?=some (.sc (.int .u8 255)):=rfl
  have g1:(bs (255 :: 3 :: hi :: lo :: D))[1]?=some (.sc (.int .u8 3)):=rfl
  have g2:(bs (hi :: lo :: D))[0]?=some (.sc (.int .u8 hi)):=rfl
  have d2:List.drop 2 (bs (255 :: 3 :: hi :: lo :: D))=bs (hi :: lo :: D):=rfl
  have d3:List.drop 2 (bs (hi :: lo :: D))=bs D:=rfl
  have a4:allSz 1 (bs (255 :: 3 :: hi :: lo :: D)):=allSz_bs _
  have a2:allSz 1 (bs (hi :: lo :: D)):=allSz_bs _
  have hBt:IsB (hi :: lo :: D):=fun x hx=>by
    rcases List.mem_cons.1 hx with rfl | hx
    · exact ⟨h0,h1⟩
    rcases List.mem_cons.1 hx with rfl | hx
    · exact ⟨h2,h3⟩
    · exact hDB x hx
  have gg:=Get16_v (tk:=.no) (st:=st) hBt
  have hv:(if (hi :: lo :: D).length < 2 then 0 else numL (List.take 2 (hi :: lo :: D)))=proto:=by
    rw [if_neg (by simp only [List.length_cons]; omega)]
    simp [numL]; omega
  rw [hv] at gg
  have m0:hi % 65536=hi:=by omega
  generalize hW:bs (hi :: lo :: D)=W at l2 g2 d2 d3 a2 gg
  generalize bs (255 :: 3 :: hi :: lo :: D)=W2 at l4 g0 g1 d2 a4 ⊢
  simp (maxSteps:=3000000) only [go_sem,↓reduceIte,l4,l2,c0,c1,c2,g0,g1,g2,d2,hi0,m0]
  refine ⟨a4,?_⟩
  refine Cal.mk gg ?_
  rintro _ _ ⟨rfl,rfl⟩ -
  simp (maxSteps:=3000000) only [go_sem,↓reduceIte]
  refine Cal.mk hr ?_
  rintro _ _ ⟨rfl,rfl⟩ -
  simp (maxSteps:=3000000) only [go_sem,↓reduceIte,l2,d3]
  refine ⟨a2,?_⟩
  refine App.mk (bytes:=1) (l:=[]) (ys:=bs D) .nil (allSz_bs _) (by simp only [bs_len,List.length_nil]; unfold maxLen; omega) (by simp only [bs_len,List.length_nil]; omega) ?_
  intro r2 s2 k1 k2
  have R2:=(RO.nil (size:=1) hwf.weak hlt).app k1 k2
  obtain ⟨t,rfl⟩:=R2.sl
  simp (maxSteps:=3000000) only [go_sem,↓reduceIte]
  exact ⟨_,_,Wk.refl _,R2.weak,⟨t,rfl⟩,rfl⟩
set_option maxRecDepth 100000 in
theorem cpParse_v (hG:p.Good) (hD:p.data.length≤60000):VCalls Tryz.prog 95 [.sl tk (bs (buildC p))] st fun r s=>(∃ t,r=.tup [p.v t,.sc (.int .i64 0)])∧st=s:=by
  refine vcalls_enterq pc95 (Nat.le_of_ble_eq_true rfl) rfl fun hwf hok=>?_
  show Run _ Pc95.body (.fin (finP Pc95.res _)) _ _
  unfold Pc95 zo
  have hlt:=hwf.lt
  have ht:p.data.take 65531=p.data:=List.take_of_length_le (by omega)
  have hb:buildC p=p.code :: p.id :: (((p.data.length:Int) + 4) / 256 % 256) :: (((p.data.length:Int) + 4) % 256) :: p.data:=by
    unfold buildC; rw [ht]; simp [beL]
  have hbl:(buildC p).length=p.data.length + 4:=by rw [hb]; rfl
  have b0:(bs (buildC p))[0]?=some (.sc (.int .u8 p.code)):=by rw [hb]; rfl
  have b1:(bs (buildC p))[1]?=some (.sc (.int .u8 p.id)):=by rw [hb]; rfl
  have b4:List.drop 4 (bs (buildC p))=bs p.data:=by rw [hb]; rfl
  have b2:List.drop 2 (bs (buildC p))=bs (beL ((p.data.length:Int) + 4) 2 ++ p.data):=by unfold buildC; rw [ht]; rfl
  generalize buildC p=W at hbl b0 b1 b2 b4 ⊢
  have c0:decide (((p.data.length + 4:Nat):Int) < 4)=false:=decide_eq_false (by omega)
  simp (maxSteps:=3000000) only [go_sem,↓reduceIte,bs_len,hbl,c0,b2]
  have hBB:IsB (beL ((p.data.length:Int) + 4) 2 ++ p.data):=(beL_isB _ _).append hG.b
  have hn:(if (beL ((p.data.length:Int) + 4) 2 ++ p.data).length < 2 then 0 else numL (List.take 2 (beL ((p.data.length:Int) + 4) 2 ++ p.data)))=((p.data.length + 4:Nat):Int):=by
    rw [if_neg (by simp only [List.length_append,beL_len]; omega),List.take_left' (beL_len _ _)]
    simp [beL,numL]
    omega
  have c1:decide (((p.data.length + 4:Nat):Int) < ((p.data.length + 4:Nat):Int))=false:=decide_eq_false (by omega)
  have e1:((p.data.length + 4:Nat):Int).toNat=p.data.length + 4:=by omega
  have e2:List.take (p.data.length + 4) (bs W)=bs W:=List.take_of_length_le (by rw [bs_len,hbl]; omega)
  refine ⟨allSz_bs _,?_⟩
  refine Cal.mk (Get16_v hBB) ?_
  rintro _ _ ⟨rfl,rfl⟩ -
  rw [hn]
  obtain ⟨n,hnn⟩:∃ n,p.data.length + 4=n:=⟨_,rfl⟩
  rw [hnn] at hbl c0 c1 e1 e2 ⊢
  simp (maxSteps:=3000000) only [go_sem,↓reduceIte,bs_len,hbl,c0,e1,e2,b0,b1,b4]
  repeat (apply And.intro; focus (first | omega | (simp; done)))
  refine ⟨⟨allSz_bs _,by omega,Nat.le_refl _⟩,?_⟩
  refine App.mk (bytes:=1) (l:=[]) (ys:=bs p.data) .nil (allSz_bs _) (by simp only [bs_len,List.length_nil]; unfold maxLen; omega) (by simp only [bs_len,List.length_nil]; omega) ?_
  intro r2 s2 k1 k2
  have R2:=(RO.nil (size:=1) hwf.weak hlt).app k1 k2
  obtain ⟨t,rfl⟩:=R2.sl
  simp (maxSteps:=3000000) only [go_sem,↓reduceIte]
  exact ⟨_,_,Wk.refl _,R2.weak,⟨t,rfl⟩,rfl⟩
end
end
section
open Go
structure AW where
  a:Int
  d1:Int
  d2:Int
  deriving DecidableEq
def AW.cells (w:AW):List V:=[.sc (.int .u32 w.a),.sc (.int .u32 w.d1),.sc (.int .u32 w.d2)]
structure AW.Good (w:AW):Prop where
  a0:0≤w.a
  a1:w.a < 4294967296
  b0:0≤w.d1
  b1:w.d1 < 4294967296
  c0:0≤w.d2
  c1:w.d2 < 4294967296
def AW.zero:AW:=⟨0,0,0⟩
theorem AW.zero_good:AW.zero.Good:=⟨by decide,by decide,by decide,by decide,by decide,by decide⟩
def AW.of (w:AW) (t:Int):Int:=if t=3 then w.a else if t=129 then w.d1 else if t=131 then w.d2 else 0
theorem AW.of_rng {w:AW} (h:w.Good) (t:Int):0≤w.of t∧w.of t < 4294967296:=by
  obtain ⟨h1,h2,h3,h4,h5,h6⟩:=h
  unfold AW.of
  split
  · omega
  split
  · omega
  split <;> omega
def oneA (t x:Int):Opt:=(t,beL x 4)
def optsA (w:AW):List Opt:=(if w.a ≠ 0 then [oneA 3 w.a] else []) ++ (if w.d1 ≠ 0 then [oneA 129 w.d1] else []) ++ (if w.d2 ≠ 0 then [oneA 131 w.d2] else [])
theorem optsA_len (w:AW):(optsA w).length≤3:=by
  unfold optsA
  simp only [List.length_append]
  have e:∀ (c:Prop) [Decidable c] (x:Opt),(if c then [x] else []).length≤1:=fun c _ x=>by split <;> simp
  have h1:=e (w.a ≠ 0) (oneA 3 w.a)
  have h2:=e (w.d1 ≠ 0) (oneA 129 w.d1)
  have h3:=e (w.d2 ≠ 0) (oneA 131 w.d2)
  omega
theorem oneA_good {t x:Int} (h0:0≤t) (h1:t < 256):GoodO [oneA t x]:=.one h0 h1 (beL_isB _ _) (by simp only [oneA,beL_len]; omega)
theorem optsA_good (w:AW):GoodO (optsA w):=by
  have e:∀ (c:Prop) [Decidable c] (t x:Int),0≤t→t < 256→GoodO (if c then [oneA t x] else []):=fun c _ t x h1 h2=>by
    split
    · exact oneA_good h1 h2
    · exact .nil
  exact ((e _ 3 w.a (by decide) (by decide)).append (e _ 129 w.d1 (by decide) (by decide))).append (e _ 131 w.d2 (by decide) (by decide))
def stepA (g:AW) (a:List Opt × List Opt × List Int) (o:Opt):List Opt × List Opt × List Int :=
  if g.of o.1=0 ∨ o.2.length ≠ 4 ∨ o.1 ∈ a.2.2 then (a.1 ++ [o],a.2.1,a.2.2)
  else (a.1,a.2.1 ++ (if num4 o.2 ≠ g.of o.1 then [oneA o.1 (g.of o.1)] else []),o.1 :: a.2.2)
def foldA (g:AW) (l:List Opt):List Opt × List Opt × List Int:=l.foldl (stepA g) ([],[],[])
def nakA (g:AW) (a:List Opt × List Opt × List Int):List Opt:=if 3 ∈ a.2.2 then a.2.1 else a.2.1 ++ [oneA 3 g.a]
def judgeA (l:List Opt) (g:AW):Int × List Opt :=
  if (foldA g l).1 ≠ [] then (4,(foldA g l).1) else if nakA g (foldA g l) ≠ [] then (3,nakA g (foldA g l)) else (2,l)
def ofStepA (w:AW) (o:Opt):AW :=
  if o.2.length ≠ 4 then w else if o.1=3 then { w with a:=num4 o.2 } else if o.1=129 then { w with d1:=num4 o.2 } else if o.1=131 then { w with d2:=num4 o.2 } else w
def ofA (l:List Opt):AW:=l.foldl ofStepA .zero
theorem foldA_good {g:AW}:∀ {l:List Opt} {a:List Opt × List Opt × List Int},GoodO l→GoodO a.1→GoodO a.2.1→GoodO (l.foldl (stepA g) a).1∧GoodO (l.foldl (stepA g) a).2.1
  | [],a,_,h1,h2=>⟨h1,h2⟩
  | o :: l,a,hl,h1,h2=>by
    have ho:=hl o (by simp)
    refine foldA_good (l:=l) (fun x hx=>hl x (by simp [hx])) ?_ ?_
    · unfold stepA
      split
      · exact h1.append (.one ho.1 ho.2.1 ho.2.2.1 ho.2.2.2)
      · exact h1
    · unfold stepA
      split
      · exact h2
      · refine h2.append ?_
        split
        · exact oneA_good ho.1 ho.2.1
        · exact .nil
theorem foldA_len {g:AW}:∀ {l:List Opt} {a:List Opt × List Opt × List Int},(l.foldl (stepA g) a).1.length≤a.1.length + l.length∧(l.foldl (stepA g) a).2.1.length≤a.2.1.length + l.length
  | [],a=>by simp
  | o :: l,a=>by
    have h:=foldA_len (g:=g) (l:=l) (a:=stepA g a o)
    have h1:(stepA g a o).1.length≤a.1.length + 1∧(stepA g a o).2.1.length≤a.2.1.length + 1:=by
      unfold stepA
      split
      · simp
      · simp only [List.length_append]
        split <;> simp
    simp only [List.foldl_cons,List.length_cons]
    omega
theorem AW.of_ne {g:AW} {t:Int} (h:g.of t ≠ 0):t=3 ∨ t=129 ∨ t=131:=by
  unfold AW.of at h
  split at h
  · exact .inl (by assumption)
  split at h
  · exact .inr (.inl (by assumption))
  split at h
  · exact .inr (.inr (by assumption))
  · exact absurd rfl h
def seen3 (l:List Int):Nat:=(if 3 ∈ l then 1 else 0) + (if 129 ∈ l then 1 else 0) + (if 131 ∈ l then 1 else 0)
theorem stepA_nak {g:AW} {a:List Opt × List Opt × List Int} {o:Opt} (h:a.2.1.length≤seen3 a.2.2):(stepA g a o).2.1.length≤seen3 (stepA g a o).2.2:=by
  unfold stepA
  split
  · exact h
  · rename_i c
    simp only [not_or] at c
    obtain ⟨c1,_,c2⟩:=c
    have hl:∀ (p:Prop) [Decidable p] (x:Opt),(if p then [x] else []).length≤1:=fun p _ x=>by split <;> simp
    have h1:=hl (num4 o.2 ≠ g.of o.1) (oneA o.1 (g.of o.1))
    simp only [List.length_append]
    refine Nat.le_trans (Nat.add_le_add h h1) ?_
    unfold seen3
    rcases AW.of_ne c1 with e | e | e
    · rw [e] at c2 ⊢; simp [c2]; omega
    · rw [e] at c2 ⊢; simp [c2]; omega
    · rw [e] at c2 ⊢; simp [c2]
theorem foldA_nak {g:AW}:∀ {l:List Opt} {a:List Opt × List Opt × List Int},a.2.1.length≤seen3 a.2.2→(l.foldl (stepA g) a).2.1.length≤seen3 (l.foldl (stepA g) a).2.2
  | [],_,h=>h
  | o :: l,a,h=>foldA_nak (l:=l) (stepA_nak h)
theorem seen3_le (l:List Int):seen3 l≤3:=by
  unfold seen3
  split <;> split <;> split <;> omega
theorem nakA_good {g:AW} {l:List Opt} (h:GoodO l):GoodO (nakA g (foldA g l))∧(nakA g (foldA g l)).length≤4:=by
  have hg:=foldA_good (g:=g) (a:=([],[],[])) h .nil .nil
  have hn:=foldA_nak (g:=g) (l:=l) (a:=([],[],[])) (Nat.zero_le _)
  have h3:=seen3_le (foldA g l).2.2
  unfold foldA at *
  unfold nakA
  split
  · exact ⟨hg.2,by omega⟩
  · exact ⟨hg.2.append (oneA_good (by decide) (by decide)),by simp only [List.length_append,List.length_cons,List.length_nil]; omega⟩
theorem judgeA_good {g:AW} {l:List Opt} (h:GoodO l) (hl:l.length≤1000000):0≤(judgeA l g).1∧(judgeA l g).1 < 256∧GoodO (judgeA l g).2∧(judgeA l g).2.length≤1000000:=by
  have hg:=foldA_good (g:=g) (a:=([],[],[])) h .nil .nil
  have hn:=foldA_len (g:=g) (l:=l) (a:=([],[],[]))
  have hk:=nakA_good (g:=g) h
  simp only [List.length_nil,Nat.zero_add] at hn
  unfold judgeA
  generalize nakA g (foldA g l)=K at hk
  unfold foldA
  split
  · exact ⟨by show (0:Int)≤4; decide,by show (4:Int) < 256; decide,hg.1,by have:=hn.1; simp only; omega⟩
  split
  · exact ⟨by show (0:Int)≤3; decide,by show (3:Int) < 256; decide,hk.1,by have:=hk.2; simp only; omega⟩
  · exact ⟨by show (0:Int)≤2; decide,by show (2:Int) < 256; decide,h,hl⟩
structure Ir where
  mine:AW
  give:AW
  got:AW
def ipU:Rul Ir where
  request r:=optsA r.mine
  judge r l:=(r,judgeA l r.give)
  agreed r l:={ r with got:=ofA l }
  naked r _:=r
  rejected r l:=({ r with mine:={ r.mine with a:=if (findO l 3).isSome=true then 0 else r.mine.a } },true)
def ipNew (me:Int) (give:AW):Neg Ir:=⟨0,0,0,0,[],0,⟨⟨me,0,0⟩,give,.zero⟩⟩
end
section
open Go
theorem Get16_n {tk:Tk} {L:List Int} {st:St} (hB:IsB L):VCalls Tryz.prog 81 [.sl tk (bs L)] st fun r s=>r=.sc (.int .u16 (num2 L))∧st=s:=Get16_v hB
section
variable {st:St} {w:Want} {tk:Tk} {l:List Opt} {own draw:Int}
set_option maxRecDepth 100000 in
theorem loptMethod_v:VCalls Tryz.prog 273 [] st fun r s=>r=.sl .no (bs [194,35,5])∧st=s:=by
  refine vcalls_enter vc273 (Nat.le_of_ble_eq_true rfl) fun hwf hok=>?_
  show Run _ Vc273.body (.fin (finQ Vc273.res _)) _ _
  unfold Vc273 zo
  simp (maxSteps:=3000000) only [go_sem]
  refine Bo.own (by simp [allLen,V.cells]) ?_
  intro g hg
  simp (maxSteps:=3000000) only [go_sem,↓reduceIte]
  exact ⟨_,_,Wk.no,weak_use hwf.weak hg,rfl,rfl⟩
theorem optsW_len (w:Want):(optsW w).length≤5:=by
  unfold optsW
  simp only [List.length_append]
  have e:∀ (c:Prop) [Decidable c] (x:Opt),(if c then [x] else []).length≤1:=fun c _ x=>by split <;> simp
  have h1:=e (w.mru ≠ 0) (1,beL w.mru 2)
  have h2:=e (w.auth=true) (3,[194,35,5])
  have h3:=e (w.magic ≠ 0) (5,beL w.magic 4)
  have h4:=e (w.pfc=true) (7,[])
  have h5:=e (w.acfc=true) (8,[])
  omega
theorem optsW_good (w:Want):GoodO (optsW w):=by
  unfold optsW
  have e:∀ (c:Prop) [Decidable c] (x:Int) (L:List Int),0≤x→x < 256→IsB L→L.length≤1000000→GoodO (if c then [(x,L)] else []):=fun c _ x L h1 h2 h3 h4=>by
    split
    · exact .one h1 h2 h3 h4
    · exact .nil
  refine GoodO.append (GoodO.append (GoodO.append (GoodO.append ?_ ?_) ?_) ?_) ?_
  · exact e _ _ _ (by decide) (by decide) (beL_isB _ _) (by rw [beL_len]; decide)
  · exact e _ _ _ (by decide) (by decide) (by intro x hx; simp at hx; omega) (by decide)
  · exact e _ _ _ (by decide) (by decide) (beL_isB _ _) (by rw [beL_len]; decide)
  · exact e _ _ _ (by decide) (by decide) (fun x hx=>by cases hx) (by decide)
  · exact e _ _ _ (by decide) (by decide) (fun x hx=>by cases hx) (by decide)
theorem loptSize_v {t:Int}:VCalls Tryz.prog 271 [.sc (.int .u8 t)] st fun r s=>r=.sc (.int .i64 (sizeT t))∧st=s:=by
  refine vcalls_enter vc271 (Nat.le_of_ble_eq_true rfl) fun hwf hok=>?_
  show Run _ Vc271.body (.fin (finQ Vc271.res _)) _ _
  unfold Vc271 zo
  by_cases c1:t=1
  · simp (maxSteps:=3000000) only [go_sem,↓reduceIte,decide_eq_true c1]
    exact ⟨_,_,Wk.refl _,hwf.weak,by rw [sizeT,if_pos c1],rfl⟩
  by_cases c2:t=2
  · simp (maxSteps:=3000000) only [go_sem,↓reduceIte,decide_eq_false c1,decide_eq_true c2]
    exact ⟨_,_,Wk.refl _,hwf.weak,by rw [sizeT,if_neg c1,if_pos (.inl c2)],rfl⟩
  by_cases c5:t=5
  · simp (maxSteps:=3000000) only [go_sem,↓reduceIte,decide_eq_false c1,decide_eq_false c2,decide_eq_true c5]
    exact ⟨_,_,Wk.refl _,hwf.weak,by rw [sizeT,if_neg c1,if_pos (.inr c5)],rfl⟩
  have c25:¬ (t=2 ∨ t=5):=fun e=>e.elim c2 c5
  by_cases c7:t=7
  · simp (maxSteps:=3000000) only [go_sem,↓reduceIte,decide_eq_false c1,decide_eq_false c2,decide_eq_false c5,decide_eq_true c7]
    exact ⟨_,_,Wk.refl _,hwf.weak,by rw [sizeT,if_neg c1,if_neg c25,if_pos (.inl c7)],rfl⟩
  by_cases c8:t=8
  · simp (maxSteps:=3000000) only [go_sem,↓reduceIte,decide_eq_false c1,decide_eq_false c2,decide_eq_false c5,decide_eq_false c7,decide_eq_true c8]
    exact ⟨_,_,Wk.refl _,hwf.weak,by rw [sizeT,if_neg c1,if_neg c25,if_pos (.inr c8)],rfl⟩
  · simp (maxSteps:=3000000) only [go_sem,↓reduceIte,decide_eq_false c1,decide_eq_false c2,decide_eq_false c5,decide_eq_false c7,decide_eq_false c8]
    exact ⟨_,_,Wk.refl _,hwf.weak,by rw [sizeT,if_neg c1,if_neg c25,if_neg (fun e=>e.elim c7 c8)],rfl⟩
set_option maxRecDepth 100000 in
set_option maxHeartbeats 16000000 in
theorem loptOptions_v (hw:w.Good):VCalls Tryz.prog 270 [.agg w.cells] st fun r s=>r=.sl .no (opts (optsW w))∧st=s:=by
  obtain ⟨mru,auth,magic,pfc,acfc⟩:=w
  obtain ⟨m0,m1,g0,g1⟩:=hw
  simp only at m0 m1 g0 g1
  show VCalls Tryz.prog 270 [.agg [.sc (.int .u16 mru),.sc (.bool auth),.sc (.int .u32 magic),.sc (.bool pfc),.sc (.bool acfc)]] st _
  refine vcalls_enter vc270 (Nat.le_of_ble_eq_true rfl) fun hwf hok=>?_
  show Run _ Vc270.body (.fin (finQ Vc270.res _)) _ _
  unfold Vc270 zo
  have hlt:=hwf.lt
  simp (maxSteps:=3000000) only [go_sem,↓reduceIte]
  intro b hb
  obtain ⟨W,hW⟩:∃ W,W=optsW ⟨mru,auth,magic,pfc,acfc⟩:=⟨_,rfl⟩
  rw [← hW]
  unfold optsW at hW
  simp only at hW
  have Bb:(st.put b [.sc (.int .u16 mru),.sc (.bool auth),.sc (.int .u32 magic),.sc (.bool pfc),.sc (.bool acfc)]).box b=some [.sc (.int .u16 mru),.sc (.bool auth),.sc (.int .u32 magic),.sc (.bool pfc),.sc (.bool acfc)]:=put_box_same
  have R0:RO 2 st (st.put b [.sc (.int .u16 mru),.sc (.bool auth),.sc (.int .u32 magic),.sc (.bool pfc),.sc (.bool acfc)]) (.sl .nil []) (opts []):=RO.nil (weak_put hwf.weak hb) hlt.put
  generalize st.put b _=s0 at Bb R0 ⊢
  obtain ⟨W1,hW1⟩:∃ X:List Opt,X=if mru ≠ 0 then [(1,beL mru 2)] else []:=⟨_,rfl⟩
  obtain ⟨W2,hW2⟩:∃ X:List Opt,X=if auth=true then [(3,[194,35,5])] else []:=⟨_,rfl⟩
  obtain ⟨W3,hW3⟩:∃ X:List Opt,X=if magic ≠ 0 then [(5,beL magic 4)] else []:=⟨_,rfl⟩
  obtain ⟨W4,hW4⟩:∃ X:List Opt,X=if pfc=true then [(7,[])] else []:=⟨_,rfl⟩
  obtain ⟨W5,hW5⟩:∃ X:List Opt,X=if acfc=true then [(8,[])] else []:=⟨_,rfl⟩
  rw [← hW1,← hW2,← hW3,← hW4,← hW5] at hW
  subst hW
  have e:∀ (c:Prop) [Decidable c] (x:Opt),(if c then [x] else []).length≤1:=fun c _ x=>by split <;> simp
  have l1:W1.length≤1:=by rw [hW1]; exact e _ _
  have l2:W2.length≤1:=by rw [hW2]; exact e _ _
  have l3:W3.length≤1:=by rw [hW3]; exact e _ _
  have l4:W4.length≤1:=by rw [hW4]; exact e _ _
  have l5:W5.length≤1:=by rw [hW5]; exact e _ _
  clear e
  refine If.cut [3,7,8,9,10,11,12,13] (fun B s=>∃ tv,B 3=.sl tv (opts W1)∧RO 2 st s (.sl tv (opts W1)) (opts W1)∧s.box b=some [.sc (.int .u16 mru),.sc (.bool auth),.sc (.int .u32 magic),.sc (.bool pfc),.sc (.bool acfc)]) rfl ?_ ?_
  · refine If.dec (fun e=>?_) (fun e=>?_)
    · rw [if_pos e] at hW1
      simp (maxSteps:=3000000) only [go_sem,↓reduceIte,Bb]
      refine Cal.mk (Put16_v (L:=[]) own_nil (by simp) m0 m1) ?_
      rintro r1 s1 ⟨k3,k4⟩ -
      have R1:=R0.beside k4 noOwn
      rw [List.nil_append] at k3
      obtain ⟨t3,rfl⟩:=own_sl k3
      have bb1:=Bb
      rw [← k4.box] at bb1
      simp (maxSteps:=3000000) only [go_sem,↓reduceIte]
      refine App.mk (bytes:=32) (l:=opts []) (ys:=opts [(1,beL mru 2)]) R1.own (allSz_opts _) (by simp only [opts_len,List.length_cons,List.length_nil]; unfold maxLen; omega) (by simp only [opts_len,List.length_cons,List.length_nil]; omega) ?_
      intro r2 s2 k1 k2
      have R2:=R1.app k1 k2
      have bb2:=bb1
      rw [← k2.box] at bb2
      rw [opts_append,← hW1] at R2
      obtain ⟨t2,rfl⟩:=R2.sl
      simp (maxSteps:=3000000) only [go_sem,↓reduceIte,at_cutk_n]
      exact ⟨t2,rfl,R2,bb2⟩
    · rw [if_neg e] at hW1
      simp (maxSteps:=3000000) only [go_sem,↓reduceIte,at_cutk_n]
      rw [hW1]
      exact ⟨.nil,rfl,R0,Bb⟩
  clear R0 Bb
  rintro B s ⟨tv,h3,R,Bb⟩
  simp (maxSteps:=3000000) only [go_sem,↓reduceIte,Bb]
  refine If.cut [3,16,17,18,19,20] (fun B s=>∃ tv,B 3=.sl tv (opts (W1 ++ W2))∧RO 2 st s (.sl tv (opts (W1 ++ W2))) (opts (W1 ++ W2))∧s.box b=some [.sc (.int .u16 mru),.sc (.bool auth),.sc (.int .u32 magic),.sc (.bool pfc),.sc (.bool acfc)]) rfl ?_ ?_
  · refine If.mk (fun e=>?_) (fun e=>?_)
    · rw [if_pos e] at hW2
      simp (maxSteps:=3000000) only [go_sem,↓reduceIte,h3]
      refine Cal.mk loptMethod_v ?_
      rintro _ _ ⟨rfl,rfl⟩ -
      simp (maxSteps:=3000000) only [go_sem,↓reduceIte]
      refine App.mk (bytes:=32) (l:=opts W1) (ys:=opts [(3,[194,35,5])]) R.own (allSz_opts _) (by simp only [opts_len,List.length_cons,List.length_nil]; unfold maxLen; omega) (by simp only [opts_len,List.length_cons,List.length_nil]; omega) ?_
      intro r2 s2 k1 k2
      have R2:=R.app k1 k2
      have bb2:=Bb
      rw [← k2.box] at bb2
      rw [opts_append,← hW2] at R2
      obtain ⟨t2,rfl⟩:=R2.sl
      simp (maxSteps:=3000000) only [go_sem,↓reduceIte,at_cutk_n]
      exact ⟨t2,rfl,R2,bb2⟩
    · rw [if_neg (show ¬ _=true from by rw [e]; simp)] at hW2
      simp (maxSteps:=3000000) only [go_sem,↓reduceIte,h3,at_cutk_n]
      rw [hW2]
      rw [List.append_nil]
      exact ⟨tv,rfl,R,Bb⟩
  clear R Bb h3
  rintro B s ⟨tv,h3,R,Bb⟩
  simp (maxSteps:=3000000) only [go_sem,↓reduceIte,Bb]
  refine If.cut [3,24,25,26,27,28,29,30] (fun B s=>∃ tv,B 3=.sl tv (opts (W1 ++ W2 ++ W3))∧RO 2 st s (.sl tv (opts (W1 ++ W2 ++ W3))) (opts (W1 ++ W2 ++ W3))∧s.box b=some [.sc (.int .u16 mru),.sc (.bool auth),.sc (.int .u32 magic),.sc (.bool pfc),.sc (.bool acfc)]) rfl ?_ ?_
  · refine If.dec (fun e=>?_) (fun e=>?_)
    · rw [if_pos e] at hW3
      simp (maxSteps:=3000000) only [go_sem,↓reduceIte,h3,Bb]
      refine Cal.mk (Put32_v (L:=[]) own_nil (by simp) g0 g1) ?_
      rintro r1 s1 ⟨k3,k4⟩ -
      have R1:=R.beside k4 noOwn
      rw [List.nil_append] at k3
      obtain ⟨t3,rfl⟩:=own_sl k3
      have bb1:=Bb
      rw [← k4.box] at bb1
      simp (maxSteps:=3000000) only [go_sem,↓reduceIte]
      refine App.mk (bytes:=32) (l:=opts (W1 ++ W2)) (ys:=opts [(5,beL magic 4)]) R1.own (allSz_opts _) (by simp only [opts_len,List.length_append,List.length_cons,List.length_nil]; unfold maxLen; omega) (by simp only [opts_len,List.length_append,List.length_cons,List.length_nil]; omega) ?_
      intro r2 s2 k1 k2
      have R2:=R1.app k1 k2
      have bb2:=bb1
      rw [← k2.box] at bb2
      rw [opts_append,← hW3] at R2
      obtain ⟨t2,rfl⟩:=R2.sl
      simp (maxSteps:=3000000) only [go_sem,↓reduceIte,at_cutk_n]
      exact ⟨t2,rfl,R2,bb2⟩
    · rw [if_neg e] at hW3
      simp (maxSteps:=3000000) only [go_sem,↓reduceIte,h3,at_cutk_n]
      rw [hW3]
      rw [List.append_nil]
      exact ⟨tv,rfl,R,Bb⟩
  clear R Bb h3
  rintro B s ⟨tv,h3,R,Bb⟩
  simp (maxSteps:=3000000) only [go_sem,↓reduceIte,Bb]
  refine If.cut [3,33,34,35,36] (fun B s=>∃ tv,B 3=.sl tv (opts (W1 ++ W2 ++ W3 ++ W4))∧RO 2 st s (.sl tv (opts (W1 ++ W2 ++ W3 ++ W4))) (opts (W1 ++ W2 ++ W3 ++ W4))∧s.box b=some [.sc (.int .u16 mru),.sc (.bool auth),.sc (.int .u32 magic),.sc (.bool pfc),.sc (.bool acfc)]) rfl ?_ ?_
  · refine If.mk (fun e=>?_) (fun e=>?_)
    · rw [if_pos e] at hW4
      simp (maxSteps:=3000000) only [go_sem,↓reduceIte,h3]
      refine App.mk (bytes:=32) (l:=opts (W1 ++ W2 ++ W3)) (ys:=opts [(7,[])]) R.own (allSz_opts _) (by simp only [opts_len,List.length_append,List.length_cons,List.length_nil]; unfold maxLen; omega) (by simp only [opts_len,List.length_append,List.length_cons,List.length_nil]; omega) ?_
      intro r2 s2 k1 k2
      have R2:=R.app k1 k2
      have bb2:=Bb
      rw [← k2.box] at bb2
      rw [opts_append,← hW4] at R2
      obtain ⟨t2,rfl⟩:=R2.sl
      simp (maxSteps:=3000000) only [go_sem,↓reduceIte,at_cutk_n]
      exact ⟨t2,rfl,R2,bb2⟩
    · rw [if_neg (show ¬ _=true from by rw [e]; simp)] at hW4
      simp (maxSteps:=3000000) only [go_sem,↓reduceIte,h3,at_cutk_n]
      rw [hW4]
      rw [List.append_nil]
      exact ⟨tv,rfl,R,Bb⟩
  clear R Bb h3
  rintro B s ⟨tv,h3,R,Bb⟩
  simp (maxSteps:=3000000) only [go_sem,↓reduceIte,Bb]
  refine If.cut [3,39,40,41,42] (fun B s=>∃ tv,B 3=.sl tv (opts (W1 ++ W2 ++ W3 ++ W4 ++ W5))∧RO 2 st s (.sl tv (opts (W1 ++ W2 ++ W3 ++ W4 ++ W5))) (opts (W1 ++ W2 ++ W3 ++ W4 ++ W5))∧s.box b=some [.sc (.int .u16 mru),.sc (.bool auth),.sc (.int .u32 magic),.sc (.bool pfc),.sc (.bool acfc)]) rfl ?_ ?_
  · refine If.mk (fun e=>?_) (fun e=>?_)
    · rw [if_pos e] at hW5
      simp (maxSteps:=3000000) only [go_sem,↓reduceIte,h3]
      refine App.mk (bytes:=32) (l:=opts (W1 ++ W2 ++ W3 ++ W4)) (ys:=opts [(8,[])]) R.own (allSz_opts _) (by simp only [opts_len,List.length_append,List.length_cons,List.length_nil]; unfold maxLen; omega) (by simp only [opts_len,List.length_append,List.length_cons,List.length_nil]; omega) ?_
      intro r2 s2 k1 k2
      have R2:=R.app k1 k2
      have bb2:=Bb
      rw [← k2.box] at bb2
      rw [opts_append,← hW5] at R2
      obtain ⟨t2,rfl⟩:=R2.sl
      simp (maxSteps:=3000000) only [go_sem,↓reduceIte,at_cutk_n]
      exact ⟨t2,rfl,R2,bb2⟩
    · rw [if_neg (show ¬ _=true from by rw [e]; simp)] at hW5
      simp (maxSteps:=3000000) only [go_sem,↓reduceIte,h3,at_cutk_n]
      rw [hW5]
      rw [List.append_nil]
      exact ⟨tv,rfl,R,Bb⟩
  clear R Bb h3
  rintro B s ⟨tv,h3,R,Bb⟩
  simp (maxSteps:=3000000) only [go_sem,↓reduceIte,h3]
  exact ⟨_,_,Wk.no,R.weak,rfl,rfl⟩
end
end
section
open Go
section
variable {st:St} {tk:Tk} {l:List Opt} {own draw:Int} {o:Opt}
set_option maxRecDepth 100000 in
theorem Get32_n {L:List Int} (hB:IsB L):VCalls Tryz.prog 145 [.sl tk (bs L)] st fun r s=>r=.sc (.int .u32 (num4 L))∧st=s:=by
  refine vcalls_enter vc145 (Nat.le_of_ble_eq_true rfl) fun hwf hok=>?_
  show Run _ Vc145.body (.fin (finQ Vc145.res _)) _ _
  unfold Vc145 zo
  by_cases h:L.length < 4
  · simp (maxSteps:=3000000) only [go_sem,↓reduceIte,bs_len,decide_eq_true (show (L.length:Int) < 4 by omega)]
    exact ⟨_,_,Wk.refl _,hwf.weak,by rw [num4,if_pos h],rfl⟩
  have r0:=num2_rng hB
  have r2:=num2_rng (hB.drop 2)
  have hj:=u32_join (num2 L) (num2 (L.drop 2)) r0.1 r0.2 r2.1 r2.2
  have hsp:num4 L=65536 * num2 L + num2 (L.drop 2):=by
    match L,h with
    | a :: b :: c :: d :: L,_ =>
      have n4:num4 (a :: b :: c :: d :: L)=numL [a,b,c,d]:=by rw [num4,if_neg (by simp only [List.length_cons]; omega)]; rfl
      have n2:num2 (a :: b :: c :: d :: L)=numL [a,b]:=by rw [num2,if_neg (by simp only [List.length_cons]; omega)]; rfl
      have n2':num2 ((a :: b :: c :: d :: L).drop 2)=numL [c,d]:=by
        show num2 (c :: d :: L)=_
        rw [num2,if_neg (by simp only [List.length_cons]; omega)]; rfl
      rw [n4,n2,n2']
      simp [numL]; omega
    | [],h | [_],h | [_,_],h | [_,_,_],h=>exact absurd (by simp) h
  rw [hsp]
  have g0:=fun s=>Get16_n (tk:=tk) (st:=s) hB
  have g2:=fun s=>Get16_n (tk:=.no) (st:=s) (hB.drop 2)
  generalize num2 L=a at *
  generalize num2 (L.drop 2)=c at *
  have e1:a * 65536 % 4294967296=a * 65536:=by omega
  have e2:a % 4294967296=a:=by omega
  have e3:c % 4294967296=c:=by omega
  simp (maxSteps:=3000000) only [go_sem,↓reduceIte,bs_len,decide_eq_false (show ¬ (L.length:Int) < 4 by omega),bs_drop,allSz_bs']
  repeat (apply And.intro; focus (first | omega | (simp; done)))
  refine Cal.mk (g0 _) ?_
  rintro _ _ ⟨rfl,rfl⟩ -
  simp (maxSteps:=3000000) only [go_sem,↓reduceIte,e1,e2]
  refine Cal.mk (g2 _) ?_
  rintro _ _ ⟨rfl,rfl⟩ -
  simp (maxSteps:=3000000) only [go_sem,↓reduceIte,e3,ibit_or,hj]
  exact ⟨_,_,Wk.refl _,hwf.weak,rfl,rfl⟩
def betV (x:Option Opt):V:=match x with
  | some o=>optV o
  | none=>.agg [.sc (.int .u8 0),.sl .nil []]
set_option maxRecDepth 100000 in
set_option maxHeartbeats 4000000 in
theorem loptBetter_v (hB:IsB o.2) (d0:0≤draw) (d1:draw < 4294967296):VCalls Tryz.prog 272 [optV o,.sc (.int .u32 own),.sc (.int .u32 draw)] st fun r s =>
    r=.tup [betV (betterO o own draw),.sc (.bool (betterO o own draw).isSome)]∧st=s:=by
  obtain ⟨t,D⟩:=o
  simp only at hB
  show VCalls Tryz.prog 272 [.agg [.sc (.int .u8 t),.sl .no (bs D)],.sc (.int .u32 own),.sc (.int .u32 draw)] st _
  refine vcalls_enter vc272 (Nat.le_of_ble_eq_true rfl) fun hwf hok=>?_
  show Run _ Vc272.body (.fin (finQ Vc272.res _)) _ _
  unfold Vc272 zg zn zo
  have hlt:=hwf.lt
  simp (maxSteps:=3000000) only [go_sem,↓reduceIte]
  intro b hb q hq
  have bq:b ≠ q:=by omega
  have W0:st.weak ((st.put b [.sc (.int .u8 t),.sl .no (bs D)]).put q [.sc (.int .u8 0),.sl .nil []]):=weak_put (weak_put hwf.weak hb) (by omega)
  have Bb:((st.put b [.sc (.int .u8 t),.sl .no (bs D)]).put q [.sc (.int .u8 0),.sl .nil []]).box b=some [.sc (.int .u8 t),.sl .no (bs D)]:=by rw [put_box_ne bq,put_box_same]
  have Bq:((st.put b [.sc (.int .u8 t),.sl .no (bs D)]).put q [.sc (.int .u8 0),.sl .nil []]).box q=some [.sc (.int .u8 0),.sl .nil []]:=put_box_same
  have L0:((st.put b [.sc (.int .u8 t),.sl .no (bs D)]).put q [.sc (.int .u8 0),.sl .nil []]).Lt:=hlt.put.put
  have hqs:st.sz≤q:=by omega
  generalize (st.put b _).put q _=s0 at W0 Bb Bq L0 ⊢
  simp (maxSteps:=3000000) only [go_sem,↓reduceIte,Bb]
  refine Cal.mk (Get16_n hB) ?_
  rintro _ _ ⟨rfl,rfl⟩ -
  simp (maxSteps:=3000000) only [go_sem,↓reduceIte,Bb]
  refine Cal.mk (Get32_n hB) ?_
  rintro _ _ ⟨rfl,rfl⟩ -
  have fin:∀ (L1:List Int) (x:Int) (r2:V) (s2:St) (tv:Tk),r2=.sl tv (bs L1)→AppSt s0 (.sl .nil []) s2 r2→betterO (t,D) own draw=some (x,L1) →
      ∃ (r:V) (st':St),Wk (.tup [.agg [.sc (.int .u8 x),r2],.sc (.bool true)]) r∧st'.weak (s2.put q [.sc (.int .u8 x),r2])∧r=.tup [betV (betterO (t,D) own draw),.sc (.bool (betterO (t,D) own draw).isSome)]∧st=st':=fun L1 x r2 s2 tv hr k2 e=>by
    subst hr
    refine ⟨_,_,Wk.tup (.cons (.agg (.cons (.refl _) (.cons .no .nil))) (.cons (.refl _) .nil)),weak_put (weak_tr W0 (app_keeps k2 L0.weak (fun g k l e=>by cases e))) hqs,by rw [e]; rfl,rfl⟩
  by_cases c1:t=1
  · by_cases c2:num2 D < 128
    · have e:betterO (t,D) own draw=some (1,beL 1400 2):=if_pos ⟨c1,.inl c2⟩
      simp (maxSteps:=3000000) only [go_sem,↓reduceIte,Bb,decide_eq_true c1,decide_eq_true c2]
      refine Cal.mk (Put16_v (L:=[]) own_nil (by simp) (by decide) (by decide)) ?_
      rintro r2 s2 ⟨k1,k2⟩ -
      obtain ⟨t2,rfl⟩:=own_sl k1
      have b2:=Bq
      rw [← k2.box] at b2
      simp (maxSteps:=3000000) only [go_sem,↓reduceIte,b2]
      exact fin _ _ _ _ _ rfl k2 e
    by_cases c3:1500 < num2 D
    · have e:betterO (t,D) own draw=some (1,beL 1400 2):=if_pos ⟨c1,.inr c3⟩
      simp (maxSteps:=3000000) only [go_sem,↓reduceIte,Bb,decide_eq_true c1,decide_eq_false c2,decide_eq_true c3]
      refine Cal.mk (Put16_v (L:=[]) own_nil (by simp) (by decide) (by decide)) ?_
      rintro r2 s2 ⟨k1,k2⟩ -
      obtain ⟨t2,rfl⟩:=own_sl k1
      have b2:=Bq
      rw [← k2.box] at b2
      simp (maxSteps:=3000000) only [go_sem,↓reduceIte,b2]
      exact fin _ _ _ _ _ rfl k2 e
    · have e:betterO (t,D) own draw=none:=by rw [betterO,if_neg (fun h=>h.2.elim c2 c3),if_neg (fun h=>by simp only at h; omega)]
      have c5:¬ t=5:=by omega
      simp (maxSteps:=3000000) only [go_sem,↓reduceIte,Bb,Bq,decide_eq_true c1,decide_eq_false c2,decide_eq_false c3,decide_eq_false c5]
      rw [e]
      exact ⟨_,_,Wk.refl _,weak_put W0 hqs,rfl,rfl⟩
  by_cases c5:t=5
  · by_cases c6:num4 D=0
    · have e:betterO (t,D) own draw=some (5,beL draw 4):=by rw [betterO,if_neg (fun h=>c1 h.1),if_pos ⟨c5,.inl c6⟩]
      simp (maxSteps:=3000000) only [go_sem,↓reduceIte,Bb,decide_eq_false c1,decide_eq_true c5,decide_eq_true c6]
      refine Cal.mk (Put32_v (L:=[]) own_nil (by simp) d0 d1) ?_
      rintro r2 s2 ⟨k1,k2⟩ -
      obtain ⟨t2,rfl⟩:=own_sl k1
      have b2:=Bq
      rw [← k2.box] at b2
      simp (maxSteps:=3000000) only [go_sem,↓reduceIte,b2]
      exact fin _ _ _ _ _ rfl k2 e
    by_cases c7:num4 D=own
    · have e:betterO (t,D) own draw=some (5,beL draw 4):=by rw [betterO,if_neg (fun h=>c1 h.1),if_pos ⟨c5,.inr c7⟩]
      simp (maxSteps:=3000000) only [go_sem,↓reduceIte,Bb,decide_eq_false c1,decide_eq_true c5,decide_eq_false c6,decide_eq_true c7]
      refine Cal.mk (Put32_v (L:=[]) own_nil (by simp) d0 d1) ?_
      rintro r2 s2 ⟨k1,k2⟩ -
      obtain ⟨t2,rfl⟩:=own_sl k1
      have b2:=Bq
      rw [← k2.box] at b2
      simp (maxSteps:=3000000) only [go_sem,↓reduceIte,b2]
      exact fin _ _ _ _ _ rfl k2 e
    · have e:betterO (t,D) own draw=none:=by rw [betterO,if_neg (fun h=>c1 h.1),if_neg (fun h=>h.2.elim c6 c7)]
      simp (maxSteps:=3000000) only [go_sem,↓reduceIte,Bb,Bq,decide_eq_false c1,decide_eq_true c5,decide_eq_false c6,decide_eq_false c7]
      rw [e]
      exact ⟨_,_,Wk.refl _,weak_put W0 hqs,rfl,rfl⟩
  · have e:betterO (t,D) own draw=none:=by rw [betterO,if_neg (fun h=>c1 h.1),if_neg (fun h=>c5 h.1)]
    simp (maxSteps:=3000000) only [go_sem,↓reduceIte,Bb,Bq,decide_eq_false c1,decide_eq_false c5]
    rw [e]
    exact ⟨_,_,Wk.refl _,weak_put W0 hqs,rfl,rfl⟩
end
end
section
open Go
def seenC (seen:List Int):List V:=(List.range 256).map fun (i:Nat)=>.sc (.bool (decide ((i:Int) ∈ seen)))
theorem seenC_len (seen:List Int):(seenC seen).length=256:=by simp [seenC]
set_option maxRecDepth 100000 in
theorem seenC_nil:seenC []=List.replicate 256 (.sc (.bool false)):=by
  refine List.ext_getElem (by rw [seenC_len,List.length_replicate]) fun i h1 h2=>?_
  rw [List.getElem_replicate]
  simp only [seenC,List.getElem_map,List.not_mem_nil,decide_false]
theorem seenC_get {seen:List Int} {i:Nat} (h:i < 256):(seenC seen)[i]?=some (.sc (.bool (decide ((i:Int) ∈ seen)))):=by
  simp [seenC,h]
theorem seenC_set {seen:List Int} {i:Nat} (h:i < 256):(seenC seen).take i ++ [.sc (.bool true)] ++ (seenC seen).drop (i + 1)=seenC ((i:Int) :: seen):=by
  rw [List.append_assoc]
  refine List.ext_getElem? fun k=>?_
  rcases Nat.lt_trichotomy k i with e | e | e
  · rw [List.getElem?_append_left (by simp only [List.length_take,seenC_len]; omega),List.getElem?_take,if_pos e,seenC_get (by omega),seenC_get (by omega)]
    have:¬ (k:Int)=i:=by omega
    simp [this]
  · subst e
    rw [List.getElem?_append_right (by simp only [List.length_take,seenC_len]; omega),seenC_get h]
    simp [seenC_len,Nat.min_eq_left (Nat.le_of_lt h)]
  · rw [List.getElem?_append_right (by simp only [List.length_take,seenC_len]; omega)]
    have e1:((seenC seen).take i).length=i:=by simp only [List.length_take,seenC_len]; omega
    rw [e1,List.getElem?_append_right (by simp; omega)]
    simp only [List.length_cons,List.length_nil,List.getElem?_drop]
    have e2:i + 1 + (k - i - (0 + 1))=k:=by omega
    rw [e2]
    rcases Nat.lt_or_ge k 256 with hk | hk
    · rw [seenC_get hk,seenC_get hk]
      have:¬ (k:Int)=i:=by omega
      simp [this]
    · rw [List.getElem?_eq_none (by rw [seenC_len]; omega),List.getElem?_eq_none (by rw [seenC_len]; omega)]
theorem judgeF_snoc {own draw:Int} {l:List Opt} {i:Nat} {o:Opt} (h:l[i]?=some o):judgeF own draw (l.take (i + 1))=judgeStep own draw (judgeF own draw (l.take i)) o:=by
  rw [take_snoc h]
  simp only [judgeF,List.foldl_append,List.foldl_cons,List.foldl_nil]
theorem judgeStep_len {own draw:Int} {a:List Opt × List Opt × List Int} {o:Opt}:(judgeStep own draw a o).1.length≤a.1.length + 1∧(judgeStep own draw a o).2.1.length≤a.2.1.length + 1:=by
  unfold judgeStep
  split
  · simp
  · refine ⟨by simp,?_⟩
    simp only [List.length_append]
    cases betterO o own draw <;> simp
theorem judgeF_len {own draw:Int} (l:List Opt):∀ i,i≤l.length→(judgeF own draw (l.take i)).1.length≤i∧(judgeF own draw (l.take i)).2.1.length≤i
  | 0,_=>by simp [judgeF]
  | i + 1,h=>by
    obtain ⟨o,ho⟩:=get_ex (L:=l) (i:=i) (by omega)
    have h1:=judgeF_len (own:=own) (draw:=draw) l i (by omega)
    have h2:=judgeStep_len (own:=own) (draw:=draw) (a:=judgeF own draw (l.take i)) (o:=o)
    rw [judgeF_snoc ho]
    omega
def Apart (u v:Tk):Prop:=∀ g k k',u=.own g k→v ≠ .own g k'
theorem Apart.nil {v:Tk}:Apart .nil v:=fun g k k' e=>by cases e
theorem Apart.symm {u v:Tk} (h:Apart u v):Apart v u:=fun g k k' e e'=>h g k' k e' e
theorem RO.two {n m:Nat} {st s s2:St} {u v t2:Tk} {L L' M:List V} (RU:RO n st s (.sl u L) L) (RV:RO m st s (.sl v M) M) (h:Apart u v) (k1:Own n s2 (.sl t2 L') L') (k2:AppSt s (.sl u L) s2 (.sl t2 L')) :
    RO n st s2 (.sl t2 L') L'∧RO m st s2 (.sl v M) M∧Apart t2 v:=by
  have R2:=RU.app k1 k2
  refine ⟨R2,⟨?_,R2.weak,R2.lt,RV.tok⟩,fun g k k' e e'=>?_⟩
  · rcases RV.own with o | ⟨g,h1,h2,h3⟩
    · exact .inl o
    · refine .inr ⟨g,h1,k2.own g _ h2 (fun l k e=>?_),by have:=k2.sz; omega⟩
      simp only [V.sl.injEq] at h1 e
      exact h g k m e.1 h1.1
  · subst e e'
    rcases k2.tok g k L' rfl with ⟨l',e1⟩ | e1
    · simp only [V.sl.injEq] at e1
      exact h g k k' e1.1 rfl
    · rcases RV.own with ⟨o,_⟩ | ⟨g',h1,h2,h3⟩
      · cases o
      · simp only [V.sl.injEq,Tk.own.injEq] at h1
        obtain ⟨⟨rfl,_⟩,_⟩:=h1
        omega
theorem mono_256 {cs:List V} (h:cs.length=256):_root_.Go.Proofs.YtcoalhgmlbhhmaaGreat.mono cs:=by
  match cs,h with
  | a :: b :: l,_=>trivial
section
variable {st:St} {tk:Tk} {l:List Opt} {own draw:Int}
set_option maxRecDepth 100000 in
set_option maxHeartbeats 16000000 in
theorem loptJudge_v (hG:GoodO l) (hl:l.length≤1000000) (d0:0≤draw) (d1:draw < 4294967296):VCalls Tryz.prog 267 [.sl tk (opts l),.sc (.int .u32 own),.sc (.int .u32 draw)] st fun r s =>
    (∃ t2,r=.tup [.sc (.int .u8 (judgeL l own draw).1),.sl t2 (opts (judgeL l own draw).2)])∧st=s:=by
  refine vcalls_enter vc267 (Nat.le_of_ble_eq_true rfl) fun hwf hok=>?_
  show Run _ Vc267.body (.fin (finQ Vc267.res _)) _ _
  unfold Vc267 zg zn zo
  have hlt:=hwf.lt
  simp (maxSteps:=3000000) only [go_sem,↓reduceIte]
  intro b hb
  generalize hs:st.put b _=s0
  have Bb:s0.box b=some (seenC []):=by
    rw [← hs,seenC_nil]
    exact put_box_same
  have W0:st.weak s0:=by rw [← hs]; exact weak_put hwf.weak hb
  have L0:s0.Lt:=by rw [← hs]; exact hlt.put
  clear hs
  refine run_loop [8,9,12,13,14,17,18,19,20,21,22,23,24,25,26,27,28,29,30,31,32,33,34,35,36,37,38,39,40,41,42,43,44,45,46,47,48,49,50,51,52,53] (fun B s=>∃ (i:Nat) (u v:Tk),i≤l.length∧B 17=.sc (.int .i64 i)∧B 8=.sl u (opts (judgeF own draw (l.take i)).1)∧B 9=.sl v (opts (judgeF own draw (l.take i)).2.1) ∧
    RO 2 st s (.sl u (opts (judgeF own draw (l.take i)).1)) (opts (judgeF own draw (l.take i)).1)∧RO 2 st s (.sl v (opts (judgeF own draw (l.take i)).2.1)) (opts (judgeF own draw (l.take i)).2.1)∧Apart u v ∧
    s.box b=some (seenC (judgeF own draw (l.take i)).2.2)) (fun B _=>l.length - vnat (B 17)) rfl ?_ ?_
  · exact ⟨0,.nil,.nil,by omega,rfl,rfl,rfl,RO.nil W0 L0,RO.nil W0 L0,.nil,Bb⟩
  · rintro B s ⟨i,u,v,hi,h17,h8,h9,RU,RV,hap,hbx⟩
    have hFl:=judgeF_len (own:=own) (draw:=draw) l i hi
    by_cases c1:i < l.length
    · obtain ⟨o,ho⟩:=get_ex c1
      obtain ⟨o0,o1,oB,oL⟩:=hG.get ho
      have hsn:=judgeF_snoc (own:=own) (draw:=draw) ho
      obtain ⟨⟨rej,nak,seen⟩,hF⟩:∃ F,F=judgeF own draw (l.take i):=⟨_,rfl⟩
      rw [← hF] at hFl h8 h9 RU RV hbx hsn
      simp only at hFl h8 h9 RU RV hbx
      obtain ⟨t,D⟩:=o
      simp only at o0 o1 oB oL
      obtain ⟨tn,rfl⟩:∃ tn:Nat,t=(tn:Int):=⟨t.toNat,by omega⟩
      have htl:tn < 256:=by omega
      have hget:=seenC_get (seen:=seen) htl
      simp (maxSteps:=3000000) only [go_sem,↓reduceIte,h17,opts_len,opts_at ho,decide_eq_true (show (i:Int) < (l.length:Int) by omega)]
      repeat (apply And.intro; focus (first | omega | (simp; done)))
      intro c hc
      have sc:st.sz≤c:=by have:=RU.weak.sz; omega
      have bc:b ≠ c:=by have:=RU.lt.box b _ hbx; omega
      have RU1:=RU.put (c:=c) (cs:=[.sc (.int .u8 (tn:Int)),.sl .no (bs D)]) sc
      have RV1:=RV.put (c:=c) (cs:=[.sc (.int .u8 (tn:Int)),.sl .no (bs D)]) sc
      have hbx1:(s.put c [.sc (.int .u8 (tn:Int)),.sl .no (bs D)]).box b=some (seenC seen):=by rw [put_box_ne bc]; exact hbx
      have hcx1:(s.put c [.sc (.int .u8 (tn:Int)),.sl .no (bs D)]).box c=some [.sc (.int .u8 (tn:Int)),.sl .no (bs D)]:=put_box_same
      generalize s.put c _=s1 at RU1 RV1 hbx1 hcx1 ⊢
      refine Cal.mk loptSize_v ?_
      rintro _ _ ⟨rfl,rfl⟩ -
      by_cases c2:sizeT (tn:Int)=(D.length:Int)
      rotate_left
      · have hj:judgeStep own draw (rej,nak,seen) ((tn:Int),D)=(rej ++ [((tn:Int),D)],nak,seen):=if_pos (.inl c2)
        rw [hj] at hsn
        simp (maxSteps:=3000000) only [go_sem,↓reduceIte,hcx1,bs_len,decide_eq_true c2,h8]
        refine App.mk (bytes:=32) (l:=opts rej) (ys:=opts [((tn:Int),D)]) RU1.own (allSz_opts _) (by simp only [opts_len,List.length_cons,List.length_nil]; unfold maxLen; omega) (by simp only [opts_len,List.length_cons,List.length_nil]; omega) ?_
        intro r2 s2 k1 k2
        rw [opts_append] at k1
        obtain ⟨t2,rfl⟩:=own_sl k1
        obtain ⟨RU2,RV2,hap2⟩:=RU1.two RV1 hap k1 k2
        have hbx2:=hbx1
        rw [← k2.box] at hbx2
        simp (maxSteps:=3000000) only [go_sem,↓reduceIte,h17,h9]
        repeat (apply And.intro; focus (first | omega | (simp; done)))
        exact ⟨⟨i + 1,t2,v,by omega,by simp,by rw [hsn],by rw [hsn],by rw [hsn]; exact RU2,by rw [hsn]; exact RV2,hap2,by rw [hsn]; exact hbx2⟩,by omega⟩
      by_cases c3:(tn:Int) ∈ seen
      · have hj:judgeStep own draw (rej,nak,seen) ((tn:Int),D)=(rej ++ [((tn:Int),D)],nak,seen):=if_pos (.inr c3)
        rw [hj] at hsn
        simp (maxSteps:=3000000) only [go_sem,↓reduceIte,hcx1,bs_len,decide_eq_false (show ¬ sizeT (tn:Int) ≠ (D.length:Int) from fun e=>e c2),hbx1,hget,decide_eq_true c3,h8]
        repeat (apply And.intro; focus (first | omega | (simp; done)))
        refine App.mk (bytes:=32) (l:=opts rej) (ys:=opts [((tn:Int),D)]) RU1.own (allSz_opts _) (by simp only [opts_len,List.length_cons,List.length_nil]; unfold maxLen; omega) (by simp only [opts_len,List.length_cons,List.length_nil]; omega) ?_
        intro r2 s2 k1 k2
        rw [opts_append] at k1
        obtain ⟨t2,rfl⟩:=own_sl k1
        obtain ⟨RU2,RV2,hap2⟩:=RU1.two RV1 hap k1 k2
        have hbx2:=hbx1
        rw [← k2.box] at hbx2
        simp (maxSteps:=3000000) only [go_sem,↓reduceIte,h17,h9]
        repeat (apply And.intro; focus (first | omega | (simp; done)))
        exact ⟨⟨i + 1,t2,v,by omega,by simp,by rw [hsn],by rw [hsn],by rw [hsn]; exact RU2,by rw [hsn]; exact RV2,hap2,by rw [hsn]; exact hbx2⟩,by omega⟩
      · have hj:judgeStep own draw (rej,nak,seen) ((tn:Int),D)=(rej,nak ++ (betterO ((tn:Int),D) own draw).toList,(tn:Int) :: seen):=if_neg (fun e=>e.elim (fun e=>e c2) c3)
        rw [hj] at hsn
        have hset:=seenC_set (seen:=seen) htl
        simp (maxSteps:=3000000) only [go_sem,↓reduceIte,hcx1,bs_len,decide_eq_false (show ¬ sizeT (tn:Int) ≠ (D.length:Int) from fun e=>e c2),hbx1,hget,decide_eq_false c3,hset,put_box_ne bc.symm]
        refine ⟨⟨by omega,by omega⟩,⟨by omega,by omega⟩,by rw [seenC_len]; omega,mono_256 (seenC_len _),?_⟩
        have RU2:=RU1.put (c:=b) (cs:=seenC ((tn:Int) :: seen)) hb
        have RV2:=RV1.put (c:=b) (cs:=seenC ((tn:Int) :: seen)) hb
        have hbx2:(s1.put b (seenC ((tn:Int) :: seen))).box b=some (seenC ((tn:Int) :: seen)):=put_box_same
        generalize s1.put b _=s2 at RU2 RV2 hbx2 ⊢
        refine Cal.mk (loptBetter_v (o:=((tn:Int),D)) oB d0 d1) ?_
        rintro _ _ ⟨rfl,rfl⟩ -
        cases hx:betterO ((tn:Int),D) own draw with
        | none =>
          rw [hx] at hsn
          simp only [Option.toList_none,List.append_nil] at hsn
          simp (maxSteps:=3000000) only [go_sem,↓reduceIte,betV,Option.isSome_none]
          intro e he
          have se:st.sz≤e:=by have:=RU2.weak.sz; omega
          have be:b ≠ e:=by have:=RU2.lt.box b _ hbx2; omega
          simp (maxSteps:=3000000) only [go_sem,↓reduceIte,h17,h8,h9]
          repeat (apply And.intro; focus (first | omega | (simp; done)))
          exact ⟨⟨i + 1,u,v,by omega,by simp,by rw [hsn],by rw [hsn],by rw [hsn]; exact RU2.put se,by rw [hsn]; exact RV2.put se,hap,by rw [hsn,put_box_ne be]; exact hbx2⟩,by omega⟩
        | some x =>
          rw [hx] at hsn
          simp only [Option.toList_some] at hsn
          simp (maxSteps:=3000000) only [go_sem,↓reduceIte,betV,optV,Option.isSome_some]
          intro e he
          have se:st.sz≤e:=by have:=RU2.weak.sz; omega
          have be:b ≠ e:=by have:=RU2.lt.box b _ hbx2; omega
          have RU3:=RU2.put (c:=e) (cs:=[.sc (.int .u8 x.1),.sl .no (bs x.2)]) se
          have RV3:=RV2.put (c:=e) (cs:=[.sc (.int .u8 x.1),.sl .no (bs x.2)]) se
          have hbx3:(s2.put e [.sc (.int .u8 x.1),.sl .no (bs x.2)]).box b=some (seenC ((tn:Int) :: seen)):=by rw [put_box_ne be]; exact hbx2
          generalize s2.put e _=s3 at RU3 RV3 hbx3 ⊢
          simp (maxSteps:=3000000) only [go_sem,h9]
          refine App.mk (bytes:=32) (l:=opts nak) (ys:=opts [x]) RV3.own (allSz_opts _) (by simp only [opts_len,List.length_cons,List.length_nil]; unfold maxLen; omega) (by simp only [opts_len,List.length_cons,List.length_nil]; omega) ?_
          intro r2 s4 k1 k2
          rw [opts_append] at k1
          obtain ⟨t2,rfl⟩:=own_sl k1
          obtain ⟨RV4,RU4,hap2⟩:=RV3.two RU3 hap.symm k1 k2
          have hbx4:=hbx3
          rw [← k2.box] at hbx4
          simp (maxSteps:=3000000) only [go_sem,↓reduceIte,h17,h8]
          repeat (apply And.intro; focus (first | omega | (simp; done)))
          exact ⟨⟨i + 1,u,t2,by omega,by simp,by rw [hsn],by rw [hsn],by rw [hsn]; exact RU4,by rw [hsn]; exact RV4,hap2.symm,by rw [hsn]; exact hbx4⟩,by omega⟩
    · obtain rfl:i=l.length:=by omega
      rw [List.take_length] at h8 h9 RU RV hFl
      unfold judgeL
      simp only
      generalize judgeF own draw l=F at h8 h9 RU RV hFl ⊢
      obtain ⟨rej,nak,seen⟩:=F
      simp only at h8 h9 RU RV hFl ⊢
      cases rej with
      | cons x rej =>
        simp (maxSteps:=3000000) only [go_sem,↓reduceIte,h17,h8,opts_len,List.length_cons,decide_eq_true (show (0:Int) < ((rej.length + 1:Nat):Int) by omega)]
        exact ⟨_,_,Wk.refl _,RU.weak,⟨u,rfl⟩,rfl⟩
      | nil =>
        cases nak with
        | cons x nak =>
          simp (maxSteps:=3000000) only [go_sem,↓reduceIte,h17,h8,h9,opts_len,List.length_cons,List.length_nil,decide_eq_false (show ¬ (0:Int) < ((0:Nat):Int) by decide),decide_eq_true (show (0:Int) < ((nak.length + 1:Nat):Int) by omega)]
          exact ⟨_,_,Wk.refl _,RU.weak,⟨v,rfl⟩,rfl⟩
        | nil =>
          simp (maxSteps:=3000000) only [go_sem,↓reduceIte,h17,h8,h9,opts_len,List.length_nil,decide_eq_false (show ¬ (0:Int) < ((0:Nat):Int) by decide)]
          exact ⟨_,_,Wk.refl _,RU.weak,⟨tk,rfl⟩,rfl⟩
end
end
section
open Go
def adA (w:AW) (i:Int):Int:=if i=0 then w.a else if i=1 then w.d1 else w.d2
def plcI (t:Int):Int:=if t=3 then 0 else if t=129 then 1 else if t=131 then 2 else 0
def plcB (t:Int):Bool:=decide (t=3 ∨ t=129 ∨ t=131)
theorem plc_at {g:AW} {t:Int} (h:plcB t=true):adA g (plcI t)=g.of t:=by
  have h:=of_decide_eq_true h
  rcases h with rfl | rfl | rfl <;> rfl
theorem plc_no {g:AW} {t:Int} (h:plcB t=false):g.of t=0:=by
  have h:=of_decide_eq_false h
  simp only [not_or] at h
  unfold AW.of
  rw [if_neg h.1,if_neg h.2.1,if_neg h.2.2]
section
variable {st:St} {tk:Tk} {w g:AW} {l:List Opt}
theorem ioptPlace_v {t:Int}:VCalls Tryz.prog 282 [.sc (.int .u8 t)] st fun r s=>r=.tup [.sc (.int .i64 (plcI t)),.sc (.bool (plcB t))]∧st=s:=by
  unfold plcI plcB
  refine vcalls_enterq pc282 (Nat.le_of_ble_eq_true rfl) rfl fun hwf hok=>?_
  show Run _ Pc282.body (.fin (finP Pc282.res _)) _ _
  unfold Pc282 zo
  by_cases c1:t=3
  · simp (maxSteps:=3000000) only [go_sem,↓reduceIte,decide_eq_true c1]
    exact ⟨_,_,Wk.refl _,hwf.weak,by simp [c1],rfl⟩
  by_cases c2:t=129
  · simp (maxSteps:=3000000) only [go_sem,↓reduceIte,decide_eq_false c1,decide_eq_true c2]
    exact ⟨_,_,Wk.refl _,hwf.weak,by simp [c2],rfl⟩
  by_cases c3:t=131
  · simp (maxSteps:=3000000) only [go_sem,↓reduceIte,decide_eq_false c1,decide_eq_false c2,decide_eq_true c3]
    exact ⟨_,_,Wk.refl _,hwf.weak,by simp [c3],rfl⟩
  · simp (maxSteps:=3000000) only [go_sem,↓reduceIte,decide_eq_false c1,decide_eq_false c2,decide_eq_false c3]
    exact ⟨_,_,Wk.refl _,hwf.weak,by simp [c1,c2,c3],rfl⟩
theorem ioptAt_v {i:Int} (h0:0≤i) (h2:i≤2):VCalls Tryz.prog 283 [.agg w.cells,.sc (.int .i64 i)] st fun r s=>r=.sc (.int .u32 (adA w i))∧st=s:=by
  have hc:i=0 ∨ i=1 ∨ i=2:=by omega
  rcases hc with rfl | rfl | rfl
  all_goals
    refine vcalls_enterq pc283 (Nat.le_of_ble_eq_true rfl) rfl fun hwf hok=>?_
    show Run _ Pc283.body (.fin (finP Pc283.res _)) _ _
    unfold Pc283 zo
    simp (maxSteps:=3000000) only [go_sem,↓reduceIte,AW.cells]
    intro b hb
    have W:=weak_put (cs:=[.sc (.int .u32 w.a),.sc (.int .u32 w.d1),.sc (.int .u32 w.d2)]) hwf.weak hb
    first | exact ⟨_,_,Wk.refl _,W,rfl,rfl⟩ | exact ⟨by omega,_,_,Wk.refl _,W,rfl,rfl⟩
theorem ioptOne_v {t x:Int} (h0:0≤x) (h1:x < 4294967296):VCalls Tryz.prog 284 [.sc (.int .u8 t),.sc (.int .u32 x)] st fun r s=>(∃ u,r=.agg [.sc (.int .u8 t),.sl u (bs (beL x 4))])∧st.weak s∧s.Lt:=by
  refine vcalls_enterq pc284 (Nat.le_of_ble_eq_true rfl) rfl fun hwf hok=>?_
  show Run _ Pc284.body (.fin (finP Pc284.res _)) _ _
  unfold Pc284 zo
  simp (maxSteps:=3000000) only [go_sem,↓reduceIte]
  refine Cal.mk (Put32_v (L:=[]) own_nil (by simp) h0 h1) ?_
  rintro r s1 ⟨o1,o2⟩ -
  have R1:=(RO.nil hwf.lt.weak hwf.lt).app o1 o2
  obtain ⟨t1,rfl⟩:=R1.sl
  simp (maxSteps:=3000000) only [go_sem,↓reduceIte]
  exact ⟨_,_,Wk.refl _,R1.lt.weak,⟨t1,rfl⟩,R1.weak,R1.lt⟩
theorem opt_app {s:St} {t:Tk} {P:List Opt} (o:Opt) {d:Option Nat} {rest:List VO} {k:Kt} {A:Nat→V} (R:RO 2 st s (.sl t (opts P)) (opts P)) (hl:P.length≤100000000) (hk:∀ t2 s2,RO 2 st s2 (.sl t2 (opts (P ++ [o]))) (opts (P ++ [o]))→Ops Tryz.prog rest k (putV A d (.sl t2 (opts (P ++ [o])))) s2):App Tryz.prog 2 32 (.sl t (opts P)) (.sl .no [.agg [.sc (.int .u8 o.1),.sl .no (bs o.2)]]) d [] rest k A s:=by
  refine App.mk (bytes:=32) (l:=opts P) (ys:=opts [o]) R.own (allSz_opts _) (by simp only [opts_len,List.length_cons,List.length_nil]; unfold maxLen; omega) (by simp only [opts_len,List.length_cons,List.length_nil]; omega) ?_
  intro r2 s2 k1 k2
  have R2:=R.app k1 k2
  rw [opts_append] at R2
  obtain ⟨t2,rfl⟩:=R2.sl
  exact ⟨trivial,hk t2 s2 R2⟩
def firstA (w:AW):Nat→List Opt
  | 0=>[]
  | 1=>if w.a ≠ 0 then [oneA 3 w.a] else []
  | 2=>(if w.a ≠ 0 then [oneA 3 w.a] else []) ++ (if w.d1 ≠ 0 then [oneA 129 w.d1] else [])
  | _=>optsA w
theorem RO.over' {size:Nat} {base s t:St} {x:V} {l:List V} (h:RO size base s x l) (hw:s.weak t) (hl:t.Lt):RO size base t x l :=
  h.tn (Tn.ofWeak (bx:=[]) hw hl) (by simp)
theorem firstA_len (w:AW) (i:Nat):(firstA w i).length≤3:=by
  have h:=optsA_len w
  unfold optsA at h
  simp only [List.length_append] at h
  match i with
  | 0=>simp [firstA]
  | 1=>simp only [firstA]; omega
  | 2=>simp only [firstA,List.length_append]; omega
  | n + 3=>simp only [firstA,optsA,List.length_append]; omega
theorem firstA_next {w:AW} {i:Nat} (hi:i < 3) {t x:Int} (h:i=0∧t=3∧x=w.a ∨ i=1∧t=129∧x=w.d1 ∨ i=2∧t=131∧x=w.d2):firstA w (i + 1)=firstA w i ++ if x ≠ 0 then [oneA t x] else []:=by
  rcases h with ⟨rfl,rfl,rfl⟩ | ⟨rfl,rfl,rfl⟩ | ⟨rfl,rfl,rfl⟩ <;> rfl
set_option maxRecDepth 100000 in
set_option maxHeartbeats 4000000 in
theorem ioptOptions_v (hw:w.Good):VCalls Tryz.prog 281 [.agg w.cells] st fun r s=>r=.sl .no (opts (optsA w))∧st=s:=by
  refine vcalls_enterq pc281 (Nat.le_of_ble_eq_true rfl) rfl fun hwf hok=>?_
  show Run _ Pc281.body (.fin (finP Pc281.res _)) _ _
  unfold Pc281 zo
  obtain ⟨w1,w2,w3,w4,w5,w6⟩:=hw
  simp (maxSteps:=3000000) only [go_sem,AW.cells]
  refine run_loop [3,4,5,6,8,9,11,12,14,16,20,21,22,23] (fun B s=>∃ (i:Nat) (t:Tk),i≤3∧B 8=.sc (.int .i64 i)∧B 3=.sl t (opts (firstA w i))∧RO 2 st s (.sl t (opts (firstA w i))) (opts (firstA w i))) (fun B _=>3 - vnat (B 8)) rfl ?_ ?_
  · exact ⟨0,.nil,by omega,rfl,rfl,RO.nil hwf.weak hwf.lt⟩
  · rintro B s ⟨i,t,hi,h8,h3,R⟩
    by_cases c:i < 3
    rotate_left
    · obtain rfl:i=3:=by omega
      have h8:B 8=.sc (.int .i64 3):=h8
      simp (maxSteps:=3000000) only [go_sem,↓reduceIte,h8,h3]
      exact ⟨_,_,Wk.no,R.weak,rfl,rfl⟩
    have hlen:=firstA_len w i
    have hc:i=0 ∨ i=1 ∨ i=2:=by omega
    have key:∀ (ty x:Int),(i=0∧ty=3∧x=w.a ∨ i=1∧ty=129∧x=w.d1 ∨ i=2∧ty=131∧x=w.d2)→adA w i=x∧firstA w (i + 1)=firstA w i ++ if x ≠ 0 then [oneA ty x] else []:=fun ty x h=>by
      refine ⟨?_,firstA_next c h⟩
      rcases h with ⟨rfl,_,rfl⟩ | ⟨rfl,_,rfl⟩ | ⟨rfl,_,rfl⟩ <;> rfl
    rcases hc with rfl | rfl | rfl
    · have h8:B 8=.sc (.int .i64 0):=h8
      obtain ⟨ka,kf⟩:=key 3 w.a (.inl ⟨rfl,rfl,rfl⟩)
      rw [show (((0:Nat):Int))=0 from rfl] at ka
      simp (maxSteps:=3000000) only [go_sem,↓reduceIte,h8]
      repeat (apply And.intro; focus (first | omega | (simp; done)))
      refine Cal.mk (ioptAt_v (w:=w) (i:=0) (by decide) (by decide)) ?_
      rintro _ _ ⟨rfl,rfl⟩ -
      rw [ka]
      by_cases c0:w.a=0
      · rw [if_neg (fun e=>e c0),List.append_nil] at kf
        simp (maxSteps:=3000000) only [go_sem,↓reduceIte,decide_eq_false (show ¬ w.a ≠ 0 from fun e=>e c0),h8]
        exact ⟨0 + 1,t,by omega,rfl,by rw [kf]; exact h3,by rw [kf]; exact R⟩
      · rw [if_pos c0] at kf
        simp (maxSteps:=3000000) only [go_sem,↓reduceIte,decide_eq_true (show w.a ≠ 0 from c0)]
        refine Cal.mk (ioptOne_v (t:=3) (x:=w.a) (by assumption) (by assumption)) ?_
        rintro _ s1 ⟨⟨u,rfl⟩,W1,L1⟩ -
        simp (maxSteps:=3000000) only [go_sem,↓reduceIte,h3]
        refine opt_app (oneA 3 w.a) (R.over' W1 L1) (by omega) fun t2 s2 R2=>?_
        rw [← kf] at R2 ⊢
        simp (maxSteps:=3000000) only [go_sem,↓reduceIte,h8]
        exact ⟨0 + 1,t2,by omega,rfl,rfl,R2⟩
    · have h8:B 8=.sc (.int .i64 1):=h8
      obtain ⟨ka,kf⟩:=key 129 w.d1 (.inr (.inl ⟨rfl,rfl,rfl⟩))
      rw [show (((1:Nat):Int))=1 from rfl] at ka
      simp (maxSteps:=3000000) only [go_sem,↓reduceIte,h8]
      repeat (apply And.intro; focus (first | omega | (simp; done)))
      refine Cal.mk (ioptAt_v (w:=w) (i:=1) (by decide) (by decide)) ?_
      rintro _ _ ⟨rfl,rfl⟩ -
      rw [ka]
      by_cases c0:w.d1=0
      · rw [if_neg (fun e=>e c0),List.append_nil] at kf
        simp (maxSteps:=3000000) only [go_sem,↓reduceIte,decide_eq_false (show ¬ w.d1 ≠ 0 from fun e=>e c0),h8]
        exact ⟨1 + 1,t,by omega,rfl,by rw [kf]; exact h3,by rw [kf]; exact R⟩
      · rw [if_pos c0] at kf
        simp (maxSteps:=3000000) only [go_sem,↓reduceIte,decide_eq_true (show w.d1 ≠ 0 from c0)]
        refine Cal.mk (ioptOne_v (t:=129) (x:=w.d1) (by assumption) (by assumption)) ?_
        rintro _ s1 ⟨⟨u,rfl⟩,W1,L1⟩ -
        simp (maxSteps:=3000000) only [go_sem,↓reduceIte,h3]
        refine opt_app (oneA 129 w.d1) (R.over' W1 L1) (by omega) fun t2 s2 R2=>?_
        rw [← kf] at R2 ⊢
        simp (maxSteps:=3000000) only [go_sem,↓reduceIte,h8]
        exact ⟨1 + 1,t2,by omega,rfl,rfl,R2⟩
    · have h8:B 8=.sc (.int .i64 2):=h8
      obtain ⟨ka,kf⟩:=key 131 w.d2 (.inr (.inr ⟨rfl,rfl,rfl⟩))
      rw [show (((2:Nat):Int))=2 from rfl] at ka
      simp (maxSteps:=3000000) only [go_sem,↓reduceIte,h8]
      repeat (apply And.intro; focus (first | omega | (simp; done)))
      refine Cal.mk (ioptAt_v (w:=w) (i:=2) (by decide) (by decide)) ?_
      rintro _ _ ⟨rfl,rfl⟩ -
      rw [ka]
      by_cases c0:w.d2=0
      · rw [if_neg (fun e=>e c0),List.append_nil] at kf
        simp (maxSteps:=3000000) only [go_sem,↓reduceIte,decide_eq_false (show ¬ w.d2 ≠ 0 from fun e=>e c0),h8]
        exact ⟨2 + 1,t,by omega,rfl,by rw [kf]; exact h3,by rw [kf]; exact R⟩
      · rw [if_pos c0] at kf
        simp (maxSteps:=3000000) only [go_sem,↓reduceIte,decide_eq_true (show w.d2 ≠ 0 from c0)]
        refine Cal.mk (ioptOne_v (t:=131) (x:=w.d2) (by assumption) (by assumption)) ?_
        rintro _ s1 ⟨⟨u,rfl⟩,W1,L1⟩ -
        simp (maxSteps:=3000000) only [go_sem,↓reduceIte,h3]
        refine opt_app (oneA 131 w.d2) (R.over' W1 L1) (by omega) fun t2 s2 R2=>?_
        rw [← kf] at R2 ⊢
        simp (maxSteps:=3000000) only [go_sem,↓reduceIte,h8]
        exact ⟨2 + 1,t2,by omega,rfl,rfl,R2⟩
end
end
section
open Go
theorem ofA_snoc {l:List Opt} {i:Nat} {o:Opt} (h:l[i]?=some o):(l.take (i + 1)).foldl ofStepA .zero=ofStepA ((l.take i).foldl ofStepA .zero) o:=by
  rw [take_snoc h,List.foldl_append]; rfl
theorem foldA_snoc {g:AW} {l:List Opt} {i:Nat} {o:Opt} (h:l[i]?=some o):foldA g (l.take (i + 1))=stepA g (foldA g (l.take i)) o:=by
  unfold foldA
  rw [take_snoc h,List.foldl_append]; rfl
structure JI (st s:St) (b:Nat) (u v:Tk) (F:List Opt × List Opt × List Int):Prop where
  RU:RO 2 st s (.sl u (opts F.1)) (opts F.1)
  RV:RO 2 st s (.sl v (opts F.2.1)) (opts F.2.1)
  ap:Apart u v
  bx:s.box b=some [.sc (.bool (decide (3 ∈ F.2.2))),.sc (.bool (decide (129 ∈ F.2.2))),.sc (.bool (decide (131 ∈ F.2.2)))]
  sb:st.sz≤b
section
variable {st s:St} {tk:Tk} {w g:AW} {l:List Opt} {b:Nat} {u v:Tk} {rej nak:List Opt} {seen:List Int}
theorem JI.addR (J:JI st s b u v (rej,nak,seen)) (o:Opt) (hl:rej.length≤100000000) {d:Option Nat} {rest:List VO} {k:Kt} {A:Nat→V} (hk:∀ t2 s2,JI st s2 b t2 v (rej ++ [o],nak,seen)→Ops Tryz.prog rest k (putV A d (.sl t2 (opts (rej ++ [o])))) s2):App Tryz.prog 2 32 (.sl u (opts rej)) (.sl .no [.agg [.sc (.int .u8 o.1),.sl .no (bs o.2)]]) d [] rest k A s:=by
  refine App.mk (bytes:=32) (l:=opts rej) (ys:=opts [o]) J.RU.own (allSz_opts _) (by simp only [opts_len,List.length_cons,List.length_nil]; unfold maxLen; omega) (by simp only [opts_len,List.length_cons,List.length_nil]; omega) ?_
  intro r2 s2 k1 k2
  rw [opts_append] at k1
  obtain ⟨t2,rfl⟩:=own_sl k1
  obtain ⟨RU2,RV2,hap2⟩:=J.RU.two J.RV J.ap k1 k2
  exact ⟨trivial,hk t2 s2 ⟨RU2,RV2,hap2,by rw [k2.box]; exact J.bx,J.sb⟩⟩
theorem JI.addN (J:JI st s b u v (rej,nak,seen)) (o:Opt) (hl:nak.length≤100000000) {d:Option Nat} {rest:List VO} {k:Kt} {A:Nat→V} (hk:∀ t2 s2,JI st s2 b u t2 (rej,nak ++ [o],seen)→Ops Tryz.prog rest k (putV A d (.sl t2 (opts (nak ++ [o])))) s2):App Tryz.prog 2 32 (.sl v (opts nak)) (.sl .no [.agg [.sc (.int .u8 o.1),.sl .no (bs o.2)]]) d [] rest k A s:=by
  refine App.mk (bytes:=32) (l:=opts nak) (ys:=opts [o]) J.RV.own (allSz_opts _) (by simp only [opts_len,List.length_cons,List.length_nil]; unfold maxLen; omega) (by simp only [opts_len,List.length_cons,List.length_nil]; omega) ?_
  intro r2 s2 k1 k2
  rw [opts_append] at k1
  obtain ⟨t2,rfl⟩:=own_sl k1
  obtain ⟨RV2,RU2,hap2⟩:=J.RV.two J.RU J.ap.symm k1 k2
  exact ⟨trivial,hk t2 s2 ⟨RU2,RV2,hap2.symm,by rw [k2.box]; exact J.bx,J.sb⟩⟩
theorem JI.over (J:JI st s b u v (rej,nak,seen)) {s2:St} (hw:s.weak s2) (hl:s2.Lt):JI st s2 b u v (rej,nak,seen) :=
  ⟨J.RU.over' hw hl,J.RV.over' hw hl,J.ap,(hw.box b _ J.bx).1,J.sb⟩
theorem JI.see (J:JI st s b u v (rej,nak,seen)) {seen2:List Int}:JI st (s.put b [.sc (.bool (decide (3 ∈ seen2))),.sc (.bool (decide (129 ∈ seen2))),.sc (.bool (decide (131 ∈ seen2)))]) b u v (rej,nak,seen2) :=
  ⟨J.RU.put J.sb,J.RV.put J.sb,J.ap,put_box_same,J.sb⟩
set_option maxRecDepth 100000 in
set_option maxHeartbeats 4000000 in
theorem ioptOf_v (hG:GoodO l) (hl:l.length≤1000000):VCalls Tryz.prog 279 [.sl tk (opts l)] st fun r s=>r=.agg (ofA l).cells∧st=s:=by
  refine vcalls_enterq pc279 (Nat.le_of_ble_eq_true rfl) rfl fun hwf hok=>?_
  show Run _ Pc279.body (.fin (finP Pc279.res _)) _ _
  unfold Pc279 zg zn zo
  have hlt:=hwf.lt
  simp (maxSteps:=3000000) only [go_sem,↓reduceIte]
  intro b hb
  refine run_loop [5,6,7,8,11,12,13,14,17,18,19,20,22,25,26,27,28,30,31,33,35,37,39,40,41] (fun B s=>∃ (i:Nat) (X:AW),i≤l.length∧B 11=.sc (.int .i64 i)∧X=(l.take i).foldl ofStepA .zero∧s=st.put b X.cells) (fun B _=>l.length - vnat (B 11)) rfl ?_ ?_
  · exact ⟨0,.zero,by omega,rfl,by simp,rfl⟩
  · rintro B s ⟨i,X,hi,h11,hX,rfl⟩
    by_cases c1:i < l.length
    rotate_left
    · obtain rfl:i=l.length:=by omega
      rw [List.take_length] at hX
      simp (maxSteps:=3000000) only [go_sem,↓reduceIte,h11,opts_len,AW.cells,put_box_same]
      exact ⟨_,_,Wk.refl _,weak_put hwf.weak hb,by rw [ofA,← hX],rfl⟩
    obtain ⟨⟨T,D⟩,ho⟩:=get_ex c1
    obtain ⟨q0,q1,oB,oL⟩:=hG.get ho
    simp only at oB
    have hil:=decide_eq_true (show (i:Int) < (l.length:Int) by omega)
    have hsn:=ofA_snoc ho
    rw [← hX] at hsn
    have done:∀ X2,X2=ofStepA X (T,D)→(∃ (i':Nat) (X':AW),i'≤l.length∧V.sc (.int .i64 ((i:Int) + 1))=.sc (.int .i64 i')∧X'=(l.take i').foldl ofStepA .zero∧st.put b X2.cells=st.put b X'.cells)∧l.length - ((i:Int) + 1).toNat < l.length - i:=fun X2 e =>
      ⟨⟨i + 1,X2,by omega,by simp,by rw [hsn,e],rfl⟩,by omega⟩
    simp (maxSteps:=3000000) only [go_sem,↓reduceIte,h11,opts_len,hil,opts_at ho]
    repeat (apply And.intro; focus (first | omega | (simp; done)))
    refine Cal.mk ioptPlace_v ?_
    rintro _ _ ⟨rfl,rfl⟩ -
    by_cases c2:T=3 ∨ T=129 ∨ T=131
    rotate_left
    · have e:=done X (by
        simp only [not_or] at c2
        unfold ofStepA
        split
        · rfl
        · rw [if_neg c2.1,if_neg c2.2.1,if_neg c2.2.2])
      unfold AW.cells at e
      simp (maxSteps:=3000000) only [go_sem,↓reduceIte,show plcB T=false from decide_eq_false c2,Bool.not_false,h11,AW.cells]
      repeat (apply And.intro; focus (first | omega | (simp; done)))
      exact e
    have hpb:plcB T=true:=decide_eq_true c2
    by_cases c3:D.length=4
    rotate_left
    · have e:=done X (by unfold ofStepA; rw [if_pos c3])
      unfold AW.cells at e
      simp (maxSteps:=3000000) only [go_sem,↓reduceIte,hpb,Bool.not_true,bs_len,decide_eq_true (show (D.length:Int) ≠ 4 by omega),h11,AW.cells]
      repeat (apply And.intro; focus (first | omega | (simp; done)))
      exact e
    have hc3:=decide_eq_false (show ¬ (D.length:Int) ≠ 4 by omega)
    simp (maxSteps:=3000000) only [go_sem,↓reduceIte,hpb,Bool.not_true,bs_len,hc3]
    refine Cal.mk (Get32_n oB) ?_
    rintro _ _ ⟨rfl,rfl⟩ -
    rcases c2 with rfl | rfl | rfl
    · have e:=done { X with a:=num4 D } (by unfold ofStepA; rw [if_neg (fun e=>e c3)]; rfl)
      unfold AW.cells at e
      simp (maxSteps:=3000000) only [go_sem,↓reduceIte,show plcI 3=0 from rfl,h11,AW.cells,put_box_same,put_put]
      repeat (apply And.intro; focus (first | omega | (simp; done)))
      exact e
    · have e:=done { X with d1:=num4 D } (by unfold ofStepA; rw [if_neg (fun e=>e c3)]; rfl)
      unfold AW.cells at e
      simp (maxSteps:=3000000) only [go_sem,↓reduceIte,show plcI 129=1 from rfl,h11,AW.cells,put_box_same,put_put]
      repeat (apply And.intro; focus (first | omega | (simp; done)))
      exact e
    · have e:=done { X with d2:=num4 D } (by unfold ofStepA; rw [if_neg (fun e=>e c3)]; rfl)
      unfold AW.cells at e
      simp (maxSteps:=3000000) only [go_sem,↓reduceIte,show plcI 131=2 from rfl,h11,AW.cells,put_box_same,put_put]
      repeat (apply And.intro; focus (first | omega | (simp; done)))
      exact e
set_option maxRecDepth 100000 in
set_option maxHeartbeats 16000000 in
theorem ioptJudge_v (hg:g.Good) (hG:GoodO l) (hl:l.length≤1000000):VCalls Tryz.prog 280 [.sl tk (opts l),.agg g.cells] st fun r s=>(∃ t2,r=.tup [.sc (.int .u8 (judgeA l g).1),.sl t2 (opts (judgeA l g).2)])∧st=s:=by
  refine vcalls_enterq pc280 (Nat.le_of_ble_eq_true rfl) rfl fun hwf hok=>?_
  show Run _ Pc280.body (.fin (finP Pc280.res _)) _ _
  unfold Pc280 zg zn zo
  have hlt:=hwf.lt
  simp (maxSteps:=3000000) only [go_sem,↓reduceIte,AW.cells]
  intro b hb
  refine run_loop [6,7,10,11,12,15,16,17,18,21,22,23,24,26,29,30,31,32,34,35,36,37,39,40,41,42,43,45,46,47,49,51,52,53,55,56,59,60,62,63,64,65,66] (fun B s=>∃ (i:Nat) (u v:Tk),i≤l.length∧B 15=.sc (.int .i64 i)∧B 6=.sl u (opts (foldA g (l.take i)).1)∧B 7=.sl v (opts (foldA g (l.take i)).2.1)∧JI st s b u v (foldA g (l.take i))) (fun B _=>l.length - vnat (B 15)) rfl ?_ ?_
  · exact ⟨0,.nil,.nil,by omega,rfl,rfl,rfl,RO.nil (weak_put hwf.weak hb) hlt.put,RO.nil (weak_put hwf.weak hb) hlt.put,.nil,put_box_same,hb⟩
  · rintro B s ⟨i,u,v,hi,h15,h6,h7,J⟩
    have hFl:=foldA_len (g:=g) (l:=l.take i) (a:=([],[],[]))
    have hti:(l.take i).length≤1000000:=by simp only [List.length_take]; omega
    change (foldA g (l.take i)).1.length≤_∧(foldA g (l.take i)).2.1.length≤_ at hFl
    simp only [List.length_nil,Nat.zero_add] at hFl
    by_cases c1:i < l.length
    · obtain ⟨⟨T,D⟩,ho⟩:=get_ex c1
      obtain ⟨q0,q1,oB,oL⟩:=hG.get ho
      simp only at oB
      have hil:=decide_eq_true (show (i:Int) < (l.length:Int) by omega)
      have hsn:=foldA_snoc (g:=g) ho
      generalize foldA g (l.take i)=F at h6 h7 J hFl hsn
      obtain ⟨rej,nak,seen⟩:=F
      simp only at h6 h7 hFl
      have done:∀ (u2 v2:Tk) (s2:St) (F2:List Opt × List Opt × List Int),F2=stepA g (rej,nak,seen) (T,D)→JI st s2 b u2 v2 F2→(∃ (i':Nat) (u' v':Tk),i'≤l.length∧V.sc (.int .i64 ((i:Int) + 1))=.sc (.int .i64 i')∧V.sl u2 (opts F2.1)=.sl u' (opts (foldA g (l.take i')).1)∧V.sl v2 (opts F2.2.1)=.sl v' (opts (foldA g (l.take i')).2.1)∧JI st s2 b u' v' (foldA g (l.take i')))∧l.length - ((i:Int) + 1).toNat < l.length - i:=fun u2 v2 s2 F2 e k =>
        ⟨⟨i + 1,u2,v2,by omega,by simp,by rw [hsn,e],by rw [hsn,e],by rw [hsn,← e]; exact k⟩,by omega⟩
      have hof:=AW.of_rng hg T
      simp (maxSteps:=3000000) only [go_sem,↓reduceIte,h15,opts_len,hil,opts_at ho]
      repeat (apply And.intro; focus (first | omega | (simp; done)))
      refine Cal.mk ioptPlace_v ?_
      rintro _ _ ⟨rfl,rfl⟩ -
      by_cases c2:T=3 ∨ T=129 ∨ T=131
      rotate_left
      · have hpb:plcB T=false:=decide_eq_false c2
        have hst:stepA g (rej,nak,seen) (T,D)=(rej ++ [(T,D)],nak,seen):=if_pos (.inl (plc_no hpb))
        simp (maxSteps:=3000000) only [go_sem,↓reduceIte,hpb,Bool.not_false,h6]
        refine J.addR (T,D) (by omega) fun t2 s2 J2=>?_
        have e:=done t2 v s2 _ hst.symm J2
        simp (maxSteps:=3000000) only [go_sem,↓reduceIte,h15,h7]
        repeat (apply And.intro; focus (first | omega | (simp; done)))
        exact e
      have hpb:plcB T=true:=decide_eq_true c2
      have hat:=plc_at (g:=g) hpb
      have bx:=J.bx
      simp only at bx
      by_cases c3:D.length=4
      rotate_left
      · have hst:stepA g (rej,nak,seen) (T,D)=(rej ++ [(T,D)],nak,seen):=if_pos (.inr (.inl c3))
        simp (maxSteps:=3000000) only [go_sem,↓reduceIte,hpb,Bool.not_true,bs_len,decide_eq_true (show (D.length:Int) ≠ 4 by omega),h6]
        refine J.addR (T,D) (by omega) fun t2 s2 J2=>?_
        have e:=done t2 v s2 _ hst.symm J2
        simp (maxSteps:=3000000) only [go_sem,↓reduceIte,h15,h7]
        repeat (apply And.intro; focus (first | omega | (simp; done)))
        exact e
      have hc3:=decide_eq_false (show ¬ (D.length:Int) ≠ 4 by omega)
      simp (maxSteps:=3000000) only [go_sem,↓reduceIte,hpb,Bool.not_true,bs_len,hc3]
      rcases c2 with rfl | rfl | rfl
      · rw [show plcI 3=0 from rfl] at hat ⊢
        by_cases c4:3 ∈ seen
        · have hst:stepA g (rej,nak,seen) (3,D)=(rej ++ [(3,D)],nak,seen):=if_pos (.inr (.inr c4))
          simp (maxSteps:=3000000) only [go_sem,↓reduceIte,bx,decide_eq_true c4,h6]
          repeat (apply And.intro; focus (first | omega | (simp; done)))
          refine J.addR (3,D) (by omega) fun t2 s2 J2=>?_
          have e:=done t2 v s2 _ hst.symm J2
          simp (maxSteps:=3000000) only [go_sem,↓reduceIte,h15,h7]
          repeat (apply And.intro; focus (first | omega | (simp; done)))
          exact e
        simp (maxSteps:=3000000) only [go_sem,↓reduceIte,bx,decide_eq_false c4]
        repeat (apply And.intro; focus (first | omega | (simp; done)))
        refine Cal.mk (ioptAt_v (w:=g) (i:=0) (by decide) (by decide)) ?_
        rintro _ _ ⟨rfl,rfl⟩ -
        rw [hat]
        by_cases c5:g.of 3=0
        · have hst:stepA g (rej,nak,seen) (3,D)=(rej ++ [(3,D)],nak,seen):=if_pos (.inl c5)
          simp (maxSteps:=3000000) only [go_sem,↓reduceIte,decide_eq_true c5,h6]
          refine J.addR (3,D) (by omega) fun t2 s2 J2=>?_
          have e:=done t2 v s2 _ hst.symm J2
          simp (maxSteps:=3000000) only [go_sem,↓reduceIte,h15,h7]
          repeat (apply And.intro; focus (first | omega | (simp; done)))
          exact e
        have J1:=J.see (seen2:=3 :: seen)
        rw [show decide ((129:Int) ∈ 3 :: seen)=decide (129 ∈ seen) from by simp,show decide ((131:Int) ∈ 3 :: seen)=decide (131 ∈ seen) from by simp,show decide ((3:Int) ∈ 3 :: seen)=true from by simp] at J1
        have hst:stepA g (rej,nak,seen) (3,D)=(rej,nak ++ (if num4 D ≠ g.of 3 then [oneA 3 (g.of 3)] else []),3 :: seen):=if_neg (by simp only [not_or,Decidable.not_not]; exact ⟨c5,c3,c4⟩)
        simp (maxSteps:=3000000) only [go_sem,↓reduceIte,decide_eq_false c5,bx]
        repeat (apply And.intro; focus (first | omega | (simp; done)))
        generalize s.put b _=s1 at J1 ⊢
        refine Cal.mk (Get32_n oB) ?_
        rintro _ _ ⟨rfl,rfl⟩ -
        simp (maxSteps:=3000000) only [go_sem,↓reduceIte]
        refine Cal.mk (ioptAt_v (w:=g) (i:=0) (by decide) (by decide)) ?_
        rintro _ _ ⟨rfl,rfl⟩ -
        rw [hat]
        by_cases c6:num4 D=g.of 3
        · rw [if_neg (fun e=>e c6),List.append_nil] at hst
          have e:=done u v s1 _ hst.symm J1
          simp (maxSteps:=3000000) only [go_sem,↓reduceIte,decide_eq_false (show ¬ num4 D ≠ g.of 3 from fun e=>e c6),h15,h6,h7]
          repeat (apply And.intro; focus (first | omega | (simp; done)))
          exact e
        · rw [if_pos c6] at hst
          simp (maxSteps:=3000000) only [go_sem,↓reduceIte,decide_eq_true (show num4 D ≠ g.of 3 from c6)]
          refine Cal.mk (ioptAt_v (w:=g) (i:=0) (by decide) (by decide)) ?_
          rintro _ _ ⟨rfl,rfl⟩ -
          rw [hat]
          simp (maxSteps:=3000000) only [go_sem,↓reduceIte]
          refine Cal.mk (ioptOne_v (t:=3) hof.1 hof.2) ?_
          rintro _ s2 ⟨⟨t,rfl⟩,W2,L2⟩ -
          simp (maxSteps:=3000000) only [go_sem,↓reduceIte,h7]
          refine (J1.over W2 L2).addN (oneA 3 (g.of 3)) (by omega) fun t3 s3 J3=>?_
          have e:=done u t3 s3 _ hst.symm J3
          simp (maxSteps:=3000000) only [go_sem,↓reduceIte,h15,h6]
          repeat (apply And.intro; focus (first | omega | (simp; done)))
          exact e
      · rw [show plcI 129=1 from rfl] at hat ⊢
        by_cases c4:129 ∈ seen
        · have hst:stepA g (rej,nak,seen) (129,D)=(rej ++ [(129,D)],nak,seen):=if_pos (.inr (.inr c4))
          simp (maxSteps:=3000000) only [go_sem,↓reduceIte,bx,decide_eq_true c4,h6]
          repeat (apply And.intro; focus (first | omega | (simp; done)))
          refine J.addR (129,D) (by omega) fun t2 s2 J2=>?_
          have e:=done t2 v s2 _ hst.symm J2
          simp (maxSteps:=3000000) only [go_sem,↓reduceIte,h15,h7]
          repeat (apply And.intro; focus (first | omega | (simp; done)))
          exact e
        simp (maxSteps:=3000000) only [go_sem,↓reduceIte,bx,decide_eq_false c4]
        repeat (apply And.intro; focus (first | omega | (simp; done)))
        refine Cal.mk (ioptAt_v (w:=g) (i:=1) (by decide) (by decide)) ?_
        rintro _ _ ⟨rfl,rfl⟩ -
        rw [hat]
        by_cases c5:g.of 129=0
        · have hst:stepA g (rej,nak,seen) (129,D)=(rej ++ [(129,D)],nak,seen):=if_pos (.inl c5)
          simp (maxSteps:=3000000) only [go_sem,↓reduceIte,decide_eq_true c5,h6]
          refine J.addR (129,D) (by omega) fun t2 s2 J2=>?_
          have e:=done t2 v s2 _ hst.symm J2
          simp (maxSteps:=3000000) only [go_sem,↓reduceIte,h15,h7]
          repeat (apply And.intro; focus (first | omega | (simp; done)))
          exact e
        have J1:=J.see (seen2:=129 :: seen)
        rw [show decide ((3:Int) ∈ 129 :: seen)=decide (3 ∈ seen) from by simp,show decide ((131:Int) ∈ 129 :: seen)=decide (131 ∈ seen) from by simp,show decide ((129:Int) ∈ 129 :: seen)=true from by simp] at J1
        have hst:stepA g (rej,nak,seen) (129,D)=(rej,nak ++ (if num4 D ≠ g.of 129 then [oneA 129 (g.of 129)] else []),129 :: seen):=if_neg (by simp only [not_or,Decidable.not_not]; exact ⟨c5,c3,c4⟩)
        simp (maxSteps:=3000000) only [go_sem,↓reduceIte,decide_eq_false c5,bx]
        repeat (apply And.intro; focus (first | omega | (simp; done)))
        generalize s.put b _=s1 at J1 ⊢
        refine Cal.mk (Get32_n oB) ?_
        rintro _ _ ⟨rfl,rfl⟩ -
        simp (maxSteps:=3000000) only [go_sem,↓reduceIte]
        refine Cal.mk (ioptAt_v (w:=g) (i:=1) (by decide) (by decide)) ?_
        rintro _ _ ⟨rfl,rfl⟩ -
        rw [hat]
        by_cases c6:num4 D=g.of 129
        · rw [if_neg (fun e=>e c6),List.append_nil] at hst
          have e:=done u v s1 _ hst.symm J1
          simp (maxSteps:=3000000) only [go_sem,↓reduceIte,decide_eq_false (show ¬ num4 D ≠ g.of 129 from fun e=>e c6),h15,h6,h7]
          repeat (apply And.intro; focus (first | omega | (simp; done)))
          exact e
        · rw [if_pos c6] at hst
          simp (maxSteps:=3000000) only [go_sem,↓reduceIte,decide_eq_true (show num4 D ≠ g.of 129 from c6)]
          refine Cal.mk (ioptAt_v (w:=g) (i:=1) (by decide) (by decide)) ?_
          rintro _ _ ⟨rfl,rfl⟩ -
          rw [hat]
          simp (maxSteps:=3000000) only [go_sem,↓reduceIte]
          refine Cal.mk (ioptOne_v (t:=129) hof.1 hof.2) ?_
          rintro _ s2 ⟨⟨t,rfl⟩,W2,L2⟩ -
          simp (maxSteps:=3000000) only [go_sem,↓reduceIte,h7]
          refine (J1.over W2 L2).addN (oneA 129 (g.of 129)) (by omega) fun t3 s3 J3=>?_
          have e:=done u t3 s3 _ hst.symm J3
          simp (maxSteps:=3000000) only [go_sem,↓reduceIte,h15,h6]
          repeat (apply And.intro; focus (first | omega | (simp; done)))
          exact e
      · rw [show plcI 131=2 from rfl] at hat ⊢
        by_cases c4:131 ∈ seen
        · have hst:stepA g (rej,nak,seen) (131,D)=(rej ++ [(131,D)],nak,seen):=if_pos (.inr (.inr c4))
          simp (maxSteps:=3000000) only [go_sem,↓reduceIte,bx,decide_eq_true c4,h6]
          repeat (apply And.intro; focus (first | omega | (simp; done)))
          refine J.addR (131,D) (by omega) fun t2 s2 J2=>?_
          have e:=done t2 v s2 _ hst.symm J2
          simp (maxSteps:=3000000) only [go_sem,↓reduceIte,h15,h7]
          repeat (apply And.intro; focus (first | omega | (simp; done)))
          exact e
        simp (maxSteps:=3000000) only [go_sem,↓reduceIte,bx,decide_eq_false c4]
        repeat (apply And.intro; focus (first | omega | (simp; done)))
        refine Cal.mk (ioptAt_v (w:=g) (i:=2) (by decide) (by decide)) ?_
        rintro _ _ ⟨rfl,rfl⟩ -
        rw [hat]
        by_cases c5:g.of 131=0
        · have hst:stepA g (rej,nak,seen) (131,D)=(rej ++ [(131,D)],nak,seen):=if_pos (.inl c5)
          simp (maxSteps:=3000000) only [go_sem,↓reduceIte,decide_eq_true c5,h6]
          refine J.addR (131,D) (by omega) fun t2 s2 J2=>?_
          have e:=done t2 v s2 _ hst.symm J2
          simp (maxSteps:=3000000) only [go_sem,↓reduceIte,h15,h7]
          repeat (apply And.intro; focus (first | omega | (simp; done)))
          exact e
        have J1:=J.see (seen2:=131 :: seen)
        rw [show decide ((3:Int) ∈ 131 :: seen)=decide (3 ∈ seen) from by simp,show decide ((129:Int) ∈ 131 :: seen)=decide (129 ∈ seen) from by simp,show decide ((131:Int) ∈ 131 :: seen)=true from by simp] at J1
        have hst:stepA g (rej,nak,seen) (131,D)=(rej,nak ++ (if num4 D ≠ g.of 131 then [oneA 131 (g.of 131)] else []),131 :: seen):=if_neg (by simp only [not_or,Decidable.not_not]; exact ⟨c5,c3,c4⟩)
        simp (maxSteps:=3000000) only [go_sem,↓reduceIte,decide_eq_false c5,bx]
        repeat (apply And.intro; focus (first | omega | (simp; done)))
        generalize s.put b _=s1 at J1 ⊢
        refine Cal.mk (Get32_n oB) ?_
        rintro _ _ ⟨rfl,rfl⟩ -
        simp (maxSteps:=3000000) only [go_sem,↓reduceIte]
        refine Cal.mk (ioptAt_v (w:=g) (i:=2) (by decide) (by decide)) ?_
        rintro _ _ ⟨rfl,rfl⟩ -
        rw [hat]
        by_cases c6:num4 D=g.of 131
        · rw [if_neg (fun e=>e c6),List.append_nil] at hst
          have e:=done u v s1 _ hst.symm J1
          simp (maxSteps:=3000000) only [go_sem,↓reduceIte,decide_eq_false (show ¬ num4 D ≠ g.of 131 from fun e=>e c6),h15,h6,h7]
          repeat (apply And.intro; focus (first | omega | (simp; done)))
          exact e
        · rw [if_pos c6] at hst
          simp (maxSteps:=3000000) only [go_sem,↓reduceIte,decide_eq_true (show num4 D ≠ g.of 131 from c6)]
          refine Cal.mk (ioptAt_v (w:=g) (i:=2) (by decide) (by decide)) ?_
          rintro _ _ ⟨rfl,rfl⟩ -
          rw [hat]
          simp (maxSteps:=3000000) only [go_sem,↓reduceIte]
          refine Cal.mk (ioptOne_v (t:=131) hof.1 hof.2) ?_
          rintro _ s2 ⟨⟨t,rfl⟩,W2,L2⟩ -
          simp (maxSteps:=3000000) only [go_sem,↓reduceIte,h7]
          refine (J1.over W2 L2).addN (oneA 131 (g.of 131)) (by omega) fun t3 s3 J3=>?_
          have e:=done u t3 s3 _ hst.symm J3
          simp (maxSteps:=3000000) only [go_sem,↓reduceIte,h15,h6]
          repeat (apply And.intro; focus (first | omega | (simp; done)))
          exact e
    · obtain rfl:i=l.length:=by omega
      rw [List.take_length] at h6 h7 J hFl
      unfold judgeA nakA
      generalize foldA g l=F at h6 h7 J hFl ⊢
      obtain ⟨rej,nak,seen⟩:=F
      simp only at h6 h7 hFl ⊢
      have bx:=J.bx
      simp only at bx
      have hil:=decide_eq_false (show ¬ (l.length:Int) < (l.length:Int) by omega)
      simp (maxSteps:=3000000) only [go_sem,↓reduceIte,h15,opts_len,bx]
      repeat (apply And.intro; focus (first | omega | (simp; done)))
      obtain ⟨nk,hnk⟩:∃ n,n=(if 3 ∈ seen then nak else nak ++ [oneA 3 g.a]):=⟨_,rfl⟩
      rw [← hnk]
      refine If.cut [7,72,73,74,75] (fun B s2=>(∃ v2,B 7=.sl v2 (opts nk))∧st.weak s2) rfl ?_ ?_
      · by_cases c4:3 ∈ seen
        · rw [if_pos c4] at hnk
          simp (maxSteps:=3000000) only [go_sem,↓reduceIte,decide_eq_true c4,Bool.not_true,at_cutk_n,h7]
          exact ⟨⟨v,by rw [hnk]⟩,J.RU.weak⟩
        · rw [if_neg c4] at hnk
          simp (maxSteps:=3000000) only [go_sem,↓reduceIte,decide_eq_false c4,Bool.not_false]
          refine Cal.mk (ioptOne_v (t:=3) hg.a0 hg.a1) ?_
          rintro _ s2 ⟨⟨t,rfl⟩,W2,L2⟩ -
          simp (maxSteps:=3000000) only [go_sem,↓reduceIte,h7]
          refine (J.over W2 L2).addN (oneA 3 g.a) (by omega) fun t3 s3 J3=>?_
          simp (maxSteps:=3000000) only [go_sem,↓reduceIte,at_cutk_n]
          exact ⟨⟨t3,by rw [hnk]⟩,J3.RU.weak⟩
      rintro B2 s2 ⟨⟨v2,h7⟩,W2⟩
      cases rej with
      | cons x rej =>
        simp (maxSteps:=3000000) only [go_sem,↓reduceIte,h6,opts_len,List.length_cons,decide_eq_true (show (0:Int) < ((rej.length + 1:Nat):Int) by omega)]
        exact ⟨_,_,Wk.refl _,W2,⟨u,rfl⟩,rfl⟩
      | nil =>
        have h00:=decide_eq_false (show ¬ (0:Int) < ((0:Nat):Int) by decide)
        cases nk with
        | cons x nk =>
          simp (maxSteps:=3000000) only [go_sem,↓reduceIte,h6,h7,opts_len,List.length_cons,List.length_nil,h00,decide_eq_true (show (0:Int) < ((nk.length + 1:Nat):Int) by omega)]
          exact ⟨_,_,Wk.refl _,W2,⟨v2,rfl⟩,rfl⟩
        | nil =>
          simp (maxSteps:=3000000) only [go_sem,↓reduceIte,h6,h7,opts_len,List.length_nil,h00]
          exact ⟨_,_,Wk.refl _,W2,⟨tk,rfl⟩,rfl⟩
end
end
section
open Go
theorem foldl_snoc {α β:Type} {f:β→α→β} {a:β} {l:List α} {i:Nat} {o:α} (h:l[i]?=some o):(l.take (i + 1)).foldl f a=f ((l.take i).foldl f a) o:=by
  rw [take_snoc h]
  simp only [List.foldl_append,List.foldl_cons,List.foldl_nil]
section
variable {st:St} {tk:Tk} {l:List Opt} {w0:Want}
theorem ofStep_good {w:Want} {o:Opt} (h:w.Good) (hB:IsB o.2):(ofStep w o).Good:=by
  have h2:=num2_rng hB
  have h4:=num4_rng hB
  unfold ofStep
  split
  · exact ⟨h2.1,h2.2,h.g0,h.g1⟩
  split
  · exact ⟨h.m0,h.m1,h4.1,h4.2⟩
  split
  · exact ⟨h.m0,h.m1,h.g0,h.g1⟩
  split
  · exact ⟨h.m0,h.m1,h.g0,h.g1⟩
  · exact h
theorem nakStep_good {w:Want} {o:Opt} (h:w.Good) (hB:IsB o.2):(nakStep w o).Good:=by
  have h2:=num2_rng hB
  have h4:=num4_rng hB
  unfold nakStep
  split
  · exact ⟨h2.1,h2.2,h.g0,h.g1⟩
  split
  · exact ⟨h.m0,h.m1,h4.1,h4.2⟩
  · exact h
theorem fold_good {f:Want→Opt→Want} (hf:∀ w o,w.Good→IsB o.2→(f w o).Good):∀ {l:List Opt} {w:Want},w.Good→GoodO l→(l.foldl f w).Good
  | [],_,h,_=>h
  | o :: l,w,h,hG=>fold_good hf (l:=l) (hf w o h (hG o (by simp)).2.2.1) (fun x hx=>hG x (by simp [hx]))
theorem ofL_good (h:GoodO l):(ofL l).Good:=fold_good (fun _ _=>ofStep_good) Want.zero_good h
theorem nakedL_good (hw:w0.Good) (h:GoodO l):(nakedL w0 l).Good:=fold_good (fun _ _=>nakStep_good) hw h
theorem rejectedL_good:∀ {l:List Opt} {w:Want},w.Good→(rejectedL w l).1.Good
  | [],_,h=>h
  | o :: l,w,h=>by
    unfold rejectedL
    split
    · exact rejectedL_good ⟨Int.le_refl 0,by show (0:Int) < 65536; decide,h.g0,h.g1⟩
    split
    · exact h
    split
    · exact rejectedL_good ⟨h.m0,h.m1,Int.le_refl 0,by show (0:Int) < 4294967296; decide⟩
    split
    · exact rejectedL_good ⟨h.m0,h.m1,h.g0,h.g1⟩
    split
    · exact rejectedL_good ⟨h.m0,h.m1,h.g0,h.g1⟩
    · exact rejectedL_good h
set_option maxRecDepth 100000 in
set_option maxHeartbeats 16000000 in
theorem loptOf_v (hG:GoodO l) (hl:l.length≤1000000):VCalls Tryz.prog 265 [.sl tk (opts l)] st fun r s=>r=.agg (ofL l).cells∧st=s:=by
  refine vcalls_enterq pc265 (Nat.le_of_ble_eq_true rfl) rfl fun hwf hok=>?_
  show Run _ Pc265.body (.fin (finP Pc265.res _)) _ _
  unfold Pc265 zn zo
  simp (maxSteps:=3000000) only [go_sem,↓reduceIte]
  refine run_loop [3,5,8,9,10,11,13,14,15,17,18,20,21,23,24,26,27,29,30,32] (fun B s=>s=st∧∃ (i:Nat),i≤l.length∧B 8=.sc (.int .i64 i)∧B 3=.agg ((l.take i).foldl ofStep .zero).cells) (fun B _=>l.length - vnat (B 8)) rfl ?_ ?_
  · exact ⟨rfl,0,by omega,rfl,rfl⟩
  · rintro B s ⟨rfl,i,hi,h8,h3⟩
    by_cases c1:i < l.length
    · obtain ⟨o,ho⟩:=get_ex c1
      obtain ⟨o0,o1,oB,oL⟩:=hG.get ho
      have hsn:=foldl_snoc (f:=ofStep) (a:=.zero) ho
      generalize (l.take i).foldl ofStep .zero=X at h3 hsn
      obtain ⟨t,D⟩:=o
      obtain ⟨mru,auth,magic,pfc,acfc⟩:=X
      simp only [Want.cells] at h3
      simp only at o0 o1 oB oL
      repeat' first | simp (maxSteps:=3000000) only [go_sem,↓reduceIte,h8,h3,opts_len,opts_at ho,decide_eq_true (show (i:Int) < (l.length:Int) by omega)] | (refine If.dec (fun h=>?_) (fun h=>?_) <;> first | simp only [decide_eq_true h] | simp only [decide_eq_false h] | skip) | (refine Grd.decd (fun h=>?_) (fun h=>?_) <;> first | simp only [decide_eq_true h] | simp only [decide_eq_false h] | skip) | (refine If.mk (fun h=>?_) (fun h=>?_) <;> first | simp only [h] | skip) | (refine Grd.two (fun h=>?_) (fun h=>?_) <;> first | simp only [h] | skip) | (apply And.intro; focus (first | omega | (simp; done))) | (refine Cal.mk (Get16_n oB) ?_; rintro _ _ ⟨rfl,rfl⟩ -) | (refine Cal.mk (Get32_n oB) ?_; rintro _ _ ⟨rfl,rfl⟩ -)
      all_goals refine ⟨⟨i + 1,by omega,by simp,?_⟩,by omega⟩
      all_goals (rw [hsn,ofStep]; simp [Want.cells, *])
    · obtain rfl:i=l.length:=by omega
      rw [List.take_length] at h3
      simp (maxSteps:=3000000) only [go_sem,↓reduceIte,h8,h3,opts_len,Want.cells]
      exact ⟨_,_,Wk.refl _,hwf.weak,rfl,rfl⟩
set_option maxRecDepth 100000 in
set_option maxHeartbeats 16000000 in
theorem loptNaked_v (hG:GoodO l) (hl:l.length≤1000000):VCalls Tryz.prog 268 [.agg w0.cells,.sl tk (opts l)] st fun r s=>r=.agg (nakedL w0 l).cells∧st=s:=by
  refine vcalls_enterq pc268 (Nat.le_of_ble_eq_true rfl) rfl fun hwf hok=>?_
  show Run _ Pc268.body (.fin (finP Pc268.res _)) _ _
  unfold Pc268 zg zn zo
  simp (maxSteps:=3000000) only [go_sem,↓reduceIte,Want.cells]
  refine run_loop [2,6,9,10,11,12,13,15,16,19,20,21,22,25,26,27,30,31,32,33,36,37,38,39,41,42,44,46,47,50,51,52,53,56,57,58,61,62,63,64,66,67,69] (fun B s=>s=st∧∃ (i:Nat),i≤l.length∧B 9=.sc (.int .i64 i)∧B 2=.agg ((l.take i).foldl nakStep w0).cells) (fun B _=>l.length - vnat (B 9)) rfl ?_ ?_
  · exact ⟨rfl,0,by omega,rfl,rfl⟩
  · rintro B s ⟨rfl,i,hi,h9,h2⟩
    by_cases c1:i < l.length
    · obtain ⟨o,ho⟩:=get_ex c1
      obtain ⟨o0,o1,oB,oL⟩:=hG.get ho
      have hsn:=foldl_snoc (f:=nakStep) (a:=w0) ho
      generalize (l.take i).foldl nakStep w0=X at h2 hsn
      obtain ⟨t,D⟩:=o
      obtain ⟨mru,auth,magic,pfc,acfc⟩:=X
      simp only [Want.cells] at h2
      simp only at o0 o1 oB oL
      repeat' first | simp (maxSteps:=3000000) only [go_sem,↓reduceIte,h9,h2,opts_len,bs_len,opts_at ho,decide_eq_true (show (i:Int) < (l.length:Int) by omega)] | (refine If.dec (fun h=>?_) (fun h=>?_) <;> first | simp only [decide_eq_true h] | simp only [decide_eq_false h] | skip) | (refine Grd.decd (fun h=>?_) (fun h=>?_) <;> first | simp only [decide_eq_true h] | simp only [decide_eq_false h] | skip) | (refine If.mk (fun h=>?_) (fun h=>?_) <;> first | simp only [h] | skip) | (refine Grd.two (fun h=>?_) (fun h=>?_) <;> first | simp only [h] | skip) | (apply And.intro; focus (first | omega | (simp; done))) | (refine Cal.mk (Get16_n oB) ?_; rintro _ _ ⟨rfl,rfl⟩ -) | (refine Cal.mk (Get32_n oB) ?_; rintro _ _ ⟨rfl,rfl⟩ -)
      all_goals first | omega | (refine ⟨⟨i + 1,by omega,by simp,?_⟩,by omega⟩; rw [hsn,nakStep]; (try dsimp only); (repeat' split) <;> first | rfl | (exfalso; omega) | simp_all)
    · obtain rfl:i=l.length:=by omega
      rw [List.take_length] at h2
      simp (maxSteps:=3000000) only [go_sem,↓reduceIte,h9,h2,opts_len,Want.cells]
      exact ⟨_,_,Wk.refl _,hwf.weak,rfl,rfl⟩
theorem rejectedL_drop {w:Want} {l:List Opt} {i:Nat} {o:Opt} (h:l[i]?=some o):rejectedL w (l.drop i)=rejectedL w (o :: l.drop (i + 1)):=by
  rw [(List.drop_eq_getElem_cons (List.getElem?_eq_some_iff.1 h).1),(List.getElem?_eq_some_iff.1 h).2]
set_option maxRecDepth 100000 in
set_option maxHeartbeats 16000000 in
theorem loptRejected_v (hG:GoodO l) (hl:l.length≤1000000):VCalls Tryz.prog 269 [.agg w0.cells,.sl tk (opts l)] st fun r s=>r=.tup [.agg (rejectedL w0 l).1.cells,.sc (.bool (rejectedL w0 l).2)]∧st=s:=by
  refine vcalls_enterq pc269 (Nat.le_of_ble_eq_true rfl) rfl fun hwf hok=>?_
  show Run _ Pc269.body (.fin (finP Pc269.res _)) _ _
  unfold Pc269 zn zo
  simp (maxSteps:=3000000) only [go_sem,↓reduceIte,Want.cells]
  refine run_loop [2,4,5,7,10,11,12,13,15,16,17,19,20,21,23,24,25,26,28,29,31,32,34] (fun B s=>s=st∧∃ (i:Nat) (w:Want),i≤l.length∧B 10=.sc (.int .i64 i)∧B 2=.agg w.cells∧B 4=.agg [.sc (.int .u16 0),.sc (.bool false),.sc (.int .u32 0),.sc (.bool false),.sc (.bool false)]∧rejectedL w0 l=rejectedL w (l.drop i)) (fun B _=>l.length - vnat (B 10)) rfl ?_ ?_
  · exact ⟨rfl,0,w0,by omega,rfl,rfl,rfl,rfl⟩
  · rintro B s ⟨rfl,i,⟨mru,auth,magic,pfc,acfc⟩,hi,h10,h2,h4,hr⟩
    rw [hr]
    simp only [Want.cells] at h2
    by_cases c1:i < l.length
    · obtain ⟨⟨t,D⟩,ho⟩:=get_ex c1
      rw [rejectedL_drop ho]
      rw [rejectedL_drop ho] at hr
      clear hr
      repeat' first | simp (maxSteps:=3000000) only [go_sem,↓reduceIte,h10,h2,h4,opts_len,opts_at ho,decide_eq_true (show (i:Int) < (l.length:Int) by omega)] | (refine If.dec (fun h=>?_) (fun h=>?_) <;> first | simp only [decide_eq_true h] | simp only [decide_eq_false h] | skip) | (refine Grd.decd (fun h=>?_) (fun h=>?_) <;> first | simp only [decide_eq_true h] | simp only [decide_eq_false h] | skip) | (refine If.mk (fun h=>?_) (fun h=>?_) <;> first | simp only [h] | skip) | (refine Grd.two (fun h=>?_) (fun h=>?_) <;> first | simp only [h] | skip) | (apply And.intro; focus (first | omega | (simp; done)))
      all_goals try (refine ⟨_,_,Wk.refl _,hwf.weak,?_,rfl⟩; rw [rejectedL]; (try dsimp only); (repeat' split) <;> first | rfl | (exfalso; omega) | simp_all; done)
      all_goals (refine ⟨⟨i + 1,⟨_,_,_,_,_⟩,by omega,by simp,rfl,?_⟩,by omega⟩; rw [rejectedL]; (try dsimp only); (repeat' split) <;> first | rfl | (exfalso; omega) | simp_all)
    · obtain rfl:i=l.length:=by omega
      rw [List.drop_length]
      simp (maxSteps:=3000000) only [go_sem,↓reduceIte,h10,h2,h4,opts_len,Want.cells,rejectedL]
      exact ⟨_,_,Wk.refl _,hwf.weak,rfl,rfl⟩
end
end
section
open Go
section
variable {R:Type} {U:Rul R} {t:TypeId} {pv:Value} {SI:Nat→St→R→Prop} {bx:List Nat} {codes:Int} {n k:Nat} {st s s2:St} {N N':Neg R}
theorem NegI.same (hU:RulC U t pv SI bx) {iv:V} (h:NegI iv codes SI bx n k s N) (hb:s2.box=s.box) (hs:s.sz≤s2.sz):NegI iv codes SI bx n k s2 N :=
  ⟨by obtain ⟨tk,hx⟩:=h.box; exact ⟨tk,by rw [hb]; exact hx⟩,hU.stay k s s2 _ h.si (fun b cs hc _=>by rw [hb]; exact hc) hs,h.nn,h.l0,h.l1,h.i0,h.i1,h.a0,h.a1,h.rb⟩
structure DnI (st:St) (iv:V) (codes:Int) (SI:Nat→St→R→Prop) (bx:List Nat) (n k:Nat) (a r o:Nat) (w:List V) (u d v:Bool) (s:St) (N:Neg R) (P:List Ctl):Prop where
  neg:NegI iv codes SI bx n k s N
  tn:Tn (n :: bx) st s
  ba:s.box a=some w
  br:s.box r=some [.sl .nil [],.sc (.bool false),.sc (.bool false),.sc (.bool false)]
  bo:∃ tv,s.box o=some [.sl tv (ctls P),.sc (.bool u),.sc (.bool d),.sc (.bool v)]∧RO 3 st.bare s (.sl tv (ctls P)) (ctls P)
  sa:st.sz≤a
  sr:st.sz≤r
  so:st.sz≤o
  ao:a ≠ o
  ro:r ≠ o
  ar:a ≠ r
  below:∀ b ∈ n :: bx,b < st.sz
variable {iv:V} {a r o:Nat} {w:List V} {u d v:Bool} {P:List Ctl}
theorem DnI.step (D:DnI st iv codes SI bx n k a r o w u d v s N P) (hN:NegI iv codes SI bx n k s2 N') (T:Tn (n :: bx) s s2):DnI st iv codes SI bx n k a r o w u d v s2 N' P :=
  have ne:∀ b,st.sz≤b→b ∉ n :: bx:=fun b hb hm=>by have:=D.below b hm; omega
  ⟨hN,D.tn.trans T,T.box a _ D.ba (ne a D.sa),T.box r _ D.br (ne r D.sr),by
    obtain ⟨tv,h1,h2⟩:=D.bo
    exact ⟨tv,T.box o _ h1 (ne o D.so),h2.tn T (fun _ _=>rfl)⟩,D.sa,D.sr,D.so,D.ao,D.ro,D.ar,D.below⟩
theorem DnI.push (hU:RulC U t pv SI bx) (D:DnI st iv codes SI bx n k a r o w u d v s N P) (hl:st.Lt) {tv:Tk} (R:RO 3 st.bare s (.sl tv (ctls P)) (ctls P)) {c:Ctl} {r2:V}
    (k1:Own 3 s2 r2 (ctls P ++ ctls [c])) (k2:AppSt s (.sl tv (ctls P)) s2 r2):DnI st iv codes SI bx n k a r o w u d v (s2.put o [r2,.sc (.bool u),.sc (.bool d),.sc (.bool v)]) N (P ++ [c]):=by
  have ne:∀ b,st.sz≤b→b ∉ n :: bx:=fun b hb hm=>by have:=D.below b hm; omega
  have R2:=R.app k1 k2
  rw [ctls_append] at R2
  have T2:Tn (n :: bx) st s2:=D.tn.app k2 R.tok hl
  have h2:=D.neg.same hU k2.box k2.sz
  have R3:=R2.put (c:=o) (cs:=[r2,.sc (.bool u),.sc (.bool d),.sc (.bool v)]) D.so
  obtain ⟨t2,rfl⟩:=R2.sl
  refine ⟨h2.tnx hU ((Tn.refl (bx:=[o]) R2.lt).put (.inl (by simp)) R2.lt) (fun b hb hm=>?_),T2.put (.inr D.so) hl,?_,?_,⟨t2,put_box_same,R3⟩,D.sa,D.sr,D.so,D.ao,D.ro,D.ar,D.below⟩
  · simp only [List.mem_singleton] at hm
    subst hm
    exact ne _ D.so hb
  · rw [put_box_ne D.ao,k2.box]; exact D.ba
  · rw [put_box_ne D.ro,k2.box]; exact D.br
def NOut (st:St) (iv:V) (codes:Int) (SI:Nat→St→R→Prop) (bx:List Nat) (n k m:Nat) (X:Neg R × Nout) (r:V) (s:St):Prop :=
  ∃ tv,r=.agg [.sl tv (ctls X.2.P),.sc (.bool X.2.up),.sc (.bool X.2.down),.sc (.bool X.2.over)]∧RO 3 st.bare s (.sl tv (ctls X.2.P)) (ctls X.2.P)∧NegI iv codes SI bx n k s X.1∧Tn (n :: bx) st s∧X.2.P.length≤m
set_option maxRecDepth 100000 in
set_option maxHeartbeats 16000000 in
theorem negDone_v (hU:RulC U t pv SI bx) (h:NegI (.sc (.iface t pv)) codes SI bx n k st N) {act:Int} {again:Bool} {p back:Ctl} (hp:p.Good) {tp tb:Tk} :
    VCalls Tryz.prog 141 [ptrV n,.sc (.int .u16 act),.sc (.bool again),.agg [.sc (.int .u8 p.code),.sc (.int .u8 p.id),.sl tp (bs p.data),.sc (.int .u8 back.code),.sc (.int .u8 back.id),.sl tb (bs back.data)]] st
      (NOut st (.sc (.iface t pv)) codes SI bx n k 5 (N.done U act again p back)):=by
  obtain ⟨P5,hP5⟩:∃ X,X=N.done U act again p back:=⟨_,rfl⟩
  rw [← hP5]
  refine vcalls_enter vc141 (Nat.le_of_ble_eq_true rfl) fun hwf hok=>?_
  show Run _ Vc141.body (.fin (finQ Vc141.res _)) _ _
  unfold Vc141 zn zo
  have hlt:=hwf.lt
  simp (maxSteps:=3000000) only [go_sem,↓reduceIte]
  intro a ha r hr
  refine Cal.mk actHasB_v ?_
  rintro _ _ ⟨rfl,rfl⟩ -
  simp (maxSteps:=3000000) only [go_sem,↓reduceIte]
  refine Cal.mk actHasB_v ?_
  rintro _ _ ⟨rfl,rfl⟩ -
  simp (maxSteps:=3000000) only [go_sem,↓reduceIte]
  refine Cal.mk actHasB_v ?_
  rintro _ _ ⟨rfl,rfl⟩ -
  simp (maxSteps:=3000000) only [go_sem,↓reduceIte]
  intro o ho
  have D0:DnI st (.sc (.iface t pv)) codes SI bx n k a r o [.sc (.int .u8 p.code),.sc (.int .u8 p.id),.sl tp (bs p.data),.sc (.int .u8 back.code),.sc (.int .u8 back.id),.sl tb (bs back.data)] (hasA act 1) (hasA act 2) (hasA act 8) (((st.put a [.sc (.int .u8 p.code),.sc (.int .u8 p.id),.sl tp (bs p.data),.sc (.int .u8 back.code),.sc (.int .u8 back.id),.sl tb (bs back.data)]).put r [.sl .nil [],.sc (.bool false),.sc (.bool false),.sc (.bool false)]).put o [.sl .nil [],.sc (.bool (hasA act 1)),.sc (.bool (hasA act 2)),.sc (.bool (hasA act 8))]) N []:=by
    have ar:a ≠ r:=by omega
    have ao:a ≠ o:=by omega
    have ro:r ≠ o:=by omega
    have sr:st.sz≤r:=by omega
    have so:st.sz≤o:=by omega
    have T:Tn [] st (((st.put a [.sc (.int .u8 p.code),.sc (.int .u8 p.id),.sl tp (bs p.data),.sc (.int .u8 back.code),.sc (.int .u8 back.id),.sl tb (bs back.data)]).put r [.sl .nil [],.sc (.bool false),.sc (.bool false),.sc (.bool false)]).put o [.sl .nil [],.sc (.bool (hasA act 1)),.sc (.bool (hasA act 2)),.sc (.bool (hasA act 8))]) :=
      ((tn_new hlt ha).put (.inr sr) hlt).put (.inr so) hlt
    refine ⟨h.tn hU T,T.wide (by simp),?_,?_,⟨.nil,put_box_same,RO.nil T.bare T.lt⟩,ha,sr,so,ao,ro,ar,h.lt hU hlt⟩
    · rw [put_box_ne ao,put_box_ne ar,put_box_same]
    · rw [put_box_ne ro,put_box_same]
  generalize ((st.put a _).put r _).put o _=s0 at D0 ⊢
  clear ha hr ho
  have hP5:P5=((((N.d1 U act again).1.d3 act (Neg.d2 act back (N.d1 U act again).2)).1.d5 act p (Neg.d4 act p ((N.d1 U act again).1.d3 act (Neg.d2 act back (N.d1 U act again).2)).2)).1.d6 act,⟨(((N.d1 U act again).1.d3 act (Neg.d2 act back (N.d1 U act again).2)).1.d5 act p (Neg.d4 act p ((N.d1 U act again).1.d3 act (Neg.d2 act back (N.d1 U act again).2)).2)).2,hasA act 1,hasA act 2,hasA act 8⟩):=hP5
  refine Cal.mk actHasB_v ?_
  rintro _ _ ⟨rfl,rfl⟩ -
  simp (maxSteps:=3000000) only [go_sem,↓reduceIte]
  refine If.cut [19,20,21,22,23,24,25,26] (fun _ s=>DnI st (.sc (.iface t pv)) codes SI bx n k a r o [.sc (.int .u8 p.code),.sc (.int .u8 p.id),.sl tp (bs p.data),.sc (.int .u8 back.code),.sc (.int .u8 back.id),.sl tb (bs back.data)] (hasA act 1) (hasA act 2) (hasA act 8) s ((N.d1 U act again).1) ((N.d1 U act again).2)∧((N.d1 U act again).2).length≤1) rfl ?_ ?_
  · refine If.mk (fun e=>?_) (fun e=>?_)
    · obtain ⟨tv,hbo,R⟩:=D0.bo
      simp (maxSteps:=3000000) only [go_sem,↓reduceIte,hbo]
      refine Cal.mk (negAsked_v hU D0.neg) ?_
      rintro _ s1 ⟨rfl,h1,T1⟩ -
      have D1:=D0.step h1 T1
      have hb1:=T1.box o _ hbo (fun hm=>by have:=D0.below o hm; have:=D0.so; omega)
      have R1:=R.tn T1 (fun _ _=>rfl)
      simp (maxSteps:=3000000) only [go_sem,↓reduceIte,hb1,Ctl.v]
      repeat (apply And.intro; focus (first | omega | (simp; done)))
      refine App.mk (bytes:=32) (l:=ctls ([])) (ys:=ctls [⟨1,(N.asked U again).id,buildO (U.request N.r)⟩]) R1.own (allSz_ctls _) (by simp only [ctls_len,List.length_cons,List.length_nil]; unfold maxLen; omega) (by simp only [ctls_len,List.length_cons,List.length_nil]; omega) ?_
      intro r2 s2 k1 k2
      obtain ⟨t2,rfl⟩:=own_sl k1
      have hb2:=hb1
      rw [← k2.box] at hb2
      simp (maxSteps:=3000000) only [go_sem,↓reduceIte,hb2,at_cutk_n]
      have D2:=D1.push hU hlt R1 k1 k2
      simp only [Neg.d1,e,↓reduceIte]
      exact ⟨D2,by simp⟩
    · simp (maxSteps:=3000000) only [go_sem,at_cutk_n]
      simp only [Neg.d1,e,Bool.false_eq_true,↓reduceIte]
      exact ⟨D0,by simp⟩
  rintro _ s1 ⟨D1,L1⟩
  clear D0
  generalize (N.d1 U act again).1=N1 at D1 hP5
  generalize (N.d1 U act again).2=P1 at D1 hP5 L1
  simp (maxSteps:=3000000) only [go_sem,↓reduceIte]
  refine Cal.mk actHasB_v ?_
  rintro _ _ ⟨rfl,rfl⟩ -
  simp (maxSteps:=3000000) only [go_sem,↓reduceIte]
  refine If.cut [29,30,31,32,33,34,35] (fun _ s=>DnI st (.sc (.iface t pv)) codes SI bx n k a r o [.sc (.int .u8 p.code),.sc (.int .u8 p.id),.sl tp (bs p.data),.sc (.int .u8 back.code),.sc (.int .u8 back.id),.sl tb (bs back.data)] (hasA act 1) (hasA act 2) (hasA act 8) s (N1) (Neg.d2 act back P1)∧(Neg.d2 act back P1).length≤2) rfl ?_ ?_
  · refine If.mk (fun e=>?_) (fun e=>?_)
    · obtain ⟨tv,hbo,R⟩:=D1.bo
      have hba:=D1.ba
      simp (maxSteps:=3000000) only [go_sem,↓reduceIte,hbo,hba]
      repeat (apply And.intro; focus (first | omega | (simp; done)))
      refine App.mk (bytes:=32) (l:=ctls (P1)) (ys:=ctls [back]) R.own (allSz_ctls _) (by simp only [ctls_len,List.length_cons,List.length_nil]; unfold maxLen; omega) (by simp only [ctls_len,List.length_cons,List.length_nil]; omega) ?_
      intro r2 s2 k1 k2
      obtain ⟨t2,rfl⟩:=own_sl k1
      have hb2:=hbo
      rw [← k2.box] at hb2
      simp (maxSteps:=3000000) only [go_sem,↓reduceIte,hb2,at_cutk_n]
      have D2:=D1.push hU hlt R k1 k2
      simp only [Neg.d2,e,↓reduceIte]
      exact ⟨D2,by simp only [List.length_append,List.length_cons,List.length_nil]; omega⟩
    · simp (maxSteps:=3000000) only [go_sem,at_cutk_n]
      simp only [Neg.d2,e,Bool.false_eq_true,↓reduceIte]
      exact ⟨D1,by omega⟩
  rintro _ s2 ⟨D2,L2⟩
  clear D1
  generalize Neg.d2 act back P1=P2 at D2 hP5 L2
  simp (maxSteps:=3000000) only [go_sem,↓reduceIte]
  refine Cal.mk actHasB_v ?_
  rintro _ _ ⟨rfl,rfl⟩ -
  simp (maxSteps:=3000000) only [go_sem,↓reduceIte]
  refine If.cut [38,39,40,41,42,43,44,45] (fun _ s=>DnI st (.sc (.iface t pv)) codes SI bx n k a r o [.sc (.int .u8 p.code),.sc (.int .u8 p.id),.sl tp (bs p.data),.sc (.int .u8 back.code),.sc (.int .u8 back.id),.sl tb (bs back.data)] (hasA act 1) (hasA act 2) (hasA act 8) s ((N1.d3 act P2).1) ((N1.d3 act P2).2)∧((N1.d3 act P2).2).length≤3) rfl ?_ ?_
  · refine If.mk (fun e=>?_) (fun e=>?_)
    · obtain ⟨tv,hbo,R⟩:=D2.bo
      simp (maxSteps:=3000000) only [go_sem,↓reduceIte,hbo]
      refine Cal.mk (negFresh_v hU D2.neg) ?_
      rintro _ s1 ⟨rfl,h1,T1⟩ -
      have D3:=D2.step h1 T1
      have hb1:=T1.box o _ hbo (fun hm=>by have:=D2.below o hm; have:=D2.so; omega)
      have R1:=R.tn T1 (fun _ _=>rfl)
      simp (maxSteps:=3000000) only [go_sem,↓reduceIte,hb1]
      repeat (apply And.intro; focus (first | omega | (simp; done)))
      refine App.mk (bytes:=32) (l:=ctls (P2)) (ys:=ctls [⟨5,N1.bump.id,[]⟩]) R1.own (allSz_ctls _) (by simp only [ctls_len,List.length_cons,List.length_nil]; unfold maxLen; omega) (by simp only [ctls_len,List.length_cons,List.length_nil]; omega) ?_
      intro r2 s2 k1 k2
      obtain ⟨t2,rfl⟩:=own_sl k1
      have hb2:=hb1
      rw [← k2.box] at hb2
      simp (maxSteps:=3000000) only [go_sem,↓reduceIte,hb2,at_cutk_n]
      have D4:=D3.push hU hlt R1 k1 k2
      simp only [Neg.d3,e,↓reduceIte]
      exact ⟨D4,by simp only [List.length_append,List.length_cons,List.length_nil]; omega⟩
    · simp (maxSteps:=3000000) only [go_sem,at_cutk_n]
      simp only [Neg.d3,e,Bool.false_eq_true,↓reduceIte]
      exact ⟨D2,by omega⟩
  rintro _ s3 ⟨D3,L3⟩
  clear D2
  generalize (N1.d3 act P2).1=N3 at D3 hP5
  generalize (N1.d3 act P2).2=P3 at D3 hP5 L3
  simp (maxSteps:=3000000) only [go_sem,↓reduceIte]
  refine Cal.mk actHasB_v ?_
  rintro _ _ ⟨rfl,rfl⟩ -
  simp (maxSteps:=3000000) only [go_sem,↓reduceIte]
  refine If.cut [48,49,50,51,52,53,54,55,56] (fun _ s=>DnI st (.sc (.iface t pv)) codes SI bx n k a r o [.sc (.int .u8 p.code),.sc (.int .u8 p.id),.sl tp (bs p.data),.sc (.int .u8 back.code),.sc (.int .u8 back.id),.sl tb (bs back.data)] (hasA act 1) (hasA act 2) (hasA act 8) s (N3) (Neg.d4 act p P3)∧(Neg.d4 act p P3).length≤4) rfl ?_ ?_
  · refine If.mk (fun e=>?_) (fun e=>?_)
    · obtain ⟨tv,hbo,R⟩:=D3.bo
      have hba:=D3.ba
      simp (maxSteps:=3000000) only [go_sem,↓reduceIte,hbo,hba]
      repeat (apply And.intro; focus (first | omega | (simp; done)))
      refine App.mk (bytes:=32) (l:=ctls (P3)) (ys:=ctls [⟨6,p.id,[]⟩]) R.own (allSz_ctls _) (by simp only [ctls_len,List.length_cons,List.length_nil]; unfold maxLen; omega) (by simp only [ctls_len,List.length_cons,List.length_nil]; omega) ?_
      intro r2 s2 k1 k2
      obtain ⟨t2,rfl⟩:=own_sl k1
      have hb2:=hbo
      rw [← k2.box] at hb2
      simp (maxSteps:=3000000) only [go_sem,↓reduceIte,hb2,at_cutk_n]
      have D4:=D3.push hU hlt R k1 k2
      simp only [Neg.d4,e,↓reduceIte]
      exact ⟨D4,by simp only [List.length_append,List.length_cons,List.length_nil]; omega⟩
    · simp (maxSteps:=3000000) only [go_sem,at_cutk_n]
      simp only [Neg.d4,e,Bool.false_eq_true,↓reduceIte]
      exact ⟨D3,by omega⟩
  rintro _ s4 ⟨D4,L4⟩
  clear D3
  generalize Neg.d4 act p P3=P4 at D4 hP5 L4
  simp (maxSteps:=3000000) only [go_sem,↓reduceIte]
  refine Cal.mk actHasB_v ?_
  rintro _ _ ⟨rfl,rfl⟩ -
  simp (maxSteps:=3000000) only [go_sem,↓reduceIte]
  refine If.cut [58,59,60,61,62,63,64,65,66,67,68] (fun _ s=>DnI st (.sc (.iface t pv)) codes SI bx n k a r o [.sc (.int .u8 p.code),.sc (.int .u8 p.id),.sl tp (bs p.data),.sc (.int .u8 back.code),.sc (.int .u8 back.id),.sl tb (bs back.data)] (hasA act 1) (hasA act 2) (hasA act 8) s ((N3.d5 act p P4).1) ((N3.d5 act p P4).2)∧((N3.d5 act p P4).2).length≤5) rfl ?_ ?_
  · refine If.mk (fun e=>?_) (fun e=>?_)
    · obtain ⟨tv,hbo,R⟩:=D4.bo
      have hba:=D4.ba
      simp (maxSteps:=3000000) only [go_sem,↓reduceIte,hbo,hba]
      refine Cal.mk (negFresh_v hU D4.neg) ?_
      rintro _ s1 ⟨rfl,h1,T1⟩ -
      have D5:=D4.step h1 T1
      have hb1:=T1.box o _ hbo (fun hm=>by have:=D4.below o hm; have:=D4.so; omega)
      have ha1:=T1.box a _ hba (fun hm=>by have:=D4.below a hm; have:=D4.sa; omega)
      have R1:=R.tn T1 (fun _ _=>rfl)
      simp (maxSteps:=3000000) only [go_sem,↓reduceIte,hb1,ha1]
      repeat (apply And.intro; focus (first | omega | (simp; done)))
      refine Cal.mk (cpReject_v (tk:=tp) hp) ?_
      rintro _ _ ⟨rfl,rfl⟩ -
      simp (maxSteps:=3000000) only [go_sem,↓reduceIte,hb1,Ctl.v]
      repeat (apply And.intro; focus (first | omega | (simp; done)))
      refine App.mk (bytes:=32) (l:=ctls (P4)) (ys:=ctls [rejC N3.bump.id p 1400]) R1.own (allSz_ctls _) (by simp only [ctls_len,List.length_cons,List.length_nil]; unfold maxLen; omega) (by simp only [ctls_len,List.length_cons,List.length_nil]; omega) ?_
      intro r2 s2 k1 k2
      obtain ⟨t2,rfl⟩:=own_sl k1
      have hb2:=hb1
      rw [← k2.box] at hb2
      simp (maxSteps:=3000000) only [go_sem,↓reduceIte,hb2,at_cutk_n]
      have D6:=D5.push hU hlt R1 k1 k2
      simp only [Neg.d5,e,↓reduceIte]
      exact ⟨D6,by simp only [List.length_append,List.length_cons,List.length_nil]; omega⟩
    · simp (maxSteps:=3000000) only [go_sem,at_cutk_n]
      simp only [Neg.d5,e,Bool.false_eq_true,↓reduceIte]
      exact ⟨D4,by omega⟩
  rintro _ s5 ⟨D5,L5⟩
  clear D4
  generalize (N3.d5 act p P4).1=N5 at D5 hP5
  generalize (N3.d5 act p P4).2=P5' at D5 hP5 L5
  simp (maxSteps:=3000000) only [go_sem,↓reduceIte]
  refine Cal.mk actHasB_v ?_
  rintro _ _ ⟨rfl,rfl⟩ -
  obtain ⟨tv,hbo,R⟩:=D5.bo
  have hbr:=D5.br
  obtain ⟨tk,hbn⟩:=D5.neg.box
  unfold negC at hbn
  have hno:n ≠ o:=fun e=>by subst e; have:=D5.below n (by simp); have:=D5.so; omega
  have hnr:n ≠ r:=fun e=>by subst e; have:=D5.below n (by simp); have:=D5.sr; omega
  have hro:=D5.ro
  have T6:=fun (q:St) (hq:Tn (n :: bx) st q)=>hq.put (b:=r) (cs:=[.sl tv (ctls P5'),.sc (.bool (hasA act 1)),.sc (.bool (hasA act 2)),.sc (.bool (hasA act 8))]) (.inr D5.sr) hlt
  have hrd:∀ b ∈ n :: bx,b ∉ [r]:=fun b hb hm=>by
    simp only [List.mem_singleton] at hm
    subst hm
    have:=D5.below _ hb
    have:=D5.sr
    omega
  subst hP5
  cases e:hasA act 2
  · simp (maxSteps:=3000000) only [go_sem,↓reduceIte,hbo,hbr]
    have T7:=T6 s5 D5.tn
    have h7:=D5.neg.tnx hU ((Tn.refl (bx:=[r]) D5.tn.lt).put (b:=r) (cs:=[.sl tv (ctls P5'),.sc (.bool (hasA act 1)),.sc (.bool (hasA act 2)),.sc (.bool (hasA act 8))]) (.inl (by simp)) D5.tn.lt) hrd
    refine ⟨_,_,Wk.refl _,T7.lt.weak,tv,by rw [e],R.put D5.sr,?_,T7,by show P5'.length≤5; omega⟩
    simp only [Neg.d6,e,Bool.false_eq_true,↓reduceIte]
    rw [e] at h7
    exact h7
  · have T6':=(D5.tn.put (b:=n) (cs:=[.sc (.int .i64 N5.s),.sc (.int .i64 N5.left),.sc (.int .i64 N5.at_),.sc (.iface t pv),.sc (.int .u8 codes),.sc (.int .u8 N5.id),.sl tk (bs N5.req),.sc (.int .i64 0)]) (.inl (by simp)) hlt)
    have hw:=D5.neg.write hU (N':={ N5 with naks:=0 }) (tk:=tk) rfl D5.neg.l0 D5.neg.l1 D5.neg.i0 D5.neg.i1 (Int.le_refl 0) (by simp only; omega) D5.neg.rb
    unfold negC at hw
    have R6:RO 3 st.bare (s5.put n [.sc (.int .i64 N5.s),.sc (.int .i64 N5.left),.sc (.int .i64 N5.at_),.sc (.iface t pv),.sc (.int .u8 codes),.sc (.int .u8 N5.id),.sl tk (bs N5.req),.sc (.int .i64 0)]) (.sl tv (ctls P5')) (ctls P5'):=R.tn ((Tn.refl (bx:=[n]) R.lt).put (.inl (by simp)) R.lt) (fun _ _=>rfl)
    simp (maxSteps:=3000000) only [go_sem,↓reduceIte,hbn,hbo,hbr,put_box_ne hno.symm,put_box_ne hnr.symm]
    generalize s5.put n _=s6 at T6' hw R6 ⊢
    have T7:=T6 s6 T6'
    have h7:=hw.tnx hU ((Tn.refl (bx:=[r]) T6'.lt).put (b:=r) (cs:=[.sl tv (ctls P5'),.sc (.bool (hasA act 1)),.sc (.bool (hasA act 2)),.sc (.bool (hasA act 8))]) (.inl (by simp)) T6'.lt) hrd
    refine ⟨_,_,Wk.refl _,T7.lt.weak,tv,by rw [e],R6.put D5.sr,?_,T7,by show P5'.length≤5; omega⟩
    simp only [Neg.d6,e,↓reduceIte]
    rw [e] at h7
    exact h7
end
end
section
open Go
structure Ex (base st s:St):Prop where
  box:∀ b cs,st.box b=some cs→s.box b=some cs
  own:∀ g m,st.own g=some m→g < base.sz→s.own g=some m
  sz:st.sz≤s.sz
  lt:s.Lt
theorem Tn.ex {bx:List Nat} {base s0 st s:St} (h:Tn bx s0 st) (k:Ex base st s) (hs:s0.sz≤base.sz) (hl:s0.Lt):Tn bx s0 s :=
  ⟨fun b cs hb hn=>k.box b cs (h.box b cs hb hn),fun g m hg=>k.own g m (h.own g m hg) (by have:=hl.own g m hg; omega),Nat.le_trans h.sz k.sz,k.lt⟩
theorem RO.down {size:Nat} {st s1 s:St} {r:V} {l:List V} (h:RO size s1.bare s r l) (hs:st.sz≤s1.sz):RO size st.bare s r l :=
  ⟨h.own,bare_weak (by have:=h.weak.sz; exact Nat.le_trans hs this),h.lt,fun g k l' e=>Nat.le_trans hs (h.tok g k l' e)⟩
def outV (tv:Tk) (X:Nout):V:=.agg [.sl tv (ctls X.P),.sc (.bool X.up),.sc (.bool X.down),.sc (.bool X.over)]
theorem IsB.nil':IsB []:=fun x h=>by cases h
theorem zeroC_good:zeroC.Good:=⟨by decide,by decide,by decide,by decide,IsB.nil',by simp [zeroC]⟩
section
variable {R:Type} {U:Rul R} {t:TypeId} {pv:Value} {SI:Nat→St→R→Prop} {bx:List Nat} {codes:Int} {n k m:Nat} {st s s2 base:St} {N N':Neg R}
theorem NegI.ex (hU:RulC U t pv SI bx) {iv:V} (h:NegI iv codes SI bx n k st N) (E:Ex base st s):NegI iv codes SI bx n k s N :=
  ⟨by obtain ⟨tk,hx⟩:=h.box; exact ⟨tk,E.box n _ hx⟩,hU.stay k st s _ h.si (fun b cs hc _=>E.box b cs hc) E.sz,h.nn,h.l0,h.l1,h.i0,h.i1,h.a0,h.a1,h.rb⟩
set_option maxRecDepth 100000 in
set_option maxHeartbeats 4000000 in
theorem negJoin_v {X Y:Nout} {ta tb:Tk} (hR:RO 3 base st (.sl ta (ctls X.P)) (ctls X.P)) (hb:∀ b,base.box b=none) (hx:X.P.length≤1000) (hy:Y.P.length≤1000) :
    VCalls Tryz.prog 143 [outV ta X,outV tb Y] st fun r s=>∃ tv,r=outV tv (X.both Y)∧RO 3 base s (.sl tv (ctls (X.both Y).P)) (ctls (X.both Y).P)∧Ex base st s:=by
  obtain ⟨P,u,d,v⟩:=X
  obtain ⟨P2,u2,d2,v2⟩:=Y
  simp only at hR hx hy
  show VCalls Tryz.prog 143 [.agg [.sl ta (ctls P),.sc (.bool u),.sc (.bool d),.sc (.bool v)],.agg [.sl tb (ctls P2),.sc (.bool u2),.sc (.bool d2),.sc (.bool v2)]] st fun r s=>∃ tv,r=.agg [.sl tv (ctls (P ++ P2)),.sc (.bool (u || u2)),.sc (.bool (d || d2)),.sc (.bool (v || v2))]∧RO 3 base s (.sl tv (ctls (P ++ P2))) (ctls (P ++ P2))∧Ex base st s
  refine vcalls_enter vc143 (Nat.le_of_ble_eq_true rfl) fun hwf hok=>?_
  show Run _ Vc143.body (.fin (finQ Vc143.res _)) _ _
  unfold Vc143 zg zn zo
  have hlt:=hwf.lt
  simp (maxSteps:=3000000) only [go_sem,↓reduceIte]
  intro a ha b hb' q hq
  have ab:a ≠ b:=by omega
  have aq:a ≠ q:=by omega
  have bq:b ≠ q:=by omega
  have sb:st.sz≤b:=by omega
  have sq:st.sz≤q:=by omega
  have T0:Tn [] st (((st.put a [.sl ta (ctls P),.sc (.bool u),.sc (.bool d),.sc (.bool v)]).put b [.sl tb (ctls P2),.sc (.bool u2),.sc (.bool d2),.sc (.bool v2)]).put q [.sl .nil [],.sc (.bool false),.sc (.bool false),.sc (.bool false)]) :=
    ((tn_new hlt ha).put (.inr sb) hlt).put (.inr sq) hlt
  have Ba:(((st.put a [.sl ta (ctls P),.sc (.bool u),.sc (.bool d),.sc (.bool v)]).put b [.sl tb (ctls P2),.sc (.bool u2),.sc (.bool d2),.sc (.bool v2)]).put q [.sl .nil [],.sc (.bool false),.sc (.bool false),.sc (.bool false)]).box a=some [.sl ta (ctls P),.sc (.bool u),.sc (.bool d),.sc (.bool v)]:=by
    rw [put_box_ne aq,put_box_ne ab,put_box_same]
  have Bb:(((st.put a [.sl ta (ctls P),.sc (.bool u),.sc (.bool d),.sc (.bool v)]).put b [.sl tb (ctls P2),.sc (.bool u2),.sc (.bool d2),.sc (.bool v2)]).put q [.sl .nil [],.sc (.bool false),.sc (.bool false),.sc (.bool false)]).box b=some [.sl tb (ctls P2),.sc (.bool u2),.sc (.bool d2),.sc (.bool v2)]:=by
    rw [put_box_ne bq,put_box_same]
  have Bq:(((st.put a [.sl ta (ctls P),.sc (.bool u),.sc (.bool d),.sc (.bool v)]).put b [.sl tb (ctls P2),.sc (.bool u2),.sc (.bool d2),.sc (.bool v2)]).put q [.sl .nil [],.sc (.bool false),.sc (.bool false),.sc (.bool false)]).box q=some [.sl .nil [],.sc (.bool false),.sc (.bool false),.sc (.bool false)]:=put_box_same
  have R0:=hR.tn T0 (by simp)
  generalize ((st.put a _).put b _).put q _=s0 at T0 Ba Bb Bq R0 ⊢
  have fin:∀ (r2:V) (s2:St) (cs:List V),Own 3 s2 r2 (ctls (P ++ P2))→AppSt s0 (.sl ta (ctls P)) s2 r2→RO 3 base (s2.put q cs) r2 (ctls (P ++ P2))∧Ex base st (s2.put q cs):=fun r2 s2 cs k1 k2=>by
    have R2:=R0.app k1 k2
    have bsz:=hR.weak.sz
    refine ⟨R2.put (c:=q) (by omega),fun c ds hc=>?_,fun g m hg hl=>?_,?_,R2.lt.put⟩
    · have:=hlt.box c ds hc
      rw [put_box_ne (by omega),k2.box]
      exact T0.box c ds hc (by simp)
    · exact k2.own g m (T0.own g m hg) (fun l k e=>by have:=R0.tok g k l e; omega)
    · have:=T0.sz; have:=k2.sz; simp only [put_sz]; omega
  cases u <;> cases d <;> cases v
  all_goals
    simp (maxSteps:=3000000) only [go_sem,↓reduceIte,Ba,Bb]
    refine App.mk (bytes:=32) (l:=ctls P) (ys:=ctls P2) R0.own (allSz_ctls _) (by simp only [ctls_len]; unfold maxLen; omega) (by simp only [ctls_len]; omega) ?_
    intro r2 s2 k1 k2
    have b1:=Ba
    have b2:=Bb
    have b3:=Bq
    rw [← k2.box] at b1 b2 b3
    rw [ctls_append] at k1
    obtain ⟨t2,rfl⟩:=own_sl k1
    simp (maxSteps:=3000000) only [go_sem,↓reduceIte,b1,b2,b3]
    obtain ⟨f1,f2⟩:=fin _ s2 _ k1 k2
    exact ⟨_,_,Wk.refl _,f1.lt.weak,t2,rfl,f1,f2⟩
theorem NOut.put (hU:RulC U t pv SI bx) {iv:V} {s1:St} {X:Neg R × Nout} {tv:Tk} (hlt:st.Lt) {q:Nat} {cs:List V} (hq:st.sz≤q) (hq':q ∉ n :: bx) (hs:st.sz≤s1.sz)
    (R2:RO 3 s1.bare s2 (.sl tv (ctls X.2.P)) (ctls X.2.P)) (h2:NegI iv codes SI bx n k s2 X.1) (T:Tn (n :: bx) st s2) (L:X.2.P.length≤m) :
    NOut st iv codes SI bx n k m X (outV tv X.2) (s2.put q cs) :=
  ⟨tv,rfl,(R2.down hs).put (c:=q) hq,h2.tnx hU ((Tn.refl (bx:=[q]) T.lt).put (.inl (by simp)) T.lt) (fun b hb hm=>by
    simp only [List.mem_singleton] at hm
    subst hm
    exact hq' hb),T.put (.inr hq) hlt,L⟩
theorem NOut.lt {iv:V} {X:Neg R × Nout} {r:V} (h:NOut st iv codes SI bx n k m X r s):s.Lt:=by
  obtain ⟨_,_,_,_,T,_⟩:=h
  exact T.lt
set_option maxRecDepth 100000 in
set_option maxHeartbeats 4000000 in
theorem negClose_v (hU:RulC U t pv SI bx) (h:NegI (.sc (.iface t pv)) codes SI bx n k st N) {now:Int} (hn:0≤now) (hn2:now≤1000000000) :
    VCalls Tryz.prog 113 [ptrV n,.sc (.int .i64 now)] st (NOut st (.sc (.iface t pv)) codes SI bx n k 5 (N.close U now)):=by
  refine vcalls_enter vc113 (Nat.le_of_ble_eq_true rfl) fun hwf hok=>?_
  show Run _ Vc113.body (.fin (finQ Vc113.res _)) _ _
  unfold Vc113 zn zo
  have hlt:=hwf.lt
  simp (maxSteps:=3000000) only [go_sem,↓reduceIte]
  intro q hq
  have T0:Tn [] st (st.put q [.sl .nil [],.sc (.bool false),.sc (.bool false),.sc (.bool false)]):=tn_new hlt hq
  have h0:=h.tn hU T0
  have Bq:(st.put q [.sl .nil [],.sc (.bool false),.sc (.bool false),.sc (.bool false)]).box q=some [.sl .nil [],.sc (.bool false),.sc (.bool false),.sc (.bool false)]:=put_box_same
  generalize st.put q [.sl .nil [],.sc (.bool false),.sc (.bool false),.sc (.bool false)]=s0 at T0 h0 Bq ⊢
  have hq':q ∉ n :: bx:=fun hm=>by have:=h.lt hU hlt q hm; omega
  refine Cal.mk (negDo_v hU h0 hn hn2) ?_
  rintro _ s1 ⟨rfl,h1,T1⟩ -
  simp (maxSteps:=3000000) only [go_sem,↓reduceIte]
  refine Cal.mk (negDone_v hU h1 (p:=zeroC) (back:=zeroC) (tp:=.nil) (tb:=.nil) zeroC_good) ?_
  rintro _ s2 ⟨tv,rfl,R2,h2,T2,L2⟩ -
  have B2:=T2.box q _ (T1.box q _ Bq hq') hq'
  simp (maxSteps:=3000000) only [go_sem,↓reduceIte,B2]
  have T3:Tn (n :: bx) st s2:=((T0.wide (by simp)).trans T1).trans T2
  have O:=NOut.put hU hlt hq hq' (by have:=T0.sz; have:=T1.sz; omega) R2 h2 T3 L2 (X:=N.close U now) (cs:=[.sl tv (ctls (N.close U now).2.P),.sc (.bool (N.close U now).2.up),.sc (.bool (N.close U now).2.down),.sc (.bool (N.close U now).2.over)])
  exact ⟨_,_,Wk.refl _,O.lt.weak,O⟩
set_option maxRecDepth 100000 in
set_option maxHeartbeats 4000000 in
theorem negStart_v (hU:RulC U t pv SI bx) (h:NegI (.sc (.iface t pv)) codes SI bx n k st N) {now:Int} (hn:0≤now) (hn2:now≤1000000000) :
    VCalls Tryz.prog 93 [ptrV n,.sc (.int .i64 now)] st (NOut st (.sc (.iface t pv)) codes SI bx n k 10 (N.start U now)):=by
  refine vcalls_enter vc93 (Nat.le_of_ble_eq_true rfl) fun hwf hok=>?_
  show Run _ Vc93.body (.fin (finQ Vc93.res _)) _ _
  unfold Vc93 zn zo
  have hlt:=hwf.lt
  simp (maxSteps:=3000000) only [go_sem,↓reduceIte]
  intro q hq
  have T0:Tn [] st (st.put q [.sl .nil [],.sc (.bool false),.sc (.bool false),.sc (.bool false)]):=tn_new hlt hq
  have h0:=h.tn hU T0
  have Bq:(st.put q [.sl .nil [],.sc (.bool false),.sc (.bool false),.sc (.bool false)]).box q=some [.sl .nil [],.sc (.bool false),.sc (.bool false),.sc (.bool false)]:=put_box_same
  generalize st.put q [.sl .nil [],.sc (.bool false),.sc (.bool false),.sc (.bool false)]=s0 at T0 h0 Bq ⊢
  have hq':q ∉ n :: bx:=fun hm=>by have:=h.lt hU hlt q hm; omega
  refine Cal.mk (negDo_v hU h0 hn hn2) ?_
  rintro _ s1 ⟨rfl,h1,T1⟩ -
  simp (maxSteps:=3000000) only [go_sem,↓reduceIte]
  refine Cal.mk (negDone_v hU h1 (p:=zeroC) (back:=zeroC) (tp:=.nil) (tb:=.nil) zeroC_good) ?_
  rintro _ s2 ⟨tv,rfl,R2,h2,T2,L2⟩ -
  have B2:=T2.box q _ (T1.box q _ Bq hq') hq'
  have T02:Tn (n :: bx) st s2:=((T0.wide (by simp)).trans T1).trans T2
  have R2':=R2.down (st:=st) (by have:=T0.sz; have:=T1.sz; omega)
  have ea:Neg.done U (N.step now 0) (stepF N.s 0).2 false zeroC zeroC=N.event U now 0 zeroC zeroC:=rfl
  obtain ⟨A,hA⟩:∃ A,A=N.event U now 0 zeroC zeroC:=⟨_,rfl⟩
  rw [ea,← hA] at R2 h2 L2 R2' ⊢
  simp (maxSteps:=3000000) only [go_sem,↓reduceIte]
  intro c hc
  have hcs:st.sz≤c:=by have:=T02.sz; omega
  have qc:q ≠ c:=by have:=T02.lt.box q _ B2; omega
  have hc':c ∉ n :: bx:=fun hm=>by have:=h.lt hU hlt c hm; omega
  have T3:Tn [] s2 (s2.put c [.sl tv (ctls A.2.P),.sc (.bool A.2.up),.sc (.bool A.2.down),.sc (.bool A.2.over)]):=tn_new T2.lt hc
  have h3:=h2.tn hU T3
  have B3:(s2.put c [.sl tv (ctls A.2.P),.sc (.bool A.2.up),.sc (.bool A.2.down),.sc (.bool A.2.over)]).box q=some [.sl .nil [],.sc (.bool false),.sc (.bool false),.sc (.bool false)]:=by rw [put_box_ne qc]; exact B2
  have C3:(s2.put c [.sl tv (ctls A.2.P),.sc (.bool A.2.up),.sc (.bool A.2.down),.sc (.bool A.2.over)]).box c=some [.sl tv (ctls A.2.P),.sc (.bool A.2.up),.sc (.bool A.2.down),.sc (.bool A.2.over)]:=put_box_same
  have T03:=T02.trans (T3.wide (by simp))
  have R3:=R2'.put (c:=c) (cs:=[.sl tv (ctls A.2.P),.sc (.bool A.2.up),.sc (.bool A.2.down),.sc (.bool A.2.over)]) hcs
  generalize s2.put c [.sl tv (ctls A.2.P),.sc (.bool A.2.up),.sc (.bool A.2.down),.sc (.bool A.2.over)]=s3 at T3 h3 B3 C3 T03 R3 ⊢
  refine Cal.mk (negDo_v hU h3 hn hn2) ?_
  rintro _ s4 ⟨rfl,h4,T4⟩ -
  have C4:=T4.box c _ C3 hc'
  simp (maxSteps:=3000000) only [go_sem,↓reduceIte,C4]
  refine Cal.mk (negDone_v hU h4 (p:=zeroC) (back:=zeroC) (tp:=.nil) (tb:=.nil) zeroC_good) ?_
  rintro _ s5 ⟨tw,rfl,R5,h5,T5,L5⟩ -
  have C5:=T5.box c _ C4 hc'
  have B5:=T5.box q _ (T4.box q _ B3 hq') hq'
  have T05:=(T03.trans T4).trans T5
  have RA:=(R3.tn T4 (fun _ _=>rfl)).tn T5 (fun _ _=>rfl)
  have eb:Neg.done U (A.1.step now 2) (stepF A.1.s 2).2 false zeroC zeroC=A.1.event U now 2 zeroC zeroC:=rfl
  obtain ⟨D,hD⟩:∃ D,D=A.1.event U now 2 zeroC zeroC:=⟨_,rfl⟩
  rw [eb,← hD] at R5 h5 L5 ⊢
  have hst:N.start U now=(D.1,A.2.both D.2):=by rw [hD,hA]; rfl
  rw [hst]
  simp (maxSteps:=3000000) only [go_sem,↓reduceIte,C5]
  repeat (apply And.intro; focus (first | omega | (simp; done)))
  refine Cal.mk (negJoin_v (X:=A.2) (Y:=D.2) (tb:=tw) RA (fun _=>rfl) (by omega) (by omega)) ?_
  rintro _ s6 ⟨tx,rfl,R6,E6⟩ -
  have T06:=T05.ex E6 (Nat.le_refl _) hlt
  have h6:=h5.ex hU E6
  have B6:=E6.box q _ B5
  have O:=NOut.put (m:=10) (X:=(D.1,A.2.both D.2)) hU hlt hq hq' (Nat.le_refl _) R6 h6 T06 (by simp only [Nout.both,List.length_append]; omega) (cs:=[.sl tx (ctls (A.2.both D.2).P),.sc (.bool (A.2.both D.2).up),.sc (.bool (A.2.both D.2).down),.sc (.bool (A.2.both D.2).over)])
  simp (maxSteps:=3000000) only [go_sem,↓reduceIte,B6,outV]
  exact ⟨_,_,Wk.refl _,O.lt.weak,O⟩
end
end
section
open Go
theorem theirsO_snoc {l like:List Opt} {i:Nat} {o:Opt} (h:l[i]?=some o):theirsO (l.take (i + 1)) like=theirsO (l.take i) like ++ if (findO like o.1).isSome=true then [o] else []:=by
  rw [take_snoc h]
  simp only [theirsO,List.filter_append]
  congr 1
  cases e:(findO like o.1).isSome <;> simp [e]
theorem theirsO_len (l like:List Opt):(theirsO l like).length≤l.length:=List.length_filter_le _ _
theorem theirsO_good {l like:List Opt} (h:GoodO l):GoodO (theirsO l like):=fun o ho=>h o (List.mem_filter.1 ho).1
section
variable {st:St} {l like:List Opt} {tk tk2:Tk}
set_option maxRecDepth 100000 in
set_option maxHeartbeats 4000000 in
theorem negTheirs_v (hl:l.length≤1000000) (hm:like.length≤1000000) (hG:GoodO like) (hGl:GoodO l):VCalls Tryz.prog 223 [.sl tk (opts l),.sl tk2 (opts like)] st fun r s=>r=.sl .no (opts (theirsO l like))∧st=s:=by
  refine vcalls_enter vc223 (Nat.le_of_ble_eq_true rfl) fun hwf hok=>?_
  show Run _ Vc223.body (.fin (finQ Vc223.res _)) _ _
  unfold Vc223 zn zo
  simp (maxSteps:=3000000) only [go_sem,↓reduceIte]
  refine run_loop [5,7,8,9,12,13,14,15,16,17,18,19,20,21,22,23,24,25,26,27,28] (fun B s=>∃ (i:Nat) (v:V),i≤l.length∧B 12=.sc (.int .i64 i)∧B 5=v∧RO 2 st s v (opts (theirsO (l.take i) like))) (fun B _=>l.length - vnat (B 12)) rfl ?_ ?_
  · exact ⟨0,.sl .nil [],by omega,rfl,rfl,RO.nil hwf.weak hwf.lt⟩
  · rintro B s ⟨i,v,hi,h12,h5,R⟩
    obtain ⟨tv,hv⟩:=R.sl
    rw [hv] at h5 R
    by_cases c1:i < l.length
    · obtain ⟨o,ho⟩:=get_ex c1
      have hsn:=theirsO_snoc (like:=like) ho
      have htl:=theirsO_len (l.take i) like
      have htl2:(l.take i).length≤l.length:=by simp only [List.length_take]; omega
      simp (maxSteps:=3000000) only [go_sem,↓reduceIte,h12,opts_len,opts_at ho,decide_eq_true (show (i:Int) < (l.length:Int) by omega)]
      repeat (apply And.intro; focus (first | omega | (simp; done)))
      intro a ha
      have sa:st.sz≤a:=by have:=R.weak.sz; omega
      have R1:=R.put (c:=a) (cs:=[.sc (.int .u8 o.1),.sl .no (bs o.2)]) sa
      have Ba:(s.put a [.sc (.int .u8 o.1),.sl .no (bs o.2)]).box a=some [.sc (.int .u8 o.1),.sl .no (bs o.2)]:=put_box_same
      generalize s.put a [.sc (.int .u8 o.1),.sl .no (bs o.2)]=s1 at R1 Ba ⊢
      refine Cal.mk (optFind_v hm hG) ?_
      rintro _ _ ⟨rfl,rfl⟩ -
      cases hf:(findO like o.1).isSome
      · rw [hf] at hsn
        simp only [Bool.false_eq_true,↓reduceIte,List.append_nil] at hsn
        simp (maxSteps:=3000000) only [go_sem,↓reduceIte,Bool.false_eq_true]
        intro c hc
        have sc:st.sz≤c:=by have:=R1.weak.sz; omega
        simp (maxSteps:=3000000) only [go_sem,↓reduceIte,h12]
        repeat (apply And.intro; focus (first | omega | (simp; done)))
        exact ⟨⟨i + 1,_,by omega,by simp,h5,by rw [hsn]; exact R1.put sc⟩,by omega⟩
      · rw [hf] at hsn
        simp only [↓reduceIte] at hsn
        simp (maxSteps:=3000000) only [go_sem,↓reduceIte]
        intro c hc
        have sc:st.sz≤c:=by have:=R1.weak.sz; omega
        have ac:a ≠ c:=by have:=R1.lt.box a _ Ba; omega
        simp (maxSteps:=3000000) only [go_sem,↓reduceIte,put_box_ne ac,Ba,h5]
        refine App.mk (bytes:=32) (l:=opts (theirsO (l.take i) like)) (ys:=opts [o]) (R1.put sc).own (allSz_opts _) (by simp only [opts_len,List.length_cons,List.length_nil]; unfold maxLen; omega) (by simp only [opts_len,List.length_cons,List.length_nil]; omega) ?_
        intro r2 s2 k1 k2
        have R2:=(R1.put sc).app k1 k2
        rw [opts_append,← hsn] at R2
        simp (maxSteps:=3000000) only [go_sem,↓reduceIte,h12]
        repeat (apply And.intro; focus (first | omega | (simp; done)))
        exact ⟨⟨i + 1,_,by omega,by simp,rfl,R2⟩,by omega⟩
    · obtain rfl:i=l.length:=by omega
      rw [List.take_length] at R h5
      simp (maxSteps:=3000000) only [go_sem,↓reduceIte,h12,h5,opts_len]
      exact ⟨_,_,Wk.no,R.weak,rfl,rfl⟩
end
section
variable {R:Type} {U:Rul R} {t:TypeId} {pv:Value} {SI:Nat→St→R→Prop} {bx:List Nat} {codes:Int} {n k m:Nat} {st s s2 base:St} {N N':Neg R}
theorem NegI.rules {iv:V} {r:R} {k':Nat} (h:NegI iv codes SI bx n k st N) (T:Tn bx st s) (hs:SI k' s r) (hk:k≤k'):NegI iv codes SI bx n k' s { N with r:=r } :=
  ⟨by obtain ⟨tk,hb⟩:=h.box; exact ⟨tk,T.box n _ hb h.nn⟩,hs,h.nn,h.l0,h.l1,h.i0,h.i1,h.a0,by have:=h.a1; simp only; omega,h.rb⟩
set_option maxRecDepth 100000 in
set_option maxHeartbeats 4000000 in
theorem negJudge_v (hU:RulC U t pv SI bx) (h:NegI (.sc (.iface t pv)) codes SI bx n k st N) (hk:k≤1000000000) {p:Ctl} (hp:p.Good) {tp tk:Tk} {l:List Opt} (hG:GoodO l) (hl:l.length≤1000000) :
    VCalls Tryz.prog 201 [ptrV n,p.v tp,.sl tk (opts l)] st fun r s=>r=.tup [(N.judge U p l).2.1.v,.sc (.bool (N.judge U p l).2.2)]∧NegI (.sc (.iface t pv)) codes SI bx n (k + 1) s (N.judge U p l).1∧Tn (n :: bx) st s:=by
  obtain ⟨fj,hm,hc,hj⟩:=hU.judge
  obtain ⟨c,i,D⟩:=p
  show VCalls Tryz.prog 201 [ptrV n,.agg [.sc (.int .u8 c),.sc (.int .u8 i),.sl tp (bs D)],.sl tk (opts l)] st _
  refine vcalls_enter vc201 (Nat.le_of_ble_eq_true rfl) fun hwf hok=>?_
  show Run _ Vc201.body (.fin (finQ Vc201.res _)) _ _
  unfold Vc201 zn zo
  have hlt:=hwf.lt
  simp (maxSteps:=3000000) only [go_sem,↓reduceIte]
  intro a ha q hq
  have aq:a ≠ q:=by omega
  have sq:st.sz≤q:=by omega
  have had:a ∉ n :: bx:=fun hm=>by have:=h.lt hU hlt a hm; omega
  have hqd:q ∉ n :: bx:=fun hm=>by have:=h.lt hU hlt q hm; omega
  have T0:Tn [] st ((st.put a [.sc (.int .u8 c),.sc (.int .u8 i),.sl tp (bs D)]).put q [.sc (.int .u8 0),.sc (.int .u8 0),.sl .nil []]):=(tn_new hlt ha).put (.inr sq) hlt
  have h0:=h.tn hU T0
  have Ba:((st.put a [.sc (.int .u8 c),.sc (.int .u8 i),.sl tp (bs D)]).put q [.sc (.int .u8 0),.sc (.int .u8 0),.sl .nil []]).box a=some [.sc (.int .u8 c),.sc (.int .u8 i),.sl tp (bs D)]:=by rw [put_box_ne aq,put_box_same]
  have Bq:((st.put a [.sc (.int .u8 c),.sc (.int .u8 i),.sl tp (bs D)]).put q [.sc (.int .u8 0),.sc (.int .u8 0),.sl .nil []]).box q=some [.sc (.int .u8 0),.sc (.int .u8 0),.sl .nil []]:=put_box_same
  generalize (st.put a _).put q _=s0 at T0 h0 Ba Bq ⊢
  obtain ⟨tn,hbn⟩:=h0.box
  unfold negC at hbn
  simp (maxSteps:=3000000) only [go_sem,↓reduceIte,hbn]
  refine Ivk.mk hm hc hU.one ?_
  refine Cal.mk (hj k s0 N.r l tk h0.si hk hG hl) ?_
  rintro _ s1 ⟨⟨t2,rfl⟩,hsi,T1⟩ -
  obtain ⟨g1,g2,g3,g4⟩:=hU.judgeG k s0 N.r l h0.si hG hl
  have h1:=h0.rules (k':=k + 1) T1 hsi (by omega)
  have hbn1:=T1.box n _ hbn h.nn
  have Ba1:=T1.box a _ Ba (fun hm=>had (by simp [hm]))
  have Bq1:=T1.box q _ Bq (fun hm=>hqd (by simp [hm]))
  have T01:Tn (n :: bx) st s1:=(T0.wide (by simp)).trans (T1.wide (fun b hb=>List.mem_cons_of_mem _ hb))
  obtain ⟨J,hJ⟩:∃ J,J=N.judge U ⟨c,i,D⟩ l:=⟨_,rfl⟩
  rw [← hJ]
  unfold Neg.judge at hJ
  simp only at hJ
  generalize U.judge N.r l=j at hsi g1 g2 g3 g4 h1 hJ ⊢
  obtain ⟨rr,code,out⟩:=j
  simp only at hsi g1 g2 g3 g4 h1 hJ ⊢
  have fin:∀ (N2:Neg R) (s2:St) (c2:Int) (o2:List Opt) (cs:List V),J=(N2,⟨c2,i,buildO o2⟩,decide (c2=2))→NegI (.sc (.iface t pv)) codes SI bx n (k + 1) s2 N2→Tn (n :: bx) st s2 →
      ∃ (r:V) (st':St),Wk (.tup [.agg [.sc (.int .u8 c2),.sc (.int .u8 i),.sl .no (bs (buildO o2))],.sc (.bool (decide (c2=2)))]) r∧st'.weak (s2.put q cs)∧r=.tup [J.2.1.v,.sc (.bool J.2.2)]∧NegI (.sc (.iface t pv)) codes SI bx n (k + 1) st' J.1∧Tn (n :: bx) st st':=fun N2 s2 c2 o2 cs e hn hT=>by
    rw [e]
    have T9:=hT.put (b:=q) (cs:=cs) (.inr sq) hlt
    refine ⟨_,_,Wk.refl _,T9.lt.weak,rfl,hn.tnx hU ((Tn.refl (bx:=[q]) hT.lt).put (.inl (by simp)) hT.lt) (fun b hb hm=>?_),T9⟩
    simp only [List.mem_singleton] at hm
    subst hm
    exact hqd hb
  have a0:=h.a0
  have a1:=h.a1
  have hnq:n ≠ q:=fun e=>hqd (by simp [e])
  have hna:n ≠ a:=fun e=>had (by simp [e])
  by_cases c3:code=3
  · subst c3
    have d33:decide ((3:Int)=3)=true:=rfl
    have d32:decide ((3:Int)=2)=false:=rfl
    have d42:decide ((4:Int)=2)=false:=rfl
    have h2:=h1.write hU (N':={ N with r:=rr,naks:=N.naks + 1 }) (tk:=tn) rfl h.l0 h.l1 h.i0 h.i1 (by simp only; omega) (by simp only; omega) h.rb
    unfold negC at h2
    simp only at h2
    have T2:=T01.put (b:=n) (cs:=[.sc (.int .i64 N.s),.sc (.int .i64 N.left),.sc (.int .i64 N.at_),.sc (.iface t pv),.sc (.int .u8 codes),.sc (.int .u8 N.id),.sl tn (bs N.req),.sc (.int .i64 (N.naks + 1))]) (.inl (by simp)) hlt
    have Ba2:(s1.put n [.sc (.int .i64 N.s),.sc (.int .i64 N.left),.sc (.int .i64 N.at_),.sc (.iface t pv),.sc (.int .u8 codes),.sc (.int .u8 N.id),.sl tn (bs N.req),.sc (.int .i64 (N.naks + 1))]).box a=_:=(put_box_ne hna.symm).trans Ba1
    have Bq2:(s1.put n [.sc (.int .i64 N.s),.sc (.int .i64 N.left),.sc (.int .i64 N.at_),.sc (.iface t pv),.sc (.int .u8 codes),.sc (.int .u8 N.id),.sl tn (bs N.req),.sc (.int .i64 (N.naks + 1))]).box q=_:=(put_box_ne hnq.symm).trans Bq1
    by_cases c5:5 < N.naks + 1
    · simp (maxSteps:=3000000) only [go_sem,↓reduceIte,hbn1,decide_eq_true c5]
      repeat (apply And.intro; focus (first | omega | (simp; done)))
      generalize s1.put n _=s2 at T2 h2 Ba2 Bq2 ⊢
      refine Cal.mk (negTheirs_v hl g4 g3 hG) ?_
      rintro _ _ ⟨rfl,rfl⟩ -
      have htl:=theirsO_len l out
      simp (maxSteps:=3000000) only [go_sem,↓reduceIte,Ba2]
      refine Cal.mk (optBuild_v (theirsO_good hG) (by omega)) ?_
      rintro _ _ ⟨rfl,rfl⟩ -
      simp (maxSteps:=3000000) only [go_sem,↓reduceIte,Ba2,Bq2]
      exact fin _ s2 4 (theirsO l out) _ (by rw [hJ]; simp [c5]) h2 T2
    · simp (maxSteps:=3000000) only [go_sem,↓reduceIte,hbn1,decide_eq_false c5,Ba2]
      repeat (apply And.intro; focus (first | omega | (simp; done)))
      generalize s1.put n _=s2 at T2 h2 Ba2 Bq2 ⊢
      refine Cal.mk (optBuild_v g3 (by omega)) ?_
      rintro _ _ ⟨rfl,rfl⟩ -
      simp (maxSteps:=3000000) only [go_sem,↓reduceIte,Ba2,Bq2]
      exact fin _ s2 3 out _ (by rw [hJ]; simp [c5]) h2 T2
  · by_cases c2:code=2
    · subst c2
      have d22:decide ((2:Int)=2)=true:=rfl
      have d23:decide ((2:Int)=3)=false:=rfl
      have h2:=h1.write hU (N':={ N with r:=rr,naks:=0 }) (tk:=tn) rfl h.l0 h.l1 h.i0 h.i1 (Int.le_refl 0) (by simp only; omega) h.rb
      unfold negC at h2
      simp only at h2
      have T2:=T01.put (b:=n) (cs:=[.sc (.int .i64 N.s),.sc (.int .i64 N.left),.sc (.int .i64 N.at_),.sc (.iface t pv),.sc (.int .u8 codes),.sc (.int .u8 N.id),.sl tn (bs N.req),.sc (.int .i64 0)]) (.inl (by simp)) hlt
      have Ba2:(s1.put n [.sc (.int .i64 N.s),.sc (.int .i64 N.left),.sc (.int .i64 N.at_),.sc (.iface t pv),.sc (.int .u8 codes),.sc (.int .u8 N.id),.sl tn (bs N.req),.sc (.int .i64 0)]).box a=_:=(put_box_ne hna.symm).trans Ba1
      have Bq2:(s1.put n [.sc (.int .i64 N.s),.sc (.int .i64 N.left),.sc (.int .i64 N.at_),.sc (.iface t pv),.sc (.int .u8 codes),.sc (.int .u8 N.id),.sl tn (bs N.req),.sc (.int .i64 0)]).box q=_:=(put_box_ne hnq.symm).trans Bq1
      simp (maxSteps:=3000000) only [go_sem,↓reduceIte,hbn1,Ba2]
      generalize s1.put n _=s2 at T2 h2 Ba2 Bq2 ⊢
      refine Cal.mk (optBuild_v g3 (by omega)) ?_
      rintro _ _ ⟨rfl,rfl⟩ -
      simp (maxSteps:=3000000) only [go_sem,↓reduceIte,Ba2,Bq2]
      exact fin _ s2 2 out _ (by rw [hJ]; simp) h2 T2
    · have h2:NegI (.sc (.iface t pv)) codes SI bx n (k + 1) s1 { N with r:=rr,naks:=N.naks }:=h1
      simp (maxSteps:=3000000) only [go_sem,↓reduceIte,decide_eq_false c3,decide_eq_false c2,Ba1]
      refine Cal.mk (optBuild_v g3 (by omega)) ?_
      rintro _ _ ⟨rfl,rfl⟩ -
      simp (maxSteps:=3000000) only [go_sem,↓reduceIte,Ba1,Bq1]
      have hd:decide (code=2)=false:=decide_eq_false c2
      have:=fin _ s1 code out [.sc (.int .u8 code),.sc (.int .u8 i),.sl .no (bs (buildO out))] (by rw [hJ]; simp [c3,c2]) h2 T01
      rw [hd] at this
      exact this
end
end
section
open Go
section
variable {R:Type} {U:Rul R} {t:TypeId} {pv:Value} {SI:Nat→St→R→Prop} {bx:List Nat} {codes:Int} {n k m:Nat} {st s s2 base:St} {N N':Neg R}
structure TkI (st:St) (iv:V) (codes:Int) (SI:Nat→St→R→Prop) (bx:List Nat) (n k a q:Nat) (w:List V) (s:St) (N:Neg R):Prop where
  neg:NegI iv codes SI bx n k s N
  tn:Tn (n :: bx) st s
  ba:s.box a=some w
  bq:s.box q=some [.sl .nil [],.sc (.bool false),.sc (.bool false),.sc (.bool false)]
  sa:st.sz≤a
  sq:st.sz≤q
  aq:a ≠ q
  ha:a ∉ n :: bx
  hq:q ∉ n :: bx
variable {iv:V} {a q:Nat} {w:List V}
theorem TkI.step (I:TkI st iv codes SI bx n k a q w s N) {k':Nat} (h:NegI iv codes SI bx n k' s2 N') (T:Tn (n :: bx) s s2):TkI st iv codes SI bx n k' a q w s2 N' :=
  ⟨h,I.tn.trans T,T.box a _ I.ba I.ha,T.box q _ I.bq I.hq,I.sa,I.sq,I.aq,I.ha,I.hq⟩
theorem TkI.fin (hU:RulC U t pv SI bx) {iv:V} (hlt:st.Lt) {s1:St} {N1:Neg R} {X Y:Neg R × Nout} {r:V} {k0:Nat} (I:TkI st iv codes SI bx n k0 a q w s1 N1) (O:NOut s1 iv codes SI bx n k m X r s2) (e:X=Y) :
    ∃ tv,r=outV tv Y.2∧s2.box q=some [.sl .nil [],.sc (.bool false),.sc (.bool false),.sc (.bool false)]∧∀ cs,NOut st iv codes SI bx n k m Y (outV tv Y.2) (s2.put q cs):=by
  subst e
  obtain ⟨tv,rfl,R2,h2,T2,L2⟩:=O
  exact ⟨tv,rfl,T2.box q _ I.bq I.hq,fun cs=>NOut.put hU hlt I.sq I.hq I.tn.sz R2 h2 (I.tn.trans T2) L2⟩
theorem TkI.none (hU:RulC U t pv SI bx) {iv:V} (hlt:st.Lt) (I:TkI st iv codes SI bx n k a q w s N) {cs:List V}:NOut st iv codes SI bx n k 5 (N,.no) (outV .nil .no) (s.put q cs) :=
  NOut.put (X:=(N,.no)) (s1:=st) hU hlt I.sq I.hq (Nat.le_refl _) (RO.nil I.tn.bare I.tn.lt) I.neg I.tn (by simp [Nout.no])
theorem NOut.up (hU:RulC U t pv SI bx) {iv:V} {X:Neg R × Nout} {r:V} (O:NOut st iv codes SI bx n k m X r s) {m':Nat} (hm:m≤m'):NOut st iv codes SI bx n (k + 1) m' X r s:=by
  obtain ⟨tv,h1,h2,h3,h4,h5⟩:=O
  exact ⟨tv,h1,h2,h3.more hU,h4,by omega⟩
theorem TkI.start (hU:RulC U t pv SI bx) (h:NegI iv codes SI bx n k st N) (hlt:st.Lt) (ha:st.sz≤a) (hq:st.sz≤q) (aq:a ≠ q):TkI st iv codes SI bx n k a q w ((st.put a w).put q [.sl .nil [],.sc (.bool false),.sc (.bool false),.sc (.bool false)]) N:=by
  have T0:Tn [] st ((st.put a w).put q [.sl .nil [],.sc (.bool false),.sc (.bool false),.sc (.bool false)]):=(tn_new hlt ha).put (.inr hq) hlt
  refine ⟨h.tn hU T0,T0.wide (by simp),?_,put_box_same,ha,hq,aq,fun hm=>?_,fun hm=>?_⟩
  · rw [put_box_ne aq,put_box_same]
  · have:=h.lt hU hlt a hm; omega
  · have:=h.lt hU hlt q hm; omega
set_option maxRecDepth 100000 in
set_option maxHeartbeats 16000000 in
theorem negRequest_v (hU:RulC U t pv SI bx) (h:NegI (.sc (.iface t pv)) codes SI bx n k st N) (hk:k + 1≤1000000000) {now:Int} (hn:0≤now) (hn2:now≤1000000000) {p:Ctl} (hp:p.Good) {tp:Tk} :
    VCalls Tryz.prog 182 [ptrV n,.sc (.int .i64 now),p.v tp] st (NOut st (.sc (.iface t pv)) codes SI bx n (k + 1) 5 (N.request U now p)):=by
  obtain ⟨fa,hma,hca,hag⟩:=hU.agreed
  obtain ⟨X,hX⟩:∃ X,X=N.request U now p:=⟨_,rfl⟩
  rw [← hX]
  show VCalls Tryz.prog 182 [ptrV n,.sc (.int .i64 now),.agg [.sc (.int .u8 p.code),.sc (.int .u8 p.id),.sl tp (bs p.data)]] st _
  refine vcalls_enter vc182 (Nat.le_of_ble_eq_true rfl) fun hwf hok=>?_
  show Run _ Vc182.body (.fin (finQ Vc182.res _)) _ _
  unfold Vc182 zg zn zo
  have hlt:=hwf.lt
  have hpb:=hp.b
  have hpl:=hp.l
  simp (maxSteps:=3000000) only [go_sem,↓reduceIte]
  intro a ha q hq
  have I0:TkI st (.sc (.iface t pv)) codes SI bx n k a q [.sc (.int .u8 p.code),.sc (.int .u8 p.id),.sl tp (bs p.data)] ((st.put a [.sc (.int .u8 p.code),.sc (.int .u8 p.id),.sl tp (bs p.data)]).put q [.sl .nil [],.sc (.bool false),.sc (.bool false),.sc (.bool false)]) N:=TkI.start hU h hlt ha (by omega) (by omega)
  generalize (st.put a _).put q _=s0 at I0 ⊢
  clear ha hq
  have ba:=I0.ba
  have bq:=I0.bq
  simp (maxSteps:=3000000) only [go_sem,↓reduceIte,ba]
  refine Cal.mk (optParse_v hpb hpl) ?_
  rintro _ _ ⟨rfl,rfl⟩ -
  obtain ⟨L,hL⟩:∃ L,L=parseO p.data:=⟨_,rfl⟩
  have hLg:GoodO L.1:=by rw [hL]; exact parseO_good hpb
  have hLl:L.1.length≤1000000:=by rw [hL]; have:=parseO_len (L:=p.data); omega
  unfold Neg.request at hX
  simp only at hX
  rw [← hL] at hX ⊢
  by_cases c1:L.2=0
  rotate_left
  · rw [if_pos c1] at hX
    subst hX
    simp (maxSteps:=3000000) only [go_sem,↓reduceIte,decide_eq_true c1,bq]
    have O:=(I0.none hU hlt (cs:=[.sl .nil [],.sc (.bool false),.sc (.bool false),.sc (.bool false)])).up hU (Nat.le_refl _)
    exact ⟨_,_,Wk.refl _,O.lt.weak,O⟩
  rw [if_neg (show ¬ L.2 ≠ 0 from fun e=>e c1)] at hX
  simp (maxSteps:=3000000) only [go_sem,↓reduceIte,decide_eq_false (show ¬ L.2 ≠ 0 from fun e=>e c1)]
  refine Cal.mk (negState_v I0.neg) ?_
  rintro _ _ ⟨rfl,rfl⟩ -
  by_cases c2:N.s=4 ∨ N.s=5 ∨ N.s < 3
  · rw [if_pos c2] at hX
    by_cases e4:N.s=4
    · simp (maxSteps:=3000000) only [go_sem,↓reduceIte,decide_eq_true e4,ba]
      refine Cal.mk (negDo_v hU I0.neg hn hn2) ?_
      rintro _ s8 ⟨rfl,h8,T8⟩ -
      have I8:=I0.step h8 T8
      have ba8:=I8.ba
      simp (maxSteps:=3000000) only [go_sem,↓reduceIte,ba8]
      refine Cal.mk (negDone_v hU h8 (p:=p) (back:=zeroC) (tp:=tp) (tb:=.nil) hp) ?_
      rintro _ s9 O -
      obtain ⟨tv,rfl,bq9,O9⟩:=I8.fin hU hlt O hX.symm
      simp (maxSteps:=3000000) only [go_sem,↓reduceIte,bq9,outV]
      exact ⟨_,_,Wk.refl _,(O9 _).lt.weak,(O9 _).up hU (Nat.le_refl _)⟩
    by_cases e5:N.s=5
    · simp (maxSteps:=3000000) only [go_sem,↓reduceIte,decide_eq_false e4,decide_eq_true e5,ba]
      refine Cal.mk (negDo_v hU I0.neg hn hn2) ?_
      rintro _ s8 ⟨rfl,h8,T8⟩ -
      have I8:=I0.step h8 T8
      have ba8:=I8.ba
      simp (maxSteps:=3000000) only [go_sem,↓reduceIte,ba8]
      refine Cal.mk (negDone_v hU h8 (p:=p) (back:=zeroC) (tp:=tp) (tb:=.nil) hp) ?_
      rintro _ s9 O -
      obtain ⟨tv,rfl,bq9,O9⟩:=I8.fin hU hlt O hX.symm
      simp (maxSteps:=3000000) only [go_sem,↓reduceIte,bq9,outV]
      exact ⟨_,_,Wk.refl _,(O9 _).lt.weak,(O9 _).up hU (Nat.le_refl _)⟩
    · have e3:N.s < 3:=by omega
      simp (maxSteps:=3000000) only [go_sem,↓reduceIte,decide_eq_false e4,decide_eq_false e5,decide_eq_true e3,ba]
      refine Cal.mk (negDo_v hU I0.neg hn hn2) ?_
      rintro _ s8 ⟨rfl,h8,T8⟩ -
      have I8:=I0.step h8 T8
      have ba8:=I8.ba
      simp (maxSteps:=3000000) only [go_sem,↓reduceIte,ba8]
      refine Cal.mk (negDone_v hU h8 (p:=p) (back:=zeroC) (tp:=tp) (tb:=.nil) hp) ?_
      rintro _ s9 O -
      obtain ⟨tv,rfl,bq9,O9⟩:=I8.fin hU hlt O hX.symm
      simp (maxSteps:=3000000) only [go_sem,↓reduceIte,bq9,outV]
      exact ⟨_,_,Wk.refl _,(O9 _).lt.weak,(O9 _).up hU (Nat.le_refl _)⟩
  · rw [if_neg c2] at hX
    have e4:¬ N.s=4:=fun e=>c2 (.inl e)
    have e5:¬ N.s=5:=fun e=>c2 (.inr (.inl e))
    have e3:¬ N.s < 3:=fun e=>c2 (.inr (.inr e))
    simp (maxSteps:=3000000) only [go_sem,↓reduceIte,decide_eq_false e4,decide_eq_false e5,decide_eq_false e3,ba]
    refine Cal.mk (negJudge_v hU I0.neg (by omega) hp hLg hLl) ?_
    rintro _ s1 ⟨rfl,h1,T1⟩ -
    have I1:=I0.step h1 T1
    obtain ⟨J,hJ⟩:∃ J,J=N.judge U p L.1:=⟨_,rfl⟩
    rw [← hJ] at hX h1 I1 ⊢
    have ba1:=I1.ba
    have bq1:=I1.bq
    have hsz1:=I1.tn.sz
    cases e1:J.2.2
    · rw [if_pos e1] at hX
      simp (maxSteps:=3000000) only [go_sem,↓reduceIte,Ctl.v]
      intro c hc
      have T2:Tn [] s1 (s1.put c [.sc (.int .u8 J.2.1.code),.sc (.int .u8 J.2.1.id),.sl .no (bs J.2.1.data)]):=tn_new T1.lt hc
      have I2:=I1.step (h1.tn hU T2) (T2.wide (by simp))
      have bc2:(s1.put c [.sc (.int .u8 J.2.1.code),.sc (.int .u8 J.2.1.id),.sl .no (bs J.2.1.data)]).box c=some [.sc (.int .u8 J.2.1.code),.sc (.int .u8 J.2.1.id),.sl .no (bs J.2.1.data)]:=put_box_same
      generalize s1.put c _=s2 at T2 I2 bc2 ⊢
      have hcn:c ∉ n :: bx:=fun hm=>by have:=h.lt hU hlt c hm; omega
      have ba2:=I2.ba
      simp (maxSteps:=3000000) only [go_sem,↓reduceIte,ba2,bc2]
      refine Cal.mk (negDo_v hU I2.neg hn hn2) ?_
      rintro _ s8 ⟨rfl,h8,T8⟩ -
      have I8:=I2.step h8 T8
      have ba8:=I8.ba
      have bc8:=T8.box c _ bc2 hcn
      simp (maxSteps:=3000000) only [go_sem,↓reduceIte,ba8,bc8]
      refine Cal.mk (negDone_v hU h8 (p:=p) (back:=J.2.1) (tp:=tp) (tb:=.no) hp) ?_
      rintro _ s9 O -
      obtain ⟨tv,rfl,bq9,O9⟩:=I8.fin hU hlt O hX.symm
      simp (maxSteps:=3000000) only [go_sem,↓reduceIte,bq9,outV]
      exact ⟨_,_,Wk.refl _,(O9 _).lt.weak,O9 _⟩
    · rw [if_neg (show ¬ J.2.2=false by rw [e1]; simp)] at hX
      simp (maxSteps:=3000000) only [go_sem,↓reduceIte,Ctl.v]
      intro c hc
      have T2:Tn [] s1 (s1.put c [.sc (.int .u8 J.2.1.code),.sc (.int .u8 J.2.1.id),.sl .no (bs J.2.1.data)]):=tn_new T1.lt hc
      have I2:=I1.step (h1.tn hU T2) (T2.wide (by simp))
      have bc2:(s1.put c [.sc (.int .u8 J.2.1.code),.sc (.int .u8 J.2.1.id),.sl .no (bs J.2.1.data)]).box c=some [.sc (.int .u8 J.2.1.code),.sc (.int .u8 J.2.1.id),.sl .no (bs J.2.1.data)]:=put_box_same
      generalize s1.put c _=s2 at T2 I2 bc2 ⊢
      have hcn:c ∉ n :: bx:=fun hm=>by have:=h.lt hU hlt c hm; omega
      obtain ⟨tn,hbn⟩:=I2.neg.box
      unfold negC at hbn
      simp (maxSteps:=3000000) only [go_sem,↓reduceIte,hbn]
      refine Ivk.mk hma hca hU.one ?_
      refine Cal.mk (hag (k + 1) s2 J.1.r L.1 .no I2.neg.si (by omega) hLg hLl) ?_
      rintro _ s3 ⟨rfl,si3,T3⟩ -
      have T3':Tn (n :: bx) s2 s3:=T3.wide (fun b hb=>List.mem_cons_of_mem _ hb)
      have I3:=I2.step (I2.neg.rules T3 si3 (Nat.le_refl _)) T3'
      have ba3:=I3.ba
      have bc3:=T3'.box c _ bc2 hcn
      simp (maxSteps:=3000000) only [go_sem,↓reduceIte,ba3,bc3]
      refine Cal.mk (negDo_v hU I3.neg hn hn2) ?_
      rintro _ s8 ⟨rfl,h8,T8⟩ -
      have I8:=I3.step h8 T8
      have ba8:=I8.ba
      have bc8:=T8.box c _ bc3 hcn
      simp (maxSteps:=3000000) only [go_sem,↓reduceIte,ba8,bc8]
      refine Cal.mk (negDone_v hU h8 (p:=p) (back:=J.2.1) (tp:=tp) (tb:=.no) hp) ?_
      rintro _ s9 O -
      obtain ⟨tv,rfl,bq9,O9⟩:=I8.fin hU hlt O hX.symm
      simp (maxSteps:=3000000) only [go_sem,↓reduceIte,bq9,outV]
      exact ⟨_,_,Wk.refl _,(O9 _).lt.weak,O9 _⟩
end
end
section
open Go
section
variable {R:Type} {U:Rul R} {t:TypeId} {pv:Value} {SI:Nat→St→R→Prop} {bx:List Nat} {codes:Int} {n k m:Nat} {st s s2 base:St} {N N':Neg R}
set_option maxRecDepth 100000 in
set_option maxHeartbeats 16000000 in
theorem negAnswered_v (hU:RulC U t pv SI bx) (h:NegI (.sc (.iface t pv)) codes SI bx n k st N) (hk:k + 1≤1000000000) {now:Int} (hn:0≤now) (hn2:now≤1000000000) {p:Ctl} (hp:p.Good) {tp:Tk} :
    VCalls Tryz.prog 183 [ptrV n,.sc (.int .i64 now),p.v tp] st (NOut st (.sc (.iface t pv)) codes SI bx n (k + 1) 5 (N.answered U now p)):=by
  obtain ⟨fn,hmn,hcn,hna⟩:=hU.naked
  obtain ⟨fr,hmr,hcr,hre⟩:=hU.rejected
  obtain ⟨X,hX⟩:∃ X,X=N.answered U now p:=⟨_,rfl⟩
  rw [← hX]
  show VCalls Tryz.prog 183 [ptrV n,.sc (.int .i64 now),.agg [.sc (.int .u8 p.code),.sc (.int .u8 p.id),.sl tp (bs p.data)]] st _
  refine vcalls_enter vc183 (Nat.le_of_ble_eq_true rfl) fun hwf hok=>?_
  show Run _ Vc183.body (.fin (finQ Vc183.res _)) _ _
  unfold Vc183 zg zn zo
  have hlt:=hwf.lt
  have hpb:=hp.b
  have hpl:=hp.l
  simp (maxSteps:=3000000) only [go_sem,↓reduceIte]
  intro a ha q hq
  have I0:TkI st (.sc (.iface t pv)) codes SI bx n k a q [.sc (.int .u8 p.code),.sc (.int .u8 p.id),.sl tp (bs p.data)] ((st.put a [.sc (.int .u8 p.code),.sc (.int .u8 p.id),.sl tp (bs p.data)]).put q [.sl .nil [],.sc (.bool false),.sc (.bool false),.sc (.bool false)]) N:=TkI.start hU h hlt ha (by omega) (by omega)
  generalize (st.put a _).put q _=s0 at I0 ⊢
  clear ha hq
  have ba:=I0.ba
  have bq:=I0.bq
  simp (maxSteps:=3000000) only [go_sem,↓reduceIte,ba]
  refine Cal.mk (optParse_v hpb hpl) ?_
  rintro _ _ ⟨rfl,rfl⟩ -
  obtain ⟨L,hL⟩:∃ L,L=parseO p.data:=⟨_,rfl⟩
  have hLg:GoodO L.1:=by rw [hL]; exact parseO_good hpb
  have hLl:L.1.length≤1000000:=by rw [hL]; have:=parseO_len (L:=p.data); omega
  unfold Neg.answered at hX
  simp only at hX
  rw [← hL] at hX ⊢
  obtain ⟨tn,hbn⟩:=I0.neg.box
  unfold negC at hbn
  have hinj:=strOf_inj hpb h.rb
  by_cases c1:L.2=0
  rotate_left
  · rw [if_pos (.inl c1)] at hX
    subst hX
    simp (maxSteps:=3000000) only [go_sem,↓reduceIte,decide_eq_true c1,bq]
    have O:=(I0.none hU hlt (cs:=[.sl .nil [],.sc (.bool false),.sc (.bool false),.sc (.bool false)])).up hU (Nat.le_refl _)
    exact ⟨_,_,Wk.refl _,O.lt.weak,O⟩
  have c1':¬ L.2 ≠ 0:=fun e=>e c1
  by_cases c2:p.id=N.id
  rotate_left
  · rw [if_pos (.inr (.inl c2))] at hX
    subst hX
    simp (maxSteps:=3000000) only [go_sem,↓reduceIte,decide_eq_false c1',decide_eq_true c2,bq,ba,hbn]
    have O:=(I0.none hU hlt (cs:=[.sl .nil [],.sc (.bool false),.sc (.bool false),.sc (.bool false)])).up hU (Nat.le_refl _)
    exact ⟨_,_,Wk.refl _,O.lt.weak,O⟩
  have c2':¬ p.id ≠ N.id:=fun e=>e c2
  by_cases c3:p.code=2
  · by_cases c4:p.data=N.req
    rotate_left
    · rw [if_pos (.inr (.inr ⟨c3,c4⟩))] at hX
      subst hX
      simp (maxSteps:=3000000) only [go_sem,↓reduceIte,decide_eq_false c1',decide_eq_false c2',decide_eq_true c3,decide_eq_true (show ¬ strOf p.data=strOf N.req from fun e=>c4 (hinj.1 e)),u8sOf_bsN,bq,ba,hbn]
      have O:=(I0.none hU hlt (cs:=[.sl .nil [],.sc (.bool false),.sc (.bool false),.sc (.bool false)])).up hU (Nat.le_refl _)
      exact ⟨_,_,Wk.refl _,O.lt.weak,O⟩
    have e4:¬ strOf p.data ≠ strOf N.req:=fun e=>e (by rw [c4])
    rw [if_neg (fun e=>e.elim c1' (fun e=>e.elim c2' (fun e=>e.2 c4))),if_pos c3] at hX
    simp (maxSteps:=3000000) only [go_sem,↓reduceIte,decide_eq_false c1',decide_eq_false c2',decide_eq_true c3,decide_eq_false e4,u8sOf_bsN,ba,hbn]
    refine Cal.mk (negDo_v hU I0.neg hn hn2) ?_
    rintro _ s8 ⟨rfl,h8,T8⟩ -
    have I8:=I0.step h8 T8
    have ba8:=I8.ba
    simp (maxSteps:=3000000) only [go_sem,↓reduceIte,ba8]
    refine Cal.mk (negDone_v hU h8 (p:=p) (back:=zeroC) (tp:=tp) (tb:=.nil) hp) ?_
    rintro _ s9 O -
    obtain ⟨tv,rfl,bq9,O9⟩:=I8.fin hU hlt O hX.symm
    simp (maxSteps:=3000000) only [go_sem,↓reduceIte,bq9,outV]
    exact ⟨_,_,Wk.refl _,(O9 _).lt.weak,(O9 _).up hU (Nat.le_refl _)⟩
  rw [if_neg (fun e=>e.elim c1' (fun e=>e.elim c2' (fun e=>c3 e.1))),if_neg c3] at hX
  by_cases c5:p.code=3
  · rw [if_pos c5] at hX
    simp (maxSteps:=3000000) only [go_sem,↓reduceIte,decide_eq_false c1',decide_eq_false c2',decide_eq_false c3,decide_eq_true c5,ba,hbn]
    refine Ivk.mk hmn hcn hU.one ?_
    refine Cal.mk (hna k s0 N.r L.1 .no I0.neg.si (by omega) hLg hLl) ?_
    rintro _ s3 ⟨rfl,si3,T3⟩ -
    have T3':Tn (n :: bx) s0 s3:=T3.wide (fun b hb=>List.mem_cons_of_mem _ hb)
    have I3:=I0.step (I0.neg.rules T3 si3 (Nat.le_succ _)) T3'
    have ba3:=I3.ba
    simp (maxSteps:=3000000) only [go_sem,↓reduceIte,ba3]
    refine Cal.mk (negDo_v hU I3.neg hn hn2) ?_
    rintro _ s8 ⟨rfl,h8,T8⟩ -
    have I8:=I3.step h8 T8
    have ba8:=I8.ba
    simp (maxSteps:=3000000) only [go_sem,↓reduceIte,ba8]
    refine Cal.mk (negDone_v hU h8 (p:=p) (back:=zeroC) (tp:=tp) (tb:=.nil) hp) ?_
    rintro _ s9 O -
    obtain ⟨tv,rfl,bq9,O9⟩:=I8.fin hU hlt O hX.symm
    simp (maxSteps:=3000000) only [go_sem,↓reduceIte,bq9,outV]
    exact ⟨_,_,Wk.refl _,(O9 _).lt.weak,O9 _⟩
  · rw [if_neg c5] at hX
    simp (maxSteps:=3000000) only [go_sem,↓reduceIte,decide_eq_false c1',decide_eq_false c2',decide_eq_false c3,decide_eq_false c5,ba,hbn]
    refine Ivk.mk hmr hcr hU.one ?_
    refine Cal.mk (hre k s0 N.r L.1 .no I0.neg.si (by omega) hLg hLl) ?_
    rintro _ s3 ⟨rfl,si3,T3⟩ -
    have T3':Tn (n :: bx) s0 s3:=T3.wide (fun b hb=>List.mem_cons_of_mem _ hb)
    have I3:=I0.step (I0.neg.rules T3 si3 (Nat.le_refl _)) T3'
    have ba3:=I3.ba
    cases e6:(U.rejected N.r L.1).2
    · rw [if_pos e6] at hX
      simp (maxSteps:=3000000) only [go_sem,↓reduceIte,Bool.not_false]
      refine Cal.mk (negClose_v hU I3.neg hn hn2) ?_
      rintro _ s9 O -
      obtain ⟨tv,rfl,bq9,O9⟩:=I3.fin hU hlt O hX.symm
      simp (maxSteps:=3000000) only [go_sem,↓reduceIte,bq9,outV]
      exact ⟨_,_,Wk.refl _,(O9 _).lt.weak,(O9 _).up hU (Nat.le_refl _)⟩
    · rw [if_neg (show ¬ (U.rejected N.r L.1).2=false by rw [e6]; simp)] at hX
      simp (maxSteps:=3000000) only [go_sem,↓reduceIte,Bool.not_true,ba3]
      refine Cal.mk (negDo_v hU I3.neg hn hn2) ?_
      rintro _ s8 ⟨rfl,h8,T8⟩ -
      have I8:=I3.step h8 T8
      have ba8:=I8.ba
      simp (maxSteps:=3000000) only [go_sem,↓reduceIte,ba8]
      refine Cal.mk (negDone_v hU h8 (p:=p) (back:=zeroC) (tp:=tp) (tb:=.nil) hp) ?_
      rintro _ s9 O -
      obtain ⟨tv,rfl,bq9,O9⟩:=I8.fin hU hlt O hX.symm
      simp (maxSteps:=3000000) only [go_sem,↓reduceIte,bq9,outV]
      exact ⟨_,_,Wk.refl _,(O9 _).lt.weak,(O9 _).up hU (Nat.le_refl _)⟩
set_option maxRecDepth 100000 in
set_option maxHeartbeats 16000000 in
theorem negTake_v (hU:RulC U t pv SI bx) (h:NegI (.sc (.iface t pv)) codes SI bx n k st N) (hk:k + 1≤1000000000) {now:Int} (hn:0≤now) (hn2:now≤1000000000) {p:Ctl} (hp:p.Good) {tp:Tk} :
    VCalls Tryz.prog 144 [ptrV n,.sc (.int .i64 now),p.v tp] st (NOut st (.sc (.iface t pv)) codes SI bx n (k + 1) 5 (N.take U codes now p)):=by
  obtain ⟨X,hX⟩:∃ X,X=N.take U codes now p:=⟨_,rfl⟩
  rw [← hX]
  show VCalls Tryz.prog 144 [ptrV n,.sc (.int .i64 now),.agg [.sc (.int .u8 p.code),.sc (.int .u8 p.id),.sl tp (bs p.data)]] st _
  refine vcalls_enter vc144 (Nat.le_of_ble_eq_true rfl) fun hwf hok=>?_
  show Run _ Vc144.body (.fin (finQ Vc144.res _)) _ _
  unfold Vc144 zg zn zo
  have hlt:=hwf.lt
  have hpb:=hp.b
  have hpl:=hp.l
  simp (maxSteps:=3000000) only [go_sem,↓reduceIte]
  intro a ha q hq
  have I0:TkI st (.sc (.iface t pv)) codes SI bx n k a q [.sc (.int .u8 p.code),.sc (.int .u8 p.id),.sl tp (bs p.data)] ((st.put a [.sc (.int .u8 p.code),.sc (.int .u8 p.id),.sl tp (bs p.data)]).put q [.sl .nil [],.sc (.bool false),.sc (.bool false),.sc (.bool false)]) N:=TkI.start hU h hlt ha (by omega) (by omega)
  generalize (st.put a _).put q _=s0 at I0 ⊢
  clear ha hq
  have ba:=I0.ba
  have bq:=I0.bq
  obtain ⟨tn,hbn⟩:=I0.neg.box
  unfold negC at hbn
  unfold Neg.take at hX
  simp (maxSteps:=3000000) only [go_sem,↓reduceIte,ba,hbn]
  refine Cal.mk cpKnown_v ?_
  rintro _ _ ⟨rfl,rfl⟩ -
  by_cases c0:1≤p.code∧p.code≤codes
  rotate_left
  · rw [if_pos (by omega)] at hX
    have d0:=decide_eq_false c0
    simp (maxSteps:=3000000) only [go_sem,↓reduceIte,d0,Bool.not_false,ba]
    refine Cal.mk (negDo_v hU I0.neg hn hn2) ?_
    rintro _ s8 ⟨rfl,h8,T8⟩ -
    have I8:=I0.step h8 T8
    have ba8:=I8.ba
    simp (maxSteps:=3000000) only [go_sem,↓reduceIte,ba8]
    refine Cal.mk (negDone_v hU h8 (p:=p) (back:=zeroC) (tp:=tp) (tb:=.nil) hp) ?_
    rintro _ s9 O -
    obtain ⟨tv,rfl,bq9,O9⟩:=I8.fin hU hlt O hX.symm
    simp (maxSteps:=3000000) only [go_sem,↓reduceIte,bq9,outV]
    exact ⟨_,_,Wk.refl _,(O9 _).lt.weak,(O9 _).up hU (Nat.le_refl _)⟩
  have d0:=decide_eq_true c0
  rw [if_neg (by omega)] at hX
  by_cases c1:p.code=1
  · rw [if_pos c1] at hX
    simp (maxSteps:=3000000) only [go_sem,↓reduceIte,d0,Bool.not_true,decide_eq_true c1,ba]
    refine Cal.mk (negRequest_v hU I0.neg hk hn hn2 hp) ?_
    rintro _ s9 O -
    obtain ⟨tv,rfl,bq9,O9⟩:=I0.fin hU hlt O hX.symm
    simp (maxSteps:=3000000) only [go_sem,↓reduceIte,bq9,outV]
    exact ⟨_,_,Wk.refl _,(O9 _).lt.weak,O9 _⟩
  rw [if_neg c1] at hX
  by_cases c4:p.code≤4
  · rw [if_pos c4] at hX
    simp (maxSteps:=3000000) only [go_sem,↓reduceIte,d0,Bool.not_true,decide_eq_false c1,decide_eq_true c4,ba]
    refine Cal.mk (negAnswered_v hU I0.neg hk hn hn2 hp) ?_
    rintro _ s9 O -
    obtain ⟨tv,rfl,bq9,O9⟩:=I0.fin hU hlt O hX.symm
    simp (maxSteps:=3000000) only [go_sem,↓reduceIte,bq9,outV]
    exact ⟨_,_,Wk.refl _,(O9 _).lt.weak,O9 _⟩
  rw [if_neg c4] at hX
  by_cases c5:p.code=5
  · rw [evOf,if_pos c5] at hX
    simp (maxSteps:=3000000) only [go_sem,↓reduceIte,d0,Bool.not_true,decide_eq_false c1,decide_eq_false c4,decide_eq_true c5,ba]
    refine Cal.mk (negDo_v hU I0.neg hn hn2) ?_
    rintro _ s8 ⟨rfl,h8,T8⟩ -
    have I8:=I0.step h8 T8
    have ba8:=I8.ba
    simp (maxSteps:=3000000) only [go_sem,↓reduceIte,ba8]
    refine Cal.mk (negDone_v hU h8 (p:=p) (back:=zeroC) (tp:=tp) (tb:=.nil) hp) ?_
    rintro _ s9 O -
    obtain ⟨tv,rfl,bq9,O9⟩:=I8.fin hU hlt O hX.symm
    simp (maxSteps:=3000000) only [go_sem,↓reduceIte,bq9,outV]
    exact ⟨_,_,Wk.refl _,(O9 _).lt.weak,(O9 _).up hU (Nat.le_refl _)⟩
  by_cases c6:p.code=6
  · rw [evOf,if_neg c5,if_pos c6] at hX
    simp (maxSteps:=3000000) only [go_sem,↓reduceIte,d0,Bool.not_true,decide_eq_false c1,decide_eq_false c4,decide_eq_false c5,decide_eq_true c6,ba]
    refine Cal.mk (negDo_v hU I0.neg hn hn2) ?_
    rintro _ s8 ⟨rfl,h8,T8⟩ -
    have I8:=I0.step h8 T8
    have ba8:=I8.ba
    simp (maxSteps:=3000000) only [go_sem,↓reduceIte,ba8]
    refine Cal.mk (negDone_v hU h8 (p:=p) (back:=zeroC) (tp:=tp) (tb:=.nil) hp) ?_
    rintro _ s9 O -
    obtain ⟨tv,rfl,bq9,O9⟩:=I8.fin hU hlt O hX.symm
    simp (maxSteps:=3000000) only [go_sem,↓reduceIte,bq9,outV]
    exact ⟨_,_,Wk.refl _,(O9 _).lt.weak,(O9 _).up hU (Nat.le_refl _)⟩
  by_cases c7:p.code=7
  · rcases hD:p.data with _ | ⟨x,D⟩
    · have hl0:decide ((0:Int) < (p.data.length:Int))=false:=by rw [hD]; rfl
      rw [evOf,if_neg c5,if_neg c6,if_neg (by rw [hD]; simp),if_pos (.inl c7)] at hX
      simp (maxSteps:=3000000) only [go_sem,↓reduceIte,d0,Bool.not_true,decide_eq_false c1,decide_eq_false c4,decide_eq_false c5,decide_eq_false c6,decide_eq_true c7,bs_len,hl0,ba]
      refine Cal.mk (negDo_v hU I0.neg hn hn2) ?_
      rintro _ s8 ⟨rfl,h8,T8⟩ -
      have I8:=I0.step h8 T8
      have ba8:=I8.ba
      simp (maxSteps:=3000000) only [go_sem,↓reduceIte,ba8]
      refine Cal.mk (negDone_v hU h8 (p:=p) (back:=zeroC) (tp:=tp) (tb:=.nil) hp) ?_
      rintro _ s9 O -
      obtain ⟨tv,rfl,bq9,O9⟩:=I8.fin hU hlt O hX.symm
      simp (maxSteps:=3000000) only [go_sem,↓reduceIte,bq9,outV]
      exact ⟨_,_,Wk.refl _,(O9 _).lt.weak,(O9 _).up hU (Nat.le_refl _)⟩
    · have hl0:decide ((0:Int) < (p.data.length:Int))=true:=decide_eq_true (by rw [hD]; simp only [List.length_cons]; omega)
      have g0:(bs p.data)[0]?=some (.sc (.int .u8 x)):=by rw [hD]; rfl
      have hg:p.data.getD 0 0=x:=by rw [hD]; rfl
      by_cases c8:x≤7
      · rw [evOf,if_neg c5,if_neg c6,if_pos ⟨c7,by rw [hD]; simp,by rw [hg]; exact c8⟩] at hX
        simp (maxSteps:=3000000) only [go_sem,↓reduceIte,d0,Bool.not_true,decide_eq_false c1,decide_eq_false c4,decide_eq_false c5,decide_eq_false c6,decide_eq_true c7,bs_len,hl0,g0,decide_eq_true c8,ba]
        refine Cal.mk (negDo_v hU I0.neg hn hn2) ?_
        rintro _ s8 ⟨rfl,h8,T8⟩ -
        have I8:=I0.step h8 T8
        have ba8:=I8.ba
        simp (maxSteps:=3000000) only [go_sem,↓reduceIte,ba8]
        refine Cal.mk (negDone_v hU h8 (p:=p) (back:=zeroC) (tp:=tp) (tb:=.nil) hp) ?_
        rintro _ s9 O -
        obtain ⟨tv,rfl,bq9,O9⟩:=I8.fin hU hlt O hX.symm
        simp (maxSteps:=3000000) only [go_sem,↓reduceIte,bq9,outV]
        exact ⟨_,_,Wk.refl _,(O9 _).lt.weak,(O9 _).up hU (Nat.le_refl _)⟩
      · rw [evOf,if_neg c5,if_neg c6,if_neg (by rw [hg]; exact fun e=>c8 e.2.2),if_pos (.inl c7)] at hX
        simp (maxSteps:=3000000) only [go_sem,↓reduceIte,d0,Bool.not_true,decide_eq_false c1,decide_eq_false c4,decide_eq_false c5,decide_eq_false c6,decide_eq_true c7,bs_len,hl0,g0,decide_eq_false c8,ba]
        refine Cal.mk (negDo_v hU I0.neg hn hn2) ?_
        rintro _ s8 ⟨rfl,h8,T8⟩ -
        have I8:=I0.step h8 T8
        have ba8:=I8.ba
        simp (maxSteps:=3000000) only [go_sem,↓reduceIte,ba8]
        refine Cal.mk (negDone_v hU h8 (p:=p) (back:=zeroC) (tp:=tp) (tb:=.nil) hp) ?_
        rintro _ s9 O -
        obtain ⟨tv,rfl,bq9,O9⟩:=I8.fin hU hlt O hX.symm
        simp (maxSteps:=3000000) only [go_sem,↓reduceIte,bq9,outV]
        exact ⟨_,_,Wk.refl _,(O9 _).lt.weak,(O9 _).up hU (Nat.le_refl _)⟩
  by_cases c8:p.code=8
  · rw [evOf,if_neg c5,if_neg c6,if_neg (fun e=>c7 e.1),if_pos (.inr c8)] at hX
    simp (maxSteps:=3000000) only [go_sem,↓reduceIte,d0,Bool.not_true,decide_eq_false c1,decide_eq_false c4,decide_eq_false c5,decide_eq_false c6,decide_eq_false c7,decide_eq_true c8,ba]
    refine Cal.mk (negDo_v hU I0.neg hn hn2) ?_
    rintro _ s8 ⟨rfl,h8,T8⟩ -
    have I8:=I0.step h8 T8
    have ba8:=I8.ba
    simp (maxSteps:=3000000) only [go_sem,↓reduceIte,ba8]
    refine Cal.mk (negDone_v hU h8 (p:=p) (back:=zeroC) (tp:=tp) (tb:=.nil) hp) ?_
    rintro _ s9 O -
    obtain ⟨tv,rfl,bq9,O9⟩:=I8.fin hU hlt O hX.symm
    simp (maxSteps:=3000000) only [go_sem,↓reduceIte,bq9,outV]
    exact ⟨_,_,Wk.refl _,(O9 _).lt.weak,(O9 _).up hU (Nat.le_refl _)⟩
  · rw [evOf,if_neg c5,if_neg c6,if_neg (fun e=>c7 e.1),if_neg (fun e=>e.elim c7 c8)] at hX
    simp (maxSteps:=3000000) only [go_sem,↓reduceIte,d0,Bool.not_true,decide_eq_false c1,decide_eq_false c4,decide_eq_false c5,decide_eq_false c6,decide_eq_false c7,decide_eq_false c8,ba]
    refine Cal.mk (negDo_v hU I0.neg hn hn2) ?_
    rintro _ s8 ⟨rfl,h8,T8⟩ -
    have I8:=I0.step h8 T8
    have ba8:=I8.ba
    simp (maxSteps:=3000000) only [go_sem,↓reduceIte,ba8]
    refine Cal.mk (negDone_v hU h8 (p:=p) (back:=zeroC) (tp:=tp) (tb:=.nil) hp) ?_
    rintro _ s9 O -
    obtain ⟨tv,rfl,bq9,O9⟩:=I8.fin hU hlt O hX.symm
    simp (maxSteps:=3000000) only [go_sem,↓reduceIte,bq9,outV]
    exact ⟨_,_,Wk.refl _,(O9 _).lt.weak,(O9 _).up hU (Nat.le_refl _)⟩
end
end
section
open Go
def lrC (d:Nat) (r:Lr):List V:=[.sc (.int .u16 r.w.mru),.sc (.bool r.w.auth),.sc (.int .u32 r.w.magic),.sc (.bool r.w.pfc),.sc (.bool r.w.acfc),.sc (.int .u16 r.g.mru),.sc (.bool r.g.auth),.sc (.int .u32 r.g.magic),.sc (.bool r.g.pfc),.sc (.bool r.g.acfc),.sc (.pointer (some ⟨d,0,none⟩)),.sc (.int .i64 r.guard)]
structure LcI (q d k:Nat) (st:St) (r:Lr):Prop where
  bq:st.box q=some (lrC d r)
  dr:DrB st d r.ds r.k
  dg:DrG r.ds r.k
  wg:r.w.Good
  gg:r.g.Good
  g0:0≤r.guard
  g1:r.guard≤k
  ne:q ≠ d
  lq:q < st.sz
  ld:d < st.sz
theorem judgeF_good {own draw:Int}:∀ {l:List Opt} {a:List Opt × List Opt × List Int},GoodO l→GoodO a.1→GoodO a.2.1→GoodO (l.foldl (judgeStep own draw) a).1∧GoodO (l.foldl (judgeStep own draw) a).2.1
  | [],a,_,h1,h2=>⟨h1,h2⟩
  | o :: l,a,hl,h1,h2=>by
    have ho:=hl o (by simp)
    refine judgeF_good (l:=l) (fun x hx=>hl x (by simp [hx])) ?_ ?_
    · unfold judgeStep
      split
      · exact h1.append (.one ho.1 ho.2.1 ho.2.2.1 ho.2.2.2)
      · exact h1
    · unfold judgeStep
      split
      · exact h2
      · refine h2.append ?_
        unfold betterO
        split
        · exact .one (by show (0:Int)≤1; decide) (by show (1:Int) < 256; decide) (beL_isB _ _) (by rw [beL_len]; decide)
        split
        · exact .one (by show (0:Int)≤5; decide) (by show (5:Int) < 256; decide) (beL_isB _ _) (by rw [beL_len]; decide)
        · exact .nil
theorem judgeL_good {own draw:Int} {l:List Opt} (h:GoodO l) (hl:l.length≤1000000):0≤(judgeL l own draw).1∧(judgeL l own draw).1 < 256∧GoodO (judgeL l own draw).2∧(judgeL l own draw).2.length≤1000000:=by
  have hg:=judgeF_good (own:=own) (draw:=draw) (a:=([],[],[])) h .nil .nil
  have hn:=judgeF_len (own:=own) (draw:=draw) l l.length (Nat.le_refl _)
  rw [List.take_length] at hn
  unfold judgeL
  simp only
  unfold judgeF at *
  split
  · exact ⟨by show (0:Int)≤4; decide,by show (4:Int) < 256; decide,hg.1,by have:=hn.1; simp only; omega⟩
  split
  · exact ⟨by show (0:Int)≤3; decide,by show (3:Int) < 256; decide,hg.2,by have:=hn.2; simp only; omega⟩
  · exact ⟨by show (0:Int)≤2; decide,by show (2:Int) < 256; decide,h,hl⟩
theorem theirN_rng {l:List Opt} (h:GoodO l):0≤theirN l∧theirN l < 4294967296:=by
  unfold theirN
  split
  · rename_i d hd
    simp only [findO,Option.map_eq_some_iff] at hd
    obtain ⟨o,ho,rfl⟩:=hd
    exact num4_rng (h o (List.mem_of_find?_eq_some ho)).2.2.1
  · exact ⟨by decide,by decide⟩
theorem findO_isB {l:List Opt} {t:Int} {d:List Int} (h:GoodO l) (hd:findO l t=some d):IsB d:=by
  simp only [findO,Option.map_eq_some_iff] at hd
  obtain ⟨o,ho,rfl⟩:=hd
  exact (h o (List.mem_of_find?_eq_some ho)).2.2.1
section
variable {q d k:Nat} {st s:St} {r r':Lr} {l:List Opt} {tk:Tk}
theorem LcI.write (h:LcI q d k st r) {k':Nat} (e1:r'.ds=r.ds) (e2:r'.k=r.k) (wg:r'.w.Good) (gg:r'.g.Good) (g0:0≤r'.guard) (g1:r'.guard≤k'):LcI q d k' (st.put q (lrC d r')) r':=by
  obtain ⟨tk,hd⟩:=h.dr
  refine ⟨put_box_same,⟨tk,?_⟩,by rw [e1,e2]; exact h.dg,wg,gg,g0,g1,h.ne,by have:=h.lq; simp only [put_sz]; omega,by have:=h.ld; simp only [put_sz]; omega⟩
  rw [put_box_ne h.ne.symm,e1,e2]; exact hd
theorem LcI.drawn (h:LcI q d k st r) (hd:DrB s d r.draw.1.ds r.draw.1.k) (T:Tn [d] st s):LcI q d k s r.draw.1:=by
  obtain ⟨k1,k2,k3⟩:=draw_keep (r:=r)
  have hg:=(draw_good h.dg).1
  refine ⟨?_,hd,hg,by rw [k1]; exact h.wg,by rw [k2]; exact h.gg,by rw [k3]; exact h.g0,by rw [k3]; exact h.g1,h.ne,by have:=h.lq; have:=T.sz; omega,by have:=h.ld; have:=T.sz; omega⟩
  have:=T.box q _ h.bq (by simp [h.ne])
  rw [this]
  simp only [lrC,k1,k2,k3]
theorem LcI.more (h:LcI q d k st r):LcI q d (k + 1) st r:={ h with g1:=by have:=h.g1; omega }
theorem rules_req (h:LcI q d k st r):VCalls Tryz.prog 264 [ptrV q] st fun x s=>x=.sl .no (opts (optsW r.w))∧st=s:=by
  refine vcalls_enterq pc264 (Nat.le_of_ble_eq_true rfl) rfl fun hwf hok=>?_
  show Run _ Pc264.body (.fin (finP Pc264.res _)) _ _
  unfold Pc264 zo
  have hb:=h.bq
  unfold lrC at hb
  simp (maxSteps:=3000000) only [go_sem,↓reduceIte,hb]
  refine Cal.mk (loptOptions_v h.wg) ?_
  rintro _ _ ⟨rfl,rfl⟩ -
  simp (maxSteps:=3000000) only [go_sem,↓reduceIte]
  exact ⟨_,_,Wk.refl _,hwf.weak,rfl,rfl⟩
theorem rules_agreed (h:LcI q d k st r) (hG:GoodO l) (hl:l.length≤1000000):VCalls Tryz.prog 260 [ptrV q,.sl tk (opts l)] st fun x s=>x=.tup []∧LcI q d k s { r with g:=ofL l }∧Tn [q,d] st s:=by
  refine vcalls_enterq pc260 (Nat.le_of_ble_eq_true rfl) rfl fun hwf hok=>?_
  show Run _ Pc260.body (.fin (finP Pc260.res _)) _ _
  unfold Pc260 zn zo
  have hb:=h.bq
  unfold lrC at hb
  have hw:=h.write (r':={ r with g:=ofL l }) rfl rfl h.wg (ofL_good hG) h.g0 h.g1
  simp (maxSteps:=3000000) only [go_sem]
  refine Cal.mk (loptOf_v hG hl) ?_
  rintro _ _ ⟨rfl,rfl⟩ -
  simp (maxSteps:=3000000) only [go_sem,↓reduceIte,hb,Want.cells]
  have T:Tn [q,d] st (st.put q (lrC d { r with g:=ofL l })):=(Tn.refl hwf.lt).put (.inl (by simp)) hwf.lt
  exact ⟨_,_,Wk.refl _,T.lt.weak,rfl,hw,T⟩
theorem LcI.see (h:LcI q d k st r) {own x:Int}:LcI q d (k + 1) (st.put q (lrC d (r.see own x))) (r.see own x):=by
  have h0:=h.g0
  have h1:=h.g1
  refine h.write rfl rfl h.wg h.gg ?_ ?_
  · show 0≤(if own ≠ 0∧own=x then r.guard + 1 else 0)
    split <;> omega
  · show (if own ≠ 0∧own=x then r.guard + 1 else 0)≤((k + 1:Nat):Int)
    split <;> omega
theorem rules_see (h:LcI q d k st r) (hk:k≤1000000000) {own x:Int}:VCalls Tryz.prog 266 [.sc (.pointer (some ⟨q,11,none⟩)),.sc (.int .u32 own),.sc (.int .u32 x)] st fun v s =>
    v=.sc (.bool (decide (own ≠ 0∧own=x)))∧LcI q d (k + 1) s (r.see own x)∧Tn [q,d] st s:=by
  have hb:=h.bq
  unfold lrC at hb
  have h0:=h.g0
  have h1:=h.g1
  refine VCalls.wf fun hwf=>(guardSee_v hb h0 (by omega)).mono fun v s ⟨e1,e2⟩=>⟨e1,?_,?_⟩
  · rw [e2]; exact h.see
  · rw [e2]; exact (Tn.refl hwf.lt).put (.inl (by simp)) hwf.lt
theorem theirN_some {D:List Int} (h:findO l 5=some D):theirN l=num4 D:=by unfold theirN; rw [h]
theorem theirN_none (h:findO l 5=none):theirN l=0:=by unfold theirN; rw [h]
set_option maxRecDepth 100000 in
set_option maxHeartbeats 4000000 in
theorem rules_judge (h:LcI q d k st r) (hk:k≤1000000000) (hG:GoodO l) (hl:l.length≤1000000):VCalls Tryz.prog 261 [ptrV q,.sl tk (opts l)] st fun x s =>
    (∃ t2,x=.tup [.sc (.int .u8 (r.judge l).2.1),.sl t2 (opts (r.judge l).2.2)])∧LcI q d (k + 1) s (r.judge l).1∧Tn [q,d] st s:=by
  refine vcalls_enterq pc261 (Nat.le_of_ble_eq_true rfl) rfl fun hwf hok=>?_
  show Run _ Pc261.body (.fin (finP Pc261.res _)) _ _
  unfold Pc261 zg zn zo
  have hb:=h.bq
  unfold lrC at hb
  obtain ⟨X,hX⟩:∃ X,X=r.judge l:=⟨_,rfl⟩
  rw [← hX]
  unfold Lr.judge at hX
  simp (maxSteps:=3000000) only [go_sem,↓reduceIte]
  refine Cal.mk (optFind_v hl hG) ?_
  rintro _ _ ⟨rfl,rfl⟩ -
  simp (maxSteps:=3000000) only [go_sem,↓reduceIte]
  refine If.cut [6,17,18] (fun B s=>s=st∧B 6=.sc (.int .u32 (theirN l))) rfl ?_ ?_
  · cases hf:findO l 5 with
    | none =>
      simp (maxSteps:=3000000) only [go_sem,↓reduceIte,Option.isSome_none,at_cutk_n]
      rw [theirN_none hf]
    | some D =>
      simp (maxSteps:=3000000) only [go_sem,↓reduceIte,Option.isSome_some,Option.getD]
      refine Cal.mk (Get32_n (findO_isB hG hf)) ?_
      rintro _ _ ⟨rfl,rfl⟩ -
      simp (maxSteps:=3000000) only [go_sem,↓reduceIte,at_cutk_n]
      rw [theirN_some hf]
  · rintro B s ⟨rfl,h6⟩
    have hT:=theirN_rng hG
    generalize theirN l=x at h6 hT hX
    simp (maxSteps:=3000000) only [go_sem,↓reduceIte,hb,h6]
    refine Cal.mk (rules_see h hk) ?_
    rintro _ s1 ⟨rfl,h1,T1⟩ -
    have hwm:(r.see r.w.magic x).w=r.w:=rfl
    generalize r.see r.w.magic x=R1 at h1 hX hwm
    have hb1:=h1.bq
    unfold lrC at hb1
    rw [hwm] at hb1
    by_cases c:(r.w.magic ≠ 0∧r.w.magic=x) ∨ x=0
    · simp only [if_pos c] at hX
      have step:∀ {Z:Prop},(decide (r.w.magic ≠ 0∧r.w.magic=x)=true→Z)→(decide (r.w.magic ≠ 0∧r.w.magic=x)=false→decide (x=0)=true→Z)→Z:=fun z1 z2=>by
        by_cases c1:r.w.magic ≠ 0∧r.w.magic=x
        · exact z1 (decide_eq_true c1)
        · exact z2 (decide_eq_false c1) (decide_eq_true (c.resolve_left c1))
      have hdg:=draw_good h1.dg
      obtain ⟨w1,w2,w3⟩:=draw_keep (r:=R1)
      refine step (fun e1=>?_) (fun e1 e2=>?_)
      · simp (maxSteps:=3000000) only [go_sem,↓reduceIte,e1,hb1]
        refine Cal.mk (drSome_v h1.dr h1.dg) ?_
        rintro _ s2 ⟨rfl,d2,T2⟩ -
        have h2:=h1.drawn d2 T2
        have hb2:=h2.bq
        unfold lrC at hb2
        rw [w1,hwm] at hb2
        simp (maxSteps:=3000000) only [go_sem,↓reduceIte,hb2]
        refine Cal.mk (loptJudge_v hG hl (Int.le_of_lt hdg.2.1) hdg.2.2) ?_
        rintro _ _ ⟨⟨t2,rfl⟩,rfl⟩ -
        simp (maxSteps:=3000000) only [go_sem,↓reduceIte]
        exact ⟨_,_,Wk.refl _,T2.lt.weak,by rw [hX]; exact ⟨_,rfl⟩,by rw [hX]; exact h2,T1.trans (T2.wide (by simp))⟩
      · simp (maxSteps:=3000000) only [go_sem,↓reduceIte,e1,e2,hb1,h6]
        refine Cal.mk (drSome_v h1.dr h1.dg) ?_
        rintro _ s2 ⟨rfl,d2,T2⟩ -
        have h2:=h1.drawn d2 T2
        have hb2:=h2.bq
        unfold lrC at hb2
        rw [w1,hwm] at hb2
        simp (maxSteps:=3000000) only [go_sem,↓reduceIte,hb2]
        refine Cal.mk (loptJudge_v hG hl (Int.le_of_lt hdg.2.1) hdg.2.2) ?_
        rintro _ _ ⟨⟨t2,rfl⟩,rfl⟩ -
        simp (maxSteps:=3000000) only [go_sem,↓reduceIte]
        exact ⟨_,_,Wk.refl _,T2.lt.weak,by rw [hX]; exact ⟨_,rfl⟩,by rw [hX]; exact h2,T1.trans (T2.wide (by simp))⟩
    · simp only [if_neg c] at hX
      have e1:decide (r.w.magic ≠ 0∧r.w.magic=x)=false:=decide_eq_false fun e=>c (.inl e)
      have e2:decide (x=0)=false:=decide_eq_false fun e=>c (.inr e)
      simp (maxSteps:=3000000) only [go_sem,↓reduceIte,e1,e2,hb1,h6]
      refine Cal.mk (loptJudge_v hG hl (by decide) (by decide)) ?_
      rintro _ _ ⟨⟨t2,rfl⟩,rfl⟩ -
      simp (maxSteps:=3000000) only [go_sem,↓reduceIte]
      exact ⟨_,_,Wk.refl _,T1.lt.weak,by rw [hX]; exact ⟨_,rfl⟩,by rw [hX]; exact h1,T1⟩
set_option maxRecDepth 100000 in
set_option maxHeartbeats 4000000 in
theorem rules_naked (h:LcI q d k st r) (hk:k≤1000000000) (hG:GoodO l) (hl:l.length≤1000000):VCalls Tryz.prog 262 [ptrV q,.sl tk (opts l)] st fun x s =>
    x=.tup []∧LcI q d (k + 1) s (r.naked l)∧Tn [q,d] st s:=by
  refine vcalls_enterq pc262 (Nat.le_of_ble_eq_true rfl) rfl fun hwf hok=>?_
  show Run _ Pc262.body (.fin (finP Pc262.res _)) _ _
  unfold Pc262 zg zn zo
  have hlt:=hwf.lt
  have hb:=h.bq
  unfold lrC at hb
  obtain ⟨X,hX⟩:∃ X,X=r.naked l:=⟨_,rfl⟩
  rw [← hX]
  unfold Lr.naked at hX
  simp (maxSteps:=3000000) only [go_sem,↓reduceIte,hb]
  refine Cal.mk (loptNaked_v (w0:=r.w) hG hl) ?_
  rintro _ _ ⟨rfl,rfl⟩ -
  have hw:=nakedL_good h.wg hG
  have h1:=h.write (r':={ r with w:=nakedL r.w l }) rfl rfl hw h.gg h.g0 h.g1
  have T1:Tn [q,d] st (st.put q (lrC d { r with w:=nakedL r.w l })):=(Tn.refl hlt).put (.inl (by simp)) hlt
  unfold lrC at h1 T1
  simp only at h1 T1
  simp (maxSteps:=3000000) only [go_sem,↓reduceIte,hb,Want.cells]
  refine Cal.mk (optFind_v hl hG) ?_
  rintro _ _ ⟨rfl,rfl⟩ -
  cases hf:findO l 5 with
  | none =>
    simp only [hf] at hX
    simp (maxSteps:=3000000) only [go_sem,↓reduceIte,Option.isSome_none]
    exact ⟨_,_,Wk.refl _,T1.lt.weak,rfl,by rw [hX]; exact h1.more,T1⟩
  | some D =>
    simp only [hf] at hX
    simp (maxSteps:=3000000) only [go_sem,↓reduceIte,Option.isSome_some,Option.getD]
    refine Cal.mk (Get32_n (findO_isB hG hf)) ?_
    rintro _ _ ⟨rfl,rfl⟩ -
    simp (maxSteps:=3000000) only [go_sem,↓reduceIte]
    refine Cal.mk (rules_see h1 hk) ?_
    rintro _ s2 ⟨rfl,h2,T2⟩ -
    generalize Lr.see { r with w:=nakedL r.w l } r.w.magic (num4 D)=R1 at h2 hX
    have hb2:=h2.bq
    unfold lrC at hb2
    by_cases c:r.w.magic ≠ 0∧r.w.magic=num4 D
    · rw [if_pos c] at hX
      simp (maxSteps:=3000000) only [go_sem,↓reduceIte,decide_eq_true c,hb2]
      refine Cal.mk (drSome_v h2.dr h2.dg) ?_
      rintro _ s3 ⟨rfl,d3,T3⟩ -
      have hdg:=draw_good h2.dg
      have h3:=h2.drawn d3 T3
      have h4:=h3.write (r':={ R1.draw.1 with w:={ R1.draw.1.w with magic:=R1.draw.2 } }) rfl rfl ⟨h3.wg.m0,h3.wg.m1,Int.le_of_lt hdg.2.1,hdg.2.2⟩ h3.gg h3.g0 h3.g1
      have T4:Tn [q,d] st (s3.put q (lrC d { R1.draw.1 with w:={ R1.draw.1.w with magic:=R1.draw.2 } })):=((T1.trans T2).trans (T3.wide (by simp))).put (.inl (by simp)) hlt
      have hb3:=h3.bq
      unfold lrC at hb3 h4 T4
      simp only at h4 T4
      simp (maxSteps:=3000000) only [go_sem,↓reduceIte,hb3]
      exact ⟨_,_,Wk.refl _,T4.lt.weak,rfl,by rw [hX]; exact h4,T4⟩
    · rw [if_neg c] at hX
      simp (maxSteps:=3000000) only [go_sem,↓reduceIte,decide_eq_false c]
      exact ⟨_,_,Wk.refl _,T2.lt.weak,rfl,by rw [hX]; exact h2,T1.trans T2⟩
set_option maxRecDepth 100000 in
theorem rules_rejected (h:LcI q d k st r) (hG:GoodO l) (hl:l.length≤1000000):VCalls Tryz.prog 263 [ptrV q,.sl tk (opts l)] st fun x s =>
    x=.sc (.bool (rejectedL r.w l).2)∧LcI q d k s { r with w:=(rejectedL r.w l).1 }∧Tn [q,d] st s:=by
  refine vcalls_enterq pc263 (Nat.le_of_ble_eq_true rfl) rfl fun hwf hok=>?_
  show Run _ Pc263.body (.fin (finP Pc263.res _)) _ _
  unfold Pc263 zn zo
  have hlt:=hwf.lt
  have hb:=h.bq
  unfold lrC at hb
  simp (maxSteps:=3000000) only [go_sem,↓reduceIte,hb]
  refine Cal.mk (loptRejected_v (w0:=r.w) hG hl) ?_
  rintro _ _ ⟨rfl,rfl⟩ -
  have h1:=h.write (r':={ r with w:=(rejectedL r.w l).1 }) rfl rfl (rejectedL_good h.wg) h.gg h.g0 h.g1
  have T1:Tn [q,d] st (st.put q (lrC d { r with w:=(rejectedL r.w l).1 })):=(Tn.refl hlt).put (.inl (by simp)) hlt
  unfold lrC at h1 T1
  simp only at h1 T1
  simp (maxSteps:=3000000) only [go_sem,↓reduceIte,hb,Want.cells]
  exact ⟨_,_,Wk.refl _,T1.lt.weak,rfl,h1,T1⟩
theorem lcp_rules:RulC lcpU 164 (.pointer (some ⟨q,0,none⟩)) (LcI q d) [q,d] where
  one:=rfl
  req:=⟨264,by kernel_rfl,by kernel_rfl,fun k st r h=>rules_req h⟩
  reqG:=fun k st r h=>⟨optsW_good r.w,Nat.le_trans (optsW_len r.w) (by decide)⟩
  judge:=⟨261,by kernel_rfl,by kernel_rfl,fun k st r l tk h hk hG hl=>rules_judge h hk hG hl⟩
  judgeG:=fun k st r l h hG hl=>judgeL_good hG hl
  agreed:=⟨260,by kernel_rfl,by kernel_rfl,fun k st r l tk h hk hG hl=>rules_agreed h hG hl⟩
  naked:=⟨262,by kernel_rfl,by kernel_rfl,fun k st r l tk h hk hG hl=>rules_naked h hk hG hl⟩
  rejected:=⟨263,by kernel_rfl,by kernel_rfl,fun k st r l tk h hk hG hl=>rules_rejected h hG hl⟩
  stay:=fun k st s r h hs hz=>by
    obtain ⟨tk,hd⟩:=h.dr
    exact ⟨hs q _ h.bq (by simp),⟨tk,hs d _ hd (by simp)⟩,h.dg,h.wg,h.gg,h.g0,h.g1,h.ne,Nat.lt_of_lt_of_le h.lq hz,Nat.lt_of_lt_of_le h.ld hz⟩
  more:=fun k st r h=>h.more
  lt:=fun k st r h b hb=>by
    rcases List.mem_cons.1 hb with rfl | hb
    · exact h.lq
    · simp only [List.mem_singleton] at hb; subst hb; exact h.ld
end
end
section
open Go
theorem AppSt.transL {a b c:St} {x y z:V} (hw:a.Lt) (h:AppSt a x b y) (k:AppSt b y c z):AppSt a x c z :=
  ⟨k.box.trans h.box,fun hh=>k.lt (h.lt hh),Nat.le_trans h.sz k.sz,fun g m hg hne=>k.own g m (h.own g m hg hne) (fun l q e=>by
    rcases h.tok g q l e with ⟨l',h2⟩ | h2
    · exact hne l' q h2
    · exact absurd (hw.own g m hg) (by omega)),fun g q l e=>by
    rcases k.tok g q l e with ⟨l',h2⟩ | h2
    · rcases h.tok g q l' h2 with h3 | h3
      · exact .inl h3
      · exact .inr h3
    · exact .inr (Nat.le_trans h.sz h2)⟩
structure LcpI (a n q d k:Nat) (st:St) (N:Neg Lr):Prop where
  ba:st.box a=some [ptrV n,ptrV q]
  ng:NegI (.sc (.iface 164 (.pointer (some ⟨q,0,none⟩)))) 11 (LcI q d) [q,d] n k st N
  na:a ∉ n :: [q,d]
  la:a < st.sz
section
variable {a n q d k m:Nat} {st s s2:St} {N:Neg Lr}
theorem LcpI.of (h:LcpI a n q d k st N) {N':Neg Lr} {k':Nat} (hn:NegI (.sc (.iface 164 (.pointer (some ⟨q,0,none⟩)))) 11 (LcI q d) [q,d] n k' s N') (T:Tn (n :: [q,d]) st s):LcpI a n q d k' s N' :=
  ⟨T.box a _ h.ba h.na,hn,h.na,Nat.lt_of_lt_of_le h.la T.sz⟩
theorem LcpI.tn (h:LcpI a n q d k st N) (T:Tn [] st s):LcpI a n q d k s N:=h.of (h.ng.tn lcp_rules T) (T.wide (by simp))
def LOut (st:St) (a n q d k m:Nat) (X:Neg Lr × Nout) (r:V) (s:St):Prop :=
  ∃ tv,r=outV tv X.2∧RO 3 st.bare s (.sl tv (ctls X.2.P)) (ctls X.2.P)∧LcpI a n q d k s X.1∧Tn (n :: [q,d]) st s∧X.2.P.length≤m
theorem LOut.of (h:LcpI a n q d k st N) {k':Nat} {X:Neg Lr × Nout} {r:V} (o:NOut st (.sc (.iface 164 (.pointer (some ⟨q,0,none⟩)))) 11 (LcI q d) [q,d] n k' m X r s):LOut st a n q d k' m X r s:=by
  obtain ⟨tv,e,h1,h2,h3,h4⟩:=o
  exact ⟨tv,e,h1,h.of h2 h3,h3,h4⟩
theorem lcpStart_v (h:LcpI a n q d k st N) {now:Int} (hn:0≤now) (hn2:now≤1000000000):VCalls Tryz.prog 40 [ptrV a,.sc (.int .i64 now)] st (LOut st a n q d k 10 (N.start lcpU now)):=by
  refine vcalls_enterq pc40 (Nat.le_of_ble_eq_true rfl) rfl fun hwf hok=>?_
  show Run _ Pc40.body (.fin (finP Pc40.res _)) _ _
  unfold Pc40 zo
  have ba:=h.ba
  simp (maxSteps:=3000000) only [go_sem,↓reduceIte,ba]
  refine Cal.mk (negStart_v lcp_rules h.ng hn hn2) ?_
  intro r s o _
  have o:=LOut.of h o
  obtain ⟨tv,rfl,o1,o2,o3,o4⟩:=o
  simp (maxSteps:=3000000) only [go_sem,↓reduceIte,outV]
  exact ⟨_,_,Wk.refl _,o3.lt.weak,tv,rfl,o1,o2,o3,o4⟩
theorem lcpClose_v (h:LcpI a n q d k st N) {now:Int} (hn:0≤now) (hn2:now≤1000000000):VCalls Tryz.prog 68 [ptrV a,.sc (.int .i64 now)] st (LOut st a n q d k 5 (N.close lcpU now)):=by
  refine vcalls_enterq pc68 (Nat.le_of_ble_eq_true rfl) rfl fun hwf hok=>?_
  show Run _ Pc68.body (.fin (finP Pc68.res _)) _ _
  unfold Pc68 zo
  have ba:=h.ba
  simp (maxSteps:=3000000) only [go_sem,↓reduceIte,ba]
  refine Cal.mk (negClose_v lcp_rules h.ng hn hn2) ?_
  intro r s o _
  have o:=LOut.of h o
  obtain ⟨tv,rfl,o1,o2,o3,o4⟩:=o
  simp (maxSteps:=3000000) only [go_sem,↓reduceIte,outV]
  exact ⟨_,_,Wk.refl _,o3.lt.weak,tv,rfl,o1,o2,o3,o4⟩
theorem lcpState_v (h:LcpI a n q d k st N):VCalls Tryz.prog 87 [ptrV a] st fun r s=>r=.sc (.int .i64 N.s)∧st=s:=by
  refine vcalls_enterq pc87 (Nat.le_of_ble_eq_true rfl) rfl fun hwf hok=>?_
  show Run _ Pc87.body (.fin (finP Pc87.res _)) _ _
  unfold Pc87 zo
  have ba:=h.ba
  simp (maxSteps:=3000000) only [go_sem,↓reduceIte,ba]
  refine Cal.mk (Q:=fun r s=>r=.sc (.int .i64 N.s)∧st=s) ?_ ?_
  · clear hok hwf
    refine vcalls_enterq pc137 (Nat.le_of_ble_eq_true rfl) rfl fun hwf hok=>?_
    show Run _ Pc137.body (.fin (finP Pc137.res _)) _ _
    unfold Pc137 zo
    simp (maxSteps:=3000000) only [go_sem,↓reduceIte]
    refine Cal.mk (negState_v h.ng) ?_
    rintro _ _ ⟨rfl,rfl⟩ -
    simp (maxSteps:=3000000) only [go_sem,↓reduceIte]
    exact ⟨_,_,Wk.refl _,hwf.weak,rfl,rfl⟩
  · rintro _ _ ⟨rfl,rfl⟩ -
    simp (maxSteps:=3000000) only [go_sem,↓reduceIte]
    exact ⟨_,_,Wk.refl _,hwf.weak,rfl,rfl⟩
theorem autoOpen_v (h:LcpI a n q d k st N):VCalls Tryz.prog 149 [ptrV n] st fun r s=>r=.sc (.bool (decide (N.s=9)))∧st=s:=by
  refine vcalls_enterq pc149 (Nat.le_of_ble_eq_true rfl) rfl fun hwf hok=>?_
  show Run _ Pc149.body (.fin (finP Pc149.res _)) _ _
  unfold Pc149 zo
  obtain ⟨tk,hb⟩:=h.ng.box
  unfold negC at hb
  simp (maxSteps:=3000000) only [go_sem,↓reduceIte,hb]
  exact ⟨_,_,Wk.refl _,hwf.weak,rfl,rfl⟩
theorem lcpOpen_v (h:LcpI a n q d k st N):VCalls Tryz.prog 44 [ptrV a] st fun r s=>r=.sc (.bool (decide (N.s=9)))∧st=s:=by
  refine vcalls_enterq pc44 (Nat.le_of_ble_eq_true rfl) rfl fun hwf hok=>?_
  show Run _ Pc44.body (.fin (finP Pc44.res _)) _ _
  unfold Pc44 zo
  have ba:=h.ba
  simp (maxSteps:=3000000) only [go_sem,↓reduceIte,ba]
  refine Cal.mk (Q:=fun r s=>r=.sc (.bool (decide (N.s=9)))∧st=s) ?_ ?_
  · clear hok hwf
    refine vcalls_enterq pc100 (Nat.le_of_ble_eq_true rfl) rfl fun hwf hok=>?_
    show Run _ Pc100.body (.fin (finP Pc100.res _)) _ _
    unfold Pc100 zo
    simp (maxSteps:=3000000) only [go_sem,↓reduceIte]
    refine Cal.mk (autoOpen_v h) ?_
    rintro _ _ ⟨rfl,rfl⟩ -
    simp (maxSteps:=3000000) only [go_sem,↓reduceIte]
    exact ⟨_,_,Wk.refl _,hwf.weak,rfl,rfl⟩
  · rintro _ _ ⟨rfl,rfl⟩ -
    simp (maxSteps:=3000000) only [go_sem,↓reduceIte]
    exact ⟨_,_,Wk.refl _,hwf.weak,rfl,rfl⟩
theorem guardLoopR (h:LcpI a n q d k st N):VCalls Tryz.prog 146 [.sc (.pointer (some ⟨q,11,none⟩))] st fun r s=>r=.sc (.bool (decide (4≤N.r.guard)))∧s=st:=by
  have bq:=h.ng.si.bq
  unfold lrC at bq
  exact guardLoop_v bq
theorem LcpI.calm (h:LcpI a n q d k st N) (hlt:st.Lt):LcpI a n q d k (st.put q (lrC d { N.r with guard:=0 })) { N with r:={ N.r with guard:=0 } }∧Tn (n :: [q,d]) st (st.put q (lrC d { N.r with guard:=0 })):=by
  have T:Tn [q,d] st (st.put q (lrC d { N.r with guard:=0 })):=(Tn.refl hlt).put (.inl (by simp)) hlt
  have hw:=h.ng.si.write (r':={ N.r with guard:=0 }) (k':=k) rfl rfl h.ng.si.wg h.ng.si.gg (Int.le_refl 0) (by simp only; omega)
  have T':=T.wide (by':=n :: [q,d]) (fun b hb=>List.mem_cons_of_mem _ hb)
  exact ⟨h.of (h.ng.rules T hw (Nat.le_refl _)) T',T'⟩
theorem LcpI.app (h:LcpI a n q d k s N) {base:St} {x r:V} {l:List V} (R:RO 3 base.bare s x l) (K:AppSt s x s2 r) (hl:s2.Lt):LcpI a n q d k s2 N :=
  ⟨by rw [K.box]; exact h.ba,h.ng.ex (base:=base) lcp_rules ⟨fun b cs hb=>by rw [K.box]; exact hb,fun g m hg hl=>K.own g m hg (fun l k e=>by have:=R.tok g k l e; simp only [St.bare] at this; omega),K.sz,hl⟩,h.na,Nat.lt_of_lt_of_le h.la K.sz⟩
set_option maxRecDepth 100000 in
set_option maxHeartbeats 16000000 in
theorem lcpTake_v (h:LcpI a n q d k st N) (hk:k + 1≤1000000000) {now:Int} (hn:0≤now) (hn2:now≤1000000000) {p:Ctl} (hp:p.Good) {tp:Tk} :
    VCalls Tryz.prog 97 [ptrV a,.sc (.int .i64 now),p.v tp] st (LOut st a n q d (k + 1) 20 (lcpTake N now p)):=by
  show VCalls Tryz.prog 97 [ptrV a,.sc (.int .i64 now),.agg [.sc (.int .u8 p.code),.sc (.int .u8 p.id),.sl tp (bs p.data)]] st _
  refine vcalls_enterq pc97 (Nat.le_of_ble_eq_true rfl) rfl fun hwf hok=>?_
  show Run _ Pc97.body (.fin (finP Pc97.res _)) _ _
  unfold Pc97 zg zn zo
  have hlt:=hwf.lt
  have ba:=h.ba
  simp (maxSteps:=3000000) only [go_sem,↓reduceIte,ba]
  refine Cal.mk (negTake_v lcp_rules h.ng hk hn hn2 hp) ?_
  intro r s o _
  obtain ⟨tv,rfl,o1,o2,o3,o4⟩:=LOut.of h o
  obtain ⟨X,hX⟩:∃ X,X=lcpTake N now p:=⟨_,rfl⟩
  rw [← hX]
  unfold lcpTake at hX
  generalize N.take lcpU 11 now p=Y at o1 o2 o3 o4 hX
  obtain ⟨N1,P,up,down,over⟩:=Y
  simp only at o1 o2 o3 o4 hX
  have ba1:=o2.ba
  have bq1:=o2.ng.si.bq
  unfold lrC at bq1
  have hwg:=o2.ng.si.wg
  obtain ⟨E,hE⟩:∃ E:Bool,E=decide (p.code=9∧N1.s=9∧4≤p.data.length∧num4 p.data ≠ N1.r.w.magic):=⟨_,rfl⟩
  simp (maxSteps:=3000000) only [go_sem,↓reduceIte,outV]
  refine Grd.cut [20,21,22,23,24,25,26,27,28,29,30,31,32,33,34,35,36,37,38,39,40,41,42,43] (fun B=>B 43=.sc (.bool E)) rfl ?_ ?_
  · have ge:∀ L:List Int,decide ((4:Int)≤(L.length:Int))=decide (4≤L.length):=fun L=>by
      by_cases e:4≤L.length
      · rw [decide_eq_true e,decide_eq_true (by omega)]
      · rw [decide_eq_false e,decide_eq_false (by omega)]
    by_cases c9:p.code=9
    · simp (maxSteps:=3000000) only [go_sem,↓reduceIte,decide_eq_true c9]
      refine Cal.mk (lcpOpen_v o2) ?_
      rintro _ _ ⟨rfl,rfl⟩ -
      by_cases s9:N1.s=9
      · by_cases l4:4≤p.data.length
        · simp (maxSteps:=3000000) only [go_sem,↓reduceIte,decide_eq_true s9,bs_len,ge,decide_eq_true l4,ba1,bq1]
          refine Cal.mk (Get32_n hp.b) ?_
          rintro _ _ ⟨rfl,rfl⟩ -
          simp (maxSteps:=3000000) only [go_sem,↓reduceIte,ba1,bq1,at_cut]
          rw [hE]
          simp only [c9,s9,l4,true_and,decide_not,ne_eq]
        · simp (maxSteps:=3000000) only [go_sem,↓reduceIte,decide_eq_true s9,bs_len,ge,decide_eq_false l4,at_cut]
          rw [hE,decide_eq_false fun e=>l4 e.2.2.1]
      · simp (maxSteps:=3000000) only [go_sem,↓reduceIte,decide_eq_false s9,at_cut]
        rw [hE,decide_eq_false fun e=>s9 e.2.1]
    · simp (maxSteps:=3000000) only [go_sem,↓reduceIte,decide_eq_false c9,at_cut]
      rw [hE,decide_eq_false fun e=>c9 e.1]
  · intro B h43
    simp (maxSteps:=3000000) only [go_sem,↓reduceIte,h43]
    refine If.cut [7,8,45,46,47,48,49,50,51,52,54,55,56,58,60,62,63,64] (fun B s2=>∃ t2,B 7=.agg [.sl t2 (ctls (lcpEcho N1 p P)),.sc (.bool up),.sc (.bool down),.sc (.bool over)]∧RO 3 st.bare s2 (.sl t2 (ctls (lcpEcho N1 p P))) (ctls (lcpEcho N1 p P))∧LcpI a n q d (k + 1) s2 N1∧Tn (n :: [q,d]) st s2∧(lcpEcho N1 p P).length≤6) rfl ?_ ?_
    · cases E with
      | false =>
        have hc:=of_decide_eq_false hE.symm
        rw [lcpEcho,if_neg hc]
        simp (maxSteps:=3000000) only [go_sem,↓reduceIte,at_cutk_n]
        exact ⟨tv,rfl,o1,o2,o3,by omega⟩
      | true =>
        have hc:=of_decide_eq_true hE.symm
        rw [lcpEcho,if_pos hc]
        have l4:=hc.2.2.1
        simp (maxSteps:=3000000) only [go_sem,↓reduceIte,ba1,bq1,allSz_bs',bs_len,bs_drop]
        repeat (apply And.intro; focus (first | omega | (simp; done)))
        refine Cal.mk (Put32_v (L:=[]) own_nil (by simp) hwg.g0 hwg.g1) ?_
        rintro r2 s2 ⟨k1,k2⟩ -
        rw [List.nil_append] at k1
        obtain ⟨t2,rfl⟩:=own_sl k1
        simp (maxSteps:=3000000) only [go_sem,↓reduceIte]
        refine App.mk (bytes:=1) (ys:=bs (p.data.drop 4)) k1 (allSz_bs _) (by have:=hp.l; simp only [bs_len,beL_len,List.length_drop]; unfold maxLen; omega) (by have:=hp.l; simp only [bs_len,beL_len,List.length_drop]; omega) ?_
        intro r3 s3 k3 k4
        rw [bs_append] at k3
        obtain ⟨t3,rfl⟩:=own_sl k3
        have K:=AppSt.transL o1.lt k2 k4
        have R3:=o1.beside K noOwn
        have T3:Tn [] s s3:=(Tn.refl o1.lt).app K noOwn o1.lt
        simp (maxSteps:=3000000) only [go_sem,↓reduceIte]
        refine App.mk (bytes:=32) (l:=ctls P) (ys:=ctls [⟨10,p.id,beL N1.r.w.magic 4 ++ p.data.drop 4⟩]) R3.own (allSz_ctls _) (by simp only [ctls_len,List.length_cons,List.length_nil]; unfold maxLen; omega) (by simp only [ctls_len,List.length_cons,List.length_nil]; omega) ?_
        intro r4 s4 k5 k6
        have R4:=R3.app k5 k6
        rw [ctls_append] at R4
        obtain ⟨t4,rfl⟩:=R4.sl
        have E4:Tn (n :: [q,d]) st s4:=(o3.trans (T3.wide (by simp))).app k6 (fun g k l e=>R3.tok g k l e) hlt
        have I4:=(o2.tn T3).app R3 k6 R4.lt
        simp (maxSteps:=3000000) only [go_sem,↓reduceIte,at_cutk_n]
        exact ⟨t4,rfl,R4,I4,E4,by simp only [List.length_append,List.length_cons,List.length_nil]; omega⟩
    · rintro B2 s2 ⟨t2,h7,R2,I2,T2,hl2⟩
      have ba2:=I2.ba
      simp (maxSteps:=3000000) only [go_sem,↓reduceIte,ba2]
      refine Cal.mk (guardLoopR I2) ?_
      rintro _ _ ⟨rfl,rfl⟩ -
      by_cases c:4≤N1.r.guard
      · rw [if_pos c] at hX
        obtain ⟨I3,T3⟩:=I2.calm R2.lt
        have bq2:=I2.ng.si.bq
        unfold lrC at bq2 I3 T3
        simp only at I3 T3
        have R3:=R2.tn (T3.wide (by':=n :: [q,d]) (fun b hb=>hb)) (fun b hb=>rfl)
        simp (maxSteps:=3000000) only [go_sem,↓reduceIte,decide_eq_true c,ba2,bq2]
        refine Cal.mk (lcpClose_v I3 hn hn2) ?_
        rintro r4 s4 ⟨t4,rfl,R4,I4,T4,hl4⟩ -
        have R34:=R3.tn T4 (fun b hb=>rfl)
        generalize Neg.close lcpU _ now=Z at R4 I4 hl4 hX
        obtain ⟨N4,P4,u4,d4,v4⟩:=Z
        simp only at R4 I4 hl4 hX
        simp (maxSteps:=3000000) only [go_sem,↓reduceIte,outV,h7]
        refine App.mk (bytes:=32) (l:=ctls (lcpEcho N1 p P)) (ys:=ctls P4) R34.own (allSz_ctls _) (by simp only [ctls_len]; unfold maxLen; omega) (by simp only [ctls_len]; omega) ?_
        intro r5 s5 k5 k6
        have R5:=R34.app k5 k6
        rw [ctls_append] at R5
        obtain ⟨t5,rfl⟩:=R5.sl
        have I5:=I4.app R34 k6 R5.lt
        have T5:Tn (n :: [q,d]) st s5:=((T2.trans T3).trans T4).app k6 (fun g k l e=>R34.tok g k l e) hlt
        cases down <;> cases over
        all_goals
          simp (maxSteps:=3000000) only [go_sem,↓reduceIte,h7]
          exact ⟨_,_,Wk.refl _,T5.lt.weak,t5,by rw [hX]; rfl,by rw [hX]; exact R5,by rw [hX]; exact I5,T5,by rw [hX]; simp only [List.length_append]; omega⟩
      · rw [if_neg c] at hX
        simp (maxSteps:=3000000) only [go_sem,↓reduceIte,decide_eq_false c,h7]
        exact ⟨_,_,Wk.refl _,T2.lt.weak,t2,by rw [hX]; rfl,by rw [hX]; exact R2,by rw [hX]; exact I2,T2,by rw [hX]; simp only; omega⟩
structure DrO (base s:St) (d:Nat) (ds:List Int) (c:Int):Prop where
  ex:∃ tk,s.box d=some [.sl tk (w4s ds),.sc (.int .u32 c)]∧RO 1 base s (.sl tk (w4s ds)) (w4s ds)
  sd:base.sz≤d
theorem DrO.b {base:St} {ds:List Int} {c:Int} (h:DrO base s d ds c):DrB s d ds c:=by
  obtain ⟨tk,h1,_⟩:=h.ex; exact ⟨tk,h1⟩
set_option maxRecDepth 100000 in
theorem drAdd_v {base:St} {ds:List Int} {c x:Int} (hb:DrO base st d ds c) (hl:ds.length < 64):VCalls Tryz.prog 38 [ptrV d,.sc (.int .u32 x)] st fun r s =>
    r=.sc (.bool true)∧DrO base s d (ds ++ [x]) c:=by
  refine vcalls_enterq pc38 (Nat.le_of_ble_eq_true rfl) rfl fun hwf hok=>?_
  show Run _ Pc38.body (.fin (finP Pc38.res _)) _ _
  unfold Pc38 zn zo
  have hlt:=hwf.lt
  have sd:=hb.sd
  obtain ⟨tk,hb,R⟩:=hb.ex
  simp (maxSteps:=3000000) only [go_sem,↓reduceIte,hb,w4s_len,decide_eq_false (show ¬ (64:Int)≤(ds.length:Int) by omega)]
  refine App.mk (bytes:=4) (l:=w4s ds) (ys:=w4s [x]) R.own (allSz_w4s _) (by simp only [w4s_len,List.length_cons,List.length_nil]; unfold maxLen; omega) (by simp only [w4s_len,List.length_cons,List.length_nil]; omega) ?_
  intro r2 s2 k1 k2
  have R2:=R.app k1 k2
  rw [w4s_append] at R2
  obtain ⟨t2,rfl⟩:=R2.sl
  rw [← k2.box] at hb
  simp (maxSteps:=3000000) only [go_sem,↓reduceIte,hb]
  exact ⟨_,_,Wk.refl _,R2.lt.put.weak,rfl,⟨t2,put_box_same,R2.put sd⟩,sd⟩
set_option maxRecDepth 100000 in
theorem law37Draws_v {L:List Int} (hl:L.length≤64) {tk:Tk}:VCalls Tryz.prog 8 [.sl tk (w4s L)] st fun r s=>∃ d,r=ptrV d∧DrB s d L 0∧st.sz≤d∧st.weak s∧s.Lt:=by
  refine vcalls_enterq pc8 (Nat.le_of_ble_eq_true rfl) rfl fun hwf hok=>?_
  show Run _ Pc8.body (.fin (finP Pc8.res _)) _ _
  unfold Pc8 zg zo
  have hlt:=hwf.lt
  simp (maxSteps:=3000000) only [go_sem,↓reduceIte]
  intro d hd
  have D0:DrO st (st.put d [.sl .nil [],.sc (.int .u32 0)]) d [] 0:=⟨⟨.nil,put_box_same,RO.nil (weak_put hlt.weak hd) hlt.put⟩,hd⟩
  generalize st.put d _=s0 at D0 ⊢
  refine run_loop [4,9,10,12,13,14,16,20,21,22] (fun B s=>∃ i:Nat,i≤L.length∧B 4=.sc (.int .i64 i)∧DrO st s d (L.take i) 0) (fun B _=>L.length - vnat (B 4)) rfl ?_ ?_
  · exact ⟨0,by omega,rfl,D0⟩
  · rintro B s ⟨i,hi,h4,D⟩
    have hw:st.weak s:=by obtain ⟨tk,_,R⟩:=D.ex; exact R.weak
    have hL:s.Lt:=by obtain ⟨tk,_,R⟩:=D.ex; exact R.lt
    by_cases c:i < L.length
    · have hg:(w4s L)[i]?=some (.sc (.int .u32 L[i])):=by simp [w4s,c]
      have hs:L.take (i + 1)=L.take i ++ [L[i]]:=by rw [List.take_add_one,List.getElem?_eq_getElem c]; rfl
      simp (maxSteps:=3000000) only [go_sem,↓reduceIte,h4,w4s_len,decide_eq_true (show (i:Int) < (L.length:Int) by omega),decide_eq_true (show (i:Int) < 64 by omega),hg]
      repeat (apply And.intro; focus (first | omega | (simp; done)))
      refine Cal.mk (drAdd_v (x:=L[i]) D (by simp only [List.length_take]; omega)) ?_
      rintro _ s2 ⟨rfl,D2⟩ -
      rw [← hs] at D2
      simp (maxSteps:=3000000) only [go_sem,↓reduceIte,h4]
      repeat (apply And.intro; focus (first | omega | (simp; done)))
      exact ⟨⟨i + 1,by omega,by simp,D2⟩,by omega⟩
    · obtain rfl:i=L.length:=by omega
      rw [List.take_length] at D
      simp (maxSteps:=3000000) only [go_sem,↓reduceIte,h4,w4s_len]
      exact ⟨_,_,Wk.refl _,hL.weak,d,rfl,D.b,hd,hw,hL⟩
end
section
variable {d:Nat} {st:St} {ds:List Int}
theorem negNew_v {R:Type} (r0:R) {t:TypeId} {pv:Value} {c:Int}:VCalls Tryz.prog 89 [.sc (.iface t pv),.sc (.int .u8 c)] st fun r s=>∃ n,r=ptrV n∧st.sz≤n∧s=st.put n (negC (.sc (.iface t pv)) c (⟨0,0,0,0,[],0,r0⟩:Neg R) .nil):=by
  refine vcalls_enterq pc89 (Nat.le_of_ble_eq_true rfl) rfl fun hwf hok=>?_
  show Run _ Pc89.body (.fin (finP Pc89.res _)) _ _
  unfold Pc89 zo
  simp (maxSteps:=3000000) only [go_sem,↓reduceIte]
  intro n hn
  exact ⟨_,_,Wk.refl _,hwf.lt.put.weak,n,rfl,hn,rfl⟩
theorem NegI.new {R:Type} {U:Rul R} {t:TypeId} {pv:Value} {SI:Nat→St→R→Prop} {bx:List Nat} {codes:Int} {n k:Nat} {r:R} (hU:RulC U t pv SI bx) (h:SI k st r) (hl:st.Lt) (hn:st.sz≤n) :
    NegI (.sc (.iface t pv)) codes SI bx n k (st.put n (negC (.sc (.iface t pv)) codes (⟨0,0,0,0,[],0,r⟩:Neg R) .nil)) (⟨0,0,0,0,[],0,r⟩:Neg R) :=
  ⟨⟨.nil,put_box_same⟩,hU.stay k st _ r h (fun b cs hb _=>(tn_new hl hn).box b cs hb (by simp)) (tn_new (cs:=[]) hl hn).sz,fun hm=>by have:=hU.lt k st r h n hm; omega,Int.le_refl 0,(show (0:Int)≤10 by decide),Int.le_refl 0,(show (0:Int) < 256 by decide),Int.le_refl 0,Int.natCast_nonneg k,IsB.nil'⟩
set_option maxRecDepth 100000 in
theorem lcpNew_v (hb:DrB st d ds 0) (hG:DrG ds 0) (ld:d < st.sz):VCalls Tryz.prog 36 [ptrV d] st fun r s =>
    ∃ a n q,r=ptrV a∧LcpI a n q d 0 s (lcpNew ds)∧Tn [d] st s∧st.sz≤a∧st.sz≤n∧st.sz≤q:=by
  refine vcalls_enterq pc36 (Nat.le_of_ble_eq_true rfl) rfl fun hwf hok=>?_
  show Run _ Pc36.body (.fin (finP Pc36.res _)) _ _
  unfold Pc36 zo
  have hlt:=hwf.lt
  obtain ⟨r,hr⟩:∃ r:Lr,r=⟨.zero,.zero,ds,0,0⟩:=⟨_,rfl⟩
  have hN:lcpNew ds=⟨0,0,0,0,[],0,{ r.draw.1 with w:=⟨1400,true,r.draw.2,false,false⟩ }⟩:=by rw [hr]; rfl
  rw [hN]
  have hb':DrB st d r.ds r.k:=by rw [hr]; exact hb
  have hG':DrG r.ds r.k:=by rw [hr]; exact hG
  have hdg:=draw_good hG'
  obtain ⟨w1,w2,w3⟩:=draw_keep (r:=r)
  have w2':r.draw.1.g=Want.zero:=by rw [w2,hr]
  have w3':r.draw.1.guard=0:=by rw [w3,hr]
  clear hN hr
  simp (maxSteps:=3000000) only [go_sem,↓reduceIte]
  refine Cal.mk (drSome_v hb' hG') ?_
  rintro _ s1 ⟨rfl,d1,T1⟩ -
  generalize r.draw=z at d1 hdg w2' w3' ⊢
  obtain ⟨r1,x⟩:=z
  simp only at d1 hdg w2' w3' ⊢
  simp (maxSteps:=3000000) only [go_sem,↓reduceIte]
  intro q hq
  have T2:Tn [] s1 (s1.put q (lrC d { r1 with w:=⟨1400,true,x,false,false⟩ })):=tn_new T1.lt hq
  have hqd:q ≠ d:=by have:=T1.sz; omega
  have I1:LcI q d 0 (s1.put q (lrC d { r1 with w:=⟨1400,true,x,false,false⟩ })) { r1 with w:=⟨1400,true,x,false,false⟩ }:=by
    obtain ⟨tk,d1⟩:=d1
    refine ⟨put_box_same,⟨tk,T2.box d _ d1 (by simp)⟩,hdg.1,⟨by show (0:Int)≤1400; decide,by show (1400:Int) < 65536; decide,Int.le_of_lt hdg.2.1,hdg.2.2⟩,by rw [w2']; exact Want.zero_good,by rw [w3']; exact Int.le_refl 0,by rw [w3']; exact Int.le_refl 0,hqd,?_,?_⟩
    · simp only [put_sz]; omega
    · have:=T1.sz; simp only [put_sz]; omega
  unfold lrC at I1 T2
  rw [w2',w3'] at I1 T2
  simp only [Want.zero] at I1 T2
  generalize s1.put q _=s2 at I1 T2 ⊢
  obtain ⟨r2,hr2⟩:∃ r2:Lr,r2={ r1 with w:=⟨1400,true,x,false,false⟩ }:=⟨_,rfl⟩
  have I1:LcI q d 0 s2 r2:=by rw [hr2,w2',w3']; exact I1
  refine Cal.mk (negNew_v r2) ?_
  rintro _ _ ⟨n,rfl,hn,rfl⟩ -
  have sz1:=T1.sz
  have sz2:=T2.sz
  have T3:=tn_new (cs:=negC (.sc (.iface 164 (.pointer (some ⟨q,0,none⟩)))) 11 (⟨0,0,0,0,[],0,r2⟩:Neg Lr) .nil) T2.lt hn
  have I3:=NegI.new (codes:=11) lcp_rules I1 T2.lt hn
  rw [← hr2]
  generalize s2.put n _=s3 at I3 T3 ⊢
  simp (maxSteps:=3000000) only [go_sem,↓reduceIte]
  intro a ha
  have sz3:=T3.sz
  have hl3:=I3.lt lcp_rules T3.lt
  have T4:=tn_new (cs:=[ptrV n,ptrV q]) T3.lt ha
  have I4:=I3.tn lcp_rules T4
  have hna:a ∉ n :: [q,d]:=fun hm=>by have:=hl3 a hm; omega
  exact ⟨_,_,Wk.refl _,T4.lt.weak,a,n,q,rfl,⟨put_box_same,I4,hna,by simp only [put_sz]; omega⟩,T1.trans ((T2.trans (T3.trans T4)).wide (by simp)),by omega,by omega,by omega⟩
end
end
section
open Go
section
variable {R:Type} {U:Rul R} {N:Neg R}
end
section
variable {N:Neg Lr} {x:Int}
end
end
section
open Go
section
variable {tk tk':Tk} {L M:List Int} {st:St}
theorem pow256_le {k:Nat} (h:k≤7):(256:Int) ^ k≤72057594037927936:=by
  have h7:∀ k:Nat,k≤7→(256:Int) ^ k≤72057594037927936:=by decide
  exact h7 _ h
theorem rNum_v (hB:IsB L) (hl:L.length≤8):VCalls Tryz.prog 50 [.sl tk (bs L)] st fun r st'=>r=.sc (.int .u64 (numL L))∧st=st':=by
  refine vcalls_enter vc50 (Nat.le_of_ble_eq_true rfl) fun hwf hok=>?_
  show Run _ Vc50.body (.fin (finQ Vc50.res _)) _ _
  unfold Vc50 zo
  simp (config:={maxSteps:=3000000}) (disch:=((fail_if_success refine selfNe ?_); omega)) only [go_sem]
  refine run_loop [3,4,5,6,7,8,9,10,11,12,13,14,15,16,17,18] (fun B s=>st=s∧∃ i:Nat,i≤L.length∧B 4=.sc (.int .i64 i)∧B 3=.sc (.int .u64 (numL (L.take i)))) (fun B _=>L.length - vnat (B 4)) rfl ?_ ?_
  · simp (config:={maxSteps:=3000000}) (disch:=((fail_if_success refine selfNe ?_); omega)) only [go_sem,↓reduceIte]
    exact ⟨0,by omega,by simp,by simp [numL_nil]⟩
  · rintro B s ⟨rfl,i,hi,h4,h3⟩
    by_cases hlt:i < L.length
    · obtain ⟨c,hc⟩:=get_ex hlt
      have bc:=hB.get hc
      have hr:=numL_range _ (L.take i) rfl (hB.take i)
      have hpw:=pow256_le (k:=(L.take i).length) (by simp; omega)
      have hsn:numL (L.take (i + 1))=256 * numL (L.take i) + c:=by rw [List.take_add_one,hc]; exact numL_snoc _ _
      simp (config:={maxSteps:=3000000}) (disch:=((fail_if_success refine selfNe ?_); omega)) only [go_sem,↓reduceIte,h4,h3,bs_len,decide_eq_true (show (i:Int) < (L.length:Int) by omega),bs_get,hc,emod_small]
      repeat (apply And.intro; focus (first | omega | (simp; done)))
      exact ⟨⟨i + 1,by omega,by simp,by rw [hsn]⟩,by omega⟩
    · obtain rfl:i=L.length:=by omega
      have ht:L.take L.length=L:=List.take_of_length_le (Nat.le_refl _)
      rw [ht] at h3
      simp (config:={maxSteps:=3000000}) (disch:=((fail_if_success refine selfNe ?_); omega)) only [go_sem,↓reduceIte,h4,h3,bs_len]
      exact ⟨_,_,Wk.refl _,hwf.weak,rfl,rfl⟩
theorem Own.put {size:Nat} {st:St} {v:V} {l:List V} (h:Own size st v l) {b:Nat} {cs:List V}:Own size (st.put b cs) v l:=by
  rcases h with h | ⟨g,h1,h2,h3⟩
  · exact .inl h
  · exact .inr ⟨g,h1,h2,by simp only [put_sz]; omega⟩
theorem bs_zeros (k:Nat):(List.replicate k [V.sc (.int .u8 0)]).flatten=bs (List.replicate k 0):=by
  induction k with
  | zero=>rfl
  | succ k ih=>rw [List.replicate_succ,List.flatten_cons,ih,List.replicate_succ,bs_cons]; rfl
theorem splice_bs {m:Nat} {T:List Int} {x:Int}:splice (bs (List.replicate (m + 1) 0 ++ T)) m [.sc (.int .u8 x)]=bs (List.replicate m 0 ++ x :: T):=by
  unfold splice
  have e:List.replicate (m + 1) (0:Int) ++ T=List.replicate m 0 ++ (0 :: T):=by rw [List.replicate_succ',List.append_assoc]; rfl
  have hl:(bs (List.replicate m 0)).length=m:=by simp [bs_len]
  rw [e,← bs_append,← bs_append,List.take_append_of_le_length (by omega),List.take_of_length_le (by omega),List.drop_append,hl]
  rw [List.drop_of_length_le (by simp; omega),show m + [V.sc (.int .u8 x)].length - m=1 by simp]
  simp [bs_cons]
theorem bs_flat (L:List Int):(bs L).flatMap V.cells=bs L:=by
  induction L with
  | nil=>rfl
  | cons x L ih=>rw [bs_cons,List.flatMap_cons,ih]; rfl
theorem St.weak.trans {a b c:St} (h:a.weak b) (k:b.weak c):a.weak c :=
  ⟨fun x cs hx=>⟨(k.box x cs (h.box x cs hx).1).1,(h.box x cs hx).2⟩,fun g m hg=>⟨(k.own g m (h.own g m hg).1).1,(h.own g m hg).2⟩,Nat.le_trans h.sz k.sz⟩
structure New (st st':St) (r:V):Prop where
  weak:st.weak st'
  lt:st'.Lt
  tok:∀ g k l,r=.sl (.own g k) l→st.sz≤g
theorem AppSt.keeps {s s':St} {x r:V} (h:AppSt s x s' r) {t:St} (hw:t.weak s) (hx:∀ g k l,x=.sl (.own g k) l→t.sz≤g):t.weak s' :=
  ⟨fun b cs hb=>⟨by rw [h.box]; exact (hw.box b cs hb).1,(hw.box b cs hb).2⟩,fun g m hg=>⟨h.own g m (hw.own g m hg).1 (fun l k e=>by have:=hx g k l e; have:=(hw.own g m hg).2; omega),(hw.own g m hg).2⟩,Nat.le_trans hw.sz h.sz⟩
theorem AppSt.fresh {s s':St} {x r:V} (h:AppSt s x s' r) {t:St} (hs:t.sz≤s.sz) (hx:∀ g k l,x=.sl (.own g k) l→t.sz≤g):∀ g k l,r=.sl (.own g k) l→t.sz≤g:=fun g k l e=>by
  rcases h.tok g k l e with ⟨l',e'⟩ | h2
  · exact hx g k l' e'
  · omega
theorem rPut_v {n size:Int} (hB:IsB L) (hl:L.length≤1000000000000) (h0:0≤n) (h1:n≤18446744073709551615):VCalls Tryz.prog 77 [.sl tk (bs L),.sc (.int .u64 n),.sc (.int .i64 size)] st fun r st' =>
    Own 1 st' r (bs (if size < 1 ∨ 8 < size then L else L ++ beL n size.toNat))∧New st st' r:=by
  refine vcalls_enter vc77 (Nat.le_of_ble_eq_true rfl) fun hwf hok=>?_
  show Run _ Vc77.body (.fin (finQ Vc77.res _)) _ _
  unfold Vc77 zg zn zo
  simp (config:={maxSteps:=3000000}) (disch:=((fail_if_success refine selfNe ?_); omega)) only [go_sem]
  refine Bo.own (by simp [allLen]) ?_
  intro g hg
  simp (config:={maxSteps:=3000000}) (disch:=((fail_if_success refine selfNe ?_); omega)) only [go_sem,↓reduceIte]
  refine App.mk (l:=[]) (.inr ⟨g,rfl,by simp [St.use],by simp only [St.use]; omega⟩) (allSz_bs _) (by simp [bs_len,maxLen]; omega) (by simp [bs_len]; omega) ?_
  intro r1 s1 k1 k2
  rw [List.nil_append] at k1
  have hx0:∀ g' k l,V.sl (.own g 1) []=.sl (.own g' k) l→st.sz≤g':=fun g' k l e=>by cases e; exact hg
  have w1:st.weak s1:=k2.keeps (weak_use hwf.weak hg) hx0
  have l1:s1.Lt:=hwf.lt.use.app k2
  have f1:=k2.fresh (t:=st) (by simp only [use_sz]; omega) hx0
  by_cases c1:size < 1
  · simp (config:={maxSteps:=3000000}) (disch:=((fail_if_success refine selfNe ?_); omega)) only [go_sem,↓reduceIte,c1]
    exact ⟨_,_,Wk.refl _,l1.weak,k1,w1,l1,f1⟩
  by_cases c2:8 < size
  · simp (config:={maxSteps:=3000000}) (disch:=((fail_if_success refine selfNe ?_); omega)) only [go_sem,↓reduceIte,c1,c2]
    exact ⟨_,_,Wk.refl _,l1.weak,k1,w1,l1,f1⟩
  rw [if_neg (by omega)]
  simp (config:={maxSteps:=3000000}) (disch:=((fail_if_success refine selfNe ?_); omega)) only [go_sem,↓reduceIte,decide_eq_false c1,decide_eq_false c2]
  repeat (apply And.intro; focus (first | omega | (simp; done)))
  intro b hb
  rw [bs_zeros]
  obtain ⟨sz,hsz⟩:∃ k:Nat,size=k:=⟨size.toNat,by omega⟩
  subst hsz
  rw [Int.toNat_natCast]
  have hsz8:sz≤8:=by omega
  refine run_loop [1,9,22,23,24,25,26,27,28,29,30,31,32,33,34,35,36,37] (fun B s=>∃ i:Nat,i≤sz∧B 9=.sc (.int .i64 i)∧B 1=.sc (.int .u64 (n / 256 ^ i))∧s=s1.put b (bs (List.replicate (sz - i) 0 ++ beL n i))) (fun B _=>sz - vnat (B 9)) rfl ?_ ?_
  · simp (config:={maxSteps:=3000000}) (disch:=((fail_if_success refine selfNe ?_); omega)) only [go_sem,↓reduceIte]
    exact ⟨0,by omega,by simp,by simp,by simp [beL]⟩
  · rintro B s ⟨i,hi,h9,h1',rfl⟩
    have hdiv:0≤n / 256 ^ i:=Int.ediv_nonneg h0 (by have:=pow256_pos i; omega)
    by_cases hlt:i < sz
    · have hdd:n / 256 ^ i / 256=n / 256 ^ (i + 1):=by rw [Int.pow_succ,Int.ediv_ediv_of_nonneg (by have:=pow256_pos i; omega)]
      have hle:n / 256 ^ i≤n:=Int.ediv_le_self _ h0
      obtain ⟨m,hm⟩:∃ m,sz - i=m + 1:=⟨sz - i - 1,by omega⟩
      have hm2:((sz:Int) - 1 - i).toNat=m:=by omega
      rw [hm]
      simp (config:={maxSteps:=3000000}) (disch:=((fail_if_success refine selfNe ?_); omega)) only [go_sem,↓reduceIte,h9,h1',decide_eq_true (show (i:Int) < (sz:Int) by omega),hm2,bs_len,List.length_append,List.length_replicate,beL_len,emod_small]
      repeat (apply And.intro; focus (first | omega | (simp; done)))
      have hsp:=splice_bs (m:=m) (T:=beL n i) (x:=n / 256 ^ i % 256)
      simp only [splice,List.length_cons,List.length_nil,Nat.zero_add] at hsp
      exact ⟨⟨i + 1,by omega,by simp,by rw [hdd],by rw [hsp,show sz - (i + 1)=m by omega]; rfl⟩,by omega⟩
    · obtain rfl:i=sz:=by omega
      simp (config:={maxSteps:=3000000}) (disch:=((fail_if_success refine selfNe ?_); omega)) only [go_sem,↓reduceIte,h9,Nat.sub_self,List.replicate_zero]
      obtain ⟨tk1,rfl⟩:=k1.sl
      refine App.box (b:=b) (cs:=bs (beL n i)) (ys:=bs (beL n i)) k1.put put_box_same (by simp [bs_len,beL_len]) (by simp [bs_len,beL_len]) (by rw [bs_flat,List.drop_zero,Nat.mul_one]; exact List.take_of_length_le (by simp [bs_len,beL_len])) (of_eq_true mono_bs) (allSz_bs _) (by simp [bs_len,maxLen]; omega) (by simp [bs_len]; omega) ?_
      intro r2 s2 k3 k4
      simp (config:={maxSteps:=3000000}) (disch:=((fail_if_success refine selfNe ?_); omega)) only [go_sem,↓reduceIte]
      have hx1:∀ g' k l,V.sl tk1 (bs L)=.sl (.own g' k) l→st.sz≤g':=f1
      exact ⟨_,_,Wk.refl _,(l1.put.app k4).weak,by rw [← bs_append]; exact k3,k4.keeps (weak_put w1 (by have:=w1.sz; omega)) hx1,l1.put.app k4,k4.fresh (by have:=w1.sz; simp only [put_sz]; omega) hx1⟩
end
end
section
open Go
section
variable {st:St} {tk tk2:Tk} {L:List Int} {p q:Ctl}
set_option maxRecDepth 100000 in
theorem r15First_v {m:Int} (hl:L.length≤1000000000):VCalls Tryz.prog 51 [.sl tk (bs L),.sc (.int .i64 m)] st fun r s=>r=.sl .no (bs (L.take m.toNat))∧st=s:=by
  refine vcalls_enterq pc51 (Nat.le_of_ble_eq_true rfl) rfl fun hwf hok=>?_
  show Run _ Pc51.body (.fin (finP Pc51.res _)) _ _
  unfold Pc51 zg zo
  simp (maxSteps:=3000000) only [go_sem]
  refine run_loop [5,6,9,10,12,13,14,15,17,21,22,23,24] (fun B s=>∃ (i:Nat) (t:Tk),i≤L.length∧(i:Int)≤max m 0∧B 6=.sc (.int .i64 i)∧B 5=.sl t (bs (L.take i))∧RO 1 st s (.sl t (bs (L.take i))) (bs (L.take i))) (fun B _=>L.length - vnat (B 6)) rfl ?_ ?_
  · exact ⟨0,.nil,by omega,by omega,rfl,rfl,RO.nil hwf.weak hwf.lt⟩
  · rintro B s ⟨i,t,hi,hm,h6,h5,R⟩
    have fin:∀ {v:V},L.take i=L.take m.toNat→∃ r st',Wk (.sl t (bs (L.take i))) r∧st'.weak s∧r=.sl .no (bs (L.take m.toNat))∧st=st':=fun e=>⟨_,_,Wk.no,R.weak,by rw [e],rfl⟩
    by_cases c1:i < L.length
    · by_cases c2:(i:Int) < m
      · obtain ⟨c,hc⟩:=get_ex c1
        have hs:L.take (i + 1)=L.take i ++ [c]:=take_snoc hc
        simp (maxSteps:=3000000) only [go_sem,↓reduceIte,h6,h5,bs_len,decide_eq_true (show (i:Int) < (L.length:Int) by omega),decide_eq_true c2,bs_get,hc]
        repeat (apply And.intro; focus (first | omega | (simp; done)))
        refine App.mk (bytes:=1) (ys:=bs [c]) R.own (allSz_bs _) (by simp only [bs_len,List.length_cons,List.length_nil,List.length_take]; unfold maxLen; omega) (by simp only [bs_len,List.length_cons,List.length_nil,List.length_take]; omega) ?_
        intro r2 s2 k1 k2
        have R2:=R.app k1 k2
        rw [bs_append,← hs] at R2
        obtain ⟨t2,rfl⟩:=R2.sl
        simp (maxSteps:=3000000) only [go_sem,↓reduceIte,h6]
        repeat (apply And.intro; focus (first | omega | (simp; done)))
        exact ⟨⟨i + 1,t2,by omega,by omega,by simp,rfl,R2⟩,by omega⟩
      · simp (maxSteps:=3000000) only [go_sem,↓reduceIte,h6,h5,bs_len,decide_eq_true (show (i:Int) < (L.length:Int) by omega),decide_eq_false c2]
        exact fin (v:=.any) (by rw [show i=m.toNat by omega])
    · simp (maxSteps:=3000000) only [go_sem,↓reduceIte,h6,h5,bs_len,decide_eq_false (show ¬ (i:Int) < (L.length:Int) by omega)]
      exact fin (v:=.any) (by rw [List.take_of_length_le (by omega),List.take_of_length_le (by omega)])
end
end
section
open Go
theorem DrG.nil:DrG [] 0:=⟨(fun x h=>by cases h),by simp,by decide,by decide⟩
section
variable {st:St}
set_option maxRecDepth 100000 in
end
end
section
open Go
section
variable {st s s2:St} {b:Nat} {a' l t:Int} {rest:List V}
end
section
variable {R:Type} {U:Rul R} {t:TypeId} {pv:Value} {SI:Nat→St→R→Prop} {bx:List Nat} {codes:Int} {n k m:Nat} {st s s2 base:St} {N N':Neg R}
end
section
variable {a n q d k m:Nat} {st s s2:St} {N:Neg Lr}
theorem lcpTheirs_v (h:LcpI a n q d k st N):VCalls Tryz.prog 80 [ptrV a] st fun r s=>r=.agg N.r.g.cells∧st=s:=by
  refine vcalls_enterq pc80 (Nat.le_of_ble_eq_true rfl) rfl fun hwf hok=>?_
  show Run _ Pc80.body (.fin (finP Pc80.res _)) _ _
  unfold Pc80 zo
  have ba:=h.ba
  have bq:=h.ng.si.bq
  unfold lrC at bq
  simp (maxSteps:=3000000) only [go_sem,↓reduceIte,ba,bq]
  exact ⟨_,_,Wk.refl _,hwf.weak,rfl,rfl⟩
end
end
section
open Go
def irC (r:Ir):List V:=[.sc (.int .u32 r.mine.a),.sc (.int .u32 r.mine.d1),.sc (.int .u32 r.mine.d2),.sc (.int .u32 r.give.a),.sc (.int .u32 r.give.d1),.sc (.int .u32 r.give.d2),.sc (.int .u32 r.got.a),.sc (.int .u32 r.got.d1),.sc (.int .u32 r.got.d2)]
structure IpR (q k:Nat) (st:St) (r:Ir):Prop where
  bq:st.box q=some (irC r)
  gm:r.mine.Good
  gg:r.give.Good
  lq:q < st.sz
section
variable {q k:Nat} {st s:St} {r r':Ir} {l:List Opt} {tk:Tk}
theorem IpR.write (h:IpR q k st r) (gm:r'.mine.Good) (gg:r'.give.Good):IpR q k (st.put q (irC r')) r':=⟨put_box_same,gm,gg,by have:=h.lq; simp only [put_sz]; omega⟩
theorem ip_req (h:IpR q k st r):VCalls Tryz.prog 278 [ptrV q] st fun x s=>x=.sl .no (opts (optsA r.mine))∧st=s:=by
  refine vcalls_enterq pc278 (Nat.le_of_ble_eq_true rfl) rfl fun hwf hok=>?_
  show Run _ Pc278.body (.fin (finP Pc278.res _)) _ _
  unfold Pc278 zo
  have hb:=h.bq
  unfold irC at hb
  simp (maxSteps:=3000000) only [go_sem,↓reduceIte,hb]
  refine Cal.mk (ioptOptions_v h.gm) ?_
  rintro _ _ ⟨rfl,rfl⟩ -
  simp (maxSteps:=3000000) only [go_sem,↓reduceIte]
  exact ⟨_,_,Wk.refl _,hwf.weak,rfl,rfl⟩
theorem ip_judge (h:IpR q k st r) (hG:GoodO l) (hl:l.length≤1000000):VCalls Tryz.prog 275 [ptrV q,.sl tk (opts l)] st fun x s =>
    (∃ t2,x=.tup [.sc (.int .u8 (judgeA l r.give).1),.sl t2 (opts (judgeA l r.give).2)])∧IpR q (k + 1) s r∧Tn [q] st s:=by
  refine vcalls_enterq pc275 (Nat.le_of_ble_eq_true rfl) rfl fun hwf hok=>?_
  show Run _ Pc275.body (.fin (finP Pc275.res _)) _ _
  unfold Pc275 zo
  have hb:=h.bq
  unfold irC at hb
  simp (maxSteps:=3000000) only [go_sem,↓reduceIte,hb]
  refine Cal.mk (ioptJudge_v h.gg hG hl) ?_
  rintro _ _ ⟨⟨t2,rfl⟩,rfl⟩ -
  simp (maxSteps:=3000000) only [go_sem,↓reduceIte]
  exact ⟨_,_,Wk.refl _,hwf.weak,⟨t2,rfl⟩,⟨h.bq,h.gm,h.gg,h.lq⟩,Tn.refl hwf.lt⟩
theorem ip_agreed (h:IpR q k st r) (hG:GoodO l) (hl:l.length≤1000000):VCalls Tryz.prog 274 [ptrV q,.sl tk (opts l)] st fun x s=>x=.tup []∧IpR q k s { r with got:=ofA l }∧Tn [q] st s:=by
  refine vcalls_enterq pc274 (Nat.le_of_ble_eq_true rfl) rfl fun hwf hok=>?_
  show Run _ Pc274.body (.fin (finP Pc274.res _)) _ _
  unfold Pc274 zn zo
  have hb:=h.bq
  unfold irC at hb
  have hw:=h.write (r':={ r with got:=ofA l }) h.gm h.gg
  simp (maxSteps:=3000000) only [go_sem]
  refine Cal.mk (ioptOf_v hG hl) ?_
  rintro _ _ ⟨rfl,rfl⟩ -
  simp (maxSteps:=3000000) only [go_sem,↓reduceIte,hb,AW.cells]
  have T:Tn [q] st (st.put q (irC { r with got:=ofA l })):=(Tn.refl hwf.lt).put (.inl (by simp)) hwf.lt
  exact ⟨_,_,Wk.refl _,T.lt.weak,rfl,hw,T⟩
theorem ip_naked (h:IpR q k st r):VCalls Tryz.prog 276 [ptrV q,.sl tk (opts l)] st fun x s=>x=.tup []∧IpR q (k + 1) s r∧Tn [q] st s:=by
  refine vcalls_enterq pc276 (Nat.le_of_ble_eq_true rfl) rfl fun hwf hok=>?_
  show Run _ Pc276.body (.fin (finP Pc276.res _)) _ _
  unfold Pc276
  simp (maxSteps:=3000000) only [go_sem]
  exact ⟨_,_,Wk.refl _,hwf.weak,rfl,⟨h.bq,h.gm,h.gg,h.lq⟩,Tn.refl hwf.lt⟩
theorem ip_rejected (h:IpR q k st r) (hG:GoodO l) (hl:l.length≤1000000):VCalls Tryz.prog 277 [ptrV q,.sl tk (opts l)] st fun x s =>
    x=.sc (.bool true)∧IpR q k s (ipU.rejected r l).1∧Tn [q] st s:=by
  refine vcalls_enterq pc277 (Nat.le_of_ble_eq_true rfl) rfl fun hwf hok=>?_
  show Run _ Pc277.body (.fin (finP Pc277.res _)) _ _
  unfold Pc277 zn zo
  have hb:=h.bq
  obtain ⟨X,hX⟩:∃ X,X=(ipU.rejected r l).1:=⟨_,rfl⟩
  rw [← hX]
  unfold ipU at hX
  simp only at hX
  have hw:=h.write (r':={ r with mine:={ r.mine with a:=0 } }) ⟨Int.le_refl 0,(by decide:(0:Int) < 4294967296),h.gm.b0,h.gm.b1,h.gm.c0,h.gm.c1⟩ h.gg
  have T:Tn [q] st (st.put q (irC { r with mine:={ r.mine with a:=0 } })):=(Tn.refl hwf.lt).put (.inl (by simp)) hwf.lt
  unfold irC at hb
  simp (maxSteps:=3000000) only [go_sem,↓reduceIte]
  refine Cal.mk (optFind_v hl hG) ?_
  rintro _ _ ⟨rfl,rfl⟩ -
  cases hf:(findO l 3).isSome with
  | false =>
    rw [hf] at hX
    simp only [Bool.false_eq_true,↓reduceIte] at hX
    simp (maxSteps:=3000000) only [go_sem,↓reduceIte]
    exact ⟨_,_,Wk.refl _,hwf.weak,rfl,by rw [hX]; exact h,Tn.refl hwf.lt⟩
  | true =>
    rw [hf] at hX
    simp only [↓reduceIte] at hX
    simp (maxSteps:=3000000) only [go_sem,↓reduceIte,hb]
    exact ⟨_,_,Wk.refl _,T.lt.weak,rfl,by rw [hX]; exact hw,T⟩
theorem ip_rules:RulC ipU 187 (.pointer (some ⟨q,0,none⟩)) (IpR q) [q] where
  one:=rfl
  req:=⟨278,by kernel_rfl,by kernel_rfl,fun k st r h=>ip_req h⟩
  reqG:=fun k st r h=>⟨optsA_good r.mine,Nat.le_trans (optsA_len r.mine) (by decide)⟩
  judge:=⟨275,by kernel_rfl,by kernel_rfl,fun k st r l tk h hk hG hl=>ip_judge h hG hl⟩
  judgeG:=fun k st r l h hG hl=>judgeA_good hG hl
  agreed:=⟨274,by kernel_rfl,by kernel_rfl,fun k st r l tk h hk hG hl=>ip_agreed h hG hl⟩
  naked:=⟨276,by kernel_rfl,by kernel_rfl,fun k st r l tk h hk hG hl=>ip_naked h⟩
  rejected:=⟨277,by kernel_rfl,by kernel_rfl,fun k st r l tk h hk hG hl=>ip_rejected h hG hl⟩
  stay:=fun k st s r h hs hz=>⟨hs q _ h.bq (by simp),h.gm,h.gg,Nat.lt_of_lt_of_le h.lq hz⟩
  more:=fun k st r h=>⟨h.bq,h.gm,h.gg,h.lq⟩
  lt:=fun k st r h b hb=>by simp only [List.mem_singleton] at hb; subst hb; exact h.lq
end
structure IpI (a n q k:Nat) (st:St) (N:Neg Ir):Prop where
  ba:st.box a=some [ptrV n,ptrV q]
  ng:NegI (.sc (.iface 187 (.pointer (some ⟨q,0,none⟩)))) 7 (IpR q) [q] n k st N
  na:a ∉ n :: [q]
  la:a < st.sz
section
variable {a n q k m:Nat} {st s s2:St} {N:Neg Ir}
theorem IpI.of (h:IpI a n q k st N) {N':Neg Ir} {k':Nat} (hn:NegI (.sc (.iface 187 (.pointer (some ⟨q,0,none⟩)))) 7 (IpR q) [q] n k' s N') (T:Tn (n :: [q]) st s):IpI a n q k' s N' :=
  ⟨T.box a _ h.ba h.na,hn,h.na,Nat.lt_of_lt_of_le h.la T.sz⟩
def IOut (st:St) (a n q k m:Nat) (X:Neg Ir × Nout) (r:V) (s:St):Prop :=
  ∃ tv,r=outV tv X.2∧IpI a n q k s X.1∧Tn (n :: [q]) st s∧X.2.P.length≤m
theorem IOut.of (h:IpI a n q k st N) {k':Nat} {X:Neg Ir × Nout} {r:V} (o:NOut st (.sc (.iface 187 (.pointer (some ⟨q,0,none⟩)))) 7 (IpR q) [q] n k' m X r s):IOut st a n q k' m X r s:=by
  obtain ⟨tv,e,h1,h2,h3,h4⟩:=o
  exact ⟨tv,e,h.of h2 h3,h3,h4⟩
theorem IpI.tnx (h:IpI a n q k st N) {cs:List Nat} (T:Tn cs st s) (hd:∀ b ∈ a :: n :: [q],b ∉ cs):IpI a n q k s N :=
  ⟨T.box a _ h.ba (hd a (by simp)),h.ng.tnx ip_rules T (fun b hb=>hd b (List.mem_cons_of_mem _ hb)),h.na,Nat.lt_of_lt_of_le h.la T.sz⟩
theorem IpI.more (h:IpI a n q k st N):IpI a n q (k + 1) st N:=⟨h.ba,h.ng.more ip_rules,h.na,h.la⟩
theorem ipStart_v (h:IpI a n q k st N) {now:Int} (hn:0≤now) (hn2:now≤1000000000):VCalls Tryz.prog 55 [ptrV a,.sc (.int .i64 now)] st (IOut st a n q k 10 (N.start ipU now)):=by
  refine vcalls_enterq pc55 (Nat.le_of_ble_eq_true rfl) rfl fun hwf hok=>?_
  show Run _ Pc55.body (.fin (finP Pc55.res _)) _ _
  unfold Pc55 zo
  have ba:=h.ba
  simp (maxSteps:=3000000) only [go_sem,↓reduceIte,ba]
  refine Cal.mk (negStart_v ip_rules h.ng hn hn2) ?_
  intro r s o _
  have o:=IOut.of h o
  obtain ⟨tv,rfl,o2,o3,o4⟩:=o
  simp (maxSteps:=3000000) only [go_sem,↓reduceIte,outV]
  exact ⟨_,_,Wk.refl _,o3.lt.weak,tv,rfl,o2,o3,o4⟩
theorem ipTake_v (h:IpI a n q k st N) (hk:k + 1≤1000000000) {now:Int} (hn:0≤now) (hn2:now≤1000000000) {p:Ctl} (hp:p.Good) {tp:Tk}:VCalls Tryz.prog 99 [ptrV a,.sc (.int .i64 now),.agg [.sc (.int .u8 p.code),.sc (.int .u8 p.id),.sl tp (bs p.data)]] st (IOut st a n q (k + 1) 5 (N.take ipU 7 now p)):=by
  refine vcalls_enterq pc99 (Nat.le_of_ble_eq_true rfl) rfl fun hwf hok=>?_
  show Run _ Pc99.body (.fin (finP Pc99.res _)) _ _
  unfold Pc99 zo
  have ba:=h.ba
  simp (maxSteps:=3000000) only [go_sem,↓reduceIte,ba]
  refine Cal.mk (negTake_v ip_rules h.ng hk hn hn2 hp) ?_
  intro r s o _
  have o:=IOut.of h o
  obtain ⟨tv,rfl,o2,o3,o4⟩:=o
  simp (maxSteps:=3000000) only [go_sem,↓reduceIte,outV]
  exact ⟨_,_,Wk.refl _,o3.lt.weak,tv,rfl,o2,o3,o4⟩
theorem autoOpenI_v (h:IpI a n q k st N):VCalls Tryz.prog 149 [ptrV n] st fun r s=>r=.sc (.bool (decide (N.s=9)))∧st=s:=by
  refine vcalls_enterq pc149 (Nat.le_of_ble_eq_true rfl) rfl fun hwf hok=>?_
  show Run _ Pc149.body (.fin (finP Pc149.res _)) _ _
  unfold Pc149 zo
  obtain ⟨tk,hb⟩:=h.ng.box
  unfold negC at hb
  simp (maxSteps:=3000000) only [go_sem,↓reduceIte,hb]
  exact ⟨_,_,Wk.refl _,hwf.weak,rfl,rfl⟩
theorem negOpenI_v (h:IpI a n q k st N):VCalls Tryz.prog 100 [ptrV n] st fun r s=>r=.sc (.bool (decide (N.s=9)))∧st=s:=by
  refine vcalls_enterq pc100 (Nat.le_of_ble_eq_true rfl) rfl fun hwf hok=>?_
  show Run _ Pc100.body (.fin (finP Pc100.res _)) _ _
  unfold Pc100 zo
  simp (maxSteps:=3000000) only [go_sem,↓reduceIte]
  refine Cal.mk (autoOpenI_v h) ?_
  rintro _ _ ⟨rfl,rfl⟩ -
  simp (maxSteps:=3000000) only [go_sem,↓reduceIte]
  exact ⟨_,_,Wk.refl _,hwf.weak,rfl,rfl⟩
theorem ipOpen_v (h:IpI a n q k st N):VCalls Tryz.prog 58 [ptrV a] st fun r s=>r=.sc (.bool (decide (N.s=9)))∧st=s:=by
  refine vcalls_enterq pc58 (Nat.le_of_ble_eq_true rfl) rfl fun hwf hok=>?_
  show Run _ Pc58.body (.fin (finP Pc58.res _)) _ _
  unfold Pc58 zo
  have ba:=h.ba
  simp (maxSteps:=3000000) only [go_sem,↓reduceIte,ba]
  refine Cal.mk (negOpenI_v h) ?_
  rintro _ _ ⟨rfl,rfl⟩ -
  simp (maxSteps:=3000000) only [go_sem,↓reduceIte]
  exact ⟨_,_,Wk.refl _,hwf.weak,rfl,rfl⟩
theorem ipNew_v {me:Int} {g:AW} (m0:0≤me) (m1:me < 4294967296) (hg:g.Good):VCalls Tryz.prog 53 [.sc (.int .u32 me),.agg g.cells] st fun r s =>
    ∃ a n q,r=ptrV a∧IpI a n q 0 s (ipNew me g)∧Tn [] st s∧st.sz≤a∧st.sz≤n∧st.sz≤q:=by
  refine vcalls_enterq pc53 (Nat.le_of_ble_eq_true rfl) rfl fun hwf hok=>?_
  show Run _ Pc53.body (.fin (finP Pc53.res _)) _ _
  unfold Pc53 zo
  have hlt:=hwf.lt
  simp (maxSteps:=3000000) only [go_sem,↓reduceIte,AW.cells]
  intro q hq
  obtain ⟨r2,hr2⟩:∃ r2:Ir,r2=⟨⟨me,0,0⟩,g,.zero⟩:=⟨_,rfl⟩
  have hN:ipNew me g=⟨0,0,0,0,[],0,r2⟩:=by rw [hr2]; rfl
  have I1:IpR q 0 (st.put q (irC r2)) r2:=⟨put_box_same,by rw [hr2]; exact ⟨m0,m1,Int.le_refl 0,(by decide:(0:Int) < 4294967296),Int.le_refl 0,(by decide:(0:Int) < 4294967296)⟩,by rw [hr2]; exact hg,by simp only [put_sz]; omega⟩
  have T1:=tn_new (cs:=irC r2) hlt hq
  have hs:st.put q (irC r2)=st.put q [.sc (.int .u32 me),.sc (.int .u32 0),.sc (.int .u32 0),.sc (.int .u32 g.a),.sc (.int .u32 g.d1),.sc (.int .u32 g.d2),.sc (.int .u32 0),.sc (.int .u32 0),.sc (.int .u32 0)]:=by rw [hr2]; rfl
  rw [hN]
  rw [hs] at I1 T1
  generalize st.put q _=s1 at I1 T1 ⊢
  refine Cal.mk (negNew_v r2) ?_
  rintro _ _ ⟨n,rfl,hn,rfl⟩ -
  have sz1:=T1.sz
  have lq:=I1.lq
  have T3:=tn_new (cs:=negC (.sc (.iface 187 (.pointer (some ⟨q,0,none⟩)))) 7 (⟨0,0,0,0,[],0,r2⟩:Neg Ir) .nil) T1.lt hn
  have I3:=NegI.new (codes:=7) ip_rules I1 T1.lt hn
  generalize s1.put n _=s3 at I3 T3 ⊢
  simp (maxSteps:=3000000) only [go_sem,↓reduceIte]
  intro a ha
  have sz3:=T3.sz
  have hl3:=I3.lt ip_rules T3.lt
  have T4:=tn_new (cs:=[ptrV n,ptrV q]) T3.lt ha
  have I4:=I3.tn ip_rules T4
  have hna:a ∉ n :: [q]:=fun hm=>by have:=hl3 a hm; omega
  exact ⟨_,_,Wk.refl _,T4.lt.weak,a,n,q,rfl,⟨put_box_same,I4,hna,by simp only [put_sz]; omega⟩,T1.trans (T3.trans T4),by omega,by omega,by omega⟩
end
end
end Go.Proofs.YtcoalhgmlbhhmaaGreat
