/- Steps of the proof, joined: VMd5Law, VIdsLaw, VRows, VCut, VWk, VMd5a, VMd5b, VOptLaw, VMd5c, VMd5d, VStr, VFsm, VFsm2, VSortLaw, VSortW, VAuto, VNegLaw, VBe, VOpt1, VNeg1, VMagic, VLcpLaw, VMagic2, VChap, VMp, VPool1, VSortO0, VSortO1, VRowB, VSec1, VAuth, VFrLaw. -/
import Derived.Test.YtcoalhgmlbhhmaaGreatZec
import Derived.Test.YtcoalhgmlbhhmaaGreatVc
import Derived.Test.YtcoalhgmlbhhmaaGreatPc
namespace Go.Proofs.YtcoalhgmlbhhmaaGreat
open Go
attribute [local go_sem] run_skip run_reg run_seq run_blk run_exit run_ret run_cond if_true if_false at_code_n at_code_x at_code_r at_blk_n at_blk_x at_blk_r at_rnd_n at_rnd_x at_rnd_r at_fin_n at_fin_r ops_nil ops_grd grd_und grd_tt grd_ff grd_tf grd_ft ops_mv ops_pick ops_bin ops_un ops_binb ops_eqs ops_isnil ops_pnil ops_b2s ops_s2b ops_b2sB ops_s2a ops_slcA ops_aidx vaidx vb2sB vs2a vslcA ops_sidx vs2b vsidx srcX ops_appx apx_mk ops_mks ops_mko mks_int mko_int vbinb veqs visnil vpnil vb2s ops_conv ops_fld ops_ix ops_ixa ops_load ops_nilck ops_ext ops_len ops_slen ops_mn ops_mx ops_bld ops_bsl ops_slc ops_sslc ops_box ops_alc ops_alcX ops_boxX ops_bslo ops_store ops_app ops_call ev_t ev_c put_get put_none opv_mk stb_some sto_ptr over_get rel_mk vnat Bx Stp vbld vbsl put_box_same put_box_ne put_sz put_own use_box use_sz put_put args0 List.getD_cons_zero List.getD_cons_succ List.getD_nil vpick vbin vbinI vbinS vun vconv norm vfld vnil vlen vslen vext vmm vix vixa vload takeV takeB mono_nil mono_two mono_sc mono_any mono_und mono_sl mono_agg mono_ep vmlk vmlen vmnil vent vmfn allSc vslc3 kOk fitsV ops_mlk ops_mlen ops_mnil ops_ent ops_mfn ops_slc3 ops_mkm ops_mup mup_map mub_some ops_mdel mdl_nil mdl_map mdb_some ops_rng rng_none rng_map rgb_some ops_nxt ops_ment met_map meb_some ops_est est_map esb_some ops_clr clr_nil clr_box clb_some ops_calv clv_func vslc vsslc fillV splice V.cells strip strip1 allLen ptrV obsOk shAmt IntKind.bits List.map_cons List.map_nil List.length_cons List.length_nil List.getElem?_cons_zero List.getElem?_cons_succ List.take_succ_cons List.take_zero List.drop_succ_cons List.drop_zero List.cons_append List.nil_append List.append_nil List.take_nil List.drop_nil Option.map_some Option.map_none and_true true_and Int.toNat_natCast Nat.min_def Nat.zero_add Nat.add_zero Nat.zero_mul Nat.mul_one Nat.one_mul vret rvAll rvVal resv_1 resv_2 decide_true decide_false Int.lt_irrefl Bool.not_true Bool.not_false ne_eq not_true_eq_false not_false_eq_true eq_self Bool.true_eq_false Bool.false_eq_true List.contains_cons List.contains_nil Bool.false_or Bool.true_or Bool.or_false Bool.or_true List.mem_cons List.not_mem_nil or_false or_true true_or false_or mono_bs ops_aidxn vaidxn ops_fv vfv ops_mki vmki ops_inv ops_cpy cpy_box cpb_some at_finp_n at_finp_r vretp rpAll rpVal vpv resp_0 resp_1 resp_2 Nat.reduceEqDiff Nat.reduceAdd Nat.reduceMul Nat.reduceSub Nat.reduceLT Nat.reduceLeDiff Int.reduceToNat Int.reduceLE Int.reduceLT Int.reducePow Int.reduceMul Int.reduceAdd Int.reduceSub Int.reduceNeg Int.reduceEq Int.reduceMod Int.reduceDiv Nat.reducePow Nat.reduceMod Nat.reduceDiv reduceCtorEq Nat.reduceBEq
section
open Go
structure S4 where
  a:Nat
  b:Nat
  c:Nat
  d:Nat
structure S4.Ok (s:S4):Prop where
  a:s.a < 4294967296
  b:s.b < 4294967296
  c:s.c < 4294967296
  d:s.d < 4294967296
def S4.v (s:S4):V:=.agg [.sc (.int .u32 (s.a:Nat)),.sc (.int .u32 (s.b:Nat)),.sc (.int .u32 (s.c:Nat)),.sc (.int .u32 (s.d:Nat))]
def firstM:S4:=⟨1732584193,4023233417,2562383102,271733878⟩
theorem firstM_ok:firstM.Ok:=⟨by decide,by decide,by decide,by decide⟩
def mixN (i b c d:Nat):Nat :=
  if i < 16 then (b &&& c) ||| ((4294967295 - b) &&& d) else if i < 32 then (d &&& b) ||| ((4294967295 - d) &&& c) else if i < 48 then (b ^^^ c) ^^^ d else c ^^^ (b ||| (4294967295 - d))
def atN (i:Nat):Nat:=if i < 16 then i else if i < 32 then (5 * i + 1) % 16 else if i < 48 then (3 * i + 5) % 16 else 7 * i % 16
def rollsM:List Nat:=[7,12,17,22,5,9,14,20,4,11,16,23,6,10,15,21]
def rollN (i:Nat):Nat:=rollsM.getD (4 * (i / 16) + i % 4) 0
def sinesM:List Nat:=[3614090360,3905402710,606105819,3250441966,4118548399,1200080426,2821735955,4249261313,1770035416,2336552879,4294925233,2304563134,1804603682,4254626195,2792965006,1236535329,4129170786,3225465664,643717713,3921069994,3593408605,38016083,3634488961,3889429448,568446438,3275163606,4107603335,1163531501,2850285829,4243563512,1735328473,2368359562,4294588738,2272392833,1839030562,4259657740,2763975236,1272893353,4139469664,3200236656,681279174,3936430074,3572445317,76029189,3654602809,3873151461,530742520,3299628645,4096336452,1126891415,2878612391,4237533241,1700485571,2399980690,4293915773,2240044497,1873313359,4264355552,2734768916,1309151649,4149444226,3174756917,718787259,3951481745]
def rolN (n k:Nat):Nat:=n * 2 ^ k % 4294967296 + n / 2 ^ (32 - k)
def sumM (w:Nat→Nat) (i:Nat) (s:S4):Nat:=(mixN i s.b s.c s.d + s.a + sinesM.getD i 0 + w (atN i)) % 4294967296
def stepM (w:Nat→Nat) (i:Nat) (s:S4):S4:=⟨s.d,(s.b + rolN (sumM w i s) (rollN i)) % 4294967296,s.b,s.c⟩
def rndM (w:Nat→Nat) (s:S4):Nat→S4
  | 0=>s
  | i + 1=>stepM w i (rndM w s i)
theorem stepM_ok {w:Nat→Nat} {i:Nat} {s:S4} (h:s.Ok):(stepM w i s).Ok:=⟨h.d,Nat.mod_lt _ (by decide),h.b,h.c⟩
theorem rndM_ok {w:Nat→Nat} {s:S4} (h:s.Ok):∀ i,(rndM w s i).Ok
  | 0=>h
  | i + 1=>stepM_ok (rndM_ok h i)
def wordM (L:List Int) (j:Nat):Nat:=(L.getD (4 * j) 0 + 256 * L.getD (4 * j + 1) 0 + 65536 * L.getD (4 * j + 2) 0 + 16777216 * L.getD (4 * j + 3) 0).toNat
def plusM (s r:S4):S4:=⟨(s.a + r.a) % 4294967296,(s.b + r.b) % 4294967296,(s.c + r.c) % 4294967296,(s.d + r.d) % 4294967296⟩
def blockM (s:S4) (L:List Int):S4:=plusM s (rndM (wordM L) s 64)
theorem blockM_ok {s:S4} {L:List Int}:(blockM s L).Ok:=⟨Nat.mod_lt _ (by decide),Nat.mod_lt _ (by decide),Nat.mod_lt _ (by decide),Nat.mod_lt _ (by decide)⟩
def foldM:Nat→List Int→S4
  | 0,_=>firstM
  | m + 1,L=>blockM (foldM m L) ((L.drop (64 * m)).take 64)
theorem foldM_ok {L:List Int}:∀ m,(foldM m L).Ok
  | 0=>firstM_ok
  | _ + 1=>blockM_ok
theorem foldM_app {L M:List Int}:∀ m,64 * m≤L.length→foldM m (L ++ M)=foldM m L
  | 0,_=>rfl
  | m + 1,h=>by
    have e:((L ++ M).drop (64 * m)).take 64=(L.drop (64 * m)).take 64:=by
      rw [List.drop_append_of_le_length (by omega),List.take_append_of_le_length (by rw [List.length_drop]; omega)]
    simp only [foldM]
    rw [foldM_app m (by omega),e]
def leL (n:Nat):Nat→List Int
  | 0=>[]
  | k + 1=>((n % 256:Nat):Int) :: leL (n / 256) k
theorem leL_len:∀ {k n:Nat},(leL n k).length=k
  | 0,_=>rfl
  | k + 1,n=>by simp [leL,leL_len]
def padM (L:List Int):List Int:=L ++ 128 :: (List.replicate ((119 - L.length % 64) % 64) 0 ++ leL (8 * L.length) 8)
theorem padM_len {L:List Int}:(padM L).length % 64=0:=by
  simp only [padM,List.length_append,List.length_cons,List.length_replicate,leL_len]; omega
def digM (s:S4):List Int:=leL s.a 4 ++ leL s.b 4 ++ leL s.c 4 ++ leL s.d 4
def md5M (L:List Int):List Int:=digM (foldM ((padM L).length / 64) (padM L))
theorem leL_isB:∀ {k n:Nat},IsB (leL n k)
  | 0,_=>by intro x hx; cases hx
  | k + 1,n=>by
    intro x hx
    rcases List.mem_cons.1 hx with rfl | hx
    · omega
    · exact leL_isB x hx
theorem md5M_len {L:List Int}:(md5M L).length=16:=by simp [md5M,digM,leL_len]
theorem md5M_isB {L:List Int}:IsB (md5M L):=by
  intro x hx
  simp only [md5M,digM,List.mem_append] at hx
  rcases hx with ((hx | hx) | hx) | hx <;> exact leL_isB x hx
def roll1 (n:Nat):Nat:=2 * n % 4294967296 + n / 2147483648
theorem rol_step {n k:Nat} (hn:n < 4294967296) (hk:k < 32):roll1 (rolN n k)=rolN n (k + 1)∧rolN n k < 4294967296:=by
  unfold roll1 rolN
  obtain ⟨p,hp⟩:∃ p,2 ^ k=p:=⟨_,rfl⟩
  obtain ⟨q,hq⟩:∃ q,2 ^ (32 - (k + 1))=q:=⟨_,rfl⟩
  have hpq:p * q=2147483648:=by rw [← hp,← hq,← Nat.pow_add,show k + (32 - (k + 1))=31 by omega]
  have h1:2 ^ (k + 1)=2 * p:=by rw [Nat.pow_succ,hp,Nat.mul_comm]
  have h2:2 ^ (32 - k)=2 * q:=by rw [show 32 - k=(32 - (k + 1)) + 1 by omega,Nat.pow_succ,hq,Nat.mul_comm]
  have hp0:0 < p:=by rw [← hp]; exact Nat.pow_pos (by decide)
  have hq0:0 < q:=by rw [← hq]; exact Nat.pow_pos (by decide)
  rw [hp,hq,h1,h2]
  -- n=(2 q) u + q e + r,e < 2,r < q,u < p
  obtain ⟨u,hu⟩:∃ u,n / (2 * q)=u:=⟨_,rfl⟩
  obtain ⟨v,hv⟩:∃ v,n % (2 * q)=v:=⟨_,rfl⟩
  have hnv:n=2 * q * u + v:=by rw [← hu,← hv]; exact (Nat.div_add_mod n (2 * q)).symm
  have hvl:v < 2 * q:=by rw [← hv]; exact Nat.mod_lt _ (by omega)
  have hup:u < p:=by
    rw [← hu]
    refine (Nat.div_lt_iff_lt_mul (by omega)).2 ?_
    have:p * (2 * q)=4294967296:=by rw [Nat.mul_comm 2 q,← Nat.mul_assoc,hpq]
    omega
  have h3:n * p=4294967296 * u + v * p:=by
    rw [hnv,Nat.add_mul]
    have:2 * q * u * p=4294967296 * u:=by
      have e:2 * q * u * p=2 * (p * q) * u:=by ac_rfl
      rw [e,hpq]
    omega
  have hvp:v * p < 4294967296:=by
    have:v * p < 2 * q * p:=Nat.mul_lt_mul_of_pos_right hvl hp0
    have e:2 * q * p=2 * (p * q):=by ac_rfl
    rw [e,hpq] at this; omega
  have h4:n * p % 4294967296=v * p:=by rw [h3]; omega
  rw [hu,h4]
  have h5:n * (2 * p) % 4294967296=2 * (v * p) % 4294967296:=by
    have:n * (2 * p)=2 * (n * p):=by ac_rfl
    rw [this,h3]; omega
  rw [h5]
  have hv2:v=q * (v / q) + v % q:=(Nat.div_add_mod v q).symm
  obtain ⟨e,he⟩:∃ e,v / q=e:=⟨_,rfl⟩
  obtain ⟨r,hr⟩:∃ r,v % q=r:=⟨_,rfl⟩
  rw [he,hr] at hv2
  have hrl:r < q:=by rw [← hr]; exact Nat.mod_lt _ hq0
  have hel:e < 2:=by
    rw [← he]
    exact (Nat.div_lt_iff_lt_mul hq0).2 hvl
  have h6:n / q=2 * u + e:=by
    have:n=q * (2 * u + e) + r:=by
      rw [hnv,hv2,Nat.mul_add]
      have e1:2 * q * u=q * (2 * u):=by ac_rfl
      omega
    rw [this,Nat.mul_add_div hq0,Nat.div_eq_of_lt hrl,Nat.add_zero]
  have h7:v * p=2147483648 * e + r * p:=by
    rw [hv2,Nat.add_mul]
    have:q * e * p=p * q * e:=by ac_rfl
    rw [this,hpq]
  have h8:r * p < 2147483648:=by
    have:r * p < q * p:=Nat.mul_lt_mul_of_pos_right hrl hp0
    rw [Nat.mul_comm q p,hpq] at this; omega
  -- u < p divides r * p: u + r * p < 2147483648
  have h9:r * p + u < 2147483648:=by
    have:(r + 1) * p≤q * p:=Nat.mul_le_mul_right _ hrl
    rw [Nat.add_mul,Nat.one_mul,Nat.mul_comm q p,hpq] at this
    omega
  rw [h6]
  refine ⟨?_,by omega⟩
  omega
theorem rolN_zero {n:Nat} (h:n < 4294967296):rolN n 0=n:=by
  unfold rolN
  rw [Nat.pow_zero,Nat.mul_one,Nat.mod_eq_of_lt h,Nat.div_eq_of_lt (by simpa using h)]; rfl
end
section
open Go
def updS {α:Type} (f:Nat→α) (i:Nat) (x:α):Nat→α:=fun j=>if j=i then x else f j
theorem updS_same {α:Type} {f:Nat→α} {i:Nat} {x:α}:updS f i x i=x:=if_pos rfl
theorem updS_ne {α:Type} {f:Nat→α} {i j:Nat} {x:α} (h:j ≠ i):updS f i x j=f j:=if_neg h
section
variable {W:Nat→Nat} {S:Nat→Bool} {n:Nat}
end
section
variable {S:Nat→Bool} {n k:Nat}
end
section
variable {W:Nat→Nat} {S:Nat→Bool} {n a f:Nat}
end
end
section
open Go
theorem own_nil {size:Nat} {st:St}:Own size st (.sl .nil []) []:=.inl ⟨rfl,rfl⟩
theorem own_sl {size:Nat} {st:St} {v:V} {l:List V} (h:Own size st v l):∃ tk,v=.sl tk l:=by
  rcases h with ⟨rfl,rfl⟩ | ⟨g,rfl,_⟩
  · exact ⟨_,rfl⟩
  · exact ⟨_,rfl⟩
theorem own_put {size:Nat} {st:St} {v:V} {l:List V} (h:Own size st v l) {b:Nat} {cs:List V}:Own size (st.put b cs) v l:=by
  rcases h with h | ⟨g,h1,h2,h3⟩
  · exact .inl h
  · exact .inr ⟨g,h1,h2,by simp only [put_sz]; omega⟩
theorem weak_tr {a b c:St} (h:a.weak b) (k:b.weak c):a.weak c :=
  ⟨fun b cs hb=>⟨(k.box b cs (h.box b cs hb).1).1,(h.box b cs hb).2⟩,fun g m hg=>⟨(k.own g m (h.own g m hg).1).1,(h.own g m hg).2⟩,Nat.le_trans h.sz k.sz⟩
theorem app_keeps {s s':St} {x r:V} (h:AppSt s x s' r) {t:St} (hw:t.weak s) (hx:∀ g k l,x=.sl (.own g k) l→t.sz≤g):t.weak s' :=
  ⟨fun b cs hb=>⟨by rw [h.box]; exact (hw.box b cs hb).1,(hw.box b cs hb).2⟩,fun g m hg=>⟨h.own g m (hw.own g m hg).1 (fun l k e=>by have:=hx g k l e; have:=(hw.own g m hg).2; omega),(hw.own g m hg).2⟩,Nat.le_trans hw.sz h.sz⟩
theorem app_fresh {s s':St} {x r:V} (h:AppSt s x s' r) {t:St} (hs:t.sz≤s.sz) (hx:∀ g k l,x=.sl (.own g k) l→t.sz≤g):∀ g k l,r=.sl (.own g k) l→t.sz≤g:=fun g k l e=>by
  rcases h.tok g k l e with ⟨l',h1⟩ | h1
  · exact hx g k l' h1
  · omega
structure RO (size:Nat) (base s:St) (r:V) (l:List V):Prop where
  own:Own size s r l
  weak:base.weak s
  lt:s.Lt
  tok:∀ g k l',r=.sl (.own g k) l'→base.sz≤g
variable {size:Nat} {base s s':St} {r x:V} {l l':List V}
theorem RO.nil (hw:base.weak s) (hl:s.Lt):RO size base s (.sl .nil []) []:=⟨own_nil,hw,hl,fun g k l e=>by cases e⟩
theorem RO.put (h:RO size base s r l) {c:Nat} {cs:List V} (hc:base.sz≤c):RO size base (s.put c cs) r l :=
  ⟨own_put h.own,weak_put h.weak hc,h.lt.put,h.tok⟩
theorem RO.app (h:RO size base s x l) (ho:Own size s' r l') (k:AppSt s x s' r):RO size base s' r l' :=
  ⟨ho,app_keeps k h.weak h.tok,h.lt.app k,app_fresh k h.weak.sz h.tok⟩
theorem RO.use (hw:base.weak s) (hl:s.Lt) {g:Nat} (hg:s.sz≤g) (cs:List V):RO size base (s.use g cs.length) (.sl (.own g size) cs) cs :=
  ⟨.inr ⟨g,rfl,by simp [St.use],by simp only [use_sz]; omega⟩,weak_use hw (by have:=hw.sz; omega),hl.use,fun g' k l e=>by cases e; have:=hw.sz; omega⟩
theorem RO.sl (h:RO size base s r l):∃ tk,r=.sl tk l:=own_sl h.own
theorem RO.use0' {size:Nat} {st s:St} (hw:st.weak s) (hl:s.Lt) {g:Nat} (hg:s.sz≤g):RO size st (s.use g 0) (.sl (.own g size) []) []:=RO.use (cs:=[]) hw hl hg
theorem Wk.tupT {a a':V} {x:Value} (h:Wk a a'):Wk (.tup [a,.sc x]) (.tup [a',.sc x]):=fun G v hv=>by
  cases hv with
  | tup _ vs hl hg =>
    refine .tup _ vs hl fun i c u hc hu=>?_
    match i,hc with
    | 0,hc=>simp at hc; subst hc; exact h G u (hg 0 a u rfl hu)
    | 1,hc=>exact hg 1 c u hc hu
end
section
open Go
def cutQ (I:(Nat→V)→St→Prop):VQ
  | .normal,A,st=>I A st
  | _,_,_=>False
def cutK (I:(Nat→V)→St→Prop) (Q:VQ):VQ
  | .normal,A,st=>I A st
  | e,A,st=>Q e A st
section
variable {P:Program} {k:Kt} {A:Nat→V} {st:St}
theorem at_cutk_n {I:(Nat→V)→St→Prop} {Q:VQ}:At P (.fin (cutK I Q)) .normal A st=I A st:=_root_.id rfl
theorem at_cut {I:(Nat→V)→St→Prop}:At P (.fin (cutQ I)) .normal A st=I A st:=_root_.id rfl
theorem over_same {ws:List Nat} {B:Nat→V} (h:∀ t,t ∉ ws→B t=A t):over ws B A=B:=funext fun t=>by
  simp only [over]
  split
  · rfl
  · rename_i ht; exact (h t ht).symm
theorem Grd.cut {v:V} {w:Bool} {o:VO} {rest:List VO} {c:VC} (ws:List Nat) (I:(Nat→V)→Prop) (hw:(((o :: rest).flatMap VO.w).all fun t=>ws.contains t)=true)
    (h1:Grd P v w o rest (.fin (cutQ fun B s=>s=st∧I B)) A st) (h2:∀ B,I B→Run P c k (over ws B A) st):Grd P v w o rest (.code c k) A st:=by
  have hw':∀ t ∈ (o :: rest).flatMap VO.w,t ∈ ws:=fun t ht=>by
    have:=List.all_eq_true.1 hw t ht
    simpa using this
  have hk:∀ B s,(∀ t,t ∉ ws→B t=A t)→(s=st∧I B)→At P (.code c k) .normal B s:=fun B s hB hI=>by
    have:=h2 B hI.2
    rw [over_same hB] at this
    rw [hI.1]
    exact this
  have hwr:∀ t ∈ rest.flatMap VO.w,t ∈ ws:=fun t ht=>hw' t (by simp only [List.flatMap_cons,List.mem_append]; exact .inr ht)
  have hput:∀ r,∀ t,t ∉ ws→putV A o.dst r t=A t:=fun r t ht=>by
    cases hd:o.dst with
    | none=>rfl
    | some d =>
      simp only [putV]
      rw [if_neg (fun e=>ht (hw' t (by subst e; simp [VO.w,hd])))]
  unfold Grd at h1 ⊢
  split at h1
  · exact ⟨fun e=>vops_writes ws A (fun B s hB hI=>hk B s hB hI) (o :: rest) hw' (fun t _=>rfl) (h1.1 e),fun e=>vops_writes ws A (fun B s hB hI=>hk B s hB hI) rest hwr (hput _) (h1.2 e)⟩
  · exact vops_writes ws A (fun B s hB hI=>hk B s hB hI) rest hwr (hput _) h1
  · exact h1
theorem Run.cut {c rest:VC} (ws:List Nat) (I:(Nat→V)→St→Prop) (hw:(c.writes.all fun t=>ws.contains t)=true)
    (h1:Run P c (.fin (cutK I (k.q P))) A st) (h2:∀ B s,I B s→Run P rest k (over ws B A) s):Run P c (.code rest k) A st:=by
  have hw':∀ t ∈ c.writes,t ∈ ws:=fun t ht=>by
    have:=List.all_eq_true.1 hw t ht
    simpa using this
  refine vwp_writes ws A c hw' (fun e B s hB hq=>?_) (fun t _=>rfl) h1
  cases e with
  | normal =>
    have:=h2 B s hq
    rw [over_same hB] at this
    exact this
  | exit id=>exact hq
  | ret=>exact hq
theorem If.cut {v:V} {a b rest:VC} (ws:List Nat) (I:(Nat→V)→St→Prop) (hw:((a.writes ++ b.writes).all fun t=>ws.contains t)=true)
    (h1:If P v a b (.fin (cutK I (k.q P))) A st) (h2:∀ B s,I B s→Run P rest k (over ws B A) s):If P v a b (.code rest k) A st:=by
  rw [List.all_append,Bool.and_eq_true] at hw
  unfold If at h1 ⊢
  split at h1
  · exact ⟨fun e=>Run.cut ws I hw.1 (h1.1 e) h2,fun e=>Run.cut ws I hw.2 (h1.2 e) h2⟩
  · exact h1
end
end
section
open Go
section
variable {P:Program} {k:Kt} {A:Nat→V} {st:St}
theorem Grd.decd {p:Prop} {_:Decidable p} {w:Bool} {o:VO} {rest:List VO} (h1:p→Grd P (.sc (.bool (decide p))) w o rest k A st) (h2:¬ p→Grd P (.sc (.bool (decide p))) w o rest k A st):Grd P (.sc (.bool (decide p))) w o rest k A st:=by
  by_cases h:p
  · exact h1 h
  · exact h2 h
theorem Grd.two {b:Bool} {w:Bool} {o:VO} {rest:List VO} (h1:b=true→Grd P (.sc (.bool b)) w o rest k A st) (h2:b=false→Grd P (.sc (.bool b)) w o rest k A st):Grd P (.sc (.bool b)) w o rest k A st:=by
  cases h:b
  · exact h2 h |> fun x=>by rw [h] at x; exact x
  · exact h1 h |> fun x=>by rw [h] at x; exact x
end
end
section
open Go
theorem w32 {x:Nat} (h:x < 4294967296):IntKind.u32.wrap ((x:Nat):Int)=x:=by
  simp only [IntKind.wrap,IntKind.signed,IntKind.bits,Bool.false_and,Bool.false_eq_true,↓reduceIte]; omega
theorem b32 {x:Nat} (h:x < 4294967296):(BitVec.ofInt 32 (x:Int)).toNat=x:=by rw [BitVec.toNat_ofInt]; omega
theorem i32_and {a b:Nat} (ha:a < 4294967296) (hb:b < 4294967296):ibit .and .u32 (a:Int) (b:Int)=((a &&& b:Nat):Int):=by
  have g:ibit .and .u32 (a:Int) (b:Int)=IntKind.u32.wrap ((BitVec.ofInt 32 (a:Int) &&& BitVec.ofInt 32 (b:Int)).toNat:Int):=rfl
  rw [g,BitVec.toNat_and,b32 ha,b32 hb,w32 (Nat.and_lt_two_pow (n:=32) _ hb)]
theorem i32_or {a b:Nat} (ha:a < 4294967296) (hb:b < 4294967296):ibit .or .u32 (a:Int) (b:Int)=((a ||| b:Nat):Int):=by
  have g:ibit .or .u32 (a:Int) (b:Int)=IntKind.u32.wrap ((BitVec.ofInt 32 (a:Int) ||| BitVec.ofInt 32 (b:Int)).toNat:Int):=rfl
  rw [g,BitVec.toNat_or,b32 ha,b32 hb,w32 (Nat.or_lt_two_pow (n:=32) ha hb)]
theorem i32_xor {a b:Nat} (ha:a < 4294967296) (hb:b < 4294967296):ibit .xor .u32 (a:Int) (b:Int)=((a ^^^ b:Nat):Int):=by
  have g:ibit .xor .u32 (a:Int) (b:Int)=IntKind.u32.wrap ((BitVec.ofInt 32 (a:Int) ^^^ BitVec.ofInt 32 (b:Int)).toNat:Int):=rfl
  rw [g,BitVec.toNat_xor,b32 ha,b32 hb,w32 (Nat.xor_lt_two_pow (n:=32) ha hb)]
theorem i32_not {a:Nat} (ha:a < 4294967296):ibit .xor .u32 4294967295 (a:Int)=((4294967295 - a:Nat):Int):=by
  have g:ibit .xor .u32 4294967295 (a:Int)=IntKind.u32.wrap ((BitVec.ofInt 32 4294967295 ^^^ BitVec.ofInt 32 (a:Int)).toNat:Int):=rfl
  have e:BitVec.ofInt 32 4294967295=BitVec.allOnes 32:=by decide
  rw [g,e,BitVec.allOnes_xor,BitVec.toNat_not,b32 ha,w32 (by omega)]
theorem u32top:(if IntKind.u32.signed=true then (-1:Int) else IntKind.u32.max)=4294967295:=rfl
theorem mixN_lt {i b c d:Nat} (hb:b < 4294967296) (hc:c < 4294967296) (hd:d < 4294967296):mixN i b c d < 4294967296:=by
  unfold mixN
  split
  · exact Nat.or_lt_two_pow (n:=32) (Nat.and_lt_two_pow _ hc) (Nat.and_lt_two_pow _ hd)
  split
  · exact Nat.or_lt_two_pow (n:=32) (Nat.and_lt_two_pow _ hb) (Nat.and_lt_two_pow _ hc)
  split
  · exact Nat.xor_lt_two_pow (n:=32) (Nat.xor_lt_two_pow hb hc) hd
  · exact Nat.xor_lt_two_pow (n:=32) hc (Nat.or_lt_two_pow hb (by omega))
theorem atN_lt {i:Nat} (h:i < 64):atN i < 16:=by
  unfold atN
  split
  · omega
  split
  · omega
  split <;> omega
section
variable {st:St} {i b c d n k:Nat} {L:List Int} {tk:Tk}
set_option maxRecDepth 100000 in
theorem md5Mix_v (hi:i < 64) (hb:b < 4294967296) (hc:c < 4294967296) (hd:d < 4294967296):VCalls Tryz.prog 239 [.sc (.int .i64 (i:Nat)),.sc (.int .u32 (b:Nat)),.sc (.int .u32 (c:Nat)),.sc (.int .u32 (d:Nat))] st fun r s=>r=.tup [.sc (.int .u32 (mixN i b c d:Nat)),.sc (.int .i64 (atN i:Nat))]∧st=s:=by
  refine vcalls_enterq pc239 (Nat.le_of_ble_eq_true rfl) rfl fun hwf hok=>?_
  show Run _ Pc239.body (.fin (finP Pc239.res _)) _ _
  unfold Pc239 zo
  have g0:(0:Int)≤(i:Int):=by omega
  have nb:4294967295 - b < 4294967296:=by omega
  have nd:4294967295 - d < 4294967296:=by omega
  have hq:(i:Int) / 16=0 ∨ (i:Int) / 16=1 ∨ (i:Int) / 16=2 ∨ (i:Int) / 16=3:=by omega
  rcases hq with hq | hq | hq | hq
  · have e1:mixN i b c d=(b &&& c) ||| ((4294967295 - b) &&& d):=if_pos (by omega)
    have e2:atN i=i:=if_pos (by omega)
    have a1:=i32_and hb hc
    have a2:=i32_not hb
    have a3:=i32_and nb hd
    have a4:=i32_or (Nat.and_lt_two_pow (n:=32) b hc) (Nat.and_lt_two_pow (n:=32) (4294967295 - b) hd)
    rw [e1,e2]
    repeat' first | simp (maxSteps:=3000000) only [go_sem,↓reduceIte,hq,g0,u32top,a1,a2,a3,a4] | (refine If.dec (fun h=>?_) (fun h=>?_) <;> first | simp only [decide_eq_true h] | simp only [decide_eq_false h] | skip) | (refine Grd.decd (fun h=>?_) (fun h=>?_) <;> first | simp only [decide_eq_true h] | simp only [decide_eq_false h] | skip) | (refine If.mk (fun h=>?_) (fun h=>?_) <;> first | simp only [h] | skip) | (refine Grd.two (fun h=>?_) (fun h=>?_) <;> first | simp only [h] | skip) | (apply And.intro; focus (first | omega | (simp; done)))
    exact ⟨_,_,Wk.refl _,hwf.weak,rfl,rfl⟩
  · have e1:mixN i b c d=(d &&& b) ||| ((4294967295 - d) &&& c):=by unfold mixN; rw [if_neg (by omega),if_pos (by omega)]
    have e2:atN i=(5 * i + 1) % 16:=by unfold atN; rw [if_neg (by omega),if_pos (by omega)]
    have e3:(5 * (i:Int) + 1) % 16=(((5 * i + 1) % 16:Nat):Int):=by omega
    have a1:=i32_and hd hb
    have a2:=i32_not hd
    have a3:=i32_and nd hc
    have a4:=i32_or (Nat.and_lt_two_pow (n:=32) d hb) (Nat.and_lt_two_pow (n:=32) (4294967295 - d) hc)
    rw [e1,e2]
    repeat' first | simp (maxSteps:=3000000) only [go_sem,↓reduceIte,hq,g0,u32top,a1,a2,a3,a4,e3] | (refine If.dec (fun h=>?_) (fun h=>?_) <;> first | simp only [decide_eq_true h] | simp only [decide_eq_false h] | skip) | (refine Grd.decd (fun h=>?_) (fun h=>?_) <;> first | simp only [decide_eq_true h] | simp only [decide_eq_false h] | skip) | (refine If.mk (fun h=>?_) (fun h=>?_) <;> first | simp only [h] | skip) | (refine Grd.two (fun h=>?_) (fun h=>?_) <;> first | simp only [h] | skip) | (apply And.intro; focus (first | omega | (simp; done)))
    repeat (apply And.intro; focus (first | omega | (simp; done)))
    exact ⟨_,_,Wk.refl _,hwf.weak,rfl,rfl⟩
  · have e1:mixN i b c d=(b ^^^ c) ^^^ d:=by unfold mixN; rw [if_neg (by omega),if_neg (by omega),if_pos (by omega)]
    have e2:atN i=(3 * i + 5) % 16:=by unfold atN; rw [if_neg (by omega),if_neg (by omega),if_pos (by omega)]
    have e3:(3 * (i:Int) + 5) % 16=(((3 * i + 5) % 16:Nat):Int):=by omega
    have a1:=i32_xor hb hc
    have a3:=i32_xor (Nat.xor_lt_two_pow (n:=32) hb hc) hd
    rw [e1,e2]
    repeat' first | simp (maxSteps:=3000000) only [go_sem,↓reduceIte,hq,g0,a1,a3,e3] | (refine If.dec (fun h=>?_) (fun h=>?_) <;> first | simp only [decide_eq_true h] | simp only [decide_eq_false h] | skip) | (refine Grd.decd (fun h=>?_) (fun h=>?_) <;> first | simp only [decide_eq_true h] | simp only [decide_eq_false h] | skip) | (refine If.mk (fun h=>?_) (fun h=>?_) <;> first | simp only [h] | skip) | (refine Grd.two (fun h=>?_) (fun h=>?_) <;> first | simp only [h] | skip) | (apply And.intro; focus (first | omega | (simp; done)))
    repeat (apply And.intro; focus (first | omega | (simp; done)))
    exact ⟨_,_,Wk.refl _,hwf.weak,rfl,rfl⟩
  · have e1:mixN i b c d=c ^^^ (b ||| (4294967295 - d)):=by unfold mixN; rw [if_neg (by omega),if_neg (by omega),if_neg (by omega)]
    have e2:atN i=7 * i % 16:=by unfold atN; rw [if_neg (by omega),if_neg (by omega),if_neg (by omega)]
    have e3:7 * (i:Int) % 16=((7 * i % 16:Nat):Int):=by omega
    have a2:=i32_not hd
    have a1:=i32_or hb nd
    have a3:=i32_xor hc (Nat.or_lt_two_pow (n:=32) hb nd)
    rw [e1,e2]
    repeat' first | simp (maxSteps:=3000000) only [go_sem,↓reduceIte,hq,g0,u32top,a1,a2,a3,e3] | (refine If.dec (fun h=>?_) (fun h=>?_) <;> first | simp only [decide_eq_true h] | simp only [decide_eq_false h] | skip) | (refine Grd.decd (fun h=>?_) (fun h=>?_) <;> first | simp only [decide_eq_true h] | simp only [decide_eq_false h] | skip) | (refine If.mk (fun h=>?_) (fun h=>?_) <;> first | simp only [h] | skip) | (refine Grd.two (fun h=>?_) (fun h=>?_) <;> first | simp only [h] | skip) | (apply And.intro; focus (first | omega | (simp; done)))
    repeat (apply And.intro; focus (first | omega | (simp; done)))
    exact ⟨_,_,Wk.refl _,hwf.weak,rfl,rfl⟩
theorem rol_or {n k:Nat} (hn:n < 4294967296) (hk:k < 32):(n * 2 ^ k % 4294967296) ||| (n / 2 ^ (32 - k))=rolN n k:=by
  have e0:(4294967296:Nat)=2 ^ k * 2 ^ (32 - k):=by rw [← Nat.pow_add,show k + (32 - k)=32 by omega]
  have e1:n * 2 ^ k % 4294967296=2 ^ k * (n % 2 ^ (32 - k)):=by
    rw [e0,Nat.mul_comm n,Nat.mul_mod_mul_left]
  have h2:n / 2 ^ (32 - k) < 2 ^ k:=by
    refine (Nat.div_lt_iff_lt_mul (Nat.pow_pos (by decide))).2 ?_
    rw [← e0]; exact hn
  unfold rolN
  rw [e1,Nat.two_pow_add_eq_or_of_lt h2]
theorem rolN_lt (hn:n < 4294967296) (hk:k < 32):rolN n k < 4294967296:=(rol_step hn hk).2
theorem md5Rot_v (hn:n < 4294967296) (hk:k < 32) (h0:0 < k):VCalls Tryz.prog 240 [.sc (.int .u32 (n:Nat)),.sc (.int .i64 (k:Nat))] st fun r s=>r=.sc (.int .u32 (rolN n k:Nat))∧st=s:=by
  refine vcalls_enterq pc240 (Nat.le_of_ble_eq_true rfl) rfl fun hwf hok=>?_
  show Run _ Pc240.body (.fin (finP Pc240.res _)) _ _
  unfold Pc240 zo
  have a1:ibit .and .u64 (k:Int) 31=(k:Int):=by
    have g:ibit .and .u64 (k:Int) 31=IntKind.u64.wrap ((BitVec.ofInt 64 (k:Int) &&& BitVec.ofInt 64 31).toNat:Int):=rfl
    have e:(BitVec.ofInt 64 (k:Int)).toNat=k:=by rw [BitVec.toNat_ofInt]; omega
    have f:(BitVec.ofInt 64 (k:Int) &&& BitVec.ofInt 64 31).toNat=k:=by
      rw [BitVec.toNat_and,e]; exact (Nat.and_two_pow_sub_one_eq_mod k 5).trans (by omega)
    rw [g,f]
    simp only [IntKind.wrap,IntKind.signed,IntKind.bits,Bool.false_and,Bool.false_eq_true,↓reduceIte]; omega
  have a2:(k:Int) % 18446744073709551616=k:=by omega
  have a3:(if k≤32 then k else 32)=k:=if_pos (by omega)
  have a4:(32 - (k:Int)) % 18446744073709551616=((32 - k:Nat):Int):=by omega
  have a5:(if 32 - k≤32 then 32 - k else 32)=32 - k:=if_pos (by omega)
  have a6:(n:Int) * 2 ^ k % 4294967296=((n * 2 ^ k % 4294967296:Nat):Int):=by simp
  have a7:(n:Int) / 2 ^ (32 - k)=((n / 2 ^ (32 - k):Nat):Int):=by simp
  have h1:n * 2 ^ k % 4294967296 < 4294967296:=Nat.mod_lt _ (by decide)
  have h2:n / 2 ^ (32 - k) < 4294967296:=Nat.lt_of_le_of_lt (Nat.div_le_self _ _) hn
  have a8:=i32_or h1 h2
  rw [rol_or hn (by omega)] at a8
  have g0:(0:Int)≤(k:Int):=by omega
  have g1:(0:Int)≤((32 - k:Nat):Int):=by omega
  repeat' first | simp (maxSteps:=3000000) only [go_sem,↓reduceIte,a1,a2,a3,a4,a5,a6,a7,a8,g0,g1] | (refine If.dec (fun h=>?_) (fun h=>?_) <;> first | simp only [decide_eq_true h] | simp only [decide_eq_false h] | skip) | (refine Grd.decd (fun h=>?_) (fun h=>?_) <;> first | simp only [decide_eq_true h] | simp only [decide_eq_false h] | skip) | (refine If.mk (fun h=>?_) (fun h=>?_) <;> first | simp only [h] | skip) | (refine Grd.two (fun h=>?_) (fun h=>?_) <;> first | simp only [h] | skip) | (apply And.intro; focus (first | omega | (simp; done)))
  exact ⟨_,_,Wk.refl _,hwf.weak,rfl,rfl⟩
theorem rollN_rng:∀ i:Nat,i < 64→0 < rollN i∧rollN i < 32:=by decide
theorem md5Rolls_v (hi:i < 64):VCalls Tryz.prog 241 [.sc (.int .i64 (i:Nat))] st fun r s=>r=.sc (.int .i64 (rollN i:Nat))∧st=s:=by
  refine vcalls_enterq pc241 (Nat.le_of_ble_eq_true rfl) rfl fun hwf hok=>?_
  show Run _ Pc241.body (.fin (finP Pc241.res _)) _ _
  unfold Pc241 zn zo
  have g0:(0:Int)≤(i:Int):=by omega
  have hL:([.sc (.int .i64 7),.sc (.int .i64 12),.sc (.int .i64 17),.sc (.int .i64 22),.sc (.int .i64 5),.sc (.int .i64 9),.sc (.int .i64 14),.sc (.int .i64 20),.sc (.int .i64 4),.sc (.int .i64 11),.sc (.int .i64 16),.sc (.int .i64 23),.sc (.int .i64 6),.sc (.int .i64 10),.sc (.int .i64 15),.sc (.int .i64 21)]:List V)[((i:Int) / 16).toNat * 4 + ((i:Int) % 4).toNat]?=some (.sc (.int .i64 (rollN i:Nat))):=by
    rw [show ((i:Int) / 16).toNat * 4 + ((i:Int) % 4).toNat=4 * (i / 16) + i % 4 by omega]
    show (rollsM.map fun x:Nat=>V.sc (.int .i64 (x:Nat)))[4 * (i / 16) + i % 4]?=_
    have hl:4 * (i / 16) + i % 4 < rollsM.length:=by show 4 * (i / 16) + i % 4 < 16; omega
    rw [List.getElem?_map,List.getElem?_eq_getElem hl]
    unfold rollN
    simp only [List.getD,List.getElem?_eq_getElem hl,Option.getD_some,Option.map_some]
  simp (maxSteps:=3000000) only [go_sem,↓reduceIte]
  intro b hb
  refine ⟨by omega,by omega,by omega,by omega,?_⟩
  simp (maxSteps:=3000000) only [go_sem,↓reduceIte,hL]
  exact ⟨_,_,Wk.refl _,weak_put hwf.weak hb,rfl,rfl⟩
theorem md5First_v:VCalls Tryz.prog 235 [] st fun r s=>r=firstM.v∧st=s:=by
  refine vcalls_enterq pc235 (Nat.le_of_ble_eq_true rfl) rfl fun hwf hok=>?_
  show Run _ Pc235.body (.fin (finP Pc235.res _)) _ _
  unfold Pc235 zo
  simp (maxSteps:=3000000) only [go_sem,↓reduceIte]
  exact ⟨_,_,Wk.refl _,hwf.weak,rfl,rfl⟩
set_option maxRecDepth 100000 in
theorem md5Sines_v:VCalls Tryz.prog 238 [] st fun r s=>r=.agg (sinesM.map fun x:Nat=>.sc (.int .u32 (x:Nat)))∧st=s:=by
  refine vcalls_enterq pc238 (Nat.le_of_ble_eq_true rfl) rfl fun hwf hok=>?_
  show Run _ Pc238.body (.fin (finP Pc238.res _)) _ _
  unfold Pc238 zo
  simp (maxSteps:=3000000) only [go_sem,↓reduceIte]
  exact ⟨_,_,Wk.refl _,hwf.weak,rfl,rfl⟩
end
end
section
open Go
def wcs (f:Nat→Nat) (n:Nat):List V:=(List.range n).map fun j=>.sc (.int .u32 (f j:Nat))
section
variable {f:Nat→Nat} {i n x:Nat}
theorem wcs_len:(wcs f n).length=n:=by simp [wcs]
theorem wcs_at (h:i < n):(wcs f n)[i]?=some (.sc (.int .u32 (f i:Nat))):=by simp [wcs,h]
theorem wcs_set (h:i < n):List.take i (wcs f n) ++ [.sc (.int .u32 (x:Nat))] ++ List.drop (i + 1) (wcs f n)=wcs (updS f i x) n:=by
  have e:List.take i (wcs f n) ++ [V.sc (.int .u32 (x:Nat))] ++ List.drop (i + 1) (wcs f n)=(wcs f n).set i (.sc (.int .u32 (x:Nat))):=by
    rw [List.set_eq_take_append_cons_drop,if_pos (by rw [wcs_len]; exact h)]; simp
  rw [e]
  refine List.ext_getElem? fun j=>?_
  rw [List.getElem?_set,wcs_len]
  by_cases c:i=j
  · subst c; rw [if_pos rfl,if_pos h,wcs_at h,updS_same]
  · rw [if_neg c]
    by_cases c2:j < n
    · rw [wcs_at c2,wcs_at c2,updS_ne (fun e=>c e.symm)]
    · rw [List.getElem?_eq_none (by rw [wcs_len]; omega),List.getElem?_eq_none (by rw [wcs_len]; omega)]
theorem mono_wcs (h:2≤n):mono (wcs f n)=True:=by
  refine eq_true ?_
  have:=wcs_len (f:=f) (n:=n)
  generalize wcs f n=l at this
  match l,this with
  | [],h'=>simp only [List.length_nil] at h'; omega
  | [a],h'=>simp only [List.length_cons,List.length_nil] at h'; omega
  | a :: b :: l,_=>exact trivial
theorem wcs_congr {g:Nat→Nat} (h:∀ j,j < n→f j=g j):wcs f n=wcs g n:=List.map_congr_left fun j hj=>by rw [h j (List.mem_range.1 hj)]
end
theorem or_two {a b k:Nat} (ha:a < 2 ^ k) (hb:b * 2 ^ k < 4294967296) (hk:2 ^ k≤4294967296):ibit .or .u32 (a:Int) ((b * 2 ^ k:Nat):Int)=((a + b * 2 ^ k:Nat):Int):=by
  rw [i32_or (by omega) hb]
  have:=Nat.two_pow_add_eq_or_of_lt ha b
  rw [Nat.or_comm,Nat.mul_comm b,← this,Nat.add_comm]
section
variable {st:St} {i:Nat} {L:List Int} {tk:Tk}
theorem byte_nat (hB:IsB L) {j:Nat} (hj:j < L.length):∃ y:Nat,y < 256∧L[j]?=some (y:Int)∧L.getD j 0=(y:Int):=by
  have h:=List.getElem?_eq_getElem hj
  have hb:=hB _ (List.getElem_mem hj)
  refine ⟨(L[j]).toNat,by omega,?_,?_⟩
  · rw [h]; congr 1; omega
  · simp only [List.getD,h,Option.getD_some]; omega
set_option maxRecDepth 100000 in
set_option maxHeartbeats 1000000 in
theorem md5Words_v (hB:IsB L) (hl:L.length=64):VCalls Tryz.prog 237 [.sl tk (bs L)] st fun r s=>r=.agg (wcs (wordM L) 16)∧st=s:=by
  refine vcalls_enterq pc237 (Nat.le_of_ble_eq_true rfl) rfl fun hwf hok=>?_
  show Run _ Pc237.body (.fin (finP Pc237.res _)) _ _
  unfold Pc237 zn zo
  simp (maxSteps:=3000000) only [go_sem]
  intro b hb
  rw [show ([.sc (.int .u32 0),.sc (.int .u32 0),.sc (.int .u32 0),.sc (.int .u32 0),.sc (.int .u32 0),.sc (.int .u32 0),.sc (.int .u32 0),.sc (.int .u32 0),.sc (.int .u32 0),.sc (.int .u32 0),.sc (.int .u32 0),.sc (.int .u32 0),.sc (.int .u32 0),.sc (.int .u32 0),.sc (.int .u32 0),.sc (.int .u32 0)]:List V)=wcs (fun _=>0) 16 from rfl]
  refine run_loop [4,5,6,11,12,13,14,17,18,19,20,21,22,23,26,27,28,29,30,31,32,35,36,37,38,39,40,41,42,43] (fun B s=>∃ (i:Nat) (f:Nat→Nat),i≤16∧B 5=.sc (.int .i64 i)∧(∀ j,j < i→f j=wordM L j)∧s=st.put b (wcs f 16)) (fun B _=>16 - vnat (B 5)) rfl ?_ ?_
  · exact ⟨0,fun _=>0,by omega,by first | (simp (maxSteps:=3000000) only [go_sem,↓reduceIte]; done) | (simp (maxSteps:=3000000) only [go_sem,↓reduceIte]; rfl),fun j h=>by omega,rfl⟩
  · rintro B s ⟨i,f,hi,h5,hf,rfl⟩
    by_cases c:i < 16
    · have c1:decide ((i:Int) < 16)=true:=decide_eq_true (by omega)
      obtain ⟨y0,l0,g0,d0⟩:=byte_nat hB (j:=4 * i) (by omega)
      obtain ⟨y1,l1,g1,d1⟩:=byte_nat hB (j:=4 * i + 1) (by omega)
      obtain ⟨y2,l2,g2,d2⟩:=byte_nat hB (j:=4 * i + 2) (by omega)
      obtain ⟨y3,l3,g3,d3⟩:=byte_nat hB (j:=4 * i + 3) (by omega)
      have b0:(bs L)[4 * i]?=some (.sc (.int .u8 (y0:Nat))):=by rw [bs_get,g0]; rfl
      have b1:(bs L)[4 * i + 1]?=some (.sc (.int .u8 (y1:Nat))):=by rw [bs_get,g1]; rfl
      have b2:(bs L)[4 * i + 2]?=some (.sc (.int .u8 (y2:Nat))):=by rw [bs_get,g2]; rfl
      have b3:(bs L)[4 * i + 3]?=some (.sc (.int .u8 (y3:Nat))):=by rw [bs_get,g3]; rfl
      have t0:(4 * (i:Int)).toNat=4 * i:=by omega
      have t1:(4 * (i:Int) + 1).toNat=4 * i + 1:=by omega
      have t2:(4 * (i:Int) + 2).toNat=4 * i + 2:=by omega
      have t3:(4 * (i:Int) + 3).toNat=4 * i + 3:=by omega
      have m0:(y0:Int) % 4294967296=y0:=by omega
      have m1:(y1:Int) % 4294967296=y1:=by omega
      have m2:(y2:Int) % 4294967296=y2:=by omega
      have m3:(y3:Int) % 4294967296=y3:=by omega
      have s1:(y1:Int) * 256 % 4294967296=((y1 * 2 ^ 8:Nat):Int):=by omega
      have s2:(y2:Int) * 65536 % 4294967296=((y2 * 2 ^ 16:Nat):Int):=by omega
      have s3:(y3:Int) * 16777216 % 4294967296=((y3 * 2 ^ 24:Nat):Int):=by omega
      have o1:=or_two (a:=y0) (b:=y1) (k:=8) (by omega) (by omega) (by decide)
      have o2:=or_two (a:=y0 + y1 * 2 ^ 8) (b:=y2) (k:=16) (by omega) (by omega) (by decide)
      have o3:=or_two (a:=y0 + y1 * 2 ^ 8 + y2 * 2 ^ 16) (b:=y3) (k:=24) (by omega) (by omega) (by decide)
      have hw:wordM L i=y0 + y1 * 2 ^ 8 + y2 * 2 ^ 16 + y3 * 2 ^ 24:=by
        unfold wordM
        rw [d0,d1,d2,d3]; omega
      rw [← hw] at o3
      have p1:(0:Int)≤4 * (i:Int):=by omega
      have p2:(0:Int)≤4 * (i:Int) + 1:=by omega
      have p3:(0:Int)≤4 * (i:Int) + 2:=by omega
      have p4:(0:Int)≤4 * (i:Int) + 3:=by omega
      have p5:(0:Int)≤(i:Int):=by omega
      have p6:(i:Int) < ((16:Nat):Int):=by omega
      have p7:i + 1≤16:=by omega
      have ws:=wcs_set (f:=f) (x:=wordM L i) c
      simp (maxSteps:=3000000) only [go_sem,↓reduceIte,h5,c1,t0,t1,t2,t3,b0,b1,b2,b3,m0,m1,m2,m3,s1,s2,s3,o1,o2,o3,p1,p2,p3,p4,p5,p6,p7,wcs_len,mono_wcs,ws]
      repeat (apply And.intro; focus (first | omega | (simp; done)))
      refine ⟨⟨i + 1,updS f i (wordM L i),by omega,by simp,fun j hj=>?_,rfl⟩,by omega⟩
      by_cases e:j=i
      · subst e; exact updS_same
      · rw [updS_ne e]; exact hf j (by omega)
    · have c1:decide ((i:Int) < 16)=false:=decide_eq_false (by omega)
      have hg:wcs f 16=wcs (wordM L) 16:=wcs_congr fun j hj=>hf j (by omega)
      have e1:List.take 16 (wcs (wordM L) 16)=wcs (wordM L) 16:=List.take_of_length_le (by rw [wcs_len]; omega)
      have e2:(16:Nat)≤16:=Nat.le_refl _
      rw [hg]
      have e3:List.drop 16 (wcs (fun _=>0) 16)=[]:=List.drop_of_length_le (by rw [wcs_len]; omega)
      have e4:mono (wcs (wordM L) 16)=True:=mono_wcs (by omega)
      simp (maxSteps:=3000000) only [go_sem,↓reduceIte,h5,c1,wcs_len,e4,e1,e2,e3]
      exact ⟨_,_,Wk.refl _,weak_put hwf.weak hb,rfl,rfl⟩
theorem sines_wcs:(sinesM.map fun x:Nat=>V.sc (.int .u32 (x:Nat)))=wcs (fun j=>sinesM.getD j 0) 64:=rfl
theorem sines_lt:∀ j:Nat,j < 64→sinesM.getD j 0 < 4294967296:=by decide
theorem wordM_lt (hB:IsB L) (hl:L.length=64) {j:Nat} (hj:j < 16):wordM L j < 4294967296:=by
  obtain ⟨y0,l0,g0,d0⟩:=byte_nat hB (j:=4 * j) (by omega)
  obtain ⟨y1,l1,g1,d1⟩:=byte_nat hB (j:=4 * j + 1) (by omega)
  obtain ⟨y2,l2,g2,d2⟩:=byte_nat hB (j:=4 * j + 2) (by omega)
  obtain ⟨y3,l3,g3,d3⟩:=byte_nat hB (j:=4 * j + 3) (by omega)
  unfold wordM
  rw [d0,d1,d2,d3]; omega
set_option maxRecDepth 100000 in
set_option maxHeartbeats 4000000 in
theorem md5Block_v {s0:S4} (ho:s0.Ok) (hB:IsB L) (hl:L.length=64):VCalls Tryz.prog 236 [s0.v,.sl tk (bs L)] st fun r s=>r=(blockM s0 L).v∧st=s:=by
  refine vcalls_enterq pc236 (Nat.le_of_ble_eq_true rfl) rfl fun hwf hok=>?_
  show Run _ Pc236.body (.fin (finP Pc236.res _)) _ _
  unfold Pc236 zn zo
  have oa:=ho.a
  have ob:=ho.b
  have oc:=ho.c
  have od:=ho.d
  simp (maxSteps:=3000000) only [go_sem,↓reduceIte,S4.v]
  intro b2 hb2
  refine Cal.mk (md5Words_v hB hl) ?_
  rintro _ _ ⟨rfl,rfl⟩ -
  simp (maxSteps:=3000000) only [go_sem]
  refine Cal.mk md5Sines_v ?_
  rintro _ _ ⟨rfl,rfl⟩ -
  rw [sines_wcs]
  simp (maxSteps:=3000000) only [go_sem,↓reduceIte]
  intro b5 hb5 b6 hb6
  have h25:b2 < b5:=by omega
  have h26:b2 < b6:=by omega
  have h56:b5 < b6:=by omega
  have n25:=Nat.ne_of_lt h25
  have n26:=Nat.ne_of_lt h26
  have n56:=Nat.ne_of_lt h56
  have n65:=Nat.ne_of_gt h56
  have n52:=Nat.ne_of_gt h25
  have n62:=Nat.ne_of_gt h26
  have e4:mono (wcs (wordM L) 16)=True:=mono_wcs (by omega)
  have e6:mono (wcs (fun j=>sinesM.getD j 0) 64)=True:=mono_wcs (by omega)
  simp (maxSteps:=3000000) only [go_sem,↓reduceIte,put_box_ne n25,put_box_ne n26,put_box_ne n56,put_box_ne n65,wcs_len]
  repeat (apply And.intro; focus (first | omega | (simp; done)))
  refine run_loop [7,8,9,10,11,12,13,25,26,33,34,35,39,40,41,43,44,45,46,53,54,55,56] (fun B s=>∃ i:Nat,i≤64∧B 25=.sc (.int .i64 i)∧B 7=.sc (.int .u32 ((rndM (wordM L) s0 i).a:Nat))∧B 8=.sc (.int .u32 ((rndM (wordM L) s0 i).b:Nat))∧B 9=.sc (.int .u32 ((rndM (wordM L) s0 i).c:Nat))∧B 10=.sc (.int .u32 ((rndM (wordM L) s0 i).d:Nat)) ∧
    s.box b2=some [.sc (.int .u32 (s0.a:Nat)),.sc (.int .u32 (s0.b:Nat)),.sc (.int .u32 (s0.c:Nat)),.sc (.int .u32 (s0.d:Nat))]∧s.box b5=some (wcs (wordM L) 16)∧s.box b6=some (wcs (fun j=>sinesM.getD j 0) 64)∧st.weak s) (fun B _=>64 - vnat (B 25)) rfl ?_ ?_
  · refine ⟨0,by omega,by first | (simp (maxSteps:=3000000) only [go_sem,↓reduceIte]; done) | (simp (maxSteps:=3000000) only [go_sem,↓reduceIte]; rfl),by simp (maxSteps:=3000000) only [go_sem,↓reduceIte] <;> rfl,by simp (maxSteps:=3000000) only [go_sem,↓reduceIte] <;> rfl,by simp (maxSteps:=3000000) only [go_sem,↓reduceIte] <;> rfl,by simp (maxSteps:=3000000) only [go_sem,↓reduceIte] <;> rfl,?_,?_,?_,?_⟩
    · simp (maxSteps:=3000000) only [go_sem,put_box_ne n25,put_box_ne n26]
    · simp (maxSteps:=3000000) only [go_sem,put_box_ne n56]
    · simp (maxSteps:=3000000) only [go_sem]
    · exact weak_put (weak_put (weak_put (weak_put (weak_put hwf.weak hb2) (by omega)) (by omega)) (by omega)) (by omega)
  · rintro B s ⟨i,hi,h25',h7,h8,h9,h10,k2,k5,k6,hwk⟩
    have hr:=rndM_ok (w:=wordM L) ho i
    by_cases c:i < 64
    · have c1:decide ((i:Int) < 64)=true:=decide_eq_true (by omega)
      have hat:=atN_lt c
      have p1:(0:Int)≤((atN i:Nat):Int):=by omega
      have p2:((atN i:Nat):Int) < ((16:Nat):Int):=by omega
      have p3:(0:Int)≤(i:Int):=by omega
      have p4:(i:Int) < ((64:Nat):Int):=by omega
      have l5:=wcs_at (f:=wordM L) hat
      have l6:=wcs_at (f:=fun j=>sinesM.getD j 0) c
      have hro:=rollN_rng i c
      obtain ⟨R,hR⟩:∃ R,rndM (wordM L) s0 i=R:=⟨_,rfl⟩
      rw [hR] at h7 h8 h9 h10 hr
      have hsum:((mixN i R.b R.c R.d:Nat) + (((R.a:Nat) + (sinesM.getD i 0:Nat)) % 4294967296 + (wordM L (atN i):Nat)) % 4294967296:Int) % 4294967296=((sumM (wordM L) i R:Nat):Int):=by
        unfold sumM; omega
      have hsl:sumM (wordM L) i R < 4294967296:=Nat.mod_lt _ (by decide)
      have hb':((R.b:Nat) + (rolN (sumM (wordM L) i R) (rollN i):Nat):Int) % 4294967296=(((R.b + rolN (sumM (wordM L) i R) (rollN i)) % 4294967296:Nat):Int):=by omega
      repeat' first | simp (maxSteps:=3000000) only [go_sem,↓reduceIte,h25',h7,h8,h9,h10,c1,k2,k5,k6,p1,p2,p3,p4,l5,l6,hsum,hb'] | (refine If.dec (fun h=>?_) (fun h=>?_) <;> first | simp only [decide_eq_true h] | simp only [decide_eq_false h] | skip) | (refine Grd.decd (fun h=>?_) (fun h=>?_) <;> first | simp only [decide_eq_true h] | simp only [decide_eq_false h] | skip) | (refine If.mk (fun h=>?_) (fun h=>?_) <;> first | simp only [h] | skip) | (refine Grd.two (fun h=>?_) (fun h=>?_) <;> first | simp only [h] | skip) | (apply And.intro; focus (first | omega | (simp; done))) | (refine Cal.mk (md5Mix_v c hr.b hr.c hr.d) ?_; rintro _ _ ⟨rfl,rfl⟩ -) | (refine Cal.mk (md5Rolls_v c) ?_; rintro _ _ ⟨rfl,rfl⟩ -) | (refine Cal.mk (md5Rot_v hsl hro.2 hro.1) ?_; rintro _ _ ⟨rfl,rfl⟩ -)
      have hst:rndM (wordM L) s0 (i + 1)=stepM (wordM L) i R:=by show stepM (wordM L) i (rndM (wordM L) s0 i)=_; rw [hR]
      refine ⟨⟨i + 1,by omega,by simp,?_,?_,?_,?_,hwk⟩,by omega⟩ <;> rw [hst] <;> rfl
    · obtain rfl:i=64:=by omega
      have c1:decide (((64:Nat):Int) < 64)=false:=decide_eq_false (by omega)
      have f1:((s0.a:Nat) + ((rndM (wordM L) s0 64).a:Nat):Int) % 4294967296=(((s0.a + (rndM (wordM L) s0 64).a) % 4294967296:Nat):Int):=by omega
      have f2:((s0.b:Nat) + ((rndM (wordM L) s0 64).b:Nat):Int) % 4294967296=(((s0.b + (rndM (wordM L) s0 64).b) % 4294967296:Nat):Int):=by omega
      have f3:((s0.c:Nat) + ((rndM (wordM L) s0 64).c:Nat):Int) % 4294967296=(((s0.c + (rndM (wordM L) s0 64).c) % 4294967296:Nat):Int):=by omega
      have f4:((s0.d:Nat) + ((rndM (wordM L) s0 64).d:Nat):Int) % 4294967296=(((s0.d + (rndM (wordM L) s0 64).d) % 4294967296:Nat):Int):=by omega
      simp (maxSteps:=3000000) only [go_sem,↓reduceIte,h25',h7,h8,h9,h10,c1,k2,f1,f2,f3,f4]
      repeat (apply And.intro; focus (first | omega | (simp; done)))
      exact ⟨_,_,Wk.refl _,hwk,rfl,rfl⟩
end
end
section
open Go
abbrev Opt:=Int × List Int
def optV (o:Opt):V:=.agg [.sc (.int .u8 o.1),.sl .no (bs o.2)]
def opts (l:List Opt):List V:=l.map optV
theorem opts_len (l:List Opt):(opts l).length=l.length:=by simp [opts]
theorem opts_append (l m:List Opt):opts l ++ opts m=opts (l ++ m):=by simp [opts]
theorem allSz_opts (l:List Opt):allSz 2 (opts l):=fun d hd=>by
  obtain ⟨x,_,rfl⟩:=List.mem_map.1 hd; rfl
def oneO (o:Opt):List Int:=o.1 :: (((o.2.take 253).length:Int) + 2) :: o.2.take 253
def buildO (l:List Opt):List Int:=l.flatMap oneO
theorem buildO_append (l m:List Opt):buildO (l ++ m)=buildO l ++ buildO m:=by simp [buildO]
theorem oneO_len (o:Opt):(oneO o).length≤255:=by
  simp only [oneO,List.length_cons,List.length_take]; omega
theorem buildO_len (l:List Opt):(buildO l).length≤255 * l.length:=by
  induction l with
  | nil=>simp [buildO]
  | cons o l ih =>
    have:=oneO_len o
    simp only [buildO,List.flatMap_cons,List.length_append,List.length_cons] at ih ⊢
    omega
def parseF:Nat→List Int→List Opt→List Opt × Int
  | 0,_,out=>(out,0)
  | _ + 1,[],out=>(out,0)
  | _ + 1,[_],_=>([],10)
  | k + 1,t :: n :: M,out=>if n < 2 then ([],11) else if (M.length:Int) + 2 < n then ([],10) else parseF k (M.drop (n - 2).toNat) (out ++ [(t,M.take (n - 2).toNat)])
def parseO (L:List Int):List Opt × Int:=parseF L.length L []
theorem parseF_nil {k:Nat} {out:List Opt}:parseF k [] out=(out,0):=by cases k <;> rfl
def GoodO (l:List Opt):Prop:=∀ o ∈ l,0≤o.1∧o.1 < 256∧IsB o.2∧o.2.length≤1000000
theorem GoodO.nil:GoodO []:=fun o h=>by cases h
theorem GoodO.append {l m:List Opt} (h:GoodO l) (k:GoodO m):GoodO (l ++ m):=fun o ho=>by
  rcases List.mem_append.1 ho with ho | ho
  · exact h o ho
  · exact k o ho
theorem GoodO.one {o:Opt} (h1:0≤o.1) (h2:o.1 < 256) (h3:IsB o.2) (h4:o.2.length≤1000000):GoodO [o]:=fun x hx=>by
  simp only [List.mem_singleton] at hx; subst hx; exact ⟨h1,h2,h3,h4⟩
theorem GoodO.get {l:List Opt} (h:GoodO l) {i:Nat} {o:Opt} (ho:l[i]?=some o):0≤o.1∧o.1 < 256∧IsB o.2∧o.2.length≤1000000:=h o (List.mem_of_getElem? ho)
theorem IsB.cons' {x:Int} {L:List Int} (h:IsB (x :: L)):0≤x∧x < 256:=h x (List.mem_cons_self ..)
theorem IsB.tail' {x:Int} {L:List Int} (h:IsB (x :: L)):IsB L:=fun y hy=>h y (List.mem_cons_of_mem _ hy)
theorem parseF_good:∀ {k:Nat} {L:List Int} {out:List Opt},IsB L→GoodO out→GoodO (parseF k L out).1
  | 0,_,_,_,h=>h
  | _ + 1,[],_,_,h=>h
  | _ + 1,[_],_,_,_=>GoodO.nil
  | k + 1,t :: n :: M,out,hB,h=>by
    unfold parseF
    have h1:=hB.cons'
    have h2:=hB.tail'.cons'
    have h3:=hB.tail'.tail'
    split
    · exact GoodO.nil
    split
    · exact GoodO.nil
    · exact parseF_good (h3.drop _) (h.append (.one h1.1 h1.2 (h3.take _) (by simp only [List.length_take]; omega)))
theorem parseO_good {L:List Int} (h:IsB L):GoodO (parseO L).1:=parseF_good h .nil
theorem parseF_len:∀ {k:Nat} {L:List Int} {out:List Opt},(parseF k L out).1.length≤out.length + L.length
  | 0,_,_=>by simp [parseF]
  | _ + 1,[],_=>by simp [parseF]
  | _ + 1,[_],_=>by simp [parseF]
  | k + 1,t :: n :: M,out=>by
    unfold parseF
    split
    · simp
    split
    · simp
    · have:=@parseF_len k (M.drop (n - 2).toNat) (out ++ [(t,M.take (n - 2).toNat)])
      simp only [List.length_append,List.length_cons,List.length_nil,List.length_drop] at this ⊢
      omega
theorem parseO_len {L:List Int}:(parseO L).1.length≤L.length:=by
  have:=@parseF_len L.length L []
  simpa [parseO] using this
theorem oneO_isB {o:Opt} (h0:0≤o.1) (h1:o.1 < 256) (hB:IsB o.2):IsB (oneO o):=fun x hx=>by
  unfold oneO at hx
  rcases List.mem_cons.1 hx with rfl | hx
  · exact ⟨h0,h1⟩
  rcases List.mem_cons.1 hx with rfl | hx
  · have:(o.2.take 253).length≤253:=by simp only [List.length_take]; omega
    exact ⟨by omega,by omega⟩
  · exact hB.take _ x hx
theorem buildO_isB {l:List Opt} (h:GoodO l):IsB (buildO l):=fun x hx=>by
  obtain ⟨o,ho,hx⟩:=List.mem_flatMap.1 hx
  obtain ⟨h0,h1,h2,_⟩:=h o ho
  exact oneO_isB h0 h1 h2 x hx
def findO (l:List Opt) (t:Int):Option (List Int):=(l.find? fun o=>decide (o.1=t)).map (·.2)
structure Ctl where
  code:Int
  id:Int
  data:List Int
  deriving DecidableEq
instance:Inhabited Ctl:=⟨⟨0,0,[]⟩⟩
def Ctl.v (p:Ctl) (tk:Tk:=.no):V:=.agg [.sc (.int .u8 p.code),.sc (.int .u8 p.id),.sl tk (bs p.data)]
def ctls (l:List Ctl):List V:=l.map fun p=>p.v
theorem ctls_len (l:List Ctl):(ctls l).length=l.length:=by simp [ctls]
theorem ctls_append (l m:List Ctl):ctls l ++ ctls m=ctls (l ++ m):=by simp [ctls]
theorem allSz_ctls (l:List Ctl):allSz 3 (ctls l):=fun d hd=>by
  obtain ⟨x,_,rfl⟩:=List.mem_map.1 hd; rfl
structure Ctl.Good (p:Ctl):Prop where
  c0:0≤p.code
  c1:p.code < 256
  i0:0≤p.id
  i1:p.id < 256
  b:IsB p.data
  l:p.data.length≤1000000
def St.bare (s:St):St:=⟨fun _=>none,fun _=>none,s.sz⟩
theorem bare_weak {s t:St} (h:s.sz≤t.sz):s.bare.weak t:=⟨fun b cs h=>by simp [St.bare] at h,fun g m h=>by simp [St.bare] at h,h⟩
structure Tn (bx:List Nat) (s t:St):Prop where
  box:∀ b cs,s.box b=some cs→b ∉ bx→t.box b=some cs
  own:∀ g m,s.own g=some m→t.own g=some m
  sz:s.sz≤t.sz
  lt:t.Lt
theorem Tn.refl {bx:List Nat} {s:St} (h:s.Lt):Tn bx s s:=⟨fun _ _ h _=>h,fun _ _ h=>h,Nat.le_refl _,h⟩
theorem Tn.trans {bx:List Nat} {s t u:St} (h:Tn bx s t) (k:Tn bx t u):Tn bx s u :=
  ⟨fun b cs hb hn=>k.box b cs (h.box b cs hb hn) hn,fun g m hg=>k.own g m (h.own g m hg),Nat.le_trans h.sz k.sz,k.lt⟩
theorem Tn.wide {bx by':List Nat} {s t:St} (h:Tn bx s t) (hs:∀ b ∈ bx,b ∈ by'):Tn by' s t :=
  ⟨fun b cs hb hn=>h.box b cs hb fun k=>hn (hs b k),h.own,h.sz,h.lt⟩
theorem Tn.ofWeak {bx:List Nat} {s t:St} (h:s.weak t) (hl:t.Lt):Tn bx s t:=⟨fun b cs hb _=>(h.box b cs hb).1,fun g m hg=>(h.own g m hg).1,h.sz,hl⟩
theorem Tn.put {bx:List Nat} {s t:St} (h:Tn bx s t) {b:Nat} {cs:List V} (hb:b ∈ bx ∨ s.sz≤b) (hs:s.Lt):Tn bx s (t.put b cs) :=
  ⟨fun c ds hc hn=>by
    have hne:c ≠ b:=fun e=>by
      subst e
      rcases hb with hb | hb
      · exact hn hb
      · have:=hs.box c ds hc; omega
    rw [put_box_ne hne]; exact h.box c ds hc hn,h.own,by have:=h.sz; simp only [put_sz]; omega,h.lt.put⟩
theorem Tn.bare {bx:List Nat} {s t:St} (h:Tn bx s t):s.bare.weak t:=bare_weak h.sz
theorem Tn.weak {s t:St} (h:Tn [] s t) (hs:s.Lt):s.weak t:=⟨fun b cs hb=>⟨h.box b cs hb (by simp),hs.box b cs hb⟩,fun g m hg=>⟨h.own g m hg,hs.own g m hg⟩,h.sz⟩
theorem Tn.app {bx:List Nat} {s t u:St} {x r:V} (h:Tn bx s t) (k:AppSt t x u r) (hx:∀ g k l,x=.sl (.own g k) l→s.sz≤g) (hs:s.Lt):Tn bx s u :=
  ⟨fun b cs hb hn=>by rw [k.box]; exact h.box b cs hb hn,fun g m hg=>k.own g m (h.own g m hg) (fun l k e=>by have:=hx g k l e; have:=hs.own g m hg; omega),Nat.le_trans h.sz k.sz,h.lt.app k⟩
theorem weak_tn {bx:List Nat} {base s t:St} (h:base.weak s) (k:Tn bx s t) (hb:∀ b ∈ bx,base.box b=none):base.weak t :=
  ⟨fun b cs hc=>⟨k.box b cs (h.box b cs hc).1 (fun hm=>by rw [hb b hm] at hc; cases hc),(h.box b cs hc).2⟩,fun g m hg=>⟨k.own g m (h.own g m hg).1,(h.own g m hg).2⟩,Nat.le_trans h.sz k.sz⟩
theorem own_tn {size:Nat} {bx:List Nat} {s t:St} {v:V} {l:List V} (h:Own size s v l) (k:Tn bx s t):Own size t v l:=by
  rcases h with h | ⟨g,h1,h2,h3⟩
  · exact .inl h
  · exact .inr ⟨g,h1,k.own g _ h2,by have:=k.sz; omega⟩
theorem RO.tn {size:Nat} {bx:List Nat} {base s t:St} {r:V} {l:List V} (h:RO size base s r l) (k:Tn bx s t) (hb:∀ b ∈ bx,base.box b=none):RO size base t r l :=
  ⟨own_tn h.own k,weak_tn h.weak k hb,k.lt,h.tok⟩
theorem RO.beside {size:Nat} {base s t:St} {x r r':V} {l:List V} (h:RO size base s r l) (k:AppSt s x t r') (hx:∀ g k l,x=.sl (.own g k) l→s.sz≤g):RO size base t r l :=
  h.tn ((Tn.refl (bx:=[]) h.lt).app k hx h.lt) (by simp)
def WkL (cs ds:List V):Prop:=cs.length=ds.length∧∀ (i:Nat) (c d:V),cs[i]?=some c→ds[i]?=some d→Wk c d
theorem WkL.nil:WkL [] []:=⟨rfl,fun i c d h=>by simp at h⟩
theorem WkL.cons {c d:V} {cs ds:List V} (h:Wk c d) (k:WkL cs ds):WkL (c :: cs) (d :: ds) :=
  ⟨by simp only [List.length_cons,k.1],fun i x y hx hy=>by
    cases i with
    | zero=>simp at hx hy; subst hx hy; exact h
    | succ i=>exact k.2 i x y (by simpa using hx) (by simpa using hy)⟩
theorem Wk.agg {cs ds:List V} (h:WkL cs ds):Wk (.agg cs) (.agg ds):=fun G v hv=>by
  cases hv with
  | agg _ vs hl h1 hg =>
    refine .agg _ vs (by rw [hl,h.1]) h1 fun i d u hd hu=>?_
    have hi:i < cs.length:=by rw [h.1]; exact (List.getElem?_eq_some_iff.1 hd).1
    have hc:=List.getElem?_eq_getElem hi
    exact h.2 i _ d hc hd G u (hg i _ u hc hu)
theorem Wk.tup {cs ds:List V} (h:WkL cs ds):Wk (.tup cs) (.tup ds):=fun G v hv=>by
  cases hv with
  | tup _ vs hl hg =>
    refine .tup _ vs (by rw [hl,h.1]) fun i d u hd hu=>?_
    have hi:i < cs.length:=by rw [h.1]; exact (List.getElem?_eq_some_iff.1 hd).1
    have hc:=List.getElem?_eq_getElem hi
    exact h.2 i _ d hc hd G u (hg i _ u hc hu)
theorem noOwn {s:St}:∀ g k l,V.sl Tk.nil []=.sl (.own g k) l→s.sz≤g:=fun g k l e=>by cases e
end
section
open Go
structure HsQ (T:List Int) (S:S4) (tail:List Int):Prop where
  len:∃ m,T.length=64 * m + tail.length∧tail=T.drop (64 * m)∧S=foldM m T
structure Hs (base s:St) (h:Nat) (T:List Int) (S:S4) (tail:List Int) (v:V) (sm:Bool):Prop where
  box:s.box h=some [.sc (.int .u32 (S.a:Nat)),.sc (.int .u32 (S.b:Nat)),.sc (.int .u32 (S.c:Nat)),.sc (.int .u32 (S.d:Nat)),v,.sc (.int .u64 (T.length:Nat)),.sc (.bool sm)]
  row:RO 1 base s v (bs tail)
  new:base.sz≤h
  lt:h < s.sz
def HsI (base s:St) (h:Nat) (T:List Int):Prop:=∃ S tail v,Hs base s h T S tail v true∧HsQ T S tail∧tail.length < 64
def Hs0 (base s:St) (h:Nat):Prop:=Hs base s h [] ⟨0,0,0,0⟩ [] (.sl .nil []) false
section
variable {st base s:St} {h:Nat} {T L tail:List Int} {S:S4} {v:V} {tk:Tk}
theorem HsQ.app (q:HsQ T S tail):HsQ (T ++ L) S (tail ++ L):=by
  obtain ⟨m,h1,h2,h3⟩:=q.len
  refine ⟨m,by rw [List.length_append,List.length_append]; omega,?_,?_⟩
  · rw [List.drop_append_of_le_length (by omega),h2]
  · rw [foldM_app m (by omega)]; exact h3
theorem HsQ.next (q:HsQ T S tail) (hl:64≤tail.length):HsQ T (blockM S (tail.take 64)) (tail.drop 64):=by
  obtain ⟨m,h1,h2,h3⟩:=q.len
  refine ⟨m + 1,by rw [List.length_drop]; omega,?_,?_⟩
  · rw [h2,List.drop_drop]; rfl
  · rw [h3,h2]; rfl
theorem HsQ.isB (q:HsQ T S tail) (hB:IsB T):IsB tail:=by
  obtain ⟨m,h1,h2,h3⟩:=q.len
  rw [h2]; exact hB.drop _
theorem HsQ.ok (q:HsQ T S tail):S.Ok:=by
  obtain ⟨m,h1,h2,h3⟩:=q.len
  rw [h3]; exact foldM_ok m
theorem HsQ.le (q:HsQ T S tail):tail.length≤T.length:=by
  obtain ⟨m,h1,h2,h3⟩:=q.len
  omega
set_option maxRecDepth 100000 in
set_option maxHeartbeats 4000000 in
theorem md5Write_v {sm:Bool} (H:Hs base st h T S tail v sm) (hq:sm=true∧HsQ T S tail∧tail.length < 64 ∨ sm=false∧T=[]∧tail=[]) (hT:IsB T) (hB:IsB L) (hl:T.length + L.length≤1000000) :
    VCalls Tryz.prog 232 [ptrV h,.sl tk (bs L)] st fun r s=>r=.tup []∧HsI base s h (T ++ L):=by
  refine vcalls_enterq pc232 (Nat.le_of_ble_eq_true rfl) rfl fun hwf hok=>?_
  show Run _ Pc232.body (.fin (finP Pc232.res _)) _ _
  unfold Pc232 zn zo
  have hsz:=H.lt
  simp (maxSteps:=3000000) only [go_sem,↓reduceIte,H.box]
  refine If.cut [11,12,13,14,15] (fun B s=>∃ S',Hs base s h T S' tail v true∧HsQ T S' tail∧tail.length < 64) rfl ?_ ?_
  · rcases hq with ⟨rfl,hq,ht⟩ | ⟨rfl,rfl,rfl⟩
    · simp (maxSteps:=3000000) only [go_sem]
      exact ⟨S,H,hq,ht⟩
    · simp (maxSteps:=3000000) only [go_sem]
      refine Cal.mk md5First_v ?_
      rintro _ _ ⟨rfl,rfl⟩ -
      simp (maxSteps:=3000000) only [go_sem,↓reduceIte,H.box,S4.v,at_cutk_n]
      exact ⟨firstM,⟨put_box_same,H.row.put H.new,H.new,by simp only [put_sz]; omega⟩,⟨0,rfl,rfl,rfl⟩⟩
  · rintro B s ⟨S',H',hq',ht'⟩
    obtain ⟨tv,rfl⟩:=H'.row.sl
    have c1:((T.length:Nat):Int) + (L.length:Nat)=((T.length + L.length:Nat):Int):=by omega
    have c2:(L.length:Int) % 18446744073709551616=L.length:=by omega
    have c3:((T.length + L.length:Nat):Int) % 18446744073709551616=((T.length + L.length:Nat):Int):=by omega
    simp (maxSteps:=3000000) only [go_sem,↓reduceIte,H'.box,bs_len,c1,c2,c3]
    have R0:=H'.row.put (c:=h) (cs:=[.sc (.int .u32 (S'.a:Nat)),.sc (.int .u32 (S'.b:Nat)),.sc (.int .u32 (S'.c:Nat)),.sc (.int .u32 (S'.d:Nat)),.sl tv (bs tail),.sc (.int .u64 (T.length + L.length:Nat)),.sc (.bool true)]) H.new
    refine App.mk (size:=1) (bytes:=1) (l:=bs tail) (ys:=bs L) R0.own (allSz_bs _) (by simp only [bs_len,maxLen]; omega) (by simp only [bs_len]; omega) ?_
    intro r2 s2 k1 k2
    have R2:=R0.app k1 k2
    have hb2:s2.box h=some [.sc (.int .u32 (S'.a:Nat)),.sc (.int .u32 (S'.b:Nat)),.sc (.int .u32 (S'.c:Nat)),.sc (.int .u32 (S'.d:Nat)),.sl tv (bs tail),.sc (.int .u64 (T.length + L.length:Nat)),.sc (.bool true)]:=by rw [k2.box]; exact put_box_same
    rw [bs_append] at R2
    obtain ⟨tw,rfl⟩:=R2.sl
    simp (maxSteps:=3000000) only [go_sem,↓reduceIte,hb2]
    refine run_loop [36,37,38,39,40,43,44,45,47,48,49,50,51,52,53,56,57,58,59,60,61,62] (fun B s=>∃ (S2:S4) (t2:List Int) (v2:V),Hs base s h (T ++ L) S2 t2 v2 true∧HsQ (T ++ L) S2 t2) (fun B s=>match s.box h with | some [_,_,_,_,.sl _ l,_,_]=>l.length | _=>0) rfl ?_ ?_
    · exact ⟨S',tail ++ L,_,⟨by rw [put_box_same,List.length_append],R2.put H.new,H.new,by simp only [put_sz]; omega⟩,hq'.app⟩
    · rintro B s ⟨S2,t2,v2,H2,q2⟩
      obtain ⟨tv2,rfl⟩:=H2.row.sl
      by_cases c:64≤t2.length
      · have c4:decide ((64:Int)≤(t2.length:Int))=true:=decide_eq_true (by omega)
        simp (maxSteps:=3000000) only [go_sem,↓reduceIte,H2.box,bs_len,c4,bs_take,allSz_bs']
        have hBT:IsB (T ++ L):=hT.append hB
        have ht2:=q2.isB hBT
        have hle:=q2.le
        rw [List.length_append] at hle
        have hn:(T ++ L).length=T.length + L.length:=List.length_append
        have cb:=md5Block_v (st:=s) (tk:=.no) q2.ok (ht2.take 64) (show (t2.take 64).length=64 by rw [List.length_take]; omega)
        rw [S4.v] at cb
        refine ⟨c,Cal.mk cb ?_⟩
        rintro _ _ ⟨rfl,rfl⟩ -
        simp (maxSteps:=3000000) only [go_sem,↓reduceIte,H2.box,S4.v,allSz_bs',bs_len,bs_drop]
        refine ⟨c,?_⟩
        have q3:=q2.next c
        obtain ⟨S3,hS3⟩:∃ S3,blockM S2 (t2.take 64)=S3:=⟨_,rfl⟩
        rw [hS3] at q3 ⊢
        have Rn:=RO.nil (size:=1) (weak_put (b:=h) (cs:=[.sc (.int .u32 (S3.a:Nat)),.sc (.int .u32 (S3.b:Nat)),.sc (.int .u32 (S3.c:Nat)),.sc (.int .u32 (S3.d:Nat)),.sl tv2 (bs t2),.sc (.int .u64 ((T ++ L).length:Nat)),.sc (.bool true)]) H2.row.weak H2.new) H2.row.lt.put
        refine App.mk (size:=1) (bytes:=1) (l:=[]) (ys:=bs (t2.drop 64)) Rn.own (allSz_bs _) (by simp only [bs_len,maxLen,List.length_nil,List.length_drop]; omega) (by simp only [bs_len,List.length_nil,List.length_drop]; omega) ?_
        intro r3 s3 k3 k4
        have R3:=Rn.app k3 k4
        rw [List.nil_append] at R3
        have hb3:s3.box h=some [.sc (.int .u32 (S3.a:Nat)),.sc (.int .u32 (S3.b:Nat)),.sc (.int .u32 (S3.c:Nat)),.sc (.int .u32 (S3.d:Nat)),.sl tv2 (bs t2),.sc (.int .u64 ((T ++ L).length:Nat)),.sc (.bool true)]:=by rw [k4.box]; exact put_box_same
        obtain ⟨tw3,rfl⟩:=R3.sl
        simp (maxSteps:=3000000) only [go_sem,↓reduceIte,hb3]
        exact ⟨⟨S3,t2.drop 64,_,⟨put_box_same,R3.put H2.new,H2.new,by simp only [put_sz]; omega⟩,q3⟩,by rw [bs_len,List.length_drop]; omega⟩
      · have c4:decide ((64:Int)≤(t2.length:Int))=false:=decide_eq_false (by omega)
        simp (maxSteps:=3000000) only [go_sem,↓reduceIte,H2.box,bs_len,c4]
        exact ⟨_,_,Wk.refl _,H2.row.lt.weak,rfl,S2,t2,_,H2,q2,by omega⟩
end
end
section
open Go
theorem leL_get:∀ {k n i:Nat},i < k→(leL n k)[i]?=some (((n / 256 ^ i % 256:Nat):Int))
  | k + 1,n,0,_=>by simp [leL]
  | k + 1,n,i + 1,h=>by
    simp only [leL,List.getElem?_cons_succ]
    rw [leL_get (by omega),Nat.div_div_eq_div_mul,Nat.pow_succ,Nat.mul_comm 256]
theorem pow_8 (i:Nat):2 ^ (8 * i)=256 ^ i:=by rw [Nat.pow_mul]
theorem take_snoc' {α:Type} {l:List α} {i:Nat} {o:α} (h:l[i]?=some o):l.take (i + 1)=l.take i ++ [o]:=by
  rw [List.take_add_one,h]; rfl
theorem pad_step {a:Nat} (h:a % 64 ≠ 56):(120 - (a + 1) % 64) % 64 < (120 - a % 64) % 64:=by omega
def wdM (S:S4) (i:Nat):Nat:=if i=0 then S.a else if i=1 then S.b else if i=2 then S.c else S.d
theorem digM_len {S:S4}:(digM S).length=16:=by simp [digM,leL_len]
theorem digM_get {S:S4} {i k:Nat} (hi:i < 4) (hk:k < 4):(digM S)[4 * i + k]?=some (((wdM S i / 256 ^ k % 256:Nat):Int)):=by
  have e:∀ n:Nat,(leL n 4).length=4:=fun n=>leL_len
  unfold digM wdM
  have hi4:i=0 ∨ i=1 ∨ i=2 ∨ i=3:=by omega
  rcases hi4 with rfl | rfl | rfl | rfl
  · rw [List.getElem?_append_left (by simp only [List.length_append,e]; omega),List.getElem?_append_left (by simp only [List.length_append,e]; omega),List.getElem?_append_left (by rw [e]; omega)]
    rw [show 4 * 0 + k=k by omega,leL_get hk]; rfl
  · rw [List.getElem?_append_left (by simp only [List.length_append,e]; omega),List.getElem?_append_left (by simp only [List.length_append,e]; omega),List.getElem?_append_right (by rw [e]; omega)]
    rw [e,show 4 * 1 + k - 4=k by omega,leL_get hk]; rfl
  · rw [List.getElem?_append_left (by simp only [List.length_append,e]; omega),List.getElem?_append_right (by simp only [List.length_append,e]; omega)]
    simp only [List.length_append,e]
    rw [show 4 * 2 + k - (4 + 4)=k by omega,leL_get hk]; rfl
  · rw [List.getElem?_append_right (by simp only [List.length_append,e]; omega)]
    simp only [List.length_append,e]
    rw [show 4 * 3 + k - (4 + 4 + 4)=k by omega,leL_get hk]; rfl
theorem Tn.use {bx:List Nat} {s t:St} (h:Tn bx s t) {g m:Nat} (hg:t.sz≤g) (hs:s.Lt):Tn bx s (t.use g m) :=
  ⟨h.box,fun q n hq=>by
    have hne:q ≠ g:=fun e=>by subst e; have:=hs.own q n hq; have:=h.sz; omega
    show (if q=g then some m else t.own q)=_
    rw [if_neg hne]; exact h.own q n hq,by have:=h.sz; simp only [use_sz]; omega,h.lt.use⟩
def dgC (S:S4) (j:Nat):List Int:=(digM S).take j ++ List.replicate (16 - j) 0
theorem dgC_len {S:S4} {j:Nat} (h:j≤16):(dgC S j).length=16:=by
  simp only [dgC,List.length_append,List.length_take,digM_len,List.length_replicate]; omega
theorem dgC_set {S:S4} {j:Nat} {y:Int} (h:j < 16) (hy:(digM S)[j]?=some y):List.take j (bs (dgC S j)) ++ [.sc (.int .u8 y)] ++ List.drop (j + 1) (bs (dgC S j))=bs (dgC S (j + 1)):=by
  rw [bs_take,bs_drop,show [V.sc (.int .u8 y)]=bs [y] from rfl,bs_append,bs_append]
  congr 1
  unfold dgC
  have hl:((digM S).take j).length=j:=by rw [List.length_take,digM_len]; omega
  rw [List.take_left' hl,take_snoc' hy,List.drop_append,hl]
  rw [List.drop_of_length_le (by rw [hl]; omega),List.nil_append,List.drop_replicate]
  congr 2
  omega
theorem dgC_0 {S:S4}:dgC S 0=List.replicate 16 0:=by simp [dgC]
theorem dgC_16 {S:S4}:dgC S 16=digM S:=by
  simp only [dgC,Nat.sub_self,List.replicate_zero,List.append_nil]
  exact List.take_of_length_le (by rw [digM_len]; omega)
theorem wds_at {S:S4} {i:Nat} (h:i < 4):([.sc (.int .u32 (S.a:Nat)),.sc (.int .u32 (S.b:Nat)),.sc (.int .u32 (S.c:Nat)),.sc (.int .u32 (S.d:Nat))]:List V)[i]?=some (.sc (.int .u32 (wdM S i:Nat))):=by
  have hi4:i=0 ∨ i=1 ∨ i=2 ∨ i=3:=by omega
  rcases hi4 with rfl | rfl | rfl | rfl <;> rfl
section
variable {st base s t:St} {h:Nat} {T L tail:List Int} {S:S4} {v:V} {tk:Tk}
theorem HsI.tn (H:HsI base s h T) (k:Tn [] s t):HsI base t h T:=by
  obtain ⟨S,tail,v,H,q,hl⟩:=H
  exact ⟨S,tail,v,⟨k.box h _ H.box (by simp),H.row.tn k (by simp),H.new,Nat.lt_of_lt_of_le H.lt k.sz⟩,q,hl⟩
theorem HsI.lt' (H:HsI base s h T):s.Lt:=by obtain ⟨_,_,_,H,_⟩:=H; exact H.row.lt
theorem HsI.put (H:HsI base s h T) {b:Nat} {cs:List V} (hb:s.sz≤b):HsI base (s.put b cs) h T:=H.tn ((Tn.refl H.lt').put (.inr hb) H.lt')
theorem md5Write1_v (H:HsI base st h T) (hT:IsB T) (hB:IsB L) (hl:T.length + L.length≤1000000) :
    VCalls Tryz.prog 232 [ptrV h,.sl tk (bs L)] st fun r s=>r=.tup []∧HsI base s h (T ++ L):=by
  obtain ⟨S,tail,v,H,q,hl2⟩:=H
  exact md5Write_v H (.inl ⟨rfl,q,hl2⟩) hT hB hl
theorem HsI.left (H:HsI base s h T):∃ S tl tail n,s.box h=some [.sc (.int .u32 (S.a:Nat)),.sc (.int .u32 (S.b:Nat)),.sc (.int .u32 (S.c:Nat)),.sc (.int .u32 (S.d:Nat)),.sl tl (bs tail),.sc (.int .u64 n),.sc (.bool true)]∧tail.length=T.length % 64∧(T.length % 64=0→S=foldM (T.length / 64) T):=by
  obtain ⟨S,tail,v,H,q,hl⟩:=H
  obtain ⟨tv,rfl⟩:=H.row.sl
  obtain ⟨m,h1,h2,h3⟩:=q.len
  refine ⟨S,tv,tail,_,H.box,by omega,fun h0=>?_⟩
  rw [h3,show T.length / 64=m by omega]
set_option maxRecDepth 100000 in
set_option maxHeartbeats 8000000 in
theorem md5Sum_v (H:HsI base st h T) (hT:IsB T) (hl:T.length≤900000):VCalls Tryz.prog 233 [ptrV h] st fun r s=>r=.agg (bs (md5M T))∧st=s:=by
  refine vcalls_enterq pc233 (Nat.le_of_ble_eq_true rfl) rfl fun hwf hok=>?_
  show Run _ Pc233.body (.fin (finP Pc233.res _)) _ _
  unfold Pc233 zn zo
  obtain ⟨S,tail,v,H,hq,htl⟩:=H
  have hle:=hq.le
  obtain ⟨tv,rfl⟩:=H.row.sl
  simp (maxSteps:=3000000) only [go_sem,↓reduceIte,H.box]
  refine App.mk (size:=1) (bytes:=1) (l:=[]) (ys:=bs tail) own_nil (allSz_bs _) (by simp only [bs_len,maxLen,List.length_nil]; omega) (by simp only [bs_len,List.length_nil]; omega) ?_
  intro r1 s1 k1 k2
  have R1:=(RO.nil (size:=1) hwf.weak hwf.lt).app k1 k2
  have hb1:=k2.box
  rw [List.nil_append] at R1
  obtain ⟨tw,rfl⟩:=R1.sl
  simp (maxSteps:=3000000) only [go_sem,↓reduceIte,hb1,H.box]
  intro x hx
  have X0:HsI st (s1.put x [.sc (.int .u32 (S.a:Nat)),.sc (.int .u32 (S.b:Nat)),.sc (.int .u32 (S.c:Nat)),.sc (.int .u32 (S.d:Nat)),.sl tw (bs tail),.sc (.int .u64 (T.length:Nat)),.sc (.bool true)]) x T :=
    ⟨S,tail,_,⟨put_box_same,R1.put (by have:=R1.weak.sz; omega),by have:=R1.weak.sz; omega,by simp only [put_sz]; omega⟩,hq,htl⟩
  generalize s1.put x [.sc (.int .u32 (S.a:Nat)),.sc (.int .u32 (S.b:Nat)),.sc (.int .u32 (S.c:Nat)),.sc (.int .u32 (S.d:Nat)),.sl tw (bs tail),.sc (.int .u64 (T.length:Nat)),.sc (.bool true)]=s2 at X0 ⊢
  have hz:IsB [128]:=by intro y hy; simp only [List.mem_singleton] at hy; omega
  have hz0:∀ k,IsB (List.replicate k 0):=fun k y hy=>by rw [List.eq_of_mem_replicate hy]; omega
  refine Bo.own (by simp [allLen,V.cells]) ?_
  intro g hg
  have X1:=X0.tn ((Tn.refl (bx:=[]) X0.lt').use (m:=1) hg X0.lt')
  have hz1:IsB [0]:=by intro y hy; simp only [List.mem_singleton] at hy; omega
  have e1:[V.sc (Value.int .u8 128)]=bs [128]:=rfl
  have e0:[V.sc (Value.int .u8 0)]=bs [0]:=rfl
  have m1:[V.sc (Value.int .u8 128)].length=1:=rfl
  have m0:[V.sc (Value.int .u8 0)].length=1:=rfl
  rw [m1]
  generalize s2.use g 1=s3 at X1 ⊢
  simp (maxSteps:=3000000) only [go_sem,↓reduceIte]
  rw [e1]
  refine Cal.mk (md5Write1_v X1 hT hz (by simp only [List.length_cons,List.length_nil]; omega)) ?_
  rintro _ s4 ⟨rfl,X4⟩ -
  simp (maxSteps:=3000000) only [go_sem]
  obtain ⟨z,hzz⟩:∃ z,(119 - T.length % 64) % 64=z:=⟨_,rfl⟩
  refine run_loop [33,34,35,36,37,39,40] (fun B s=>∃ k:Nat,k≤z∧HsI st s x (T ++ 128 :: List.replicate k 0)) (fun B s=>match s.box x with | some [_,_,_,_,.sl _ l,_,_]=>(120 - l.length) % 64 | _=>0) rfl ?_ ?_
  · exact ⟨0,Nat.zero_le _,X4⟩
  · rintro B s ⟨k,hk,X⟩
    have hTk:IsB (T ++ 128 :: List.replicate k 0):=hT.append (by intro y hy; rcases List.mem_cons.1 hy with rfl | hy; exact ⟨by omega,by omega⟩; exact hz0 k y hy)
    have hlk:(T ++ 128 :: List.replicate k 0).length=T.length + 1 + k:=by simp only [List.length_append,List.length_cons,List.length_replicate]; omega
    obtain ⟨S5,tl5,tail5,n5,b5,t5,f5⟩:=X.left
    rw [hlk] at t5 f5
    by_cases c:k=z
    · have c1:decide (¬ ((tail5.length:Nat):Int)=56)=false:=decide_eq_false (by omega)
      have hbh:s.box h=some [.sc (.int .u32 (S.a:Nat)),.sc (.int .u32 (S.b:Nat)),.sc (.int .u32 (S.c:Nat)),.sc (.int .u32 (S.d:Nat)),.sl tv (bs tail),.sc (.int .u64 (T.length:Nat)),.sc (.bool true)]:=by
        obtain ⟨_,_,_,X',_⟩:=X
        exact (X'.row.weak.box h _ H.box).1
      have c2:(8 * (T.length:Nat):Int) % 18446744073709551616=((8 * T.length:Nat):Int):=by omega
      obtain ⟨P,hP⟩:∃ P,T ++ 128 :: List.replicate k 0=P:=⟨_,rfl⟩
      rw [hP] at X hTk hlk
      have hpad:P ++ leL (8 * T.length) 8=padM T:=by
        rw [← hP,c,← hzz]; unfold padM; simp
      obtain ⟨N,hN⟩:∃ N,8 * T.length=N:=⟨_,rfl⟩
      rw [hN] at c2 hpad
      have hPl:P.length≤950000:=by omega
      simp (maxSteps:=3000000) only [go_sem,↓reduceIte,b5,bs_len,c1,hbh,c2]
      refine run_loop [5,46,47,52,53,54,55,56,57] (fun D s=>∃ i:Nat,i≤8∧D 46=.sc (.int .i64 i)∧HsI st s x (P ++ (leL N 8).take i)) (fun D _=>8 - vnat (D 46)) rfl ?_ ?_
      · exact ⟨0,by omega,by first | (simp (maxSteps:=3000000) only [go_sem,↓reduceIte]; done) | (simp (maxSteps:=3000000) only [go_sem,↓reduceIte]; rfl),by simpa using X⟩
      · rintro D s6 ⟨i,hi,h46,X6⟩
        have hTi:IsB (P ++ (leL N 8).take i):=hTk.append (leL_isB.take i)
        have hli:(P ++ (leL N 8).take i).length=P.length + i:=by rw [List.length_append,List.length_take,leL_len]; omega
        by_cases ci:i < 8
        · have c3:decide ((i:Int) < 8)=true:=decide_eq_true (by omega)
          have hgi:=leL_get (n:=N) ci
          have c4:(if 8 * i≤64 then 8 * i else 64)=8 * i:=if_pos (by omega)
          have c5:((8:Int) * (i:Int)).toNat=8 * i:=by omega
          have c6:(N:Int) / 2 ^ (8 * i) % 256=((N / 256 ^ i % 256:Nat):Int):=by rw [← pow_8]; simp
          have c7:(0:Int)≤8 * (i:Int):=by omega
          simp (maxSteps:=3000000) only [go_sem,↓reduceIte,h46,c3,c4,c5,c6,c7]
          repeat (apply And.intro; focus (first | omega | (simp; done)))
          refine Bo.own (by simp [allLen,V.cells]) ?_
          intro g3 hg3
          have X7:=X6.tn ((Tn.refl (bx:=[]) X6.lt').use (m:=1) hg3 X6.lt')
          have m2:[V.sc (Value.int .u8 ((N / 256 ^ i % 256:Nat):Int))].length=1:=rfl
          rw [m2]
          generalize s6.use g3 1=s7 at X7 ⊢
          obtain ⟨y,hy⟩:∃ y:Nat,N / 256 ^ i % 256=y:=⟨_,rfl⟩
          have hyl:y < 256:=by rw [← hy]; exact Nat.mod_lt _ (by decide)
          rw [hy] at hgi ⊢
          simp (maxSteps:=3000000) only [go_sem,↓reduceIte]
          rw [show [V.sc (Value.int .u8 (y:Int))]=bs [(y:Int)] from rfl]
          refine Cal.mk (md5Write1_v X7 hTi (by intro q hq; simp only [List.mem_singleton] at hq; omega) (by rw [hli]; simp only [List.length_cons,List.length_nil]; omega)) ?_
          rintro _ s8 ⟨rfl,X8⟩ -
          rw [List.append_assoc,← take_snoc' hgi] at X8
          simp (maxSteps:=3000000) only [go_sem,↓reduceIte,h46]
          repeat (apply And.intro; focus (first | omega | (simp; done)))
          exact ⟨⟨i + 1,by omega,by simp,X8⟩,by omega⟩
        · obtain rfl:i=8:=by omega
          have c3:decide (((8:Nat):Int) < 8)=false:=decide_eq_false (by omega)
          rw [List.take_of_length_le (by rw [leL_len]; omega),hpad] at X6
          have hpl:(padM T).length % 64=0:=padM_len
          obtain ⟨S8,tl8,tail8,n8,b8,t8,f8⟩:=X6.left
          have f9:=f8 hpl
          simp (maxSteps:=3000000) only [go_sem,↓reduceIte,h46,c3]
          intro d hd
          have hxd:x ≠ d:=by obtain ⟨_,_,_,X',_⟩:=X6; have:=X'.lt; omega
          simp (maxSteps:=3000000) only [go_sem,put_box_ne hxd,b8]
          have hwd:st.weak s6∧st.sz≤d:=by obtain ⟨_,_,_,X',_⟩:=X6; exact ⟨X'.row.weak,by have:=X'.row.weak.sz; omega⟩
          have hfin:bs (digM S8)=bs (md5M T):=by rw [f9]; rfl
          refine run_loop [7,8,9,62,63,65,66,67,70,72,75,76,77,78,79,80] (fun E s=>∃ i:Nat,i≤4∧E 62=.sc (.int .i64 i)∧s.box d=some (bs (dgC S8 (4 * i)))∧st.weak s) (fun E _=>4 - vnat (E 62)) rfl ?_ ?_
          · exact ⟨0,by omega,by first | (simp (maxSteps:=3000000) only [go_sem,↓reduceIte]; done) | (simp (maxSteps:=3000000) only [go_sem,↓reduceIte]; rfl),by rw [put_box_same,dgC_0]; rfl,weak_put hwd.1 hwd.2⟩
          · rintro E s9 ⟨i,hi4,h62,hbd,hw9⟩
            by_cases ci:i < 4
            · have c4:decide ((i:Int) < 4)=true:=decide_eq_true (by omega)
              have w1:=wds_at (S:=S8) ci
              have w2:(0:Int)≤(i:Int):=by omega
              have w3:(i:Int) < ((4:Nat):Int):=by omega
              simp (maxSteps:=3000000) only [go_sem,↓reduceIte,h62,c4,w1,w2,w3]
              refine run_loop [9,66,67,70,72,75,76,77,78,79] (fun E s=>∃ k:Nat,k≤4∧E 66=.sc (.int .i64 k)∧s.box d=some (bs (dgC S8 (4 * i + k)))∧st.weak s) (fun E _=>4 - vnat (E 66)) rfl ?_ ?_
              · exact ⟨0,by omega,by first | (simp (maxSteps:=3000000) only [go_sem,↓reduceIte]; done) | (simp (maxSteps:=3000000) only [go_sem,↓reduceIte]; rfl),hbd,hw9⟩
              · rintro E2 s10 ⟨k2,hk4,h66,hbd2,hw10⟩
                by_cases ck:k2 < 4
                · have c5:decide ((k2:Int) < 4)=true:=decide_eq_true (by omega)
                  have g1:=digM_get (S:=S8) ci ck
                  have g2:=dgC_set (S:=S8) (show 4 * i + k2 < 16 by omega) g1
                  have g3:(4 * (i:Int) + (k2:Int)).toNat=4 * i + k2:=by omega
                  have g4:(if 8 * k2≤32 then 8 * k2 else 32)=8 * k2:=if_pos (by omega)
                  have g5:((8:Int) * (k2:Int)).toNat=8 * k2:=by omega
                  have g6:((wdM S8 i:Nat):Int) / 2 ^ (8 * k2) % 256=((wdM S8 i / 256 ^ k2 % 256:Nat):Int):=by rw [← pow_8]; simp
                  have g7:(0:Int)≤8 * (k2:Int):=by omega
                  have g8:(0:Int)≤4 * (i:Int) + (k2:Int):=by omega
                  have g9:4 * (i:Int) + (k2:Int) < ((16:Nat):Int):=by omega
                  have g10:4 * i + k2 + 1≤16:=by omega
                  have g11:=dgC_len (S:=S8) (j:=4 * i + k2) (by omega)
                  simp (maxSteps:=3000000) only [go_sem,↓reduceIte,h66,c5,hbd2,bs_len,g11,g2,g3,g4,g5,g6,g7,g8,g9,g10]
                  repeat (apply And.intro; focus (first | omega | (simp; done)))
                  exact ⟨⟨k2 + 1,by omega,by simp,by rw [show 4 * i + (k2 + 1)=4 * i + k2 + 1 by omega],weak_put hw10 hwd.2⟩,by omega⟩
                · obtain rfl:k2=4:=by omega
                  have c5:decide (((4:Nat):Int) < 4)=false:=decide_eq_false (by omega)
                  simp (maxSteps:=3000000) only [go_sem,↓reduceIte,h62,h66,c5]
                  repeat (apply And.intro; focus (first | omega | (simp; done)))
                  exact ⟨⟨i + 1,by omega,by simp,by rw [hbd2]; rfl,hw10⟩,by omega⟩
            · obtain rfl:i=4:=by omega
              have c4:decide (((4:Nat):Int) < 4)=false:=decide_eq_false (by omega)
              rw [show 4 * 4=16 from rfl,dgC_16,hfin] at hbd
              have q1:(md5M T).length=16:=md5M_len
              have q2:List.take 16 (bs (md5M T))=bs (md5M T):=List.take_of_length_le (by rw [bs_len,q1]; omega)
              have q3:(16:Nat)≤16:=Nat.le_refl _
              simp (maxSteps:=3000000) only [go_sem,↓reduceIte,h62,c4,hbd,bs_len,q1,q2,q3]
              exact ⟨_,_,Wk.refl _,hw9,rfl,rfl⟩
    · have c1:decide (¬ ((tail5.length:Nat):Int)=56)=true:=decide_eq_true (by omega)
      simp (maxSteps:=3000000) only [go_sem,↓reduceIte,b5,bs_len,c1]
      refine Bo.own (by simp [allLen,V.cells]) ?_
      intro g2 hg2
      have X2:=X.tn ((Tn.refl (bx:=[]) X.lt').use (m:=1) hg2 X.lt')
      rw [m0]
      generalize s.use g2 1=s5 at X2 ⊢
      simp (maxSteps:=3000000) only [go_sem,↓reduceIte]
      rw [e0]
      refine Cal.mk (md5Write1_v X2 hTk hz1 (by rw [hlk]; simp only [List.length_cons,List.length_nil]; omega)) ?_
      rintro _ s6 ⟨rfl,X6⟩ -
      have hap:T ++ 128 :: List.replicate k 0 ++ [0]=T ++ 128 :: List.replicate (k + 1) 0:=by rw [List.replicate_succ']; simp
      rw [hap] at X6
      obtain ⟨S7,tl7,tail7,n7,b7,t7,f7⟩:=X6.left
      have hl7:(T ++ 128 :: List.replicate (k + 1) 0).length=T.length + 1 + k + 1:=by simp only [List.length_append,List.length_cons,List.length_replicate]; omega
      rw [hl7] at t7
      simp (maxSteps:=3000000) only [go_sem,b7,bs_len]
      refine ⟨⟨k + 1,by omega,X6⟩,?_⟩
      rw [t5,t7]
      exact pad_step (by omega)
def pcs (l:List (List Int)):List V:=l.map fun L=>.sl .no (bs L)
theorem pcs_len {l:List (List Int)}:(pcs l).length=l.length:=by simp [pcs]
set_option maxRecDepth 100000 in
set_option maxHeartbeats 2000000 in
theorem md5Of_v {l:List (List Int)} {vs:List V} (hvs:∀ (i:Nat) (L:List Int),l[i]?=some L→∃ tk,vs[i]?=some (.sl tk (bs L))) (hvl:vs.length=l.length) (hB:∀ L ∈ l,IsB L) (hl:l.flatten.length≤900000) (hn:l.length≤100) (h0:0 < l.length):VCalls Tryz.prog 224 [.sl tk vs] st fun r s=>r=.agg (bs (md5M l.flatten))∧st=s:=by
  refine vcalls_enterq pc224 (Nat.le_of_ble_eq_true rfl) rfl fun hwf hok=>?_
  show Run _ Pc224.body (.fin (finP Pc224.res _)) _ _
  unfold Pc224 zo
  simp (maxSteps:=3000000) only [go_sem,↓reduceIte,hvl]
  intro h hh
  have H0:Hs0 st (st.put h [.sc (.int .u32 0),.sc (.int .u32 0),.sc (.int .u32 0),.sc (.int .u32 0),.sl .nil [],.sc (.int .u64 0),.sc (.bool false)]) h:=⟨put_box_same,(RO.nil hwf.weak hwf.lt).put hh,hh,by simp only [put_sz]; omega⟩
  generalize st.put h [.sc (.int .u32 0),.sc (.int .u32 0),.sc (.int .u32 0),.sc (.int .u32 0),.sl .nil [],.sc (.int .u64 0),.sc (.bool false)]=s1 at H0 ⊢
  have ht:∀ i,(l.take i).flatten.length≤l.flatten.length∧IsB (l.take i).flatten:=fun i=>by
    refine ⟨?_,fun x hx=>?_⟩
    · have:l.flatten=(l.take i).flatten ++ (l.drop i).flatten:=by rw [← List.flatten_append,List.take_append_drop]
      rw [this,List.length_append]; omega
    · obtain ⟨L,hL,hxL⟩:=List.mem_flatten.1 hx
      exact hB L (List.mem_of_mem_take hL) x hxL
  refine run_loop [5,10,11,12,13,16,17] (fun B s=>∃ i:Nat,i≤l.length∧B 10=.sc (.int .i64 i)∧((i=0∧Hs0 st s h) ∨ (0 < i∧HsI st s h (l.take i).flatten))) (fun B _=>l.length - vnat (B 10)) rfl ?_ ?_
  · exact ⟨0,by omega,by first | (simp (maxSteps:=3000000) only [go_sem,↓reduceIte]; done) | (simp (maxSteps:=3000000) only [go_sem,↓reduceIte]; rfl),.inl ⟨rfl,H0⟩⟩
  · rintro B s ⟨i,hi,h10,hH⟩
    by_cases c:i < l.length
    · have c1:decide ((i:Int) < (l.length:Int))=true:=decide_eq_true (by omega)
      have hgi:=List.getElem?_eq_getElem c
      obtain ⟨ti,hvi⟩:=hvs i _ hgi
      have hBi:=hB _ (List.getElem_mem c)
      obtain ⟨L,hL⟩:∃ L,l[i]=L:=⟨_,rfl⟩
      rw [hL] at hgi hvi hBi
      have hfl:(l.take (i + 1)).flatten=(l.take i).flatten ++ L:=by rw [take_snoc' hgi]; simp
      have hle:=(ht (i + 1)).1
      rw [hfl,List.length_append] at hle
      have e1:(V.sl ti (bs L)).cells.length=1:=rfl
      simp (maxSteps:=3000000) only [go_sem,↓reduceIte,h10,c1,hvi]
      repeat (apply And.intro; focus (first | omega | (simp; done)))
      have cw:VCalls Tryz.prog 232 [ptrV h,.sl ti (bs L)] s fun r s'=>r=.tup []∧HsI st s' h ((l.take i).flatten ++ L):=by
        rcases hH with ⟨rfl,hH⟩ | ⟨_,hH⟩
        · exact md5Write_v hH (.inr ⟨rfl,rfl,rfl⟩) (fun x hx=>by cases hx) hBi (by show 0 + L.length≤1000000; omega)
        · exact md5Write1_v hH (ht i).2 hBi (by omega)
      refine Cal.mk cw ?_
      rintro _ s2 ⟨rfl,X⟩ -
      rw [← hfl] at X
      simp (maxSteps:=3000000) only [go_sem,↓reduceIte,h10]
      repeat (apply And.intro; focus (first | omega | (simp; done)))
      exact ⟨⟨i + 1,by omega,by simp,.inr ⟨by omega,X⟩⟩,by omega⟩
    · have c1:decide ((i:Int) < (l.length:Int))=false:=decide_eq_false (by omega)
      obtain rfl:i=l.length:=by omega
      have hH2:HsI st s h l.flatten:=by
        rcases hH with ⟨h1,_⟩ | ⟨_,hH⟩
        · omega
        · rwa [List.take_length] at hH
      have hB2:=(ht l.length).2
      rw [List.take_length] at hB2
      have hw:st.weak s:=by obtain ⟨_,_,_,X,_⟩:=hH2; exact X.row.weak
      have q1:(md5M l.flatten).length=16:=md5M_len
      have q2:List.take 16 (bs (md5M l.flatten))=bs (md5M l.flatten):=List.take_of_length_le (by rw [bs_len,q1]; omega)
      have q3:(16:Nat)≤16:=Nat.le_refl _
      simp (maxSteps:=3000000) only [go_sem,↓reduceIte,h10]
      refine Cal.mk (md5Sum_v hH2 hB2 hl) ?_
      rintro _ _ ⟨rfl,rfl⟩ -
      simp (maxSteps:=3000000) only [go_sem,↓reduceIte,bs_len,q1,q2,q3]
      exact ⟨_,_,Wk.refl _,hw,rfl,rfl⟩
end
end
section
open Go
theorem ba_ext {a b:ByteArray} (h:a.data.toList=b.data.toList):a=b:=by
  cases a; cases b
  simp only [ByteArray.mk.injEq]
  exact Array.toList_inj.1 h
theorem foldl_push_list:∀ (L:List Int) (r:ByteArray),(L.foldl (fun r n=>r.push (UInt8.ofNat n.toNat)) r).data.toList=r.data.toList ++ L.map fun n=>UInt8.ofNat n.toNat
  | [],r=>by simp
  | x :: L,r=>by rw [List.foldl_cons,foldl_push_list L,List.map_cons]; simp [ByteArray.push]
theorem strOf_list (L:List Int):(strOf L).data.toList=L.map fun n=>UInt8.ofNat n.toNat:=by
  unfold strOf
  rw [foldl_push_list]
  rfl
theorem bytesOf_isB (s:ByteArray):IsB (bytesOf s):=by
  intro x hx
  obtain ⟨b,_,rfl⟩:=List.mem_map.1 hx
  have:=b.toNat_lt
  omega
theorem bytesOf_len (s:ByteArray):(bytesOf s).length=s.size:=by
  rw [bytesOf,List.length_map,Array.length_toList]; rfl
theorem bytesOf_strOf {L:List Int} (h:IsB L):bytesOf (strOf L)=L:=by
  unfold bytesOf
  rw [strOf_list,List.map_map]
  refine (List.map_congr_left fun x hx=>?_).trans (List.map_id _)
  obtain ⟨h0,h1⟩:=h x hx
  simp only [Function.comp,id_eq]
  rw [UInt8.toNat_ofNat']
  omega
theorem strOf_bytesOf (s:ByteArray):strOf (bytesOf s)=s:=ba_ext (by
  rw [strOf_list,bytesOf,List.map_map]
  refine (List.map_congr_left fun x _=>?_).trans (List.map_id _)
  simp [Function.comp])
theorem strOf_inj {L M:List Int} (h:IsB L) (k:IsB M):strOf L=strOf M ↔ L=M :=
  ⟨fun e=>by rw [← bytesOf_strOf h,← bytesOf_strOf k,e],fun e=>by rw [e]⟩
theorem byL_bs (s:ByteArray):byL s=bs (bytesOf s):=rfl
def ss (LL:List (List Int)):List V:=LL.map fun L=>.sc (.string (strOf L))
end
section
open Go
def fsmT:List (List (Int × Int)):=[[(2,0),(6,80),(2,0),(3,0),(4,0),(5,0),(6,0),(7,0),(8,0),(9,0)],
  [(0,0),(1,0),(0,0),(1,4),(0,0),(1,0),(1,0),(1,0),(1,0),(1,2)],
  [(1,4),(1,0),(6,80),(3,0),(5,0),(5,0),(6,0),(7,0),(8,0),(9,0)],
  [(0,0),(0,8),(2,0),(2,0),(4,0),(4,0),(4,528),(4,528),(4,528),(4,530)],
  [(0,0),(1,0),(2,0),(3,0),(4,512),(5,512),(6,64),(6,64),(8,64),(9,0)],
  [(0,0),(1,0),(2,0),(3,0),(2,8),(3,8),(3,8),(3,8),(3,8),(9,0)],
  [(0,0),(1,0),(2,1024),(8,208),(4,0),(5,0),(8,128),(9,129),(8,128),(8,194)],
  [(0,0),(1,0),(2,1024),(6,336),(4,0),(5,0),(6,256),(7,256),(6,256),(6,322)],
  [(0,0),(1,0),(2,1024),(3,1024),(4,0),(5,0),(7,16),(6,64),(9,17),(6,66)],
  [(0,0),(1,0),(2,1024),(3,1024),(4,0),(5,0),(6,80),(6,64),(8,80),(6,66)],
  [(0,0),(1,0),(2,1024),(3,1024),(4,1024),(5,1024),(6,1024),(6,1024),(6,1024),(5,1058)],
  [(0,0),(1,0),(2,0),(3,0),(2,8),(3,8),(6,0),(6,0),(8,0),(6,66)],
  [(0,0),(1,0),(2,2048),(3,2048),(4,2048),(5,2048),(6,2048),(7,2048),(8,2048),(9,2048)],
  [(0,0),(1,0),(2,0),(3,0),(4,0),(5,0),(6,0),(6,0),(8,0),(9,0)],
  [(0,0),(1,0),(2,8),(3,8),(2,8),(3,8),(3,8),(3,8),(3,8),(5,530)],
  [(0,0),(1,0),(2,0),(3,0),(4,0),(5,0),(6,0),(7,0),(8,0),(9,4096)]]
def fsmR (e:Nat):List (Int × Int):=(fsmT[e]?).getD []
def cellsF (l:List (Int × Int)):List V:=l.flatMap fun p=>[.sc (.int .i64 p.1),.sc (.int .u16 p.2)]
def stepF (s e:Int):Int × Int:=if s < 0 ∨ 9 < s ∨ e < 0 ∨ 15 < e then (s,0) else ((fsmR e.toNat)[s.toNat]?).getD (s,0)
section
variable {st:St}
theorem fsmNo_v {s:Int}:VCalls Tryz.prog 229 [.sc (.int .i64 s)] st fun r s'=>r=.agg [.sc (.int .i64 s),.sc (.int .u16 0)]∧st=s':=by
  refine vcalls_enter vc229 (Nat.le_of_ble_eq_true rfl) fun hwf hok=>?_
  show Run _ Vc229.body (.fin (finQ Vc229.res _)) _ _
  unfold Vc229 zn zo
  simp (maxSteps:=3000000) only [go_sem,↓reduceIte]
  intro b hb
  exact ⟨_,_,Wk.refl _,weak_put hwf.weak hb,rfl,rfl⟩
set_option maxRecDepth 100000 in
theorem fsmRow_v {a0 b0 a1 b1 a2 b2 a3 b3 a4 b4 a5 b5 a6 b6 a7 b7:Int}:VCalls Tryz.prog 230 [.agg [.sc (.int .i64 a0),.sc (.int .u16 b0),.sc (.int .i64 a1),.sc (.int .u16 b1),.sc (.int .i64 a2),.sc (.int .u16 b2),.sc (.int .i64 a3),.sc (.int .u16 b3),.sc (.int .i64 a4),.sc (.int .u16 b4),.sc (.int .i64 a5),.sc (.int .u16 b5),.sc (.int .i64 a6),.sc (.int .u16 b6),.sc (.int .i64 a7),.sc (.int .u16 b7)]] st fun r s'=>r=.agg [.sc (.int .i64 0),.sc (.int .u16 0),.sc (.int .i64 1),.sc (.int .u16 0),.sc (.int .i64 a0),.sc (.int .u16 b0),.sc (.int .i64 a1),.sc (.int .u16 b1),.sc (.int .i64 a2),.sc (.int .u16 b2),.sc (.int .i64 a3),.sc (.int .u16 b3),.sc (.int .i64 a4),.sc (.int .u16 b4),.sc (.int .i64 a5),.sc (.int .u16 b5),.sc (.int .i64 a6),.sc (.int .u16 b6),.sc (.int .i64 a7),.sc (.int .u16 b7)]∧st=s':=by
  refine vcalls_enter vc230 (Nat.le_of_ble_eq_true rfl) fun hwf hok=>?_
  show Run _ Vc230.body (.fin (finQ Vc230.res _)) _ _
  unfold Vc230 zn zo
  simp (maxSteps:=3000000) only [go_sem]
  intro b hb c hc
  have c1:b < c:=by omega
  have c2:st.sz≤c:=by omega
  clear hc
  refine Cal.mk fsmNo_v ?_
  rintro _ _ ⟨rfl,rfl⟩ -
  simp (maxSteps:=3000000) only [go_sem]
  refine Cal.mk fsmNo_v ?_
  rintro _ _ ⟨rfl,rfl⟩ -
  simp (maxSteps:=3000000) only [go_sem,↓reduceIte]
  intro d hd
  have d1:b < d:=by omega
  have d2:c < d:=by omega
  have d3:st.sz≤d:=by omega
  clear hd
  have i1:(2:Int) < ((10:Nat):Int):=by decide
  have i2:(0:Int) < ((8:Nat):Int):=by decide
  simp (maxSteps:=3000000) only [go_sem,↓reduceIte,i1,put_box_ne (Nat.ne_of_lt c1),put_box_ne (Nat.ne_of_lt d1),put_box_ne (Nat.ne_of_lt d2)]
  exact ⟨_,_,Wk.refl _,weak_put (weak_put (weak_put (weak_put hwf.weak hb) c2) d3) c2,rfl,rfl⟩
set_option maxRecDepth 100000 in
theorem fsm0_v:VCalls Tryz.prog 216 [.sc (.int .i64 0)] st fun r s'=>r=.agg [.sc (.int .i64 2),.sc (.int .u16 0),.sc (.int .i64 6),.sc (.int .u16 80),.sc (.int .i64 2),.sc (.int .u16 0),.sc (.int .i64 3),.sc (.int .u16 0),.sc (.int .i64 4),.sc (.int .u16 0),.sc (.int .i64 5),.sc (.int .u16 0),.sc (.int .i64 6),.sc (.int .u16 0),.sc (.int .i64 7),.sc (.int .u16 0),.sc (.int .i64 8),.sc (.int .u16 0),.sc (.int .i64 9),.sc (.int .u16 0)]∧st=s':=by
  refine vcalls_enter vc216 (Nat.le_of_ble_eq_true rfl) fun hwf hok=>?_
  show Run _ Vc216.body (.fin (finQ Vc216.res _)) _ _
  unfold Vc216 zn zo
  simp (maxSteps:=3000000) only [go_sem,↓reduceIte]
  intro b hb
  repeat (refine Cal.mk fsmNo_v ?_; rintro _ _ ⟨rfl,rfl⟩ -; simp (maxSteps:=3000000) only [go_sem,↓reduceIte])
  exact ⟨_,_,Wk.refl _,by first | exact weak_put hwf.weak hb | exact weak_put (weak_put hwf.weak hb) hb,rfl,rfl⟩
set_option maxRecDepth 100000 in
theorem fsmTab0_v:VCalls Tryz.prog 199 [.sc (.int .i64 0)] st fun r s'=>r=.agg [.sc (.int .i64 2),.sc (.int .u16 0),.sc (.int .i64 6),.sc (.int .u16 80),.sc (.int .i64 2),.sc (.int .u16 0),.sc (.int .i64 3),.sc (.int .u16 0),.sc (.int .i64 4),.sc (.int .u16 0),.sc (.int .i64 5),.sc (.int .u16 0),.sc (.int .i64 6),.sc (.int .u16 0),.sc (.int .i64 7),.sc (.int .u16 0),.sc (.int .i64 8),.sc (.int .u16 0),.sc (.int .i64 9),.sc (.int .u16 0)]∧st=s':=by
  refine vcalls_enter vc199 (Nat.le_of_ble_eq_true rfl) fun hwf hok=>?_
  show Run _ Vc199.body (.fin (finQ Vc199.res _)) _ _
  unfold Vc199 zn zo
  simp (maxSteps:=3000000) only [go_sem,↓reduceIte]
  intro b hb
  try simp (maxSteps:=3000000) only [go_sem,↓reduceIte]
  refine Cal.mk fsm0_v ?_
  rintro _ _ ⟨rfl,rfl⟩ -
  simp (maxSteps:=3000000) only [go_sem,↓reduceIte]
  exact ⟨_,_,Wk.refl _,by first | exact weak_put hwf.weak hb | exact weak_put (weak_put hwf.weak hb) hb,rfl,rfl⟩
set_option maxRecDepth 100000 in
theorem fsm1_v:VCalls Tryz.prog 216 [.sc (.int .i64 1)] st fun r s'=>r=.agg [.sc (.int .i64 0),.sc (.int .u16 0),.sc (.int .i64 1),.sc (.int .u16 0),.sc (.int .i64 0),.sc (.int .u16 0),.sc (.int .i64 1),.sc (.int .u16 4),.sc (.int .i64 0),.sc (.int .u16 0),.sc (.int .i64 1),.sc (.int .u16 0),.sc (.int .i64 1),.sc (.int .u16 0),.sc (.int .i64 1),.sc (.int .u16 0),.sc (.int .i64 1),.sc (.int .u16 0),.sc (.int .i64 1),.sc (.int .u16 2)]∧st=s':=by
  refine vcalls_enter vc216 (Nat.le_of_ble_eq_true rfl) fun hwf hok=>?_
  show Run _ Vc216.body (.fin (finQ Vc216.res _)) _ _
  unfold Vc216 zn zo
  simp (maxSteps:=3000000) only [go_sem,↓reduceIte]
  intro b hb
  repeat (refine Cal.mk fsmNo_v ?_; rintro _ _ ⟨rfl,rfl⟩ -; simp (maxSteps:=3000000) only [go_sem,↓reduceIte])
  refine Cal.mk fsmRow_v ?_
  rintro _ _ ⟨rfl,rfl⟩ -
  simp (maxSteps:=3000000) only [go_sem,↓reduceIte]
  exact ⟨_,_,Wk.refl _,by first | exact weak_put hwf.weak hb | exact weak_put (weak_put hwf.weak hb) hb,rfl,rfl⟩
set_option maxRecDepth 100000 in
theorem fsmTab1_v:VCalls Tryz.prog 199 [.sc (.int .i64 1)] st fun r s'=>r=.agg [.sc (.int .i64 0),.sc (.int .u16 0),.sc (.int .i64 1),.sc (.int .u16 0),.sc (.int .i64 0),.sc (.int .u16 0),.sc (.int .i64 1),.sc (.int .u16 4),.sc (.int .i64 0),.sc (.int .u16 0),.sc (.int .i64 1),.sc (.int .u16 0),.sc (.int .i64 1),.sc (.int .u16 0),.sc (.int .i64 1),.sc (.int .u16 0),.sc (.int .i64 1),.sc (.int .u16 0),.sc (.int .i64 1),.sc (.int .u16 2)]∧st=s':=by
  refine vcalls_enter vc199 (Nat.le_of_ble_eq_true rfl) fun hwf hok=>?_
  show Run _ Vc199.body (.fin (finQ Vc199.res _)) _ _
  unfold Vc199 zn zo
  simp (maxSteps:=3000000) only [go_sem,↓reduceIte]
  intro b hb
  try simp (maxSteps:=3000000) only [go_sem,↓reduceIte]
  refine Cal.mk fsm1_v ?_
  rintro _ _ ⟨rfl,rfl⟩ -
  simp (maxSteps:=3000000) only [go_sem,↓reduceIte]
  exact ⟨_,_,Wk.refl _,by first | exact weak_put hwf.weak hb | exact weak_put (weak_put hwf.weak hb) hb,rfl,rfl⟩
set_option maxRecDepth 100000 in
theorem fsm2_v:VCalls Tryz.prog 217 [.sc (.int .i64 2)] st fun r s'=>r=.agg [.sc (.int .i64 1),.sc (.int .u16 4),.sc (.int .i64 1),.sc (.int .u16 0),.sc (.int .i64 6),.sc (.int .u16 80),.sc (.int .i64 3),.sc (.int .u16 0),.sc (.int .i64 5),.sc (.int .u16 0),.sc (.int .i64 5),.sc (.int .u16 0),.sc (.int .i64 6),.sc (.int .u16 0),.sc (.int .i64 7),.sc (.int .u16 0),.sc (.int .i64 8),.sc (.int .u16 0),.sc (.int .i64 9),.sc (.int .u16 0)]∧st=s':=by
  refine vcalls_enter vc217 (Nat.le_of_ble_eq_true rfl) fun hwf hok=>?_
  show Run _ Vc217.body (.fin (finQ Vc217.res _)) _ _
  unfold Vc217 zn zo
  simp (maxSteps:=3000000) only [go_sem,↓reduceIte]
  intro b hb
  repeat (refine Cal.mk fsmNo_v ?_; rintro _ _ ⟨rfl,rfl⟩ -; simp (maxSteps:=3000000) only [go_sem,↓reduceIte])
  exact ⟨_,_,Wk.refl _,by first | exact weak_put hwf.weak hb | exact weak_put (weak_put hwf.weak hb) hb,rfl,rfl⟩
set_option maxRecDepth 100000 in
theorem fsmTab2_v:VCalls Tryz.prog 199 [.sc (.int .i64 2)] st fun r s'=>r=.agg [.sc (.int .i64 1),.sc (.int .u16 4),.sc (.int .i64 1),.sc (.int .u16 0),.sc (.int .i64 6),.sc (.int .u16 80),.sc (.int .i64 3),.sc (.int .u16 0),.sc (.int .i64 5),.sc (.int .u16 0),.sc (.int .i64 5),.sc (.int .u16 0),.sc (.int .i64 6),.sc (.int .u16 0),.sc (.int .i64 7),.sc (.int .u16 0),.sc (.int .i64 8),.sc (.int .u16 0),.sc (.int .i64 9),.sc (.int .u16 0)]∧st=s':=by
  refine vcalls_enter vc199 (Nat.le_of_ble_eq_true rfl) fun hwf hok=>?_
  show Run _ Vc199.body (.fin (finQ Vc199.res _)) _ _
  unfold Vc199 zn zo
  simp (maxSteps:=3000000) only [go_sem,↓reduceIte]
  intro b hb
  try simp (maxSteps:=3000000) only [go_sem,↓reduceIte]
  refine Cal.mk fsm2_v ?_
  rintro _ _ ⟨rfl,rfl⟩ -
  simp (maxSteps:=3000000) only [go_sem,↓reduceIte]
  exact ⟨_,_,Wk.refl _,by first | exact weak_put hwf.weak hb | exact weak_put (weak_put hwf.weak hb) hb,rfl,rfl⟩
set_option maxRecDepth 100000 in
theorem fsm3_v:VCalls Tryz.prog 217 [.sc (.int .i64 3)] st fun r s'=>r=.agg [.sc (.int .i64 0),.sc (.int .u16 0),.sc (.int .i64 0),.sc (.int .u16 8),.sc (.int .i64 2),.sc (.int .u16 0),.sc (.int .i64 2),.sc (.int .u16 0),.sc (.int .i64 4),.sc (.int .u16 0),.sc (.int .i64 4),.sc (.int .u16 0),.sc (.int .i64 4),.sc (.int .u16 528),.sc (.int .i64 4),.sc (.int .u16 528),.sc (.int .i64 4),.sc (.int .u16 528),.sc (.int .i64 4),.sc (.int .u16 530)]∧st=s':=by
  refine vcalls_enter vc217 (Nat.le_of_ble_eq_true rfl) fun hwf hok=>?_
  show Run _ Vc217.body (.fin (finQ Vc217.res _)) _ _
  unfold Vc217 zn zo
  simp (maxSteps:=3000000) only [go_sem,↓reduceIte]
  intro b hb
  repeat (refine Cal.mk fsmNo_v ?_; rintro _ _ ⟨rfl,rfl⟩ -; simp (maxSteps:=3000000) only [go_sem,↓reduceIte])
  exact ⟨_,_,Wk.refl _,by first | exact weak_put hwf.weak hb | exact weak_put (weak_put hwf.weak hb) hb,rfl,rfl⟩
set_option maxRecDepth 100000 in
theorem fsmTab3_v:VCalls Tryz.prog 199 [.sc (.int .i64 3)] st fun r s'=>r=.agg [.sc (.int .i64 0),.sc (.int .u16 0),.sc (.int .i64 0),.sc (.int .u16 8),.sc (.int .i64 2),.sc (.int .u16 0),.sc (.int .i64 2),.sc (.int .u16 0),.sc (.int .i64 4),.sc (.int .u16 0),.sc (.int .i64 4),.sc (.int .u16 0),.sc (.int .i64 4),.sc (.int .u16 528),.sc (.int .i64 4),.sc (.int .u16 528),.sc (.int .i64 4),.sc (.int .u16 528),.sc (.int .i64 4),.sc (.int .u16 530)]∧st=s':=by
  refine vcalls_enter vc199 (Nat.le_of_ble_eq_true rfl) fun hwf hok=>?_
  show Run _ Vc199.body (.fin (finQ Vc199.res _)) _ _
  unfold Vc199 zn zo
  simp (maxSteps:=3000000) only [go_sem,↓reduceIte]
  intro b hb
  try simp (maxSteps:=3000000) only [go_sem,↓reduceIte]
  refine Cal.mk fsm3_v ?_
  rintro _ _ ⟨rfl,rfl⟩ -
  simp (maxSteps:=3000000) only [go_sem,↓reduceIte]
  exact ⟨_,_,Wk.refl _,by first | exact weak_put hwf.weak hb | exact weak_put (weak_put hwf.weak hb) hb,rfl,rfl⟩
set_option maxRecDepth 100000 in
theorem fsm4_v:VCalls Tryz.prog 218 [.sc (.int .i64 4)] st fun r s'=>r=.agg [.sc (.int .i64 0),.sc (.int .u16 0),.sc (.int .i64 1),.sc (.int .u16 0),.sc (.int .i64 2),.sc (.int .u16 0),.sc (.int .i64 3),.sc (.int .u16 0),.sc (.int .i64 4),.sc (.int .u16 512),.sc (.int .i64 5),.sc (.int .u16 512),.sc (.int .i64 6),.sc (.int .u16 64),.sc (.int .i64 6),.sc (.int .u16 64),.sc (.int .i64 8),.sc (.int .u16 64),.sc (.int .i64 9),.sc (.int .u16 0)]∧st=s':=by
  refine vcalls_enter vc218 (Nat.le_of_ble_eq_true rfl) fun hwf hok=>?_
  show Run _ Vc218.body (.fin (finQ Vc218.res _)) _ _
  unfold Vc218 zn zo
  simp (maxSteps:=3000000) only [go_sem,↓reduceIte]
  intro b hb
  repeat (refine Cal.mk fsmNo_v ?_; rintro _ _ ⟨rfl,rfl⟩ -; simp (maxSteps:=3000000) only [go_sem,↓reduceIte])
  refine Cal.mk fsmRow_v ?_
  rintro _ _ ⟨rfl,rfl⟩ -
  simp (maxSteps:=3000000) only [go_sem,↓reduceIte]
  exact ⟨_,_,Wk.refl _,by first | exact weak_put hwf.weak hb | exact weak_put (weak_put hwf.weak hb) hb,rfl,rfl⟩
set_option maxRecDepth 100000 in
theorem fsmTab4_v:VCalls Tryz.prog 199 [.sc (.int .i64 4)] st fun r s'=>r=.agg [.sc (.int .i64 0),.sc (.int .u16 0),.sc (.int .i64 1),.sc (.int .u16 0),.sc (.int .i64 2),.sc (.int .u16 0),.sc (.int .i64 3),.sc (.int .u16 0),.sc (.int .i64 4),.sc (.int .u16 512),.sc (.int .i64 5),.sc (.int .u16 512),.sc (.int .i64 6),.sc (.int .u16 64),.sc (.int .i64 6),.sc (.int .u16 64),.sc (.int .i64 8),.sc (.int .u16 64),.sc (.int .i64 9),.sc (.int .u16 0)]∧st=s':=by
  refine vcalls_enter vc199 (Nat.le_of_ble_eq_true rfl) fun hwf hok=>?_
  show Run _ Vc199.body (.fin (finQ Vc199.res _)) _ _
  unfold Vc199 zn zo
  simp (maxSteps:=3000000) only [go_sem,↓reduceIte]
  intro b hb
  try simp (maxSteps:=3000000) only [go_sem,↓reduceIte]
  refine Cal.mk fsm4_v ?_
  rintro _ _ ⟨rfl,rfl⟩ -
  simp (maxSteps:=3000000) only [go_sem,↓reduceIte]
  exact ⟨_,_,Wk.refl _,by first | exact weak_put hwf.weak hb | exact weak_put (weak_put hwf.weak hb) hb,rfl,rfl⟩
set_option maxRecDepth 100000 in
theorem fsm5_v:VCalls Tryz.prog 218 [.sc (.int .i64 5)] st fun r s'=>r=.agg [.sc (.int .i64 0),.sc (.int .u16 0),.sc (.int .i64 1),.sc (.int .u16 0),.sc (.int .i64 2),.sc (.int .u16 0),.sc (.int .i64 3),.sc (.int .u16 0),.sc (.int .i64 2),.sc (.int .u16 8),.sc (.int .i64 3),.sc (.int .u16 8),.sc (.int .i64 3),.sc (.int .u16 8),.sc (.int .i64 3),.sc (.int .u16 8),.sc (.int .i64 3),.sc (.int .u16 8),.sc (.int .i64 9),.sc (.int .u16 0)]∧st=s':=by
  refine vcalls_enter vc218 (Nat.le_of_ble_eq_true rfl) fun hwf hok=>?_
  show Run _ Vc218.body (.fin (finQ Vc218.res _)) _ _
  unfold Vc218 zn zo
  simp (maxSteps:=3000000) only [go_sem,↓reduceIte]
  intro b hb
  repeat (refine Cal.mk fsmNo_v ?_; rintro _ _ ⟨rfl,rfl⟩ -; simp (maxSteps:=3000000) only [go_sem,↓reduceIte])
  refine Cal.mk fsmRow_v ?_
  rintro _ _ ⟨rfl,rfl⟩ -
  simp (maxSteps:=3000000) only [go_sem,↓reduceIte]
  exact ⟨_,_,Wk.refl _,by first | exact weak_put hwf.weak hb | exact weak_put (weak_put hwf.weak hb) hb,rfl,rfl⟩
set_option maxRecDepth 100000 in
theorem fsmTab5_v:VCalls Tryz.prog 199 [.sc (.int .i64 5)] st fun r s'=>r=.agg [.sc (.int .i64 0),.sc (.int .u16 0),.sc (.int .i64 1),.sc (.int .u16 0),.sc (.int .i64 2),.sc (.int .u16 0),.sc (.int .i64 3),.sc (.int .u16 0),.sc (.int .i64 2),.sc (.int .u16 8),.sc (.int .i64 3),.sc (.int .u16 8),.sc (.int .i64 3),.sc (.int .u16 8),.sc (.int .i64 3),.sc (.int .u16 8),.sc (.int .i64 3),.sc (.int .u16 8),.sc (.int .i64 9),.sc (.int .u16 0)]∧st=s':=by
  refine vcalls_enter vc199 (Nat.le_of_ble_eq_true rfl) fun hwf hok=>?_
  show Run _ Vc199.body (.fin (finQ Vc199.res _)) _ _
  unfold Vc199 zn zo
  simp (maxSteps:=3000000) only [go_sem,↓reduceIte]
  intro b hb
  try simp (maxSteps:=3000000) only [go_sem,↓reduceIte]
  refine Cal.mk fsm5_v ?_
  rintro _ _ ⟨rfl,rfl⟩ -
  simp (maxSteps:=3000000) only [go_sem,↓reduceIte]
  exact ⟨_,_,Wk.refl _,by first | exact weak_put hwf.weak hb | exact weak_put (weak_put hwf.weak hb) hb,rfl,rfl⟩
set_option maxRecDepth 100000 in
theorem fsm6_v:VCalls Tryz.prog 219 [.sc (.int .i64 6)] st fun r s'=>r=.agg [.sc (.int .i64 0),.sc (.int .u16 0),.sc (.int .i64 1),.sc (.int .u16 0),.sc (.int .i64 2),.sc (.int .u16 1024),.sc (.int .i64 8),.sc (.int .u16 208),.sc (.int .i64 4),.sc (.int .u16 0),.sc (.int .i64 5),.sc (.int .u16 0),.sc (.int .i64 8),.sc (.int .u16 128),.sc (.int .i64 9),.sc (.int .u16 129),.sc (.int .i64 8),.sc (.int .u16 128),.sc (.int .i64 8),.sc (.int .u16 194)]∧st=s':=by
  refine vcalls_enter vc219 (Nat.le_of_ble_eq_true rfl) fun hwf hok=>?_
  show Run _ Vc219.body (.fin (finQ Vc219.res _)) _ _
  unfold Vc219 zn zo
  simp (maxSteps:=3000000) only [go_sem,↓reduceIte]
  intro b hb
  repeat (refine Cal.mk fsmNo_v ?_; rintro _ _ ⟨rfl,rfl⟩ -; simp (maxSteps:=3000000) only [go_sem,↓reduceIte])
  refine Cal.mk fsmRow_v ?_
  rintro _ _ ⟨rfl,rfl⟩ -
  simp (maxSteps:=3000000) only [go_sem,↓reduceIte]
  exact ⟨_,_,Wk.refl _,by first | exact weak_put hwf.weak hb | exact weak_put (weak_put hwf.weak hb) hb,rfl,rfl⟩
set_option maxRecDepth 100000 in
theorem fsmTab6_v:VCalls Tryz.prog 199 [.sc (.int .i64 6)] st fun r s'=>r=.agg [.sc (.int .i64 0),.sc (.int .u16 0),.sc (.int .i64 1),.sc (.int .u16 0),.sc (.int .i64 2),.sc (.int .u16 1024),.sc (.int .i64 8),.sc (.int .u16 208),.sc (.int .i64 4),.sc (.int .u16 0),.sc (.int .i64 5),.sc (.int .u16 0),.sc (.int .i64 8),.sc (.int .u16 128),.sc (.int .i64 9),.sc (.int .u16 129),.sc (.int .i64 8),.sc (.int .u16 128),.sc (.int .i64 8),.sc (.int .u16 194)]∧st=s':=by
  refine vcalls_enter vc199 (Nat.le_of_ble_eq_true rfl) fun hwf hok=>?_
  show Run _ Vc199.body (.fin (finQ Vc199.res _)) _ _
  unfold Vc199 zn zo
  simp (maxSteps:=3000000) only [go_sem,↓reduceIte]
  intro b hb
  try simp (maxSteps:=3000000) only [go_sem,↓reduceIte]
  refine Cal.mk fsm6_v ?_
  rintro _ _ ⟨rfl,rfl⟩ -
  simp (maxSteps:=3000000) only [go_sem,↓reduceIte]
  exact ⟨_,_,Wk.refl _,by first | exact weak_put hwf.weak hb | exact weak_put (weak_put hwf.weak hb) hb,rfl,rfl⟩
set_option maxRecDepth 100000 in
theorem fsm7_v:VCalls Tryz.prog 219 [.sc (.int .i64 7)] st fun r s'=>r=.agg [.sc (.int .i64 0),.sc (.int .u16 0),.sc (.int .i64 1),.sc (.int .u16 0),.sc (.int .i64 2),.sc (.int .u16 1024),.sc (.int .i64 6),.sc (.int .u16 336),.sc (.int .i64 4),.sc (.int .u16 0),.sc (.int .i64 5),.sc (.int .u16 0),.sc (.int .i64 6),.sc (.int .u16 256),.sc (.int .i64 7),.sc (.int .u16 256),.sc (.int .i64 6),.sc (.int .u16 256),.sc (.int .i64 6),.sc (.int .u16 322)]∧st=s':=by
  refine vcalls_enter vc219 (Nat.le_of_ble_eq_true rfl) fun hwf hok=>?_
  show Run _ Vc219.body (.fin (finQ Vc219.res _)) _ _
  unfold Vc219 zn zo
  simp (maxSteps:=3000000) only [go_sem,↓reduceIte]
  intro b hb
  repeat (refine Cal.mk fsmNo_v ?_; rintro _ _ ⟨rfl,rfl⟩ -; simp (maxSteps:=3000000) only [go_sem,↓reduceIte])
  refine Cal.mk fsmRow_v ?_
  rintro _ _ ⟨rfl,rfl⟩ -
  simp (maxSteps:=3000000) only [go_sem,↓reduceIte]
  exact ⟨_,_,Wk.refl _,by first | exact weak_put hwf.weak hb | exact weak_put (weak_put hwf.weak hb) hb,rfl,rfl⟩
set_option maxRecDepth 100000 in
theorem fsmTab7_v:VCalls Tryz.prog 199 [.sc (.int .i64 7)] st fun r s'=>r=.agg [.sc (.int .i64 0),.sc (.int .u16 0),.sc (.int .i64 1),.sc (.int .u16 0),.sc (.int .i64 2),.sc (.int .u16 1024),.sc (.int .i64 6),.sc (.int .u16 336),.sc (.int .i64 4),.sc (.int .u16 0),.sc (.int .i64 5),.sc (.int .u16 0),.sc (.int .i64 6),.sc (.int .u16 256),.sc (.int .i64 7),.sc (.int .u16 256),.sc (.int .i64 6),.sc (.int .u16 256),.sc (.int .i64 6),.sc (.int .u16 322)]∧st=s':=by
  refine vcalls_enter vc199 (Nat.le_of_ble_eq_true rfl) fun hwf hok=>?_
  show Run _ Vc199.body (.fin (finQ Vc199.res _)) _ _
  unfold Vc199 zn zo
  simp (maxSteps:=3000000) only [go_sem,↓reduceIte]
  intro b hb
  try simp (maxSteps:=3000000) only [go_sem,↓reduceIte]
  refine Cal.mk fsm7_v ?_
  rintro _ _ ⟨rfl,rfl⟩ -
  simp (maxSteps:=3000000) only [go_sem,↓reduceIte]
  exact ⟨_,_,Wk.refl _,by first | exact weak_put hwf.weak hb | exact weak_put (weak_put hwf.weak hb) hb,rfl,rfl⟩
set_option maxRecDepth 100000 in
theorem fsm8_v:VCalls Tryz.prog 220 [.sc (.int .i64 8)] st fun r s'=>r=.agg [.sc (.int .i64 0),.sc (.int .u16 0),.sc (.int .i64 1),.sc (.int .u16 0),.sc (.int .i64 2),.sc (.int .u16 1024),.sc (.int .i64 3),.sc (.int .u16 1024),.sc (.int .i64 4),.sc (.int .u16 0),.sc (.int .i64 5),.sc (.int .u16 0),.sc (.int .i64 7),.sc (.int .u16 16),.sc (.int .i64 6),.sc (.int .u16 64),.sc (.int .i64 9),.sc (.int .u16 17),.sc (.int .i64 6),.sc (.int .u16 66)]∧st=s':=by
  refine vcalls_enter vc220 (Nat.le_of_ble_eq_true rfl) fun hwf hok=>?_
  show Run _ Vc220.body (.fin (finQ Vc220.res _)) _ _
  unfold Vc220 zn zo
  simp (maxSteps:=3000000) only [go_sem,↓reduceIte]
  intro b hb
  intro c hc
  have c1:b ≠ c:=by omega
  have c2:st.sz≤c:=by omega
  clear hc
  have i1:(4:Int) < ((8:Nat):Int):=by decide
  have i2:(6:Int) < ((8:Nat):Int):=by decide
  try simp (maxSteps:=3000000) only [go_sem,↓reduceIte,i1,i2,if_true,put_box_ne c1,put_box_ne c1.symm]
  repeat (refine Cal.mk fsmNo_v ?_; rintro _ _ ⟨rfl,rfl⟩ -; simp (maxSteps:=3000000) only [go_sem,↓reduceIte])
  refine Cal.mk fsmRow_v ?_
  rintro _ _ ⟨rfl,rfl⟩ -
  simp (maxSteps:=3000000) only [go_sem,↓reduceIte,put_box_ne c1]
  exact ⟨_,_,Wk.refl _,by first | exact weak_put (weak_put (weak_put hwf.weak hb) c2) hb | exact weak_put (weak_put (weak_put (weak_put hwf.weak hb) c2) c2) hb | exact weak_put (weak_put hwf.weak hb) c2,rfl,rfl⟩
set_option maxRecDepth 100000 in
theorem fsmTab8_v:VCalls Tryz.prog 199 [.sc (.int .i64 8)] st fun r s'=>r=.agg [.sc (.int .i64 0),.sc (.int .u16 0),.sc (.int .i64 1),.sc (.int .u16 0),.sc (.int .i64 2),.sc (.int .u16 1024),.sc (.int .i64 3),.sc (.int .u16 1024),.sc (.int .i64 4),.sc (.int .u16 0),.sc (.int .i64 5),.sc (.int .u16 0),.sc (.int .i64 7),.sc (.int .u16 16),.sc (.int .i64 6),.sc (.int .u16 64),.sc (.int .i64 9),.sc (.int .u16 17),.sc (.int .i64 6),.sc (.int .u16 66)]∧st=s':=by
  refine vcalls_enter vc199 (Nat.le_of_ble_eq_true rfl) fun hwf hok=>?_
  show Run _ Vc199.body (.fin (finQ Vc199.res _)) _ _
  unfold Vc199 zn zo
  simp (maxSteps:=3000000) only [go_sem,↓reduceIte]
  intro b hb
  try simp (maxSteps:=3000000) only [go_sem,↓reduceIte]
  refine Cal.mk fsm8_v ?_
  rintro _ _ ⟨rfl,rfl⟩ -
  simp (maxSteps:=3000000) only [go_sem,↓reduceIte]
  exact ⟨_,_,Wk.refl _,by first | exact weak_put hwf.weak hb | exact weak_put (weak_put hwf.weak hb) hb,rfl,rfl⟩
set_option maxRecDepth 100000 in
theorem fsm9_v:VCalls Tryz.prog 220 [.sc (.int .i64 9)] st fun r s'=>r=.agg [.sc (.int .i64 0),.sc (.int .u16 0),.sc (.int .i64 1),.sc (.int .u16 0),.sc (.int .i64 2),.sc (.int .u16 1024),.sc (.int .i64 3),.sc (.int .u16 1024),.sc (.int .i64 4),.sc (.int .u16 0),.sc (.int .i64 5),.sc (.int .u16 0),.sc (.int .i64 6),.sc (.int .u16 80),.sc (.int .i64 6),.sc (.int .u16 64),.sc (.int .i64 8),.sc (.int .u16 80),.sc (.int .i64 6),.sc (.int .u16 66)]∧st=s':=by
  refine vcalls_enter vc220 (Nat.le_of_ble_eq_true rfl) fun hwf hok=>?_
  show Run _ Vc220.body (.fin (finQ Vc220.res _)) _ _
  unfold Vc220 zn zo
  simp (maxSteps:=3000000) only [go_sem,↓reduceIte]
  intro b hb
  intro c hc
  have c1:b ≠ c:=by omega
  have c2:st.sz≤c:=by omega
  clear hc
  have i1:(4:Int) < ((8:Nat):Int):=by decide
  have i2:(6:Int) < ((8:Nat):Int):=by decide
  try simp (maxSteps:=3000000) only [go_sem,i1,i2]
  repeat (refine Cal.mk fsmNo_v ?_; rintro _ _ ⟨rfl,rfl⟩ -; simp (maxSteps:=3000000) only [go_sem,↓reduceIte])
  refine Cal.mk fsmRow_v ?_
  rintro _ _ ⟨rfl,rfl⟩ -
  simp (maxSteps:=3000000) only [go_sem,↓reduceIte,put_box_ne c1]
  exact ⟨_,_,Wk.refl _,by first | exact weak_put (weak_put (weak_put hwf.weak hb) c2) hb | exact weak_put (weak_put (weak_put (weak_put hwf.weak hb) c2) c2) hb | exact weak_put (weak_put hwf.weak hb) c2,rfl,rfl⟩
set_option maxRecDepth 100000 in
theorem fsmTab9_v:VCalls Tryz.prog 199 [.sc (.int .i64 9)] st fun r s'=>r=.agg [.sc (.int .i64 0),.sc (.int .u16 0),.sc (.int .i64 1),.sc (.int .u16 0),.sc (.int .i64 2),.sc (.int .u16 1024),.sc (.int .i64 3),.sc (.int .u16 1024),.sc (.int .i64 4),.sc (.int .u16 0),.sc (.int .i64 5),.sc (.int .u16 0),.sc (.int .i64 6),.sc (.int .u16 80),.sc (.int .i64 6),.sc (.int .u16 64),.sc (.int .i64 8),.sc (.int .u16 80),.sc (.int .i64 6),.sc (.int .u16 66)]∧st=s':=by
  refine vcalls_enter vc199 (Nat.le_of_ble_eq_true rfl) fun hwf hok=>?_
  show Run _ Vc199.body (.fin (finQ Vc199.res _)) _ _
  unfold Vc199 zn zo
  simp (maxSteps:=3000000) only [go_sem,↓reduceIte]
  intro b hb
  try simp (maxSteps:=3000000) only [go_sem,↓reduceIte]
  refine Cal.mk fsm9_v ?_
  rintro _ _ ⟨rfl,rfl⟩ -
  simp (maxSteps:=3000000) only [go_sem,↓reduceIte]
  exact ⟨_,_,Wk.refl _,by first | exact weak_put hwf.weak hb | exact weak_put (weak_put hwf.weak hb) hb,rfl,rfl⟩
set_option maxRecDepth 100000 in
theorem fsm10_v:VCalls Tryz.prog 221 [.sc (.int .i64 10)] st fun r s'=>r=.agg [.sc (.int .i64 0),.sc (.int .u16 0),.sc (.int .i64 1),.sc (.int .u16 0),.sc (.int .i64 2),.sc (.int .u16 1024),.sc (.int .i64 3),.sc (.int .u16 1024),.sc (.int .i64 4),.sc (.int .u16 1024),.sc (.int .i64 5),.sc (.int .u16 1024),.sc (.int .i64 6),.sc (.int .u16 1024),.sc (.int .i64 6),.sc (.int .u16 1024),.sc (.int .i64 6),.sc (.int .u16 1024),.sc (.int .i64 5),.sc (.int .u16 1058)]∧st=s':=by
  refine vcalls_enter vc221 (Nat.le_of_ble_eq_true rfl) fun hwf hok=>?_
  show Run _ Vc221.body (.fin (finQ Vc221.res _)) _ _
  unfold Vc221 zn zo
  simp (maxSteps:=3000000) only [go_sem,↓reduceIte]
  intro b hb
  repeat (refine Cal.mk fsmNo_v ?_; rintro _ _ ⟨rfl,rfl⟩ -; simp (maxSteps:=3000000) only [go_sem,↓reduceIte])
  refine Cal.mk fsmRow_v ?_
  rintro _ _ ⟨rfl,rfl⟩ -
  simp (maxSteps:=3000000) only [go_sem,↓reduceIte]
  exact ⟨_,_,Wk.refl _,by first | exact weak_put hwf.weak hb | exact weak_put (weak_put hwf.weak hb) hb,rfl,rfl⟩
set_option maxRecDepth 100000 in
theorem fsmTab10_v:VCalls Tryz.prog 199 [.sc (.int .i64 10)] st fun r s'=>r=.agg [.sc (.int .i64 0),.sc (.int .u16 0),.sc (.int .i64 1),.sc (.int .u16 0),.sc (.int .i64 2),.sc (.int .u16 1024),.sc (.int .i64 3),.sc (.int .u16 1024),.sc (.int .i64 4),.sc (.int .u16 1024),.sc (.int .i64 5),.sc (.int .u16 1024),.sc (.int .i64 6),.sc (.int .u16 1024),.sc (.int .i64 6),.sc (.int .u16 1024),.sc (.int .i64 6),.sc (.int .u16 1024),.sc (.int .i64 5),.sc (.int .u16 1058)]∧st=s':=by
  refine vcalls_enter vc199 (Nat.le_of_ble_eq_true rfl) fun hwf hok=>?_
  show Run _ Vc199.body (.fin (finQ Vc199.res _)) _ _
  unfold Vc199 zn zo
  simp (maxSteps:=3000000) only [go_sem,↓reduceIte]
  intro b hb
  try simp (maxSteps:=3000000) only [go_sem,↓reduceIte]
  refine Cal.mk fsm10_v ?_
  rintro _ _ ⟨rfl,rfl⟩ -
  simp (maxSteps:=3000000) only [go_sem,↓reduceIte]
  exact ⟨_,_,Wk.refl _,by first | exact weak_put hwf.weak hb | exact weak_put (weak_put hwf.weak hb) hb,rfl,rfl⟩
set_option maxRecDepth 100000 in
theorem fsm11_v:VCalls Tryz.prog 221 [.sc (.int .i64 11)] st fun r s'=>r=.agg [.sc (.int .i64 0),.sc (.int .u16 0),.sc (.int .i64 1),.sc (.int .u16 0),.sc (.int .i64 2),.sc (.int .u16 0),.sc (.int .i64 3),.sc (.int .u16 0),.sc (.int .i64 2),.sc (.int .u16 8),.sc (.int .i64 3),.sc (.int .u16 8),.sc (.int .i64 6),.sc (.int .u16 0),.sc (.int .i64 6),.sc (.int .u16 0),.sc (.int .i64 8),.sc (.int .u16 0),.sc (.int .i64 6),.sc (.int .u16 66)]∧st=s':=by
  refine vcalls_enter vc221 (Nat.le_of_ble_eq_true rfl) fun hwf hok=>?_
  show Run _ Vc221.body (.fin (finQ Vc221.res _)) _ _
  unfold Vc221 zn zo
  simp (maxSteps:=3000000) only [go_sem,↓reduceIte]
  intro b hb
  repeat (refine Cal.mk fsmNo_v ?_; rintro _ _ ⟨rfl,rfl⟩ -; simp (maxSteps:=3000000) only [go_sem,↓reduceIte])
  refine Cal.mk fsmRow_v ?_
  rintro _ _ ⟨rfl,rfl⟩ -
  simp (maxSteps:=3000000) only [go_sem,↓reduceIte]
  exact ⟨_,_,Wk.refl _,by first | exact weak_put hwf.weak hb | exact weak_put (weak_put hwf.weak hb) hb,rfl,rfl⟩
set_option maxRecDepth 100000 in
theorem fsmTab11_v:VCalls Tryz.prog 199 [.sc (.int .i64 11)] st fun r s'=>r=.agg [.sc (.int .i64 0),.sc (.int .u16 0),.sc (.int .i64 1),.sc (.int .u16 0),.sc (.int .i64 2),.sc (.int .u16 0),.sc (.int .i64 3),.sc (.int .u16 0),.sc (.int .i64 2),.sc (.int .u16 8),.sc (.int .i64 3),.sc (.int .u16 8),.sc (.int .i64 6),.sc (.int .u16 0),.sc (.int .i64 6),.sc (.int .u16 0),.sc (.int .i64 8),.sc (.int .u16 0),.sc (.int .i64 6),.sc (.int .u16 66)]∧st=s':=by
  refine vcalls_enter vc199 (Nat.le_of_ble_eq_true rfl) fun hwf hok=>?_
  show Run _ Vc199.body (.fin (finQ Vc199.res _)) _ _
  unfold Vc199 zn zo
  simp (maxSteps:=3000000) only [go_sem,↓reduceIte]
  intro b hb
  try simp (maxSteps:=3000000) only [go_sem,↓reduceIte]
  refine Cal.mk fsm11_v ?_
  rintro _ _ ⟨rfl,rfl⟩ -
  simp (maxSteps:=3000000) only [go_sem,↓reduceIte]
  exact ⟨_,_,Wk.refl _,by first | exact weak_put hwf.weak hb | exact weak_put (weak_put hwf.weak hb) hb,rfl,rfl⟩
set_option maxRecDepth 100000 in
theorem fsm12_v:VCalls Tryz.prog 222 [.sc (.int .i64 12)] st fun r s'=>r=.agg [.sc (.int .i64 0),.sc (.int .u16 0),.sc (.int .i64 1),.sc (.int .u16 0),.sc (.int .i64 2),.sc (.int .u16 2048),.sc (.int .i64 3),.sc (.int .u16 2048),.sc (.int .i64 4),.sc (.int .u16 2048),.sc (.int .i64 5),.sc (.int .u16 2048),.sc (.int .i64 6),.sc (.int .u16 2048),.sc (.int .i64 7),.sc (.int .u16 2048),.sc (.int .i64 8),.sc (.int .u16 2048),.sc (.int .i64 9),.sc (.int .u16 2048)]∧st=s':=by
  refine vcalls_enter vc222 (Nat.le_of_ble_eq_true rfl) fun hwf hok=>?_
  show Run _ Vc222.body (.fin (finQ Vc222.res _)) _ _
  unfold Vc222 zn zo
  simp (maxSteps:=3000000) only [go_sem,↓reduceIte]
  intro b hb
  repeat (refine Cal.mk fsmNo_v ?_; rintro _ _ ⟨rfl,rfl⟩ -; simp (maxSteps:=3000000) only [go_sem,↓reduceIte])
  refine Cal.mk fsmRow_v ?_
  rintro _ _ ⟨rfl,rfl⟩ -
  simp (maxSteps:=3000000) only [go_sem,↓reduceIte]
  exact ⟨_,_,Wk.refl _,by first | exact weak_put hwf.weak hb | exact weak_put (weak_put hwf.weak hb) hb,rfl,rfl⟩
set_option maxRecDepth 100000 in
theorem fsmTab12_v:VCalls Tryz.prog 199 [.sc (.int .i64 12)] st fun r s'=>r=.agg [.sc (.int .i64 0),.sc (.int .u16 0),.sc (.int .i64 1),.sc (.int .u16 0),.sc (.int .i64 2),.sc (.int .u16 2048),.sc (.int .i64 3),.sc (.int .u16 2048),.sc (.int .i64 4),.sc (.int .u16 2048),.sc (.int .i64 5),.sc (.int .u16 2048),.sc (.int .i64 6),.sc (.int .u16 2048),.sc (.int .i64 7),.sc (.int .u16 2048),.sc (.int .i64 8),.sc (.int .u16 2048),.sc (.int .i64 9),.sc (.int .u16 2048)]∧st=s':=by
  refine vcalls_enter vc199 (Nat.le_of_ble_eq_true rfl) fun hwf hok=>?_
  show Run _ Vc199.body (.fin (finQ Vc199.res _)) _ _
  unfold Vc199 zn zo
  simp (maxSteps:=3000000) only [go_sem,↓reduceIte]
  intro b hb
  try simp (maxSteps:=3000000) only [go_sem,↓reduceIte]
  refine Cal.mk fsm12_v ?_
  rintro _ _ ⟨rfl,rfl⟩ -
  simp (maxSteps:=3000000) only [go_sem,↓reduceIte]
  exact ⟨_,_,Wk.refl _,by first | exact weak_put hwf.weak hb | exact weak_put (weak_put hwf.weak hb) hb,rfl,rfl⟩
set_option maxRecDepth 100000 in
theorem fsm13_v:VCalls Tryz.prog 222 [.sc (.int .i64 13)] st fun r s'=>r=.agg [.sc (.int .i64 0),.sc (.int .u16 0),.sc (.int .i64 1),.sc (.int .u16 0),.sc (.int .i64 2),.sc (.int .u16 0),.sc (.int .i64 3),.sc (.int .u16 0),.sc (.int .i64 4),.sc (.int .u16 0),.sc (.int .i64 5),.sc (.int .u16 0),.sc (.int .i64 6),.sc (.int .u16 0),.sc (.int .i64 6),.sc (.int .u16 0),.sc (.int .i64 8),.sc (.int .u16 0),.sc (.int .i64 9),.sc (.int .u16 0)]∧st=s':=by
  refine vcalls_enter vc222 (Nat.le_of_ble_eq_true rfl) fun hwf hok=>?_
  show Run _ Vc222.body (.fin (finQ Vc222.res _)) _ _
  unfold Vc222 zn zo
  simp (maxSteps:=3000000) only [go_sem,↓reduceIte]
  intro b hb
  repeat (refine Cal.mk fsmNo_v ?_; rintro _ _ ⟨rfl,rfl⟩ -; simp (maxSteps:=3000000) only [go_sem,↓reduceIte])
  refine Cal.mk fsmRow_v ?_
  rintro _ _ ⟨rfl,rfl⟩ -
  simp (maxSteps:=3000000) only [go_sem,↓reduceIte]
  exact ⟨_,_,Wk.refl _,by first | exact weak_put hwf.weak hb | exact weak_put (weak_put hwf.weak hb) hb,rfl,rfl⟩
set_option maxRecDepth 100000 in
theorem fsmTab13_v:VCalls Tryz.prog 199 [.sc (.int .i64 13)] st fun r s'=>r=.agg [.sc (.int .i64 0),.sc (.int .u16 0),.sc (.int .i64 1),.sc (.int .u16 0),.sc (.int .i64 2),.sc (.int .u16 0),.sc (.int .i64 3),.sc (.int .u16 0),.sc (.int .i64 4),.sc (.int .u16 0),.sc (.int .i64 5),.sc (.int .u16 0),.sc (.int .i64 6),.sc (.int .u16 0),.sc (.int .i64 6),.sc (.int .u16 0),.sc (.int .i64 8),.sc (.int .u16 0),.sc (.int .i64 9),.sc (.int .u16 0)]∧st=s':=by
  refine vcalls_enter vc199 (Nat.le_of_ble_eq_true rfl) fun hwf hok=>?_
  show Run _ Vc199.body (.fin (finQ Vc199.res _)) _ _
  unfold Vc199 zn zo
  simp (maxSteps:=3000000) only [go_sem,↓reduceIte]
  intro b hb
  try simp (maxSteps:=3000000) only [go_sem,↓reduceIte]
  refine Cal.mk fsm13_v ?_
  rintro _ _ ⟨rfl,rfl⟩ -
  simp (maxSteps:=3000000) only [go_sem,↓reduceIte]
  exact ⟨_,_,Wk.refl _,by first | exact weak_put hwf.weak hb | exact weak_put (weak_put hwf.weak hb) hb,rfl,rfl⟩
set_option maxRecDepth 100000 in
theorem fsm14_v:VCalls Tryz.prog 222 [.sc (.int .i64 14)] st fun r s'=>r=.agg [.sc (.int .i64 0),.sc (.int .u16 0),.sc (.int .i64 1),.sc (.int .u16 0),.sc (.int .i64 2),.sc (.int .u16 8),.sc (.int .i64 3),.sc (.int .u16 8),.sc (.int .i64 2),.sc (.int .u16 8),.sc (.int .i64 3),.sc (.int .u16 8),.sc (.int .i64 3),.sc (.int .u16 8),.sc (.int .i64 3),.sc (.int .u16 8),.sc (.int .i64 3),.sc (.int .u16 8),.sc (.int .i64 5),.sc (.int .u16 530)]∧st=s':=by
  refine vcalls_enter vc222 (Nat.le_of_ble_eq_true rfl) fun hwf hok=>?_
  show Run _ Vc222.body (.fin (finQ Vc222.res _)) _ _
  unfold Vc222 zn zo
  simp (maxSteps:=3000000) only [go_sem,↓reduceIte]
  intro b hb
  repeat (refine Cal.mk fsmNo_v ?_; rintro _ _ ⟨rfl,rfl⟩ -; simp (maxSteps:=3000000) only [go_sem,↓reduceIte])
  refine Cal.mk fsmRow_v ?_
  rintro _ _ ⟨rfl,rfl⟩ -
  simp (maxSteps:=3000000) only [go_sem,↓reduceIte]
  exact ⟨_,_,Wk.refl _,by first | exact weak_put hwf.weak hb | exact weak_put (weak_put hwf.weak hb) hb,rfl,rfl⟩
set_option maxRecDepth 100000 in
theorem fsmTab14_v:VCalls Tryz.prog 199 [.sc (.int .i64 14)] st fun r s'=>r=.agg [.sc (.int .i64 0),.sc (.int .u16 0),.sc (.int .i64 1),.sc (.int .u16 0),.sc (.int .i64 2),.sc (.int .u16 8),.sc (.int .i64 3),.sc (.int .u16 8),.sc (.int .i64 2),.sc (.int .u16 8),.sc (.int .i64 3),.sc (.int .u16 8),.sc (.int .i64 3),.sc (.int .u16 8),.sc (.int .i64 3),.sc (.int .u16 8),.sc (.int .i64 3),.sc (.int .u16 8),.sc (.int .i64 5),.sc (.int .u16 530)]∧st=s':=by
  refine vcalls_enter vc199 (Nat.le_of_ble_eq_true rfl) fun hwf hok=>?_
  show Run _ Vc199.body (.fin (finQ Vc199.res _)) _ _
  unfold Vc199 zn zo
  simp (maxSteps:=3000000) only [go_sem,↓reduceIte]
  intro b hb
  try simp (maxSteps:=3000000) only [go_sem,↓reduceIte]
  refine Cal.mk fsm14_v ?_
  rintro _ _ ⟨rfl,rfl⟩ -
  simp (maxSteps:=3000000) only [go_sem,↓reduceIte]
  exact ⟨_,_,Wk.refl _,by first | exact weak_put hwf.weak hb | exact weak_put (weak_put hwf.weak hb) hb,rfl,rfl⟩
set_option maxRecDepth 100000 in
theorem fsm15_v:VCalls Tryz.prog 222 [.sc (.int .i64 15)] st fun r s'=>r=.agg [.sc (.int .i64 0),.sc (.int .u16 0),.sc (.int .i64 1),.sc (.int .u16 0),.sc (.int .i64 2),.sc (.int .u16 0),.sc (.int .i64 3),.sc (.int .u16 0),.sc (.int .i64 4),.sc (.int .u16 0),.sc (.int .i64 5),.sc (.int .u16 0),.sc (.int .i64 6),.sc (.int .u16 0),.sc (.int .i64 7),.sc (.int .u16 0),.sc (.int .i64 8),.sc (.int .u16 0),.sc (.int .i64 9),.sc (.int .u16 4096)]∧st=s':=by
  refine vcalls_enter vc222 (Nat.le_of_ble_eq_true rfl) fun hwf hok=>?_
  show Run _ Vc222.body (.fin (finQ Vc222.res _)) _ _
  unfold Vc222 zn zo
  simp (maxSteps:=3000000) only [go_sem,↓reduceIte]
  intro b hb
  repeat (refine Cal.mk fsmNo_v ?_; rintro _ _ ⟨rfl,rfl⟩ -; simp (maxSteps:=3000000) only [go_sem,↓reduceIte])
  refine Cal.mk fsmRow_v ?_
  rintro _ _ ⟨rfl,rfl⟩ -
  simp (maxSteps:=3000000) only [go_sem,↓reduceIte]
  exact ⟨_,_,Wk.refl _,by first | exact weak_put hwf.weak hb | exact weak_put (weak_put hwf.weak hb) hb,rfl,rfl⟩
set_option maxRecDepth 100000 in
theorem fsmTab15_v:VCalls Tryz.prog 199 [.sc (.int .i64 15)] st fun r s'=>r=.agg [.sc (.int .i64 0),.sc (.int .u16 0),.sc (.int .i64 1),.sc (.int .u16 0),.sc (.int .i64 2),.sc (.int .u16 0),.sc (.int .i64 3),.sc (.int .u16 0),.sc (.int .i64 4),.sc (.int .u16 0),.sc (.int .i64 5),.sc (.int .u16 0),.sc (.int .i64 6),.sc (.int .u16 0),.sc (.int .i64 7),.sc (.int .u16 0),.sc (.int .i64 8),.sc (.int .u16 0),.sc (.int .i64 9),.sc (.int .u16 4096)]∧st=s':=by
  refine vcalls_enter vc199 (Nat.le_of_ble_eq_true rfl) fun hwf hok=>?_
  show Run _ Vc199.body (.fin (finQ Vc199.res _)) _ _
  unfold Vc199 zn zo
  simp (maxSteps:=3000000) only [go_sem,↓reduceIte]
  intro b hb
  try simp (maxSteps:=3000000) only [go_sem,↓reduceIte]
  refine Cal.mk fsm15_v ?_
  rintro _ _ ⟨rfl,rfl⟩ -
  simp (maxSteps:=3000000) only [go_sem,↓reduceIte]
  exact ⟨_,_,Wk.refl _,by first | exact weak_put hwf.weak hb | exact weak_put (weak_put hwf.weak hb) hb,rfl,rfl⟩
end
end
section
open Go
theorem cellsF_len:∀ l:List (Int × Int),(cellsF l).length=l.length * 2
  | []=>rfl
  | p :: l=>by
    have:=cellsF_len l
    simp only [cellsF,List.flatMap_cons,List.length_append,List.length_cons,List.length_nil] at this ⊢
    omega
theorem cellsF_get:∀ {l:List (Int × Int)} {i:Nat} {p:Int × Int},l[i]?=some p→((cellsF l).drop (i * 2)).take 2=[.sc (.int .i64 p.1),.sc (.int .u16 p.2)]
  | [],i,p,h=>by simp at h
  | q :: l,0,p,h=>by
    simp only [List.getElem?_cons_zero,Option.some.injEq] at h
    subst h; rfl
  | q :: l,i + 1,p,h=>by
    rw [List.getElem?_cons_succ] at h
    have:=cellsF_get h
    have e:(i + 1) * 2=i * 2 + 2:=by omega
    rw [e]
    exact this
theorem fsmR_len:∀ e:Nat,e < 16→(fsmR e).length=10:=by decide
section
variable {st:St}
theorem fsmTable_v {e:Nat} (he:e < 16):VCalls Tryz.prog 199 [.sc (.int .i64 e)] st fun r s'=>r=.agg (cellsF (fsmR e))∧st=s':=by
  match e,he with
  | 0,_=>exact fsmTab0_v
  | 1,_=>exact fsmTab1_v
  | 2,_=>exact fsmTab2_v
  | 3,_=>exact fsmTab3_v
  | 4,_=>exact fsmTab4_v
  | 5,_=>exact fsmTab5_v
  | 6,_=>exact fsmTab6_v
  | 7,_=>exact fsmTab7_v
  | 8,_=>exact fsmTab8_v
  | 9,_=>exact fsmTab9_v
  | 10,_=>exact fsmTab10_v
  | 11,_=>exact fsmTab11_v
  | 12,_=>exact fsmTab12_v
  | 13,_=>exact fsmTab13_v
  | 14,_=>exact fsmTab14_v
  | 15,_=>exact fsmTab15_v
  | n + 16,h=>omega
set_option maxRecDepth 100000 in
theorem fsmStep_v {s e:Int}:VCalls Tryz.prog 179 [.sc (.int .i64 s),.sc (.int .i64 e)] st fun r s'=>r=.tup [.sc (.int .i64 (stepF s e).1),.sc (.int .u16 (stepF s e).2)]∧st=s':=by
  refine vcalls_enter vc179 (Nat.le_of_ble_eq_true rfl) fun hwf hok=>?_
  show Run _ Vc179.body (.fin (finQ Vc179.res _)) _ _
  unfold Vc179 zg zn zo
  by_cases c1:s < 0
  · simp (maxSteps:=3000000) only [go_sem,↓reduceIte,decide_eq_true c1]
    exact ⟨_,_,Wk.refl _,hwf.weak,by simp [stepF,c1],rfl⟩
  by_cases c2:9 < s
  · simp (maxSteps:=3000000) only [go_sem,↓reduceIte,decide_eq_false c1,decide_eq_true c2]
    exact ⟨_,_,Wk.refl _,hwf.weak,by simp [stepF,c2],rfl⟩
  by_cases c3:e < 0
  · simp (maxSteps:=3000000) only [go_sem,↓reduceIte,decide_eq_false c1,decide_eq_false c2,decide_eq_true c3]
    exact ⟨_,_,Wk.refl _,hwf.weak,by simp [stepF,c3],rfl⟩
  by_cases c4:15 < e
  · simp (maxSteps:=3000000) only [go_sem,↓reduceIte,decide_eq_false c1,decide_eq_false c2,decide_eq_false c3,decide_eq_true c4]
    exact ⟨_,_,Wk.refl _,hwf.weak,by simp [stepF,c4],rfl⟩
  obtain ⟨i,rfl⟩:∃ i:Nat,s=i:=⟨s.toNat,by omega⟩
  obtain ⟨k,rfl⟩:∃ k:Nat,e=k:=⟨e.toNat,by omega⟩
  have hl:=fsmR_len k (by omega)
  obtain ⟨p,hp⟩:∃ p,(fsmR k)[i]?=some p:=⟨_,List.getElem?_eq_getElem (by omega)⟩
  have hs:stepF (i:Int) (k:Int)=p:=by
    unfold stepF
    rw [if_neg (by omega),Int.toNat_natCast,Int.toNat_natCast,hp]; rfl
  rw [hs]
  have hg:=cellsF_get hp
  have hc:=cellsF_len (fsmR k)
  have h2:i * 2 + 2≤(cellsF (fsmR k)).length:=by omega
  have h3:(i:Int) < ((10:Nat):Int):=by omega
  have h4:(0:Int)≤(i:Int):=by omega
  simp (maxSteps:=3000000) only [go_sem,↓reduceIte,decide_eq_false c1,decide_eq_false c2,decide_eq_false c3,decide_eq_false c4]
  refine Cal.mk (fsmTable_v (by omega)) ?_
  rintro _ _ ⟨rfl,rfl⟩ -
  simp (maxSteps:=3000000) only [go_sem,↓reduceIte,hg,h2,h3,h4]
  intro b hb
  exact ⟨_,_,Wk.refl _,weak_put hwf.weak hb,rfl,rfl⟩
theorem actHas_v {a l:Int}:VCalls Tryz.prog 175 [.sc (.int .u16 a),.sc (.int .u16 l)] st fun r s'=>r=.sc (.bool (decide (¬ ibit .and .u16 a l=0)))∧st=s':=by
  refine vcalls_enter vc175 (Nat.le_of_ble_eq_true rfl) fun hwf hok=>?_
  show Run _ Vc175.body (.fin (finQ Vc175.res _)) _ _
  unfold Vc175 zo
  simp (maxSteps:=3000000) only [go_sem,↓reduceIte]
  exact ⟨_,_,Wk.refl _,hwf.weak,rfl,rfl⟩
end
end
section
section
variable {α:Type}
end
section
variable {α:Type} [Inhabited α]
variable {lt:α→α→Bool}
end
end
section
open Go
def dataV (b n cap:Nat):V:=.sc (.slice (some ⟨b,0,none⟩) n cap)
theorem put_selfR {st:St} {b:Nat} {cs:List V} (hb:st.box b=some cs) (h:b < st.sz):st.put b cs=st:=by
  cases st with
  | mk box own sz =>
    simp only [St.put,St.mk.injEq,true_and]
    simp only at hb h
    refine ⟨?_,by omega⟩
    funext i
    by_cases e:i=b
    · subst e; simp [hb]
    · simp [e]
section
variable {α:Type} [Inhabited α] {lt:α→α→Bool}
end
end
section
open Go
def hasA (a l:Int):Bool:=decide (¬ ibit .and .u16 a l=0)
def cntA (act left:Int):Int :=
  let l1:=if hasA act 16 && hasA act 512 then 2 else if hasA act 16 then 10 else if hasA act 32 then 0 else left
  if hasA act 576 then max (l1 - 1) 0 else l1
section
variable {st:St} {b:Nat} {s l t:Int} {rest:List V}
theorem actHasB_v {a l:Int}:VCalls Tryz.prog 175 [.sc (.int .u16 a),.sc (.int .u16 l)] st fun r s'=>r=.sc (.bool (hasA a l))∧st=s':=actHas_v
set_option maxRecDepth 100000 in
set_option maxHeartbeats 4000000 in
theorem autoCount_v {act:Int} (hb:st.box b=some (.sc (.int .i64 s) :: .sc (.int .i64 l) :: .sc (.int .i64 t) :: rest)) (h0:0≤l) (h1:l≤10) :
    VCalls Tryz.prog 180 [ptrV b,.sc (.int .u16 act)] st fun r s'=>r=.tup []∧s'=st.put b (.sc (.int .i64 s) :: .sc (.int .i64 (cntA act l)) :: .sc (.int .i64 t) :: rest):=by
  refine vcalls_enter vc180 (Nat.le_of_ble_eq_true rfl) fun hwf hok=>?_
  show Run _ Vc180.body (.fin (finQ Vc180.res _)) _ _
  unfold Vc180 zg zn zo
  have hlt:=hwf.lt
  have self:st.put b (.sc (.int .i64 s) :: .sc (.int .i64 l) :: .sc (.int .i64 t) :: rest)=st:=put_selfR hb (hlt.box b _ hb)
  have hA:=fun (x:Int) (s':St)=>actHasB_v (st:=s') (a:=act) (l:=x)
  cases e1:hasA act 16
  all_goals cases e2:hasA act 512
  all_goals cases e3:hasA act 32
  all_goals cases e4:hasA act 576
  all_goals
    simp (maxSteps:=3000000) only [go_sem,↓reduceIte]
    repeat (refine Cal.mk (hA _ _) ?_; rintro _ _ ⟨rfl,rfl⟩ -; simp (maxSteps:=3000000) only [go_sem,↓reduceIte,e1,e2,e3,e4,hb])
  all_goals try refine ⟨by omega,?_⟩
  all_goals first
    | exact ⟨_,_,Wk.refl _,(hlt.put (b:=b)).weak,rfl,by simp [cntA,e1,e2,e3,e4]⟩
    | exact ⟨_,_,Wk.refl _,hwf.weak,rfl,by simp [cntA,e1,e2,e3,e4]; exact self.symm⟩
def atA (act now t:Int):Int:=if hasA act 608 then now + 3 else t
set_option maxRecDepth 100000 in
set_option maxHeartbeats 4000000 in
theorem autoDo_v {now e:Int} (hb:st.box b=some (.sc (.int .i64 s) :: .sc (.int .i64 l) :: .sc (.int .i64 t) :: rest)) (h0:0≤l) (h1:l≤10) (hn:0≤now) (hn2:now≤1000000000) :
    VCalls Tryz.prog 142 [ptrV b,.sc (.int .i64 now),.sc (.int .i64 e)] st fun r s'=>r=.sc (.int .u16 (stepF s e).2)∧s'=st.put b (.sc (.int .i64 (stepF s e).1) :: .sc (.int .i64 (cntA (stepF s e).2 l)) :: .sc (.int .i64 (atA (stepF s e).2 now t)) :: rest):=by
  refine vcalls_enter vc142 (Nat.le_of_ble_eq_true rfl) fun hwf hok=>?_
  show Run _ Vc142.body (.fin (finQ Vc142.res _)) _ _
  unfold Vc142 zn zo
  have hlt:=hwf.lt
  simp (maxSteps:=3000000) only [go_sem,↓reduceIte,hb]
  refine Cal.mk fsmStep_v ?_
  rintro _ _ ⟨rfl,rfl⟩ -
  generalize stepF s e=p
  simp (maxSteps:=3000000) only [go_sem,↓reduceIte,hb]
  refine Cal.mk (autoCount_v put_box_same h0 h1) ?_
  rintro _ _ ⟨rfl,rfl⟩ -
  simp (maxSteps:=3000000) only [go_sem,↓reduceIte]
  refine Cal.mk actHasB_v ?_
  rintro _ _ ⟨rfl,rfl⟩ -
  cases e1:hasA p.2 608
  all_goals
    simp (maxSteps:=3000000) only [go_sem,↓reduceIte]
  · exact ⟨_,_,Wk.refl _,(hlt.put (b:=b)).weak,rfl,by simp [atA,e1]⟩
  · refine ⟨by omega,?_⟩
    exact ⟨_,_,Wk.refl _,(hlt.put (b:=b)).weak,rfl,by simp [atA,e1]⟩
end
end
section
open Go
structure Rul (R:Type) where
  request:R→List Opt
  judge:R→List Opt→R × Int × List Opt
  agreed:R→List Opt→R
  naked:R→List Opt→R
  rejected:R→List Opt→R × Bool
structure Neg (R:Type) where
  s:Int
  left:Int
  at_:Int
  id:Int
  req:List Int
  naks:Int
  r:R
structure Nout where
  P:List Ctl
  up:Bool
  down:Bool
  over:Bool
  deriving DecidableEq
def Nout.no:Nout:=⟨[],false,false,false⟩
def Nout.both (a b:Nout):Nout:=⟨a.P ++ b.P,a.up || b.up,a.down || b.down,a.over || b.over⟩
def buildC (p:Ctl):List Int:=p.code :: p.id :: (beL (((p.data.take 65531).length:Int) + 4) 2 ++ p.data.take 65531)
def rejC (id:Int) (p:Ctl) (most:Nat):Ctl:=⟨7,id,(buildC p).take (most - 4)⟩
section
variable {R:Type} (U:Rul R) (N:Neg R)
def Neg.step (now e:Int):Neg R:={ N with s:=(stepF N.s e).1,left:=cntA (stepF N.s e).2 N.left,at_:=atA (stepF N.s e).2 now N.at_ }
def Neg.bump:Neg R:={ N with id:=(N.id + 1) % 256 }
def Neg.asked (again:Bool):Neg R:={ N with id:=if again=true∧buildO (U.request N.r)=N.req then N.id else (N.id + 1) % 256,req:=buildO (U.request N.r) }
def Neg.d1 (act:Int) (again:Bool):Neg R × List Ctl:=if hasA act 64=true then (N.asked U again,[⟨1,(N.asked U again).id,buildO (U.request N.r)⟩]) else (N,[])
def Neg.d2 (act:Int) (back:Ctl) (P:List Ctl):List Ctl:=if hasA act 384=true then P ++ [back] else P
def Neg.d3 (act:Int) (P:List Ctl):Neg R × List Ctl:=if hasA act 512=true then (N.bump,P ++ [⟨5,N.bump.id,[]⟩]) else (N,P)
def Neg.d4 (act:Int) (p:Ctl) (P:List Ctl):List Ctl:=if hasA act 1024=true then P ++ [⟨6,p.id,[]⟩] else P
def Neg.d5 (act:Int) (p:Ctl) (P:List Ctl):Neg R × List Ctl:=if hasA act 2048=true then (N.bump,P ++ [rejC N.bump.id p 1400]) else (N,P)
def Neg.d6 (act:Int):Neg R:=if hasA act 2=true then { N with naks:=0 } else N
def Neg.done (act:Int) (again:Bool) (p back:Ctl):Neg R × Nout :=
  let a1:=N.d1 U act again
  let a3:=a1.1.d3 act (Neg.d2 act back a1.2)
  let a5:=a3.1.d5 act p (Neg.d4 act p a3.2)
  (a5.1.d6 act,⟨a5.2,hasA act 1,hasA act 2,hasA act 8⟩)
def zeroC:Ctl:=⟨0,0,[]⟩
def Neg.event (now e:Int) (p back:Ctl):Neg R × Nout:=(N.step now e).done U (stepF N.s e).2 false p back
def Neg.start (now:Int):Neg R × Nout :=
  let a:=N.event U now 0 zeroC zeroC
  let b:=a.1.event U now 2 zeroC zeroC
  (b.1,a.2.both b.2)
def Neg.close (now:Int):Neg R × Nout:=N.event U now 3 zeroC zeroC
def Neg.cut (now:Int):Neg R × Nout:=N.event U now 1 zeroC zeroC
def theirsO (l like:List Opt):List Opt:=l.filter fun o=>(findO like o.1).isSome
def Neg.judge (p:Ctl) (l:List Opt):Neg R × Ctl × Bool :=
  let j:=U.judge N.r l
  let n1:=if j.2.1=3 then N.naks + 1 else N.naks
  let ov:Bool:=decide (j.2.1=3∧5 < n1)
  let code:=if ov=true then 4 else j.2.1
  let out:=if ov=true then theirsO l j.2.2 else j.2.2
  ({ N with r:=j.1,naks:=if code=2 then 0 else n1 },⟨code,p.id,buildO out⟩,decide (code=2))
def Neg.request (now:Int) (p:Ctl):Neg R × Nout :=
  let l:=parseO p.data
  if l.2 ≠ 0 then (N,.no)
  else if N.s=4 ∨ N.s=5 ∨ N.s < 3 then N.event U now 6 p zeroC
  else
    let j:=N.judge U p l.1
    if j.2.2=false then j.1.event U now 7 p j.2.1
    else Neg.event U { j.1 with r:=U.agreed j.1.r l.1 } now 6 p j.2.1
def Neg.answered (now:Int) (p:Ctl):Neg R × Nout :=
  let l:=parseO p.data
  if l.2 ≠ 0 ∨ p.id ≠ N.id ∨ p.code=2∧p.data ≠ N.req then (N,.no)
  else if p.code=2 then N.event U now 8 p zeroC
  else if p.code=3 then Neg.event U { N with r:=U.naked N.r l.1 } now 9 p zeroC
  else
    let x:=U.rejected N.r l.1
    if x.2=false then Neg.close U { N with r:=x.1 } now
    else Neg.event U { N with r:=x.1 } now 9 p zeroC
def evOf (p:Ctl):Int :=
  if p.code=5 then 10 else if p.code=6 then 11 else if p.code=7∧0 < p.data.length∧p.data.getD 0 0≤7 then 14 else if p.code=7 ∨ p.code=8 then 13 else 15
def Neg.take (codes now:Int) (p:Ctl):Neg R × Nout :=
  if p.code < 1 ∨ codes < p.code then N.event U now 12 p zeroC
  else if p.code=1 then N.request U now p
  else if p.code≤4 then N.answered U now p
  else N.event U now (evOf p) p zeroC
end
end
section
open Go
section
variable {tk:Tk} {L:List Int} {st:St} {b at_:Nat} {bad:Bool}
theorem Get16_v (hB:IsB L):VCalls Tryz.prog 81 [.sl tk (bs L)] st fun r st'=>r=.sc (.int .u16 (if L.length < 2 then 0 else numL (L.take 2)))∧st=st':=by
  refine vcalls_enter vc81 (Nat.le_of_ble_eq_true rfl) fun hwf hok=>?_
  show Run _ Vc81.body (.fin (finQ Vc81.res _)) _ _
  unfold Vc81 zo
  simp (config:={maxSteps:=3000000}) (disch:=((fail_if_success refine selfNe ?_); omega)) only [go_sem,↓reduceIte,bs_len]
  refine If.dec (fun h=>?_) (fun h=>?_)
  · simp (config:={maxSteps:=3000000}) (disch:=((fail_if_success refine selfNe ?_); omega)) only [go_sem,↓reduceIte]
    exact ⟨_,_,Wk.refl _,hwf.weak,by rw [if_pos (by omega)],rfl⟩
  · obtain ⟨a,h0⟩:=get_ex (L:=L) (i:=0) (by omega)
    obtain ⟨b,h1⟩:=get_ex (L:=L) (i:=1) (by omega)
    have b0:=hB.get h0
    have b1:=hB.get h1
    have hn:numL (L.take 2)=256 * a + b:=by
      match L,h with
      | x :: y :: L,_=>simp at h0 h1; subst h0 h1; simp [numL]
    simp (config:={maxSteps:=3000000}) (disch:=((fail_if_success refine selfNe ?_); omega)) only [go_sem,↓reduceIte,bs_get,h0,h1,emod_small,ibit_or,u16_join]
    exact ⟨_,_,Wk.refl _,hwf.weak,by rw [if_neg (by omega),hn],rfl⟩
theorem Own.nil {size:Nat} {st:St}:Own size st (.sl .nil []) []:=.inl ⟨rfl,rfl⟩
theorem Own.sl {size:Nat} {st:St} {v:V} {l:List V} (h:Own size st v l):∃ tk,v=.sl tk l:=by
  rcases h with ⟨rfl,rfl⟩ | ⟨g,rfl,_⟩
  · exact ⟨_,rfl⟩
  · exact ⟨_,rfl⟩
theorem Put16_v {x:V} {n:Int} (hown:Own 1 st x (bs L)) (hl:L.length≤1000000000000) (h0:0≤n) (h1:n < 65536):VCalls Tryz.prog 150 [x,.sc (.int .u16 n)] st fun r st'=>Own 1 st' r (bs (L ++ beL n 2))∧AppSt st x st' r:=by
  refine vcalls_enter vc150 (Nat.le_of_ble_eq_true rfl) fun hwf hok=>?_
  show Run _ Vc150.body (.fin (finQ Vc150.res _)) _ _
  unfold Vc150 zo
  simp (config:={maxSteps:=3000000}) (disch:=((fail_if_success refine selfNe ?_); omega)) only [go_sem,↓reduceIte]
  refine App.mk hown (by simp [allSz,V.cells]) (by rw [bs_len]; unfold maxLen; simp; omega) (by rw [bs_len]; simp; omega) ?_
  intro r st' k1 k2
  simp (config:={maxSteps:=3000000}) (disch:=((fail_if_success refine selfNe ?_); omega)) only [go_sem,↓reduceIte]
  refine ⟨_,_,Wk.refl _,k2.weak hwf,?_,k2⟩
  rw [← bs_append]
  have e:beL n 2=[n / 256 % 256,n % 256]:=by simp [beL]
  rw [e]; exact k1
theorem Put32_v {x:V} {n:Int} (hown:Own 1 st x (bs L)) (hl:L.length≤1000000000000) (h0:0≤n) (h1:n < 4294967296):VCalls Tryz.prog 112 [x,.sc (.int .u32 n)] st fun r st'=>Own 1 st' r (bs (L ++ beL n 4))∧AppSt st x st' r:=by
  refine vcalls_enter vc112 (Nat.le_of_ble_eq_true rfl) fun hwf hok=>?_
  show Run _ Vc112.body (.fin (finQ Vc112.res _)) _ _
  unfold Vc112 zo
  simp (config:={maxSteps:=3000000}) (disch:=((fail_if_success refine selfNe ?_); omega)) only [go_sem,↓reduceIte]
  refine App.mk hown (by simp [allSz,V.cells]) (by rw [bs_len]; unfold maxLen; simp; omega) (by rw [bs_len]; simp; omega) ?_
  intro r st' k1 k2
  simp (config:={maxSteps:=3000000}) (disch:=((fail_if_success refine selfNe ?_); omega)) only [go_sem,↓reduceIte]
  refine ⟨_,_,Wk.refl _,k2.weak hwf,?_,k2⟩
  rw [← bs_append]
  have e:beL n 4=[n / 16777216 % 256,n / 65536 % 256,n / 256 % 256,n % 256]:=by simp [beL]
  rw [e]; exact k1
end
end
section
open Go
theorem opts_at {l:List Opt} {i:Nat} {o:Opt} (h:l[i]?=some o):(opts l)[i]?=some (.agg [.sc (.int .u8 o.1),.sl .no (bs o.2)]):=by simp [opts,h,optV]
theorem take_snoc {α:Type} {l:List α} {i:Nat} {o:α} (h:l[i]?=some o):l.take (i + 1)=l.take i ++ [o]:=by
  rw [List.take_add_one,h]; rfl
theorem buildO_snoc {l:List Opt} {i:Nat} {o:Opt} (h:l[i]?=some o):buildO (l.take (i + 1))=buildO (l.take i) ++ [o.1,((o.2.take 253).length:Int) + 2] ++ o.2.take 253:=by
  rw [take_snoc h,buildO_append]
  simp [buildO,oneO]
section
variable {st:St} {tk:Tk} {l:List Opt}
set_option maxRecDepth 100000 in
set_option maxHeartbeats 4000000 in
theorem optBuild_v (hG:GoodO l) (hl:l.length≤1000000000):VCalls Tryz.prog 198 [.sl tk (opts l)] st fun r s=>r=.sl .no (bs (buildO l))∧st=s:=by
  refine vcalls_enter vc198 (Nat.le_of_ble_eq_true rfl) fun hwf hok=>?_
  show Run _ Vc198.body (.fin (finQ Vc198.res _)) _ _
  unfold Vc198 zn zo
  simp (maxSteps:=3000000) only [go_sem,↓reduceIte]
  refine run_loop [3,5,6,9,10,11,12,13,14,15,16,17,18,19,20,21,22,23,24,25,26,27,28,29,30,31] (fun B s=>∃ (i:Nat) (v:V),i≤l.length∧B 9=.sc (.int .i64 i)∧B 3=v∧RO 1 st s v (bs (buildO (l.take i)))) (fun B _=>l.length - vnat (B 9)) rfl ?_ ?_
  · exact ⟨0,.sl .nil [],by omega,rfl,rfl,RO.nil hwf.weak hwf.lt⟩
  · rintro B s ⟨i,v,hi,h9,h3,R⟩
    by_cases c1:i < l.length
    · obtain ⟨o,ho⟩:=get_ex c1
      obtain ⟨g1,g2,g3,g4⟩:=hG.get ho
      have hsn:=buildO_snoc ho
      have hbl:=buildO_len (l.take i)
      have hbl2:(l.take i).length≤l.length:=by simp only [List.length_take]; omega
      obtain ⟨k,hk⟩:∃ k,(o.2.take 253).length=k:=⟨_,rfl⟩
      have hkl:k≤253∧k≤o.2.length:=by rw [← hk]; simp only [List.length_take]; omega
      have hmin:min (o.2.length:Int) 253=(k:Int):=by rw [← hk]; simp only [List.length_take]; omega
      have htk:o.2.take k=o.2.take 253:=by
        rw [← hk]
        rcases Nat.lt_or_ge o.2.length 253 with h | h
        · rw [List.take_of_length_le (Nat.le_of_lt h),List.take_length]
        · rw [show (o.2.take 253).length=253 by simp only [List.length_take]; omega]
      rw [hk] at hsn
      obtain ⟨tv,hv⟩:=R.sl
      rw [hv] at h3 R
      have he:((k:Int) + 2) % 256=(k:Int) + 2:=by omega
      simp (maxSteps:=3000000) only [go_sem,↓reduceIte,h9,h3,opts_len,opts_at ho,decide_eq_true (show (i:Int) < (l.length:Int) by omega),bs_len,hmin,bs_take,htk,hk,he]
      repeat (apply And.intro; focus (first | omega | (simp; done)))
      intro b hb
      have sb:st.sz≤b:=by have:=R.weak.sz; omega
      have R1:=R.put (c:=b) (cs:=[.sc (.int .u8 o.1),.sl .no (bs o.2)]) sb
      generalize s.put b [.sc (.int .u8 o.1),.sl .no (bs o.2)]=s1 at R1 ⊢
      refine ⟨⟨allSz_bs _,by omega,by omega⟩,⟨by omega,by omega⟩,?_⟩
      refine App.mk (bytes:=1) (ys:=bs [o.1,(k:Int) + 2]) R1.own (allSz_bs _) (by simp only [bs_len,List.length_cons,List.length_nil]; unfold maxLen; omega) (by simp only [bs_len,List.length_cons,List.length_nil]; omega) ?_
      intro r2 s2 k1 k2
      have R2:=R1.app k1 k2
      rw [bs_append] at R2
      obtain ⟨t2,rfl⟩:=R2.sl
      simp (maxSteps:=3000000) only [go_sem,↓reduceIte]
      refine App.mk (bytes:=1) (ys:=bs (o.2.take 253)) R2.own (allSz_bs _) (by simp only [bs_len,hk,List.length_append,List.length_cons,List.length_nil]; unfold maxLen; omega) (by simp only [bs_len,hk,List.length_append,List.length_cons,List.length_nil]; omega) ?_
      intro r3 s3 k3 k4
      have R3:=R2.app k3 k4
      rw [bs_append,← hsn] at R3
      simp (maxSteps:=3000000) only [go_sem,↓reduceIte,h9]
      repeat (apply And.intro; focus (first | omega | (simp; done)))
      exact ⟨⟨i + 1,_,by omega,by simp,rfl,R3⟩,by omega⟩
    · obtain rfl:i=l.length:=by omega
      rw [List.take_length] at R
      obtain ⟨tv,rfl⟩:=R.sl
      simp (maxSteps:=3000000) only [go_sem,↓reduceIte,h9,h3,opts_len]
      exact ⟨_,_,Wk.no,R.weak,rfl,rfl⟩
set_option maxRecDepth 100000 in
set_option maxHeartbeats 4000000 in
theorem optParse_v {L:List Int} (hB:IsB L) (hl:L.length≤1000000):VCalls Tryz.prog 200 [.sl tk (bs L)] st fun r s=>r=.tup [.sl .no (opts (parseO L).1),.sc (.int .i64 (parseO L).2)]∧st=s:=by
  refine vcalls_enter vc200 (Nat.le_of_ble_eq_true rfl) fun hwf hok=>?_
  show Run _ Vc200.body (.fin (finQ Vc200.res _)) _ _
  unfold Vc200 zo
  simp (maxSteps:=3000000) only [go_sem]
  refine run_loop [0,2,3,4,5,6,7,8,9,10,11,12,13,14,15,16,17,18,19,20,21,22,23,24,25,26,27,28,29,30,31,32,33,34,35,36,37,38,39,40,41,42,43] (fun B s=>∃ (k:Nat) (M:List Int) (out:List Opt) (v:V) (t2:Tk),parseO L=parseF k M out∧M.length≤k∧out.length + M.length≤L.length∧IsB M∧B 0=.sl t2 (bs M)∧B 4=v∧RO 2 st s v (opts out)) (fun B _=>match B 0 with | .sl _ l=>l.length | _=>0) rfl ?_ ?_
  · exact ⟨L.length,L,[],.sl .nil [],tk,rfl,Nat.le_refl _,by simp,hB,rfl,rfl,RO.nil hwf.weak hwf.lt⟩
  · rintro B s ⟨k,M,out,v,t2,hp,hMk,hlen,hBM,h0,h4,R⟩
    obtain ⟨tv,rfl⟩:=R.sl
    match M,k,hp,hMk,hlen,hBM,h0 with
    | [],k,hp,hMk,hlen,hBM,h0 =>
      rw [parseF_nil] at hp
      simp (maxSteps:=3000000) only [go_sem,↓reduceIte,h0,h4,bs_len,List.length_nil,decide_eq_false (show ¬ (0:Int) < ((0:Nat):Int) by decide)]
      rw [hp]
      exact ⟨_,_,Wk.tupT Wk.no,R.weak,rfl,rfl⟩
    | [x],0,hp,hMk,hlen,hBM,h0=>exact absurd hMk (by simp)
    | [x],k + 1,hp,hMk,hlen,hBM,h0 =>
      have hp':parseO L=([],10):=hp
      have l1:(bs [x]).length=1:=rfl
      simp (maxSteps:=3000000) only [go_sem,↓reduceIte,h0,l1,decide_eq_true (show (0:Int) < ((1:Nat):Int) by decide),decide_eq_true (show ((1:Nat):Int) < 2 by decide)]
      rw [hp']
      exact ⟨_,_,Wk.tupT Wk.no,R.weak,rfl,rfl⟩
    | t :: n :: M,0,hp,hMk,hlen,hBM,h0=>exact absurd hMk (by simp)
    | t :: n :: M,k + 1,hp,hMk,hlen,hBM,h0 =>
      obtain ⟨t0,t1⟩:=hBM.cons'
      obtain ⟨n0,n1⟩:=hBM.tail'.cons'
      have hBM2:=hBM.tail'.tail'
      have g0:(bs (t :: n :: M))[0]?=some (.sc (.int .u8 t)):=rfl
      have g1:(bs (t :: n :: M))[1]?=some (.sc (.int .u8 n)):=rfl
      simp only [List.length_cons] at hMk hlen
      by_cases c1:n < 2
      · have hp':parseO L=([],11):=by rw [hp,parseF,if_pos c1]
        simp (maxSteps:=3000000) only [go_sem,↓reduceIte,h0,bs_len,List.length_cons,g1,decide_eq_true (show (0:Int) < ((M.length + 1 + 1:Nat):Int) by omega),decide_eq_false (show ¬ ((M.length + 1 + 1:Nat):Int) < 2 by omega),decide_eq_true c1]
        rw [hp']
        exact ⟨_,_,Wk.tupT Wk.no,R.weak,rfl,rfl⟩
      by_cases c2:(M.length:Int) + 2 < n
      · have hp':parseO L=([],10):=by rw [hp,parseF,if_neg c1,if_pos c2]
        simp (maxSteps:=3000000) only [go_sem,↓reduceIte,h0,bs_len,List.length_cons,g1,decide_eq_true (show (0:Int) < ((M.length + 1 + 1:Nat):Int) by omega),decide_eq_false (show ¬ ((M.length + 1 + 1:Nat):Int) < 2 by omega),decide_eq_false c1,decide_eq_true (show ((M.length + 1 + 1:Nat):Int) < n by omega)]
        repeat (apply And.intro; focus (first | omega | (simp; done)))
        rw [hp']
        exact ⟨_,_,Wk.tupT Wk.no,R.weak,rfl,rfl⟩
      have hp':parseO L=parseF k (M.drop (n - 2).toNat) (out ++ [(t,M.take (n - 2).toNat)]):=by rw [hp,parseF,if_neg c1,if_neg c2]
      obtain ⟨q,hq⟩:∃ q:Nat,(n - 2).toNat=q:=⟨_,rfl⟩
      have hnq:n=((q + 2:Nat):Int):=by omega
      rw [hq] at hp'
      have e1:((bs (t :: n :: M)).take (q + 2)).drop 2=bs (M.take q):=by rw [bs_take,bs_drop]; rfl
      have e2:(bs (t :: n :: M)).drop (q + 2)=bs (M.drop q):=by rw [bs_drop]; rfl
      have hqM:q≤M.length:=by omega
      clear hq
      subst hnq
      simp (maxSteps:=3000000) only [go_sem,↓reduceIte,h0,h4,bs_len,List.length_cons,g0,g1,decide_eq_true (show (0:Int) < ((M.length + 1 + 1:Nat):Int) by omega),decide_eq_false (show ¬ ((M.length + 1 + 1:Nat):Int) < 2 by omega),decide_eq_false c1,decide_eq_false (show ¬ ((M.length + 1 + 1:Nat):Int) < ((q + 2:Nat):Int) by omega),e1]
      refine ⟨⟨by omega,by omega⟩,⟨by omega,by omega⟩,⟨allSz_bs _,by omega,by omega⟩,?_⟩
      have htq:(M.take q).length≤M.length:=by simp only [List.length_take]; omega
      refine App.mk (bytes:=1) (l:=[]) (ys:=bs (M.take q)) own_nil (allSz_bs _) (by simp only [bs_len,List.length_nil]; unfold maxLen; omega) (by simp only [bs_len,List.length_nil]; omega) ?_
      intro r2 s2 k1 k2
      have N2:RO 1 st.bare s2 r2 (bs (M.take q)):=(RO.nil (bare_weak (by have:=R.weak.sz; exact this)) R.lt).app k1 k2
      have R2:RO 2 st s2 (.sl tv (opts out)) (opts out):=R.beside k2 noOwn
      obtain ⟨t3,rfl⟩:=N2.sl
      simp (maxSteps:=3000000) only [go_sem,↓reduceIte]
      refine App.mk (bytes:=32) (l:=opts out) (ys:=opts [(t,M.take q)]) R2.own (allSz_opts _) (by simp only [opts_len,List.length_cons,List.length_nil]; unfold maxLen; omega) (by simp only [opts_len,List.length_cons,List.length_nil]; omega) ?_
      intro r4 s4 k3 k4
      have R4:=R2.app k3 k4
      rw [opts_append] at R4
      simp (maxSteps:=3000000) only [go_sem,↓reduceIte,h0,e2]
      refine ⟨⟨allSz_bs _,by omega,by rw [bs_len]; simp only [List.length_cons]; omega⟩,?_⟩
      refine ⟨⟨k,M.drop q,out ++ [(t,M.take q)],_,_,hp',by simp only [List.length_drop]; omega,by simp only [List.length_append,List.length_cons,List.length_nil,List.length_drop]; omega,hBM2.drop _,rfl,rfl,R4⟩,?_⟩
      simp only [bs_len,List.length_drop]
      omega
set_option maxRecDepth 100000 in
set_option maxHeartbeats 4000000 in
theorem optFind_v {t:Int} (hl:l.length≤1000000) (hG:GoodO l):VCalls Tryz.prog 231 [.sl tk (opts l),.sc (.int .u8 t)] st fun r s =>
    r=.tup [.agg [.sc (.int .u8 (if (findO l t).isSome=true then t else 0)),.sl .no (bs ((findO l t).getD []))],.sc (.bool (findO l t).isSome)]∧st=s:=by
  refine vcalls_enter vc231 (Nat.le_of_ble_eq_true rfl) fun hwf hok=>?_
  show Run _ Vc231.body (.fin (finQ Vc231.res _)) _ _
  unfold Vc231 zn zo
  have hlt:=hwf.lt
  simp (maxSteps:=3000000) only [go_sem,↓reduceIte]
  intro f hf
  have W0:st.weak (st.put f [.sc (.int .u8 0),.sl .nil []]):=weak_put hwf.weak hf
  have B0:(st.put f [.sc (.int .u8 0),.sl .nil []]).box f=some [.sc (.int .u8 0),.sl .nil []]:=put_box_same
  have L0:(st.put f [.sc (.int .u8 0),.sl .nil []]).Lt:=hlt.put
  generalize st.put f [.sc (.int .u8 0),.sl .nil []]=s0 at W0 B0 L0 ⊢
  refine run_loop [5,7,10,11,12,13,14,15,16,17,18,19,20,21,22,23,24] (fun B s=>∃ (i:Nat),i≤l.length∧B 10=.sc (.int .i64 i)∧findO l t=findO (l.drop i) t∧s0.weak s∧s.Lt) (fun B _=>l.length - vnat (B 10)) rfl ?_ ?_
  · exact ⟨0,by omega,rfl,rfl,L0.weak,L0⟩
  · rintro B s ⟨i,hi,h10,hfi,W,L⟩
    have hbf:=(W.box f _ B0).1
    by_cases c1:i < l.length
    · obtain ⟨o,ho⟩:=get_ex c1
      obtain ⟨g1,g2,g3,g4⟩:=hG.get ho
      have hd:l.drop i=o :: l.drop (i + 1):=by
        obtain ⟨h,rfl⟩:=List.getElem?_eq_some_iff.1 ho
        exact List.drop_eq_getElem_cons h
      rw [hd] at hfi
      by_cases c2:o.1=t
      · have hfo:findO l t=some o.2:=by rw [hfi]; simp [findO,c2]
        simp (maxSteps:=3000000) only [go_sem,↓reduceIte,h10,opts_len,opts_at ho,decide_eq_true (show (i:Int) < (l.length:Int) by omega),decide_eq_true c2]
        repeat (apply And.intro; focus (first | omega | (simp; done)))
        intro b hb
        have bf:f ≠ b:=by have:=(W.box f _ B0).2; have:=W.sz; omega
        have sb:s0.sz≤b:=by have:=W.sz; omega
        refine App.mk (bytes:=1) (l:=[]) (ys:=bs o.2) own_nil (allSz_bs _) (by simp only [bs_len,List.length_nil]; unfold maxLen; omega) (by simp only [bs_len,List.length_nil]; omega) ?_
        intro r2 s2 k1 k2
        have N2:RO 1 st.bare s2 r2 (bs o.2):=(RO.nil (bare_weak (by have:=W0.sz; have:=W.sz; simp only [put_sz]; omega)) L.put).app k1 k2
        obtain ⟨t3,rfl⟩:=N2.sl
        have W2:s0.weak s2:=app_keeps k2 (weak_put W sb) (fun g k l e=>by cases e)
        have B2:=(W2.box f _ B0).1
        have bl:f < s0.sz:=(W2.box f _ B0).2
        have Bb:s2.box b=some [.sc (.int .u8 t),.sl .no (bs o.2)]:=by rw [k2.box,put_box_same,c2]
        simp (maxSteps:=3000000) only [go_sem,↓reduceIte,B2,Bb]
        refine ⟨by rw [c2],_,_,Wk.tup (.cons (.agg (.cons (.refl _) (.cons .no .nil))) (.cons (.refl _) .nil)),weak_put (weak_tr W0 W2) hf,?_,rfl⟩
        rw [hfo,c2]; rfl
      · have hfo:findO l t=findO (l.drop (i + 1)) t:=by rw [hfi]; simp [findO,c2]
        simp (maxSteps:=3000000) only [go_sem,↓reduceIte,h10,opts_len,opts_at ho,decide_eq_true (show (i:Int) < (l.length:Int) by omega),decide_eq_false c2]
        repeat (apply And.intro; focus (first | omega | (simp; done)))
        intro b hb
        have sb:s0.sz≤b:=by have:=W.sz; omega
        repeat (apply And.intro; focus (first | omega | (simp; done)))
        exact ⟨⟨i + 1,by omega,by simp,hfo,weak_put W sb,L.put⟩,by omega⟩
    · obtain rfl:i=l.length:=by omega
      have hfo:findO l t=none:=by rw [hfi,List.drop_length]; rfl
      have self:s.put f [.sc (.int .u8 0),.sl .nil []]=s:=put_selfR hbf (L.box f _ hbf)
      simp (maxSteps:=3000000) only [go_sem,↓reduceIte,h10,opts_len,hbf]
      refine ⟨_,_,Wk.tup (.cons (.agg (.cons (.refl _) (.cons .no .nil))) (.cons (.refl _) .nil)),?_,?_,rfl⟩
      · rw [self]; exact weak_tr W0 W
      · rw [hfo]; rfl
section
variable {p:Ctl} {most:Nat} {id:Int}
set_option maxRecDepth 100000 in
theorem cpBuild_v (hG:p.Good):VCalls Tryz.prog 101 [p.v tk] st fun r s=>r=.sl .no (bs (buildC p))∧st=s:=by
  obtain ⟨c,i,D⟩:=p
  obtain ⟨g1,g2,g3,g4,g5,g6⟩:=hG
  simp only at g1 g2 g3 g4 g5 g6
  show VCalls Tryz.prog 101 [.agg [.sc (.int .u8 c),.sc (.int .u8 i),.sl tk (bs D)]] st _
  refine vcalls_enter vc101 (Nat.le_of_ble_eq_true rfl) fun hwf hok=>?_
  show Run _ Vc101.body (.fin (finQ Vc101.res _)) _ _
  unfold Vc101 zo
  have hlt:=hwf.lt
  obtain ⟨k,hk⟩:∃ k,(D.take 65531).length=k:=⟨_,rfl⟩
  have hkl:k≤65531∧k≤D.length:=by rw [← hk]; simp only [List.length_take]; omega
  have hmin:min (D.length:Int) 65531=(k:Int):=by rw [← hk]; simp only [List.length_take]; omega
  have htk:D.take k=D.take 65531:=by
    rw [← hk]
    rcases Nat.lt_or_ge D.length 65531 with h | h
    · rw [List.take_of_length_le (Nat.le_of_lt h),List.take_length]
    · rw [show (D.take 65531).length=65531 by simp only [List.length_take]; omega]
  have he:((k:Int) + 4) % 65536=(k:Int) + 4:=by omega
  simp (maxSteps:=3000000) only [go_sem,↓reduceIte,bs_len,hmin,bs_take,htk]
  intro b hb
  refine ⟨⟨allSz_bs _,by omega,by omega⟩,?_⟩
  refine Bo.own (by simp [allLen,V.cells]) ?_
  intro g hg
  simp only [put_sz] at hg
  have R0:RO 1 st ((st.put b [.sc (.int .u8 c),.sc (.int .u8 i),.sl tk (bs D)]).use g 2) (.sl (.own g 1) (bs [c,i])) (bs [c,i]):=RO.use (cs:=bs [c,i]) (weak_put hwf.weak hb) hlt.put (by simp only [put_sz]; exact hg)
  generalize (st.put b [.sc (.int .u8 c),.sc (.int .u8 i),.sl tk (bs D)]).use g 2=s1 at R0 ⊢
  simp (maxSteps:=3000000) only [go_sem,↓reduceIte,bs_len,hk,he]
  refine ⟨⟨by omega,by omega⟩,?_⟩
  refine Cal.mk (Put16_v (L:=[c,i]) R0.own (by simp) (by omega) (by omega)) ?_
  rintro r2 s2 ⟨k1,k2⟩ -
  have R2:=R0.app k1 k2
  obtain ⟨t2,rfl⟩:=R2.sl
  simp (maxSteps:=3000000) only [go_sem,↓reduceIte]
  refine App.mk (bytes:=1) (ys:=bs (D.take 65531)) R2.own (allSz_bs _) (by simp only [bs_len,hk,List.length_append,List.length_cons,List.length_nil,beL_len]; unfold maxLen; omega) (by simp only [bs_len,hk,List.length_append,List.length_cons,List.length_nil,beL_len]; omega) ?_
  intro r3 s3 k3 k4
  have R3:=R2.app k3 k4
  rw [bs_append] at R3
  obtain ⟨t3,rfl⟩:=R3.sl
  simp (maxSteps:=3000000) only [go_sem,↓reduceIte]
  refine ⟨_,_,Wk.no,R3.weak,?_,rfl⟩
  simp only [buildC,hk]
theorem buildC_len (p:Ctl):(buildC p).length≤65535:=by
  simp only [buildC,List.length_cons,List.length_append,beL_len,List.length_take]; omega
theorem cpReject_v (hG:p.Good):VCalls Tryz.prog 178 [.sc (.int .u8 id),p.v tk,.sc (.int .i64 1400)] st fun r s=>r=(rejC id p 1400).v∧st=s:=by
  have hG':=hG
  obtain ⟨c,i,D⟩:=p
  show VCalls Tryz.prog 178 [.sc (.int .u8 id),.agg [.sc (.int .u8 c),.sc (.int .u8 i),.sl tk (bs D)],.sc (.int .i64 1400)] st _
  refine vcalls_enter vc178 (Nat.le_of_ble_eq_true rfl) fun hwf hok=>?_
  show Run _ Vc178.body (.fin (finQ Vc178.res _)) _ _
  unfold Vc178 zn zo
  have hlt:=hwf.lt
  simp (maxSteps:=3000000) only [go_sem,↓reduceIte]
  intro b hb f hf
  have W0:st.weak ((st.put b [.sc (.int .u8 c),.sc (.int .u8 i),.sl tk (bs D)]).put f [.sc (.int .u8 0),.sc (.int .u8 0),.sl .nil []]):=weak_put (weak_put hwf.weak hb) (by omega)
  have B0:((st.put b [.sc (.int .u8 c),.sc (.int .u8 i),.sl tk (bs D)]).put f [.sc (.int .u8 0),.sc (.int .u8 0),.sl .nil []]).box f=some [.sc (.int .u8 0),.sc (.int .u8 0),.sl .nil []]:=put_box_same
  have bf:b ≠ f:=by omega
  have hbl:=buildC_len ⟨c,i,D⟩
  simp (maxSteps:=3000000) only [go_sem,↓reduceIte,put_box_ne bf]
  refine Cal.mk (cpBuild_v (p:=⟨c,i,D⟩) (tk:=tk) hG') ?_
  rintro _ _ ⟨rfl,rfl⟩ -
  have hrej:(rejC id ⟨c,i,D⟩ 1400).v=.agg [.sc (.int .u8 7),.sc (.int .u8 id),.sl .no (bs ((buildC ⟨c,i,D⟩).take 1396))]:=rfl
  rw [hrej]
  generalize buildC ⟨c,i,D⟩=X at hbl ⊢
  obtain ⟨k,hk⟩:∃ k,(X.take 1396).length=k:=⟨_,rfl⟩
  have hkl:k≤1396∧k≤X.length:=by rw [← hk]; simp only [List.length_take]; omega
  have hmax:max (1396:Int) 0=1396:=rfl
  have hmin:min (X.length:Int) 1396=(k:Int):=by rw [← hk]; simp only [List.length_take]; omega
  have htk:X.take k=X.take 1396:=by
    rw [← hk]
    rcases Nat.lt_or_ge X.length 1396 with h | h
    · rw [List.take_of_length_le (Nat.le_of_lt h),List.take_length]
    · rw [show (X.take 1396).length=1396 by simp only [List.length_take]; omega]
  simp (maxSteps:=3000000) only [go_sem,↓reduceIte,B0,bs_len,hmax,hmin,bs_take,htk]
  exact ⟨⟨allSz_bs _,by omega,by omega⟩,_,_,Wk.refl _,weak_put (weak_put hwf.weak hb) (by omega),rfl,rfl⟩
theorem cpKnown_v {c m:Int}:VCalls Tryz.prog 181 [.sc (.int .u8 c),.sc (.int .u8 m)] st fun r s=>r=.sc (.bool (decide (1≤c∧c≤m)))∧st=s:=by
  refine vcalls_enter vc181 (Nat.le_of_ble_eq_true rfl) fun hwf hok=>?_
  show Run _ Vc181.body (.fin (finQ Vc181.res _)) _ _
  unfold Vc181 zg zo
  by_cases h1:1≤c
  · simp (maxSteps:=3000000) only [go_sem,↓reduceIte,decide_eq_true h1]
    exact ⟨_,_,Wk.refl _,hwf.weak,by simp [h1],rfl⟩
  · simp (maxSteps:=3000000) only [go_sem,↓reduceIte,decide_eq_false h1]
    exact ⟨_,_,Wk.refl _,hwf.weak,by simp [h1],rfl⟩
end
end
end
section
open Go
theorem VCalls.wf {P:Program} {f:FuncId} {args:List V} {st:St} {Q:V→St→Prop} (h:st.Wf→VCalls P f args st Q):VCalls P f args st Q:=fun w0 G w us hw hus hr =>
  h ⟨fun b cs hb=>(hw.box b cs hb).1,fun g m hg=>(hw.own g m hg).1,fun b cs hb=>(hw.box b cs hb).2.2.2.2.ok⟩ w0 G w us hw hus hr
structure RulC {R:Type} (U:Rul R) (t:TypeId) (pv:Value) (SI:Nat→St→R→Prop) (bx:List Nat):Prop where
  one:pv.oneCell'=true
  req:∃ f,methOf Tryz.prog t "Request"=some f∧callable Tryz.prog f=true∧∀ (k:Nat) (st:St) (r:R),SI k st r→VCalls Tryz.prog f [.sc pv] st fun x s=>x=.sl .no (opts (U.request r))∧st=s
  reqG:∀ (k:Nat) (st:St) (r:R),SI k st r→GoodO (U.request r)∧(U.request r).length≤100
  judge:∃ f,methOf Tryz.prog t "Judge"=some f∧callable Tryz.prog f=true∧∀ (k:Nat) (st:St) (r:R) (l:List Opt) (tk:Tk),SI k st r→k≤1000000000→GoodO l→l.length≤1000000 →
    VCalls Tryz.prog f [.sc pv,.sl tk (opts l)] st fun x s=>(∃ t2,x=.tup [.sc (.int .u8 (U.judge r l).2.1),.sl t2 (opts (U.judge r l).2.2)])∧SI (k + 1) s (U.judge r l).1∧Tn bx st s
  judgeG:∀ (k:Nat) (st:St) (r:R) (l:List Opt),SI k st r→GoodO l→l.length≤1000000→0≤(U.judge r l).2.1∧(U.judge r l).2.1 < 256∧GoodO (U.judge r l).2.2∧(U.judge r l).2.2.length≤1000000
  agreed:∃ f,methOf Tryz.prog t "Agreed"=some f∧callable Tryz.prog f=true∧∀ (k:Nat) (st:St) (r:R) (l:List Opt) (tk:Tk),SI k st r→k≤1000000000→GoodO l→l.length≤1000000 →
    VCalls Tryz.prog f [.sc pv,.sl tk (opts l)] st fun x s=>x=.tup []∧SI k s (U.agreed r l)∧Tn bx st s
  naked:∃ f,methOf Tryz.prog t "Naked"=some f∧callable Tryz.prog f=true∧∀ (k:Nat) (st:St) (r:R) (l:List Opt) (tk:Tk),SI k st r→k≤1000000000→GoodO l→l.length≤1000000 →
    VCalls Tryz.prog f [.sc pv,.sl tk (opts l)] st fun x s=>x=.tup []∧SI (k + 1) s (U.naked r l)∧Tn bx st s
  rejected:∃ f,methOf Tryz.prog t "Rejected"=some f∧callable Tryz.prog f=true∧∀ (k:Nat) (st:St) (r:R) (l:List Opt) (tk:Tk),SI k st r→k≤1000000000→GoodO l→l.length≤1000000 →
    VCalls Tryz.prog f [.sc pv,.sl tk (opts l)] st fun x s=>x=.sc (.bool (U.rejected r l).2)∧SI k s (U.rejected r l).1∧Tn bx st s
  stay:∀ (k:Nat) (st s:St) (r:R),SI k st r→(∀ b cs,st.box b=some cs→b ∈ bx→s.box b=some cs)→st.sz≤s.sz→SI k s r
  more:∀ (k:Nat) (st:St) (r:R),SI k st r→SI (k + 1) st r
  lt:∀ (k:Nat) (st:St) (r:R),SI k st r→∀ b ∈ bx,b < st.sz
def negC {R:Type} (iv:V) (codes:Int) (N:Neg R) (tk:Tk):List V :=
  [.sc (.int .i64 N.s),.sc (.int .i64 N.left),.sc (.int .i64 N.at_),iv,.sc (.int .u8 codes),.sc (.int .u8 N.id),.sl tk (bs N.req),.sc (.int .i64 N.naks)]
structure NegI {R:Type} (iv:V) (codes:Int) (SI:Nat→St→R→Prop) (bx:List Nat) (n k:Nat) (st:St) (N:Neg R):Prop where
  box:∃ tk,st.box n=some (negC iv codes N tk)
  si:SI k st N.r
  nn:n ∉ bx
  l0:0≤N.left
  l1:N.left≤10
  i0:0≤N.id
  i1:N.id < 256
  a0:0≤N.naks
  a1:N.naks≤k
  rb:IsB N.req
theorem cntA_rng {act left:Int} (h0:0≤left) (h1:left≤10):0≤cntA act left∧cntA act left≤10:=by
  unfold cntA
  simp only
  split <;> split <;> (try split) <;> (try split) <;> omega
section
variable {R:Type} {U:Rul R} {t:TypeId} {pv:Value} {SI:Nat→St→R→Prop} {bx:List Nat} {codes:Int} {n k:Nat} {st:St} {N:Neg R}
theorem NegI.write (hU:RulC U t pv SI bx) {iv:V} (h:NegI iv codes SI bx n k st N) {N':Neg R} {tk:Tk} (hr:N'.r=N.r) (l0:0≤N'.left) (l1:N'.left≤10) (i0:0≤N'.id) (i1:N'.id < 256) (a0:0≤N'.naks) (a1:N'.naks≤k) (rb:IsB N'.req) :
    NegI iv codes SI bx n k (st.put n (negC iv codes N' tk)) N' :=
  ⟨⟨tk,put_box_same⟩,by
    rw [hr]
    refine hU.stay k st _ _ h.si (fun b cs hb hm=>?_) (by simp only [put_sz]; omega)
    rw [put_box_ne (fun e=>h.nn (by subst e; exact hm))]; exact hb,h.nn,l0,l1,i0,i1,a0,a1,rb⟩
theorem NegI.tnx (hU:RulC U t pv SI bx) {iv:V} (h:NegI iv codes SI bx n k st N) {s:St} {cs:List Nat} (T:Tn cs st s) (hd:∀ b ∈ n :: bx,b ∉ cs):NegI iv codes SI bx n k s N :=
  ⟨by obtain ⟨tk,hb⟩:=h.box; exact ⟨tk,T.box n _ hb (hd n (by simp))⟩,hU.stay k st s _ h.si (fun b cs hb hm=>T.box b cs hb (hd b (by simp [hm]))) T.sz,h.nn,h.l0,h.l1,h.i0,h.i1,h.a0,h.a1,h.rb⟩
theorem NegI.tn (hU:RulC U t pv SI bx) {iv:V} (h:NegI iv codes SI bx n k st N) {s:St} (T:Tn [] st s):NegI iv codes SI bx n k s N :=
  ⟨by obtain ⟨tk,hb⟩:=h.box; exact ⟨tk,T.box n _ hb (by simp)⟩,hU.stay k st s _ h.si (fun b cs hb _=>T.box b cs hb (by simp)) T.sz,h.nn,h.l0,h.l1,h.i0,h.i1,h.a0,h.a1,h.rb⟩
theorem NegI.lt (hU:RulC U t pv SI bx) {iv:V} (h:NegI iv codes SI bx n k st N) (hs:st.Lt):∀ b ∈ n :: bx,b < st.sz:=fun b hb=>by
  rcases List.mem_cons.1 hb with rfl | hb
  · obtain ⟨tk,hx⟩:=h.box; exact hs.box b _ hx
  · exact hU.lt k st _ h.si b hb
theorem NegI.more (hU:RulC U t pv SI bx) {iv:V} (h:NegI iv codes SI bx n k st N):NegI iv codes SI bx n (k + 1) st N :=
  { h with si:=hU.more _ _ _ h.si,a1:=by have:=h.a1; omega }
theorem tn_new {s:St} (h:s.Lt) {b:Nat} {cs:List V} (hb:s.sz≤b):Tn [] s (s.put b cs):=(Tn.refl h).put (.inr hb) h
set_option maxRecDepth 100000 in
theorem negFresh_v (hU:RulC U t pv SI bx) (h:NegI (.sc (.iface t pv)) codes SI bx n k st N) :
    VCalls Tryz.prog 177 [ptrV n] st fun r s=>r=.sc (.int .u8 N.bump.id)∧NegI (.sc (.iface t pv)) codes SI bx n k s N.bump∧Tn (n :: bx) st s:=by
  refine vcalls_enter vc177 (Nat.le_of_ble_eq_true rfl) fun hwf hok=>?_
  show Run _ Vc177.body (.fin (finQ Vc177.res _)) _ _
  unfold Vc177 zn zo
  have hlt:=hwf.lt
  obtain ⟨tk,hb⟩:=h.box
  unfold negC at hb
  have hid:N.bump.id=(N.id + 1) % 256:=rfl
  have hW:=h.write hU (N':=N.bump) (tk:=tk) rfl h.l0 h.l1 (by rw [hid]; omega) (by rw [hid]; omega) h.a0 h.a1 h.rb
  unfold negC at hW
  rw [hid] at hW
  have hT:Tn (n :: bx) st (st.put n [.sc (.int .i64 N.bump.s),.sc (.int .i64 N.bump.left),.sc (.int .i64 N.bump.at_),.sc (.iface t pv),.sc (.int .u8 codes),.sc (.int .u8 ((N.id + 1) % 256)),.sl tk (bs N.bump.req),.sc (.int .i64 N.bump.naks)]) :=
    (Tn.refl hlt).put (.inl (by simp)) hlt
  simp (maxSteps:=3000000) only [go_sem,↓reduceIte,hb]
  exact ⟨_,_,Wk.refl _,hT.lt.weak,rfl,hW,hT⟩
theorem negState_v (h:NegI (.sc (.iface t pv)) codes SI bx n k st N):VCalls Tryz.prog 174 [ptrV n] st fun r s=>r=.sc (.int .i64 N.s)∧st=s:=by
  refine vcalls_enter vc174 (Nat.le_of_ble_eq_true rfl) fun hwf hok=>?_
  show Run _ Vc174.body (.fin (finQ Vc174.res _)) _ _
  unfold Vc174 zo
  obtain ⟨tk,hb⟩:=h.box
  unfold negC at hb
  simp (maxSteps:=3000000) only [go_sem,↓reduceIte,hb]
  exact ⟨_,_,Wk.refl _,hwf.weak,rfl,rfl⟩
theorem negDo_v (hU:RulC U t pv SI bx) (h:NegI (.sc (.iface t pv)) codes SI bx n k st N) {now e:Int} (hn:0≤now) (hn2:now≤1000000000) :
    VCalls Tryz.prog 142 [ptrV n,.sc (.int .i64 now),.sc (.int .i64 e)] st fun r s=>r=.sc (.int .u16 (stepF N.s e).2)∧NegI (.sc (.iface t pv)) codes SI bx n k s (N.step now e)∧Tn (n :: bx) st s:=by
  obtain ⟨tk,hb⟩:=h.box
  refine VCalls.wf fun hwf=>(autoDo_v (e:=e) hb h.l0 h.l1 hn hn2).mono fun r s ⟨e1,e2⟩=>⟨e1,?_,?_⟩
  · have hc:=cntA_rng (act:=(stepF N.s e).2) h.l0 h.l1
    rw [e2]
    exact h.write hU (N':=N.step now e) (tk:=tk) rfl hc.1 hc.2 h.i0 h.i1 h.a0 h.a1 h.rb
  · rw [e2]
    exact (Tn.refl hwf.lt).put (.inl (by simp)) hwf.lt
theorem u8sOf_bsN:∀ L:List Int,u8sOf (bs L)=some L
  | []=>rfl
  | x :: L=>by
    rw [bs_cons]
    simp only [u8sOf,u8sOf_bsN L]
    all_goals rfl
set_option maxRecDepth 100000 in
set_option maxHeartbeats 4000000 in
theorem negAsked_v (hU:RulC U t pv SI bx) (h:NegI (.sc (.iface t pv)) codes SI bx n k st N) {again:Bool} :
    VCalls Tryz.prog 176 [ptrV n,.sc (.bool again)] st fun r s=>r=(⟨1,(N.asked U again).id,buildO (U.request N.r)⟩:Ctl).v∧NegI (.sc (.iface t pv)) codes SI bx n k s (N.asked U again)∧Tn (n :: bx) st s:=by
  obtain ⟨fq,hm,hc,hq⟩:=hU.req
  refine vcalls_enter vc176 (Nat.le_of_ble_eq_true rfl) fun hwf hok=>?_
  show Run _ Vc176.body (.fin (finQ Vc176.res _)) _ _
  unfold Vc176 zg zn zo
  have hlt:=hwf.lt
  obtain ⟨tk,hb⟩:=h.box
  have hb':=hb
  unfold negC at hb
  have hnl:=hlt.box n _ hb
  obtain ⟨gG,gl⟩:=hU.reqG k st N.r h.si
  have hbB:=buildO_isB gG
  have hbl:=buildO_len (U.request N.r)
  simp (maxSteps:=3000000) only [go_sem,↓reduceIte]
  intro f hf
  have nf:n ≠ f:=by omega
  have T0:Tn [] st (st.put f [.sc (.int .u8 0),.sc (.int .u8 0),.sl .nil []]):=tn_new hlt hf
  have h0:=h.tn hU T0
  have B0:(st.put f [.sc (.int .u8 0),.sc (.int .u8 0),.sl .nil []]).box f=some [.sc (.int .u8 0),.sc (.int .u8 0),.sl .nil []]:=put_box_same
  have hb0:=T0.box n _ hb (by simp)
  generalize st.put f [.sc (.int .u8 0),.sc (.int .u8 0),.sl .nil []]=s0 at T0 h0 B0 hb0 ⊢
  have L0:=T0.lt
  simp (maxSteps:=3000000) only [go_sem,↓reduceIte,hb0]
  refine Ivk.mk hm hc hU.one ?_
  refine Cal.mk (hq k s0 N.r h0.si) ?_
  rintro _ _ ⟨rfl,rfl⟩ -
  simp (maxSteps:=3000000) only [go_sem,↓reduceIte]
  refine Cal.mk (optBuild_v gG (by omega)) ?_
  rintro _ _ ⟨rfl,rfl⟩ -
  generalize hX:buildO (U.request N.r)=X at hbB hbl ⊢
  have hinj:=strOf_inj hbB h.rb
  obtain ⟨N1,hN1⟩:∃ N1,N1=N.asked U again:=⟨_,rfl⟩
  have hreq:N1.req=X:=by rw [hN1,← hX]; rfl
  have hrr:N1.r=N.r:=by rw [hN1]; rfl
  have hll:N1.left=N.left:=by rw [hN1]; rfl
  have hss:N1.s=N.s:=by rw [hN1]; rfl
  have haa:N1.at_=N.at_:=by rw [hN1]; rfl
  have hnn:N1.naks=N.naks:=by rw [hN1]; rfl
  have hid:N1.id=if again=true∧X=N.req then N.id else (N.id + 1) % 256:=by rw [hN1,← hX]; rfl
  rw [← hN1]
  have hi0:0≤N1.id∧N1.id < 256:=by
    rw [hid]
    split
    · exact ⟨h.i0,h.i1⟩
    · omega
  have TW:Tn (n :: bx) st s0:=T0.wide (by simp)
  have hC:negC (.sc (.iface t pv)) codes N1 .no=[.sc (.int .i64 N.s),.sc (.int .i64 N.left),.sc (.int .i64 N.at_),.sc (.iface t pv),.sc (.int .u8 codes),.sc (.int .u8 N1.id),.sl .no (bs X),.sc (.int .i64 N.naks)]:=by
    unfold negC; rw [hss,hll,haa,hreq,hnn]
  have hfd:∀ b ∈ n :: bx,b ∉ [f]:=fun b hb hm=>by
    have:=h.lt hU hlt b hb
    simp only [List.mem_singleton] at hm
    omega
  by_cases c1:again=true∧X=N.req
  · obtain ⟨rfl,c2⟩:=c1
    rw [if_pos ⟨rfl,c2⟩] at hid
    have h2:NegI (.sc (.iface t pv)) codes SI bx n k s0 { N with id:=N1.id }:=by rw [hid]; exact h0
    have T2:=TW
    have B2:=B0
    have e1:decide (strOf X ≠ strOf N.req)=false:=by rw [c2]; simp
    rw [← hid] at hb0
    simp (maxSteps:=3000000) only [go_sem,↓reduceIte,hb0,u8sOf_bsN,e1]
    generalize s0=s2 at h2 T2 B2 hb0 ⊢
    obtain ⟨tk2,hb2⟩:=h2.box
    unfold negC at hb2
    have hW:=h2.write hU (N':=N1) (tk:=.no) hrr (by rw [hll]; exact h.l0) (by rw [hll]; exact h.l1) hi0.1 hi0.2 (by rw [hnn]; exact h.a0) (by rw [hnn]; exact h.a1) (by rw [hreq]; exact hbB)
    rw [hC] at hW
    have T3:Tn (n :: bx) st (s2.put n [.sc (.int .i64 N.s),.sc (.int .i64 N.left),.sc (.int .i64 N.at_),.sc (.iface t pv),.sc (.int .u8 codes),.sc (.int .u8 N1.id),.sl .no (bs X),.sc (.int .i64 N.naks)]):=T2.put (.inl (by simp)) hlt
    have B3:(s2.put n [.sc (.int .i64 N.s),.sc (.int .i64 N.left),.sc (.int .i64 N.at_),.sc (.iface t pv),.sc (.int .u8 codes),.sc (.int .u8 N1.id),.sl .no (bs X),.sc (.int .i64 N.naks)]).box f=some [.sc (.int .u8 0),.sc (.int .u8 0),.sl .nil []]:=by rw [put_box_ne nf.symm]; exact B2
    generalize s2.put n [.sc (.int .i64 N.s),.sc (.int .i64 N.left),.sc (.int .i64 N.at_),.sc (.iface t pv),.sc (.int .u8 codes),.sc (.int .u8 N1.id),.sl .no (bs X),.sc (.int .i64 N.naks)]=s3 at hW T3 B3 ⊢
    refine App.mk (bytes:=1) (l:=[]) (ys:=bs X) own_nil (allSz_bs _) (by simp only [bs_len,List.length_nil]; unfold maxLen; omega) (by simp only [bs_len,List.length_nil]; omega) ?_
    intro r4 s4 k3 k4
    have T4:=T3.app k4 noOwn hlt
    have N4:RO 1 st.bare s4 r4 (bs X):=(RO.nil T3.bare T3.lt).app k3 k4
    obtain ⟨t4,rfl⟩:=N4.sl
    have hW4:=hW.tn hU ((Tn.refl (bx:=[]) T3.lt).app k4 noOwn T3.lt)
    have B4:s4.box f=some [.sc (.int .u8 0),.sc (.int .u8 0),.sl .nil []]:=by rw [k4.box]; exact B3
    obtain ⟨tk5,hb4⟩:=hW4.box
    rw [negC] at hb4
    simp (maxSteps:=3000000) only [go_sem,↓reduceIte,B4,hb4]
    have T5:Tn (n :: bx) st (s4.put f [.sc (.int .u8 1),.sc (.int .u8 N1.id),.sl t4 (bs X)]):=T4.put (.inr hf) hlt
    have hW5:=hW4.tnx hU ((Tn.refl (bx:=[f]) T4.lt).put (b:=f) (cs:=[.sc (.int .u8 1),.sc (.int .u8 N1.id),.sl t4 (bs X)]) (.inl (by simp)) T4.lt) hfd
    exact ⟨_,_,Wk.agg (.cons (.refl _) (.cons (.refl _) (.cons .no .nil))),T5.lt.weak,rfl,hW5,T5⟩
  · rw [if_neg c1] at hid
    have hcond:again=false ∨ again=true∧¬ X=N.req:=by
      cases again
      · exact .inl rfl
      · exact .inr ⟨rfl,fun e=>c1 ⟨rfl,e⟩⟩
    have hNb:{ N with id:=N1.id }=N.bump:=by rw [hid]; rfl
    have key:∀ (r:V) (s2:St),r=.sc (.int .u8 N.bump.id)∧NegI (.sc (.iface t pv)) codes SI bx n k s2 N.bump∧Tn (n :: bx) s0 s2→NegI (.sc (.iface t pv)) codes SI bx n k s2 { N with id:=N1.id }∧Tn (n :: bx) st s2∧s2.box f=some [.sc (.int .u8 0),.sc (.int .u8 0),.sl .nil []]:=fun r s2 ⟨_,q2,q3⟩=>by
      refine ⟨by rw [hNb]; exact q2,TW.trans q3,q3.box f _ B0 (fun hm=>?_)⟩
      have:=h.lt hU hlt f hm
      omega
    rcases hcond with rfl | ⟨rfl,c2⟩
    · simp (maxSteps:=3000000) only [go_sem,↓reduceIte]
      refine Cal.mk (negFresh_v hU h0) ?_
      intro r s2 hq2 _
      obtain ⟨h2,T2,B2⟩:=key r s2 hq2
      obtain ⟨tk2,hb2⟩:=h2.box
      unfold negC at hb2
      have hW:=h2.write hU (N':=N1) (tk:=.no) hrr (by rw [hll]; exact h.l0) (by rw [hll]; exact h.l1) hi0.1 hi0.2 (by rw [hnn]; exact h.a0) (by rw [hnn]; exact h.a1) (by rw [hreq]; exact hbB)
      rw [hC] at hW
      have T3:Tn (n :: bx) st (s2.put n [.sc (.int .i64 N.s),.sc (.int .i64 N.left),.sc (.int .i64 N.at_),.sc (.iface t pv),.sc (.int .u8 codes),.sc (.int .u8 N1.id),.sl .no (bs X),.sc (.int .i64 N.naks)]):=T2.put (.inl (by simp)) hlt
      have B3:(s2.put n [.sc (.int .i64 N.s),.sc (.int .i64 N.left),.sc (.int .i64 N.at_),.sc (.iface t pv),.sc (.int .u8 codes),.sc (.int .u8 N1.id),.sl .no (bs X),.sc (.int .i64 N.naks)]).box f=some [.sc (.int .u8 0),.sc (.int .u8 0),.sl .nil []]:=by rw [put_box_ne nf.symm]; exact B2
      simp (maxSteps:=3000000) only [go_sem,↓reduceIte,hb2]
      generalize s2.put n [.sc (.int .i64 N.s),.sc (.int .i64 N.left),.sc (.int .i64 N.at_),.sc (.iface t pv),.sc (.int .u8 codes),.sc (.int .u8 N1.id),.sl .no (bs X),.sc (.int .i64 N.naks)]=s3 at hW T3 B3 ⊢
      refine App.mk (bytes:=1) (l:=[]) (ys:=bs X) own_nil (allSz_bs _) (by simp only [bs_len,List.length_nil]; unfold maxLen; omega) (by simp only [bs_len,List.length_nil]; omega) ?_
      intro r4 s4 k3 k4
      have T4:=T3.app k4 noOwn hlt
      have N4:RO 1 st.bare s4 r4 (bs X):=(RO.nil T3.bare T3.lt).app k3 k4
      obtain ⟨t4,rfl⟩:=N4.sl
      have hW4:=hW.tn hU ((Tn.refl (bx:=[]) T3.lt).app k4 noOwn T3.lt)
      have B4:s4.box f=some [.sc (.int .u8 0),.sc (.int .u8 0),.sl .nil []]:=by rw [k4.box]; exact B3
      obtain ⟨tk5,hb4⟩:=hW4.box
      rw [negC] at hb4
      simp (maxSteps:=3000000) only [go_sem,↓reduceIte,B4,hb4]
      have T5:Tn (n :: bx) st (s4.put f [.sc (.int .u8 1),.sc (.int .u8 N1.id),.sl t4 (bs X)]):=T4.put (.inr hf) hlt
      have hW5:=hW4.tnx hU ((Tn.refl (bx:=[f]) T4.lt).put (b:=f) (cs:=[.sc (.int .u8 1),.sc (.int .u8 N1.id),.sl t4 (bs X)]) (.inl (by simp)) T4.lt) hfd
      exact ⟨_,_,Wk.agg (.cons (.refl _) (.cons (.refl _) (.cons .no .nil))),T5.lt.weak,rfl,hW5,T5⟩
    · have e1:decide (strOf X ≠ strOf N.req)=true:=decide_eq_true (fun e=>c2 (hinj.1 e))
      simp (maxSteps:=3000000) only [go_sem,↓reduceIte,hb0,u8sOf_bsN,e1]
      refine Cal.mk (negFresh_v hU h0) ?_
      intro r s2 hq2 _
      obtain ⟨h2,T2,B2⟩:=key r s2 hq2
      obtain ⟨tk2,hb2⟩:=h2.box
      unfold negC at hb2
      have hW:=h2.write hU (N':=N1) (tk:=.no) hrr (by rw [hll]; exact h.l0) (by rw [hll]; exact h.l1) hi0.1 hi0.2 (by rw [hnn]; exact h.a0) (by rw [hnn]; exact h.a1) (by rw [hreq]; exact hbB)
      rw [hC] at hW
      have T3:Tn (n :: bx) st (s2.put n [.sc (.int .i64 N.s),.sc (.int .i64 N.left),.sc (.int .i64 N.at_),.sc (.iface t pv),.sc (.int .u8 codes),.sc (.int .u8 N1.id),.sl .no (bs X),.sc (.int .i64 N.naks)]):=T2.put (.inl (by simp)) hlt
      have B3:(s2.put n [.sc (.int .i64 N.s),.sc (.int .i64 N.left),.sc (.int .i64 N.at_),.sc (.iface t pv),.sc (.int .u8 codes),.sc (.int .u8 N1.id),.sl .no (bs X),.sc (.int .i64 N.naks)]).box f=some [.sc (.int .u8 0),.sc (.int .u8 0),.sl .nil []]:=by rw [put_box_ne nf.symm]; exact B2
      simp (maxSteps:=3000000) only [go_sem,↓reduceIte,hb2]
      generalize s2.put n [.sc (.int .i64 N.s),.sc (.int .i64 N.left),.sc (.int .i64 N.at_),.sc (.iface t pv),.sc (.int .u8 codes),.sc (.int .u8 N1.id),.sl .no (bs X),.sc (.int .i64 N.naks)]=s3 at hW T3 B3 ⊢
      refine App.mk (bytes:=1) (l:=[]) (ys:=bs X) own_nil (allSz_bs _) (by simp only [bs_len,List.length_nil]; unfold maxLen; omega) (by simp only [bs_len,List.length_nil]; omega) ?_
      intro r4 s4 k3 k4
      have T4:=T3.app k4 noOwn hlt
      have N4:RO 1 st.bare s4 r4 (bs X):=(RO.nil T3.bare T3.lt).app k3 k4
      obtain ⟨t4,rfl⟩:=N4.sl
      have hW4:=hW.tn hU ((Tn.refl (bx:=[]) T3.lt).app k4 noOwn T3.lt)
      have B4:s4.box f=some [.sc (.int .u8 0),.sc (.int .u8 0),.sl .nil []]:=by rw [k4.box]; exact B3
      obtain ⟨tk5,hb4⟩:=hW4.box
      rw [negC] at hb4
      simp (maxSteps:=3000000) only [go_sem,↓reduceIte,B4,hb4]
      have T5:Tn (n :: bx) st (s4.put f [.sc (.int .u8 1),.sc (.int .u8 N1.id),.sl t4 (bs X)]):=T4.put (.inr hf) hlt
      have hW5:=hW4.tnx hU ((Tn.refl (bx:=[f]) T4.lt).put (b:=f) (cs:=[.sc (.int .u8 1),.sc (.int .u8 N1.id),.sl t4 (bs X)]) (.inl (by simp)) T4.lt) hfd
      exact ⟨_,_,Wk.agg (.cons (.refl _) (.cons (.refl _) (.cons .no .nil))),T5.lt.weak,rfl,hW5,T5⟩
end
end
section
open Go
section
variable {st:St} {b n:Nat} {pre post:List V}
set_option maxRecDepth 100000 in
theorem guardSee_v {c0 c1 c2 c3 c4 c5 c6 c7 c8 c9 c10:V} {g own x:Int} (hb:st.box b=some [c0,c1,c2,c3,c4,c5,c6,c7,c8,c9,c10,.sc (.int .i64 g)]) (h0:0≤g) (h1:g≤2000000000) :
    VCalls Tryz.prog 266 [.sc (.pointer (some ⟨b,11,none⟩)),.sc (.int .u32 own),.sc (.int .u32 x)] st fun r s'=>r=.sc (.bool (decide (own ≠ 0∧own=x)))∧s'=st.put b [c0,c1,c2,c3,c4,c5,c6,c7,c8,c9,c10,.sc (.int .i64 (if own ≠ 0∧own=x then g + 1 else 0))]:=by
  refine vcalls_enter vc266 (Nat.le_of_ble_eq_true rfl) fun hwf hok=>?_
  show Run _ Vc266.body (.fin (finQ Vc266.res _)) _ _
  unfold Vc266 zg zn zo
  have hlt:=hwf.lt
  by_cases c:own=0
  · simp (maxSteps:=3000000) only [go_sem,↓reduceIte,decide_eq_true c,hb]
    exact ⟨_,_,Wk.refl _,(hlt.put (b:=b)).weak,by simp [c],by simp [c]⟩
  by_cases d:own=x
  · simp (maxSteps:=3000000) only [go_sem,↓reduceIte,decide_eq_false c,decide_eq_false (show ¬ own ≠ x from fun k=>k d),hb]
    repeat (apply And.intro; focus (first | omega | (simp; done)))
    exact ⟨_,_,Wk.refl _,(hlt.put (b:=b)).weak,by rw [decide_eq_true ⟨c,d⟩],by rw [if_pos ⟨c,d⟩]⟩
  · simp (maxSteps:=3000000) only [go_sem,↓reduceIte,decide_eq_false c,decide_eq_true (show ¬ own=x from d),hb]
    exact ⟨_,_,Wk.refl _,(hlt.put (b:=b)).weak,by rw [decide_eq_false (fun k=>d k.2)],by rw [if_neg (fun k=>d k.2)]⟩
theorem guardLoop_v {c0 c1 c2 c3 c4 c5 c6 c7 c8 c9 c10:V} {g:Int} (hb:st.box b=some [c0,c1,c2,c3,c4,c5,c6,c7,c8,c9,c10,.sc (.int .i64 g)]) :
    VCalls Tryz.prog 146 [.sc (.pointer (some ⟨b,11,none⟩))] st fun r s'=>r=.sc (.bool (decide (4≤g)))∧s'=st:=by
  refine vcalls_enter vc146 (Nat.le_of_ble_eq_true rfl) fun hwf hok=>?_
  show Run _ Vc146.body (.fin (finQ Vc146.res _)) _ _
  unfold Vc146 zo
  simp (maxSteps:=3000000) only [go_sem,↓reduceIte,hb]
  exact ⟨_,_,Wk.refl _,hwf.weak,rfl,rfl⟩
end
end
section
open Go
structure Want where
  mru:Int
  auth:Bool
  magic:Int
  pfc:Bool
  acfc:Bool
  deriving DecidableEq
def Want.cells (w:Want):List V:=[.sc (.int .u16 w.mru),.sc (.bool w.auth),.sc (.int .u32 w.magic),.sc (.bool w.pfc),.sc (.bool w.acfc)]
structure Want.Good (w:Want):Prop where
  m0:0≤w.mru
  m1:w.mru < 65536
  g0:0≤w.magic
  g1:w.magic < 4294967296
def Want.zero:Want:=⟨0,false,0,false,false⟩
theorem Want.zero_good:Want.zero.Good:=⟨by decide,by decide,by decide,by decide⟩
def num2 (L:List Int):Int:=if L.length < 2 then 0 else numL (L.take 2)
def num4 (L:List Int):Int:=if L.length < 4 then 0 else numL (L.take 4)
theorem num2_rng {L:List Int} (h:IsB L):0≤num2 L∧num2 L < 65536:=by
  unfold num2
  split
  · exact ⟨by omega,by omega⟩
  · have e:(L.take 2).length=2:=by simp only [List.length_take]; omega
    have:=numL_range _ (L.take 2) rfl (h.take _)
    rw [e] at this
    exact this
theorem num4_rng {L:List Int} (h:IsB L):0≤num4 L∧num4 L < 4294967296:=by
  unfold num4
  split
  · exact ⟨by omega,by omega⟩
  · have e:(L.take 4).length=4:=by simp only [List.length_take]; omega
    have:=numL_range _ (L.take 4) rfl (h.take _)
    rw [e] at this
    exact this
def optsW (w:Want):List Opt :=
  (if w.mru ≠ 0 then [(1,beL w.mru 2)] else []) ++ (if w.auth=true then [(3,[194,35,5])] else []) ++ (if w.magic ≠ 0 then [(5,beL w.magic 4)] else []) ++ (if w.pfc=true then [(7,[])] else []) ++ (if w.acfc=true then [(8,[])] else [])
def sizeT (t:Int):Int:=if t=1 then 2 else if t=2 ∨ t=5 then 4 else if t=7 ∨ t=8 then 0 else -1
def betterO (o:Opt) (own draw:Int):Option Opt :=
  if o.1=1∧(num2 o.2 < 128 ∨ 1500 < num2 o.2) then some (1,beL 1400 2) else if o.1=5∧(num4 o.2=0 ∨ num4 o.2=own) then some (5,beL draw 4) else none
def judgeStep (own draw:Int) (a:List Opt × List Opt × List Int) (o:Opt):List Opt × List Opt × List Int :=
  if sizeT o.1 ≠ (o.2.length:Int) ∨ o.1 ∈ a.2.2 then (a.1 ++ [o],a.2.1,a.2.2)
  else (a.1,a.2.1 ++ (betterO o own draw).toList,o.1 :: a.2.2)
def judgeF (own draw:Int) (l:List Opt):List Opt × List Opt × List Int:=l.foldl (judgeStep own draw) ([],[],[])
def judgeL (l:List Opt) (own draw:Int):Int × List Opt :=
  let a:=judgeF own draw l
  if a.1 ≠ [] then (4,a.1) else if a.2.1 ≠ [] then (3,a.2.1) else (2,l)
def ofStep (w:Want) (o:Opt):Want :=
  if o.1=1 then { w with mru:=num2 o.2 } else if o.1=5 then { w with magic:=num4 o.2 } else if o.1=7 then { w with pfc:=true } else if o.1=8 then { w with acfc:=true } else w
def ofL (l:List Opt):Want:=l.foldl ofStep .zero
def nakStep (w:Want) (o:Opt):Want :=
  if o.1=1∧o.2.length=2∧w.mru ≠ 0∧128≤num2 o.2∧num2 o.2≤1500 then { w with mru:=num2 o.2 }
  else if o.1=5∧o.2.length=4∧w.magic ≠ 0∧num4 o.2 ≠ 0 then { w with magic:=num4 o.2 } else w
def nakedL (w:Want) (l:List Opt):Want:=l.foldl nakStep w
def rejectedL (w:Want):List Opt→Want × Bool
  | []=>(w,true)
  | o :: l =>
    if o.1=1 then rejectedL { w with mru:=0 } l
    else if o.1=3 then (w,!w.auth)
    else if o.1=5 then rejectedL { w with magic:=0 } l
    else if o.1=7 then rejectedL { w with pfc:=false } l
    else if o.1=8 then rejectedL { w with acfc:=false } l
    else rejectedL w l
def madeD (k:Int):Int :=
  let x:=k * 2654435761 % 4294967296
  let y:=ibit .xor .u32 x (x / 32768)
  let z:=y * 2246822507 % 4294967296
  ibit .xor .u32 z (z / 8192)
structure Lr where
  w:Want
  g:Want
  ds:List Int
  k:Int
  guard:Int
def Lr.next (r:Lr):Lr × Int:=match r.ds with
  | []=>({ r with k:=(r.k + 1) % 4294967296 },madeD ((r.k + 1) % 4294967296))
  | x :: l=>({ r with ds:=l,k:=(r.k + 1) % 4294967296 },x)
def Lr.draw (r:Lr):Lr × Int:=if r.next.2 ≠ 0 then r.next else if r.next.1.next.2 ≠ 0 then r.next.1.next else (r.next.1.next.1,1)
def theirN (l:List Opt):Int:=match findO l 5 with
  | some d=>num4 d
  | none=>0
def Lr.see (r:Lr) (own x:Int):Lr:={ r with guard:=if own ≠ 0∧own=x then r.guard + 1 else 0 }
def Lr.judge (r:Lr) (l:List Opt):Lr × Int × List Opt :=
  let d:=if (r.w.magic ≠ 0∧r.w.magic=theirN l) ∨ theirN l=0 then (r.see r.w.magic (theirN l)).draw else (r.see r.w.magic (theirN l),0)
  (d.1,judgeL l r.w.magic d.2)
def Lr.naked (r:Lr) (l:List Opt):Lr :=
  match findO l 5 with
  | none=>{ r with w:=nakedL r.w l }
  | some d =>
    let r1:=Lr.see { r with w:=nakedL r.w l } r.w.magic (num4 d)
    if r.w.magic ≠ 0∧r.w.magic=num4 d then { r1.draw.1 with w:={ r1.draw.1.w with magic:=r1.draw.2 } } else r1
def lcpU:Rul Lr where
  request r:=optsW r.w
  judge r l:=r.judge l
  agreed r l:={ r with g:=ofL l }
  naked r l:=r.naked l
  rejected r l:=({ r with w:=(rejectedL r.w l).1 },(rejectedL r.w l).2)
def lcpEcho (N:Neg Lr) (p:Ctl) (P:List Ctl):List Ctl :=
  if p.code=9∧N.s=9∧4≤p.data.length∧num4 p.data ≠ N.r.w.magic then P ++ [⟨10,p.id,beL N.r.w.magic 4 ++ p.data.drop 4⟩] else P
def lcpTake (N:Neg Lr) (now:Int) (p:Ctl):Neg Lr × Nout :=
  let a:=N.take lcpU 11 now p
  let P:=lcpEcho a.1 p a.2.P
  if 4≤a.1.r.guard then
    let x:=Neg.close lcpU { a.1 with r:={ a.1.r with guard:=0 } } now
    (x.1,⟨P ++ x.2.P,a.2.up,a.2.down || x.2.down,a.2.over || x.2.over⟩)
  else (a.1,⟨P,a.2.up,a.2.down,a.2.over⟩)
def lcpNew (ds:List Int):Neg Lr :=
  let d:=Lr.draw ⟨.zero,.zero,ds,0,0⟩
  ⟨0,0,0,0,[],0,{ d.1 with w:=⟨1400,true,d.2,false,false⟩ }⟩
end
section
open Go
def w4s (L:List Int):List V:=L.map fun n=>.sc (.int .u32 n)
theorem w4s_len (L:List Int):(w4s L).length=L.length:=by simp [w4s]
theorem allSz_w4s (L:List Int):allSz 1 (w4s L):=fun d hd=>by
  obtain ⟨x,_,rfl⟩:=List.mem_map.1 hd; rfl
theorem w4s_append (L M:List Int):w4s L ++ w4s M=w4s (L ++ M):=by simp [w4s]
theorem ibit_xor_rng (a b:Int):0≤ibit .xor .u32 a b∧ibit .xor .u32 a b < 4294967296:=by
  have:∃ z:Int,ibit .xor .u32 a b=z % 4294967296:=⟨_,rfl⟩
  obtain ⟨z,hz⟩:=this
  omega
theorem madeD_rng (k:Int):0≤madeD k∧madeD k < 4294967296:=ibit_xor_rng _ _
def DrB (s:St) (d:Nat) (ds:List Int) (k:Int):Prop:=∃ tk,s.box d=some [.sl tk (w4s ds),.sc (.int .u32 k)]
structure DrG (ds:List Int) (k:Int):Prop where
  r:∀ x ∈ ds,0≤x∧x < 4294967296
  l:ds.length≤1000000
  k0:0≤k
  k1:k < 4294967296
section
variable {st:St} {d:Nat} {r:Lr}
theorem next_good (h:DrG r.ds r.k):DrG r.next.1.ds r.next.1.k∧0≤r.next.2∧r.next.2 < 4294967296:=by
  have h1:=h.r
  have h2:=h.l
  cases hd:r.ds with
  | nil =>
    have hn:r.next=({ r with k:=(r.k + 1) % 4294967296 },madeD ((r.k + 1) % 4294967296)):=by unfold Lr.next; rw [hd]
    rw [hn]
    exact ⟨⟨h1,h2,(by simp only; omega),(by simp only; omega)⟩,madeD_rng _⟩
  | cons x l =>
    have hn:r.next=({ r with ds:=l,k:=(r.k + 1) % 4294967296 },x):=by unfold Lr.next; rw [hd]
    rw [hn]
    rw [hd] at h1 h2
    simp only [List.length_cons] at h2
    exact ⟨⟨fun y hy=>h1 y (by simp only at hy; simp [hy]),(by simp only; omega),(by simp only; omega),(by simp only; omega)⟩,h1 x (by simp)⟩
set_option maxRecDepth 100000 in
set_option maxHeartbeats 4000000 in
theorem drNext_v (hb:DrB st d r.ds r.k) (hG:DrG r.ds r.k):VCalls Tryz.prog 138 [ptrV d] st fun v s=>v=.sc (.int .u32 r.next.2)∧DrB s d r.next.1.ds r.next.1.k∧Tn [d] st s:=by
  obtain ⟨tk,hb⟩:=hb
  refine vcalls_enter vc138 (Nat.le_of_ble_eq_true rfl) fun hwf hok=>?_
  show Run _ Vc138.body (.fin (finQ Vc138.res _)) _ _
  unfold Vc138 zn zo
  have hlt:=hwf.lt
  have k0:=hG.k0
  have k1:=hG.k1
  have T1:=(Tn.refl (bx:=[d]) hlt).put (b:=d) (cs:=[.sl tk (w4s r.ds),.sc (.int .u32 ((r.k + 1) % 4294967296))]) (.inl (by simp)) hlt
  cases hd:r.ds with
  | nil =>
    rw [hd] at hb T1
    have hn:r.next=({ r with k:=(r.k + 1) % 4294967296 },madeD ((r.k + 1) % 4294967296)):=by unfold Lr.next; rw [hd]
    simp (maxSteps:=3000000) only [go_sem,↓reduceIte,hb,w4s_len,List.length_nil,decide_eq_false (show ¬ (0:Int) < ((0:Nat):Int) by decide)]
    rw [hn,hd]
    exact ⟨_,_,Wk.refl _,T1.lt.weak,rfl,⟨tk,put_box_same⟩,T1⟩
  | cons x l =>
    have hl:=hG.l
    rw [hd] at hb T1 hl
    simp only [List.length_cons] at hl
    have hn:r.next=({ r with ds:=l,k:=(r.k + 1) % 4294967296 },x):=by unfold Lr.next; rw [hd]
    have g0:(w4s (x :: l))[0]?=some (.sc (.int .u32 x)):=rfl
    have e1:(w4s (x :: l)).drop 1=w4s l:=rfl
    simp (maxSteps:=3000000) only [go_sem,↓reduceIte,hb,w4s_len,List.length_cons,decide_eq_true (show (0:Int) < ((l.length + 1:Nat):Int) by omega),g0,e1]
    refine ⟨allSz_w4s _,?_⟩
    have hb1:(st.put d [.sl tk (w4s (x :: l)),.sc (.int .u32 ((r.k + 1) % 4294967296))]).box d=some [.sl tk (w4s (x :: l)),.sc (.int .u32 ((r.k + 1) % 4294967296))]:=put_box_same
    generalize st.put d _=s1 at T1 hb1 ⊢
    refine App.mk (bytes:=4) (l:=[]) (ys:=w4s l) own_nil (allSz_w4s _) (by simp only [w4s_len,List.length_nil]; unfold maxLen; omega) (by simp only [w4s_len,List.length_nil]; omega) ?_
    intro r2 s2 k1 k2
    have T2:=T1.app k2 noOwn hlt
    obtain ⟨t2,rfl⟩:=own_sl k1
    rw [List.nil_append] at k1 k2 ⊢
    have hb2:=hb1
    rw [← k2.box] at hb2
    simp (maxSteps:=3000000) only [go_sem,↓reduceIte,hb2]
    have T3:=T2.put (b:=d) (cs:=[.sl t2 (w4s l),.sc (.int .u32 ((r.k + 1) % 4294967296))]) (.inl (by simp)) hlt
    rw [hn]
    exact ⟨_,_,Wk.refl _,T3.lt.weak,rfl,⟨t2,put_box_same⟩,T3⟩
theorem draw_good (h:DrG r.ds r.k):DrG r.draw.1.ds r.draw.1.k∧0 < r.draw.2∧r.draw.2 < 4294967296:=by
  have h1:=next_good h
  have h2:=next_good h1.1
  unfold Lr.draw
  split
  · rename_i c; exact ⟨h1.1,by have:=h1.2; omega,h1.2.2⟩
  split
  · rename_i c; exact ⟨h2.1,by have:=h2.2; omega,h2.2.2⟩
  · exact ⟨h2.1,(show (0:Int) < 1 by decide),(show (1:Int) < 4294967296 by decide)⟩
theorem next_keep:r.next.1.w=r.w∧r.next.1.g=r.g∧r.next.1.guard=r.guard:=by
  unfold Lr.next
  split <;> exact ⟨rfl,rfl,rfl⟩
theorem draw_keep:r.draw.1.w=r.w∧r.draw.1.g=r.g∧r.draw.1.guard=r.guard:=by
  have h1:=next_keep (r:=r)
  have h2:=next_keep (r:=r.next.1)
  unfold Lr.draw
  split
  · exact h1
  split
  · exact ⟨h2.1.trans h1.1,h2.2.1.trans h1.2.1,h2.2.2.trans h1.2.2⟩
  · exact ⟨h2.1.trans h1.1,h2.2.1.trans h1.2.1,h2.2.2.trans h1.2.2⟩
set_option maxRecDepth 100000 in
set_option maxHeartbeats 4000000 in
theorem drSome_v (hb:DrB st d r.ds r.k) (hG:DrG r.ds r.k):VCalls Tryz.prog 88 [ptrV d] st fun v s=>v=.sc (.int .u32 r.draw.2)∧DrB s d r.draw.1.ds r.draw.1.k∧Tn [d] st s:=by
  refine vcalls_enter vc88 (Nat.le_of_ble_eq_true rfl) fun hwf hok=>?_
  show Run _ Vc88.body (.fin (finQ Vc88.res _)) _ _
  unfold Vc88 zo
  have hlt:=hwf.lt
  simp (maxSteps:=3000000) only [go_sem]
  refine run_loop [2,3,4,5,6,7,8,9,10,11] (fun B s=>∃ (i:Nat) (q:Lr),B 4=.sc (.int .i64 i)∧DrB s d q.ds q.k∧DrG q.ds q.k∧Tn [d] st s∧(i=0∧q=r ∨ i=1∧r.next.2=0∧q=r.next.1 ∨ i=2∧r.next.2=0∧r.next.1.next.2=0∧q=r.next.1.next.1)) (fun B _=>2 - vnat (B 4)) rfl ?_ ?_
  · exact ⟨0,r,rfl,hb,hG,Tn.refl hlt,.inl ⟨rfl,rfl⟩⟩
  · rintro B s ⟨i,q,h4,hq,hg,T,h⟩
    have hng:=(next_good hg).1
    rcases h with ⟨rfl,rfl⟩ | ⟨rfl,e1,rfl⟩ | ⟨rfl,e1,e2,rfl⟩
    · simp (maxSteps:=3000000) only [go_sem,↓reduceIte,h4,decide_eq_true (show ((0:Nat):Int) < 2 by decide)]
      refine Cal.mk (drNext_v hq hg) ?_
      rintro _ s1 ⟨rfl,h1,T1⟩ -
      by_cases c:q.next.2=0
      · simp (maxSteps:=3000000) only [go_sem,↓reduceIte,h4,decide_eq_false (show ¬ q.next.2 ≠ 0 from fun e=>e c)]
        repeat (apply And.intro; focus (first | omega | (simp; done)))
        exact ⟨⟨1,_,rfl,h1,hng,T.trans T1,.inr (.inl ⟨rfl,c,rfl⟩)⟩,by omega⟩
      · simp (maxSteps:=3000000) only [go_sem,↓reduceIte,decide_eq_true (show q.next.2 ≠ 0 from c)]
        exact ⟨_,_,Wk.refl _,T1.lt.weak,by rw [Lr.draw,if_pos c],by rw [Lr.draw,if_pos c]; exact h1,T.trans T1⟩
    · simp (maxSteps:=3000000) only [go_sem,↓reduceIte,h4,decide_eq_true (show ((1:Nat):Int) < 2 by decide)]
      refine Cal.mk (drNext_v hq hg) ?_
      rintro _ s1 ⟨rfl,h1,T1⟩ -
      by_cases c:r.next.1.next.2=0
      · simp (maxSteps:=3000000) only [go_sem,↓reduceIte,h4,decide_eq_false (show ¬ r.next.1.next.2 ≠ 0 from fun e=>e c)]
        repeat (apply And.intro; focus (first | omega | (simp; done)))
        exact ⟨⟨2,_,rfl,h1,hng,T.trans T1,.inr (.inr ⟨rfl,e1,c,rfl⟩)⟩,by omega⟩
      · simp (maxSteps:=3000000) only [go_sem,↓reduceIte,decide_eq_true (show r.next.1.next.2 ≠ 0 from c)]
        have e:r.draw=r.next.1.next:=by rw [Lr.draw,if_neg (fun x=>x e1),if_pos c]
        exact ⟨_,_,Wk.refl _,T1.lt.weak,by rw [e],by rw [e]; exact h1,T.trans T1⟩
    · simp (maxSteps:=3000000) only [go_sem,↓reduceIte,h4,decide_eq_false (show ¬ ((2:Nat):Int) < 2 by decide)]
      have e:r.draw=(r.next.1.next.1,1):=by rw [Lr.draw,if_neg (fun x=>x e1),if_neg (fun x=>x e2)]
      exact ⟨_,_,Wk.refl _,T.lt.weak,by rw [e],by rw [e]; exact hq,T⟩
end
end
section
open Go
def valueC (id:Int) (key:ByteArray) (chal:List Int):List Int:=md5M (id :: (bytesOf key ++ chal))
def makeC (code id:Int) (v:List Int) (name:ByteArray):Ctl:=⟨code,id,(v.length:Int) :: (v ++ bytesOf name)⟩
theorem w8 {x:Nat} (h:x < 256):IntKind.u8.wrap ((x:Nat):Int)=x:=by
  simp only [IntKind.wrap,IntKind.signed,IntKind.bits,Bool.false_and,Bool.false_eq_true,↓reduceIte]; omega
theorem b8 {x:Nat} (h:x < 256):(BitVec.ofInt 8 (x:Int)).toNat=x:=by rw [BitVec.toNat_ofInt]; omega
theorem i8_or {a b:Nat} (ha:a < 256) (hb:b < 256):ibit .or .u8 (a:Int) (b:Int)=((a ||| b:Nat):Int):=by
  have g:ibit .or .u8 (a:Int) (b:Int)=IntKind.u8.wrap ((BitVec.ofInt 8 (a:Int) ||| BitVec.ofInt 8 (b:Int)).toNat:Int):=rfl
  rw [g,BitVec.toNat_or,b8 ha,b8 hb,w8 (Nat.or_lt_two_pow (n:=8) ha hb)]
theorem i8_xor {a b:Nat} (ha:a < 256) (hb:b < 256):ibit .xor .u8 (a:Int) (b:Int)=((a ^^^ b:Nat):Int):=by
  have g:ibit .xor .u8 (a:Int) (b:Int)=IntKind.u8.wrap ((BitVec.ofInt 8 (a:Int) ^^^ BitVec.ofInt 8 (b:Int)).toNat:Int):=rfl
  rw [g,BitVec.toNat_xor,b8 ha,b8 hb,w8 (Nat.xor_lt_two_pow (n:=8) ha hb)]
theorem orxor {x y z:Nat}:x ||| (y ^^^ z)=0 ↔ x=0∧y=z:=by
  constructor
  · intro h
    have hx:x=0:=by
      refine Nat.eq_of_testBit_eq fun i=>?_
      have:=congrArg (fun n=>n.testBit i) h
      simp only [Nat.testBit_or,Nat.zero_testBit,Bool.or_eq_false_iff] at this
      rw [this.1,Nat.zero_testBit]
    refine ⟨hx,Nat.eq_of_testBit_eq fun i=>?_⟩
    have:=congrArg (fun n=>n.testBit i) h
    simp only [Nat.testBit_or,Nat.testBit_xor,Nat.zero_testBit,Bool.or_eq_false_iff] at this
    revert this
    cases y.testBit i <;> cases z.testBit i <;> simp
  · rintro ⟨rfl,rfl⟩; simp
theorem sldB {b:Nat} {L:List Int} {n:Nat} (hn:n=L.length) (hm:n≤maxLen):Sld b (bs L) (.sc (.slice (some ⟨b,0,none⟩) n n)) (.sl .no (bs L)):=by
  subst hn
  have:=Sld.box (b:=b) (cs:=bs L) 0 L.length 1 (bs L) (fun i d hd=>allSz_bs L d (List.mem_of_getElem? hd)) (fun i d j x hd hj=>by
    have:d.cells=[d]:=by
      obtain ⟨n,_,rfl⟩:=List.mem_map.1 (List.mem_of_getElem? hd); rfl
    rw [this] at hj
    have hj0:j=0:=by
      rcases Nat.eq_zero_or_pos j with h | h
      · exact h
      · rw [List.getElem?_eq_none (by simp; omega)] at hj; cases hj
    subst hj0
    simp at hj; subst hj
    simpa using hd) (by rw [bs_len]; omega) hm
  rwa [bs_len] at this
theorem weakDrop {base s:St} {b:Nat} (h:base.weak s) (hb:base.sz≤b):base.weak (s.drop b) :=
  ⟨fun c cs hc=>⟨by
    have:=(h.box c cs hc).2
    have hne:c ≠ b:=by omega
    show (if c=b then none else s.box c)=some cs
    rw [if_neg hne]; exact (h.box c cs hc).1,(h.box c cs hc).2⟩,h.own,h.sz⟩
section
variable {st:St} {L M:List Int} {tk t2:Tk} {id:Int} {key name:ByteArray}
set_option maxRecDepth 100000 in
theorem md5Same_v (hB:IsB L) (hB2:IsB M) (hl:L.length≤1000):VCalls Tryz.prog 203 [.sl tk (bs L),.sl t2 (bs M)] st fun r s=>r=.sc (.bool (decide (L=M)))∧st=s:=by
  refine vcalls_enterq pc203 (Nat.le_of_ble_eq_true rfl) rfl fun hwf hok=>?_
  show Run _ Pc203.body (.fin (finP Pc203.res _)) _ _
  unfold Pc203 zo
  by_cases c:L.length=M.length
  · have c1:decide (¬ ((L.length:Nat):Int)=((M.length:Nat):Int))=false:=decide_eq_false (by omega)
    simp (maxSteps:=3000000) only [go_sem,↓reduceIte,bs_len,c1]
    refine run_loop [5,6,14,15,20,21,24,25,26,27,28] (fun B s=>∃ i x:Nat,i≤L.length∧x < 256∧B 14=.sc (.int .i64 i)∧B 5=.sc (.int .u8 x)∧(x=0 ↔ L.take i=M.take i)∧s=st) (fun B _=>L.length - vnat (B 14)) rfl ?_ ?_
    · exact ⟨0,0,by omega,by omega,by first | (simp (maxSteps:=3000000) only [go_sem,↓reduceIte]; done) | (simp (maxSteps:=3000000) only [go_sem,↓reduceIte]; rfl),by first | (simp (maxSteps:=3000000) only [go_sem,↓reduceIte]; done) | (simp (maxSteps:=3000000) only [go_sem,↓reduceIte]; rfl),by simp,rfl⟩
    · rintro B s ⟨i,x,hi,hx,h14,h5,hxi,rfl⟩
      by_cases ci:i < L.length
      · have c2:decide ((i:Int) < (L.length:Int))=true:=decide_eq_true (by omega)
        obtain ⟨y,ly,gy,_⟩:=byte_nat hB ci
        obtain ⟨z,lz,gz,_⟩:=byte_nat hB2 (j:=i) (by omega)
        have b1:(bs L)[i]?=some (.sc (.int .u8 (y:Nat))):=by rw [bs_get,gy]; rfl
        have b2:(bs M)[i]?=some (.sc (.int .u8 (z:Nat))):=by rw [bs_get,gz]; rfl
        have a1:=i8_xor ly lz
        have a2:=i8_or hx (Nat.xor_lt_two_pow (n:=8) ly lz)
        have e:(x ||| (y ^^^ z))=0 ↔ L.take (i + 1)=M.take (i + 1):=by
          rw [orxor,hxi,take_snoc' gy,take_snoc' gz]
          constructor
          · rintro ⟨h,rfl⟩; rw [h]
          · intro h
            have:=List.append_inj' h rfl
            simp only [List.cons.injEq,and_true] at this
            obtain ⟨t1,t2⟩:=this
            exact ⟨t1,by omega⟩
        have hx2:(x ||| (y ^^^ z)) < 256:=Nat.or_lt_two_pow (n:=8) hx (Nat.xor_lt_two_pow (n:=8) ly lz)
        obtain ⟨w,hw⟩:∃ w,(x ||| (y ^^^ z))=w:=⟨_,rfl⟩
        rw [hw] at e hx2 a2
        simp (maxSteps:=3000000) only [go_sem,↓reduceIte,h14,h5,c2,b1,b2,a1,a2]
        repeat (apply And.intro; focus (first | omega | (simp; done)))
        exact ⟨⟨i + 1,w,by omega,hx2,by simp,by simp,e⟩,by omega⟩
      · have c2:decide ((i:Int) < (L.length:Int))=false:=decide_eq_false (by omega)
        obtain rfl:i=L.length:=by omega
        rw [List.take_length,c,List.take_length] at hxi
        have c3:decide ((x:Int)=0)=decide (L=M):=decide_eq_decide.2 (by rw [← hxi]; omega)
        simp (maxSteps:=3000000) only [go_sem,↓reduceIte,h14,h5,c3]
        exact ⟨_,_,Wk.refl _,hwf.weak,rfl,rfl⟩
  · have c1:decide (¬ ((L.length:Nat):Int)=((M.length:Nat):Int))=true:=decide_eq_true (by omega)
    have e:decide (L=M)=false:=decide_eq_false fun h=>c (by rw [h])
    rw [e]
    simp (maxSteps:=3000000) only [go_sem,↓reduceIte,bs_len,c1]
    exact ⟨_,_,Wk.refl _,hwf.weak,rfl,rfl⟩
set_option maxRecDepth 100000 in
theorem chapValue_v (h0:0≤id) (h1:id < 256) (hk:key.size≤1000) (hB:IsB L) (hl:L.length≤1000):VCalls Tryz.prog 202 [.sc (.int .u8 id),.sc (.string key),.sl tk (bs L)] st fun r s=>r=.agg (bs (valueC id key L))∧st=s:=by
  refine vcalls_enterq pc202 (Nat.le_of_ble_eq_true rfl) rfl fun hwf hok=>?_
  show Run _ Pc202.body (.fin (finP Pc202.res _)) _ _
  unfold Pc202 zo
  have m1:key.size≤maxLen:=by unfold maxLen; omega
  simp (maxSteps:=3000000) only [go_sem,↓reduceIte]
  refine Bo.own (by simp [allLen,V.cells]) ?_
  intro g1 hg1
  simp (maxSteps:=3000000) only [go_sem,↓reduceIte,m1]
  refine Bo.own (by simp [allLen,V.cells]) ?_
  intro g2 hg2
  have hb:IsB (bytesOf key):=bytesOf_isB key
  have hbl:=bytesOf_len key
  have hw:st.weak ((st.use g1 1).use g2 3):=by
    exact weak_use (weak_use hwf.weak hg1) (by simp only [use_sz] at hg2; omega)
  generalize ((st.use g1 1).use g2 3)=s1 at hw ⊢
  have hv:∀ (i:Nat) (M:List Int),[[id],bytesOf key,L][i]?=some M→∃ t,([V.sl Tk.no [V.sc (Value.int IntKind.u8 id)],V.sl Tk.no (byL key),V.sl Tk.no (bs L)])[i]?=some (V.sl t (bs M)):=by
    intro i M h
    match i,h with
    | 0,h=>simp only [List.getElem?_cons_zero,Option.some.injEq] at h; subst h; exact ⟨.no,rfl⟩
    | 1,h=>simp only [List.getElem?_cons_succ,List.getElem?_cons_zero,Option.some.injEq] at h; subst h; exact ⟨.no,rfl⟩
    | 2,h=>simp only [List.getElem?_cons_succ,List.getElem?_cons_zero,Option.some.injEq] at h; subst h; exact ⟨.no,rfl⟩
    | i + 3,h=>simp at h
  have hBs:∀ M ∈ [[id],bytesOf key,L],IsB M:=by
    intro M hM
    simp only [List.mem_cons,List.not_mem_nil,or_false] at hM
    rcases hM with rfl | rfl | rfl
    · intro x hx; simp only [List.mem_singleton] at hx; omega
    · exact hb
    · exact hB
  have e:[[id],bytesOf key,L].flatten=id :: (bytesOf key ++ L):=by simp
  have q1:(valueC id key L).length=16:=md5M_len
  have q2:List.take 16 (bs (valueC id key L))=bs (valueC id key L):=List.take_of_length_le (by rw [bs_len,q1]; omega)
  have q3:(16:Nat)≤16:=Nat.le_refl _
  have M:=@md5Of_v s1 (.own g2 1) _ _ hv rfl hBs (by rw [e]; simp only [List.length_cons,List.length_append]; omega) (by simp) (by simp)
  rw [e] at M
  simp (maxSteps:=3000000) only [go_sem,↓reduceIte]
  refine Cal.mk M ?_
  rintro _ _ ⟨rfl,rfl⟩ -
  rw [show md5M (id :: (bytesOf key ++ L))=valueC id key L from rfl]
  simp (maxSteps:=3000000) only [go_sem,↓reduceIte,bs_len,q1,q2,q3]
  exact ⟨_,_,Wk.refl _,hw,rfl,rfl⟩
theorem chapRight_v (h0:0≤id) (h1:id < 256) (hk:key.size≤1000) (hB:IsB L) (hl:L.length≤1000) (hM:IsB M):VCalls Tryz.prog 185 [.sc (.int .u8 id),.sc (.string key),.sl tk (bs L),.sl t2 (bs M)] st fun r s=>r=.sc (.bool (decide (valueC id key L=M)))∧st=s:=by
  refine vcalls_enterq pc185 (Nat.le_of_ble_eq_true rfl) rfl fun hwf hok=>?_
  show Run _ Pc185.body (.fin (finP Pc185.res _)) _ _
  unfold Pc185 zn zo
  simp (maxSteps:=3000000) only [go_sem,↓reduceIte]
  refine Cal.mk (chapValue_v h0 h1 hk hB hl) ?_
  rintro _ _ ⟨rfl,rfl⟩ -
  have q1:(valueC id key L).length=16:=md5M_len
  have hB2:IsB (valueC id key L):=md5M_isB
  generalize valueC id key L=W at q1 hB2 ⊢
  simp (maxSteps:=3000000) only [go_sem,↓reduceIte]
  intro b hb
  refine ⟨by rw [bs_len,q1],?_⟩
  rw [show ∀ l:List V,l.length=16→bs W ++ List.drop (bs W).length l=bs W from fun l hl=>by rw [bs_len,q1,List.drop_of_length_le (by omega),List.append_nil]] <;> try rfl
  have hs:=sldB (b:=b) q1.symm (by unfold maxLen; omega)
  refine Cal.mk (VCalls.seal put_box_same (of_eq_true mono_bs) (md5Same_v (tk:=.no) (t2:=t2) hB2 hM (by omega)) rfl fun i x y hx hy=>?_) ?_
  · match i,hx,hy with
    | 0,hx,hy=>simp only [List.getElem?_cons_zero,Option.some.injEq] at hx hy; subst hx hy; exact hs
    | 1,hx,hy=>simp only [List.getElem?_cons_succ,List.getElem?_cons_zero,Option.some.injEq] at hx hy; subst hx hy; exact .same _
    | i + 2,hx,_=>simp at hx
  · rintro _ _ ⟨rfl,rfl⟩ -
    simp (maxSteps:=3000000) only [go_sem,↓reduceIte]
    exact ⟨_,_,Wk.refl _,weakDrop (weak_put hwf.weak hb) hb,rfl,rfl⟩
set_option maxRecDepth 100000 in
theorem chapMake_v {v:List Int} {host:ByteArray} (hv:1≤v.length) (hv2:v.length≤255) (hh:host.size≤255):VCalls Tryz.prog 161 [.sc (.int .u8 1),.sc (.int .u8 id),.sl tk (bs v),.sc (.string host)] st fun r s=>(∃ t,r=.tup [(makeC 1 id v host).v t,.sc (.int .i64 0)])∧st=s:=by
  refine vcalls_enterq pc161 (Nat.le_of_ble_eq_true rfl) rfl fun hwf hok=>?_
  show Run _ Pc161.body (.fin (finP Pc161.res _)) _ _
  unfold Pc161 zg zo
  have hlt:=hwf.lt
  have e1:(v.length:Int) % 256=v.length:=by omega
  have c1:decide ((v.length:Int) < 1)=false:=decide_eq_false (by omega)
  have c2:decide ((255:Int) < (v.length:Int))=false:=decide_eq_false (by omega)
  have c3:decide ((255:Int) < (host.size:Int))=false:=decide_eq_false (by omega)
  simp (maxSteps:=3000000) only [go_sem,↓reduceIte,bs_len,c1,c2,c3,e1]
  refine Bo.own (by simp [allLen,V.cells]) ?_
  intro g hg
  have R0:RO 1 st (st.use g 1) (.sl (.own g 1) (bs [(v.length:Int)])) (bs [(v.length:Int)]):=RO.use (cs:=bs [(v.length:Int)]) hwf.weak hlt hg
  generalize st.use g 1=s1 at R0 ⊢
  simp (maxSteps:=3000000) only [go_sem,↓reduceIte]
  refine App.mk (bytes:=1) (ys:=bs v) R0.own (allSz_bs _) (by simp only [bs_len,List.length_cons,List.length_nil]; unfold maxLen; omega) (by simp only [bs_len,List.length_cons,List.length_nil]; omega) ?_
  intro r2 s2 k1 k2
  have R2:=R0.app k1 k2
  rw [bs_append] at R2
  obtain ⟨t2,rfl⟩:=R2.sl
  simp (maxSteps:=3000000) only [go_sem,↓reduceIte,byL_bs]
  have hbl:=bytesOf_len host
  refine App.mk (bytes:=1) (ys:=bs (bytesOf host)) R2.own (allSz_bs _) (by simp only [bs_len,List.length_append,List.length_cons,List.length_nil]; unfold maxLen; omega) (by simp only [bs_len,List.length_append,List.length_cons,List.length_nil]; omega) ?_
  intro r3 s3 k3 k4
  have R3:=R2.app k3 k4
  rw [bs_append] at R3
  obtain ⟨t3,rfl⟩:=R3.sl
  simp (maxSteps:=3000000) only [go_sem,↓reduceIte]
  exact ⟨_,_,Wk.refl _,R3.weak,⟨t3,rfl⟩,rfl⟩
set_option maxRecDepth 100000 in
theorem chapSplit_v {v:List Int} {nm:ByteArray} (hv:1≤v.length) (hv2:v.length≤255) (hh:nm.size≤255):VCalls Tryz.prog 147 [.agg [.sc (.int .u8 2),.sc (.int .u8 id),.sl tk (bs ((v.length:Int) :: (v ++ bytesOf nm)))]] st fun r s=>(∃ t,r=.tup [.sl t (bs v),.sc (.string nm),.sc (.int .i64 0)])∧st=s:=by
  refine vcalls_enterq pc147 (Nat.le_of_ble_eq_true rfl) rfl fun hwf hok=>?_
  show Run _ Pc147.body (.fin (finP Pc147.res _)) _ _
  unfold Pc147 zg zn zo
  have hlt:=hwf.lt
  have hbl:=bytesOf_len nm
  have e1:((v.length:Int) :: (v ++ bytesOf nm)).length=1 + v.length + nm.size:=by simp only [List.length_cons,List.length_append,hbl]; omega
  have b0:(bs ((v.length:Int) :: (v ++ bytesOf nm)))[0]?=some (.sc (.int .u8 v.length)):=rfl
  have c0:decide (((1 + v.length + nm.size:Nat):Int)=0)=false:=decide_eq_false (by omega)
  have c1:decide ((v.length:Int)=0)=false:=decide_eq_false (by omega)
  have c2:decide (((1 + v.length + nm.size:Nat):Int) - 1 < (v.length:Int))=false:=decide_eq_false (by omega)
  have e2:(1 + (v.length:Int)).toNat=1 + v.length:=by omega
  have t1:List.drop 1 (List.take (1 + v.length) (bs ((v.length:Int) :: (v ++ bytesOf nm))))=bs v:=by
    rw [Nat.add_comm]
    show List.take v.length (bs (v ++ bytesOf nm))=bs v
    rw [← bs_append,List.take_left' (bs_len v)]
  have t2:(bs ((v.length:Int) :: (v ++ bytesOf nm))).drop (1 + v.length)=bs (bytesOf nm):=by
    rw [Nat.add_comm]
    show List.drop v.length (bs (v ++ bytesOf nm))=_
    rw [← bs_append,List.drop_left' (bs_len v)]
  simp (maxSteps:=3000000) only [go_sem,↓reduceIte,bs_len,e1,b0,c0,c1,c2,e2,t1,t2,u8sOf_bsN,strOf_bytesOf]
  refine ⟨by omega,by omega,by omega,⟨allSz_bs _,by omega,by omega⟩,by omega,⟨allSz_bs _,by omega,by omega⟩,?_⟩
  refine App.mk (bytes:=1) (l:=[]) (ys:=bs v) .nil (allSz_bs _) (by simp only [bs_len,List.length_nil]; unfold maxLen; omega) (by simp only [bs_len,List.length_nil]; omega) ?_
  intro r2 s2 k1 k2
  have R2:=(RO.nil (size:=1) hwf.weak hlt).app k1 k2
  obtain ⟨t,rfl⟩:=R2.sl
  simp (maxSteps:=3000000) only [go_sem,↓reduceIte]
  exact ⟨_,_,Wk.refl _,R2.weak,⟨t,rfl⟩,rfl⟩
set_option maxRecDepth 100000 in
theorem chapBytes_v {ns:List Int} (hn:ns.length≤100):VCalls Tryz.prog 160 [.sl tk (w4s ns)] st fun r s=>r=.sl .no (bs (ns.flatMap fun x=>beL x 4))∧st=s:=by
  refine vcalls_enterq pc160 (Nat.le_of_ble_eq_true rfl) rfl fun hwf hok=>?_
  show Run _ Pc160.body (.fin (finP Pc160.res _)) _ _
  unfold Pc160 zo
  have hlt:=hwf.lt
  simp (maxSteps:=3000000) only [go_sem,↓reduceIte,w4s_len]
  refine run_loop [3,5,8,9,10,11,14,15,17,18,20,21,23,24,25,26] (fun B s=>∃ (i:Nat) (t:Tk),i≤ns.length∧B 8=.sc (.int .i64 i)∧B 3=.sl t (bs ((ns.take i).flatMap fun x=>beL x 4))∧RO 1 st s (.sl t (bs ((ns.take i).flatMap fun x=>beL x 4))) (bs ((ns.take i).flatMap fun x=>beL x 4))) (fun B _=>ns.length - vnat (B 8)) rfl ?_ ?_
  · exact ⟨0,.nil,by omega,by first | (simp (maxSteps:=3000000) only [go_sem,↓reduceIte]; done) | (simp (maxSteps:=3000000) only [go_sem,↓reduceIte]; rfl),by first | (simp (maxSteps:=3000000) only [go_sem,↓reduceIte]; done) | (simp (maxSteps:=3000000) only [go_sem,↓reduceIte]; rfl),RO.nil hwf.weak hlt⟩
  · rintro B s ⟨i,t,hi,h8,h3,R⟩
    by_cases c:i < ns.length
    · have c1:decide ((i:Int) < (ns.length:Int))=true:=decide_eq_true (by omega)
      have g1:=List.getElem?_eq_getElem c
      obtain ⟨x,hx⟩:∃ x,ns[i]=x:=⟨_,rfl⟩
      rw [hx] at g1
      have g2:(w4s ns)[i]?=some (.sc (.int .u32 x)):=by simp [w4s,g1]
      have hs:(ns.take (i + 1)).flatMap (fun x=>beL x 4)=(ns.take i).flatMap (fun x=>beL x 4) ++ beL x 4:=by rw [take_snoc' g1,List.flatMap_append]; simp
      have hl:((ns.take i).flatMap fun x=>beL x 4).length≤4 * i:=by
        rw [List.length_flatMap]
        simp only [beL_len,List.map_const',List.sum_replicate_nat,List.length_take]
        omega
      generalize (ns.take i).flatMap (fun x=>beL x 4)=W at hs hl h3 R
      simp (maxSteps:=3000000) only [go_sem,↓reduceIte,h8,h3,c1,g2]
      repeat (apply And.intro; focus (first | omega | (simp; done)))
      have e4:beL x 4=[x / 16777216 % 256,x / 65536 % 256,x / 256 % 256,x % 256]:=by simp [beL]
      refine App.mk (bytes:=1) (ys:=bs [x / 16777216 % 256,x / 65536 % 256,x / 256 % 256,x % 256]) R.own (allSz_bs _) (by simp only [bs_len,List.length_cons,List.length_nil]; unfold maxLen; omega) (by simp only [bs_len,List.length_cons,List.length_nil]; omega) ?_
      intro r2 s2 k1 k2
      have R2:=R.app k1 k2
      rw [bs_append,← e4,← hs] at R2
      obtain ⟨t2,rfl⟩:=R2.sl
      simp (maxSteps:=3000000) only [go_sem,↓reduceIte,h8]
      repeat (apply And.intro; focus (first | omega | (simp; done)))
      exact ⟨⟨i + 1,t2,by omega,by simp,by simp,R2⟩,by omega⟩
    · have c1:decide ((i:Int) < (ns.length:Int))=false:=decide_eq_false (by omega)
      obtain rfl:i=ns.length:=by omega
      rw [List.take_length] at h3 R
      simp (maxSteps:=3000000) only [go_sem,↓reduceIte,h8,h3]
      exact ⟨_,_,Wk.no,R.weak,rfl,rfl⟩
end
end
section
open Go
section
variable {κ ν:Type} [DecidableEq κ]
def aget (a:κ):List (κ × ν)→Option ν
  | []=>none
  | p :: l=>if a=p.1 then some p.2 else aget a l
def aset (a:κ) (v:ν):List (κ × ν)→List (κ × ν)
  | []=>[(a,v)]
  | p :: l=>if a=p.1 then (a,v) :: l else p :: aset a v l
theorem aset_new {a:κ} {v:ν}:∀ {l:List (κ × ν)},aget a l=none→aset a v l=l ++ [(a,v)]
  | [],_=>rfl
  | p :: l,h=>by
    simp only [aget] at h
    split at h
    · cases h
    · rename_i e
      simp only [aset,if_neg e,aset_new h,List.cons_append]
end
section
variable {κ ν:Type}
structure Mp (kf:κ→V) (vf:ν→V) (es:List (V × V × Nat)) (c:Nat) (l:List (κ × ν)):Prop where
  eq:es.map (fun e=>(e.1,e.2.1))=l.map fun p=>(kf p.1,vf p.2)
  inc:(es.map (·.2.2)).Pairwise (· < ·)
  lt:∀ e ∈ es,e.2.2 < c
variable {kf:κ→V} {vf:ν→V} {es:List (V × V × Nat)} {c:Nat} {l:List (κ × ν)}
theorem Mp.nil:Mp kf vf [] c ([]:List (κ × ν)):=⟨rfl,.nil,fun e he=>by cases he⟩
theorem Mp.len (h:Mp kf vf es c l):es.length=l.length:=by simpa using congrArg List.length h.eq
theorem Mp.at (h:Mp kf vf es c l) {i:Nat} {e:V × V × Nat} (he:es[i]?=some e):∃ p,l[i]?=some p∧e.1=kf p.1∧e.2.1=vf p.2:=by
  have h1:(es.map (fun e=>(e.1,e.2.1)))[i]?=some (e.1,e.2.1):=by simp [he]
  rw [h.eq,List.getElem?_map,Option.map_eq_some_iff] at h1
  obtain ⟨p,hp,hpe⟩:=h1
  simp only [Prod.mk.injEq] at hpe
  exact ⟨p,hp,hpe.1.symm,hpe.2.symm⟩
end
section
variable {κ ν:Type} [DecidableEq κ] {kf:κ→V} {vf:ν→V} {es:List (V × V × Nat)} {c:Nat} {l:List (κ × ν)}
theorem mfind_eq (hk:∀ a b,eqV (kf a).cells (kf b).cells=decide (a=b)) (a:κ):∀ (es:List (V × V × Nat)) (l:List (κ × ν)),es.map (fun e=>(e.1,e.2.1))=l.map (fun p=>(kf p.1,vf p.2))→mfind (kf a) es=(aget a l).map vf
  | [],[],_=>rfl
  | e :: es,p :: l,h=>by
    simp only [List.map_cons,List.cons.injEq,Prod.mk.injEq] at h
    simp only [mfind,aget,h.1.1,hk,decide_eq_true_eq]
    split
    · simp [h.1.2]
    · exact mfind_eq hk a es l h.2
  | [],_ :: _,h=>by simp at h
  | _ :: _,[],h=>by simp at h
theorem Mp.find (hk:∀ a b,eqV (kf a).cells (kf b).cells=decide (a=b)) (h:Mp kf vf es c l) (a:κ):mfind (kf a) es=(aget a l).map vf:=mfind_eq hk a es l h.eq
theorem mset_eq (hk:∀ a b,eqV (kf a).cells (kf b).cells=decide (a=b)) (a:κ) (v:ν) (c:Nat):∀ (es:List (V × V × Nat)) (l:List (κ × ν)),es.map (fun e=>(e.1,e.2.1))=l.map (fun p=>(kf p.1,vf p.2)) →
    (mset (kf a) (vf v) c es).map (fun e=>(e.1,e.2.1))=(aset a v l).map (fun p=>(kf p.1,vf p.2))∧(mset (kf a) (vf v) c es).map (·.2.2)=if (aget a l).isSome=true then es.map (·.2.2) else es.map (·.2.2) ++ [c]
  | [],[],_=>by simp [mset,aset,aget]
  | e :: es,p :: l,h=>by
    simp only [List.map_cons,List.cons.injEq,Prod.mk.injEq] at h
    simp only [mset,aset,aget,h.1.1,hk,decide_eq_true_eq]
    split
    · simp [h.2]
    · obtain ⟨h1,h2⟩:=mset_eq hk a v c es l h.2
      simp only [List.map_cons,h1,h2,h.1.1,h.1.2,true_and]
      split <;> simp
  | [],_ :: _,h=>by simp at h
  | _ :: _,[],h=>by simp at h
theorem Mp.set (hk:∀ a b,eqV (kf a).cells (kf b).cells=decide (a=b)) (h:Mp kf vf es c l) (a:κ) (v:ν):Mp kf vf (mset (kf a) (vf v) c es) (mclk es (kf a) c) (aset a v l):=by
  obtain ⟨h1,h2⟩:=mset_eq hk a v c es l h.eq
  have hf:=Mp.find hk h a
  have hlt:∀ x ∈ es.map (·.2.2),x < c:=fun x hx=>by
    obtain ⟨e,he,rfl⟩:=List.mem_map.1 hx
    exact h.lt e he
  refine ⟨h1,?_,fun e he=>?_⟩
  · rw [h2]
    split
    · exact h.inc
    · rw [List.pairwise_append]
      exact ⟨h.inc,by simp,fun x hx y hy=>by simp at hy; subst hy; exact hlt x hx⟩
  · have he':e.2.2 ∈ (mset (kf a) (vf v) c es).map (·.2.2):=List.mem_map.2 ⟨e,he,rfl⟩
    rw [h2] at he'
    unfold mclk
    rw [hf]
    cases hg:aget a l with
    | none =>
      rw [hg,if_neg (by simp)] at he'
      simp only [Option.isSome_none,Bool.false_eq_true,↓reduceIte,Option.map_none]
      rcases List.mem_append.1 he' with h' | h'
      · have:=hlt _ h'; omega
      · simp at h'; omega
    | some v =>
      rw [hg,if_pos (by simp)] at he'
      simp only [Option.isSome_some,↓reduceIte,Option.map_some]
      exact hlt _ he'
theorem mborn_eq (hk:∀ a b,eqV (kf a).cells (kf b).cells=decide (a=b)) (a:κ) (v w:ν) (c:Nat):∀ (es:List (V × V × Nat)) (l:List (κ × ν)),es.map (fun e=>(e.1,e.2.1))=l.map (fun p=>(kf p.1,vf p.2))→(es.map (·.2.2)).Pairwise (· < ·)→(∀ e ∈ es,e.2.2 < c) →
    mstamp (mborn (kf a) c es) (vf v) (mset (kf a) (vf w) c es)=mset (kf a) (vf v) c es∧∃ e ∈ mset (kf a) (vf w) c es,e.2.2=mborn (kf a) c es
  | [],[],_,_,_=>by simp [mset,mborn,mstamp]
  | e :: es,p :: l,h,hi,hl=>by
    simp only [List.map_cons,List.cons.injEq,Prod.mk.injEq] at h
    simp only [List.map_cons,List.pairwise_cons] at hi
    simp only [mset,mborn,h.1.1,hk,decide_eq_true_eq]
    split
    · simp [mstamp]
    · obtain ⟨h1,e',he',h2⟩:=mborn_eq hk a v w c es l h.2 hi.2 (fun x hx=>hl x (List.mem_cons_of_mem _ hx))
      have hne:e.2.2 ≠ mborn (kf a) c es:=by
        have:mborn (kf a) c es=c ∨ mborn (kf a) c es ∈ es.map (·.2.2):=by
          clear h1 he' h2 hi hl h
          induction es with
          | nil=>left; rfl
          | cons x es ih =>
            simp only [mborn]
            split
            · right; simp
            · rcases ih with h | h
              · exact .inl h
              · right; simp only [List.map_cons,List.mem_cons]; exact .inr h
        rcases this with h | h
        · rw [h]; have:=hl e (by simp); omega
        · have:=hi.1 _ h; omega
      refine ⟨?_,e',List.mem_cons_of_mem _ he',h2⟩
      simp only [mstamp,if_neg hne,h1]
  | [],_ :: _,h,_,_=>by simp at h
  | _ :: _,[],h,_,_=>by simp at h
theorem Mp.two (hk:∀ a b,eqV (kf a).cells (kf b).cells=decide (a=b)) (h:Mp kf vf es c l) (a:κ) (v w:ν):mstamp (mborn (kf a) c es) (vf v) (mset (kf a) (vf w) c es)=mset (kf a) (vf v) c es∧∃ e ∈ mset (kf a) (vf w) c es,e.2.2=mborn (kf a) c es:=mborn_eq hk a v w c es l h.eq h.inc h.lt
end
section
variable {κ ν:Type} {kf:κ→V} {vf:ν→V} {es:List (V × V × Nat)} {c:Nat} {l:List (κ × ν)}
theorem Mp.ent (h:Mp kf vf es c l) {e:V × V × Nat} (he:e ∈ es) {seen:List Nat}:es.find? (fun x=>some x.2.2 == (seen ++ [e.2.2]).getLast?)=some e:=by
  obtain ⟨i,hi⟩:=List.mem_iff_getElem?.1 he
  obtain ⟨hi1,hi2⟩:=List.getElem?_eq_some_iff.1 hi
  rw [List.getLast?_concat]
  refine List.find?_eq_some_iff_getElem.2 ⟨by simp,i,hi1,hi2,fun j hj=>?_⟩
  have:=List.pairwise_iff_getElem.1 h.inc j i (by simp; omega) (by simpa using hi1) hj
  simp only [List.getElem_map,hi2] at this
  simp only [Option.some_beq_some,Bool.not_eq_true',beq_eq_false_iff_ne,ne_eq]
  omega
end
end
section
open Go
def ku (a:Int):V:=.sc (.int .u32 a)
def vstr (s:ByteArray):V:=.sc (.string s)
theorem vstr_eq (a b:ByteArray):eqV (vstr a).cells (vstr b).cells=decide (a=b):=by simp [vstr,V.cells,eqV]
def us (L:List Int):List V:=L.map ku
section
variable {st:St}
end
end
section
open Go
end
section
open Go
section
variable {α:Type}
def row (val:α→Value) (L:List α) (sp:List V):List V:=(L.map fun x=>V.sc (val x)) ++ sp
variable {val:α→Value} {L M:List α} {sp:List V}
theorem row_len:(row val L sp).length=L.length + sp.length:=by simp [row]
end
section
variable {P:Program} {α:Type} [Inhabited α] {val:α→Value} {lt:α→α→Bool} {less f fsift:FuncId} {st:St} {b cap a c:Nat} {L:List α} {sp:List V}
end
end
section
open Go
section
variable {α:Type} {val:α→Value} {L:List α} {sp:List V} {P:Program} {st:St} {A:Nat→V} {k:Kt} {d:Option Nat} {obs:List (Option Nat × X × Nat)} {rest:List VO}
theorem row_push {x:α} {sp':List V}:(row val L sp).take (L.length * 1) ++ [V.sc (val x)].flatMap V.cells ++ sp'=row val (L ++ [x]) sp':=by
  unfold row
  rw [Nat.mul_one,List.take_left' (by simp)]
  simp [V.cells]
theorem App.push {bytes b cap:Nat} {tk:Tk} {x:α} (hb:st.box b=some (row val L sp)) (hl:L.length + sp.length=cap) (hmo:mono (row val L sp)) (hc:cap≤maxLen) (h1:L.length + 1≤maxLen) (h2:(L.length + 1) * bytes≤140737488355328)
    (hk:∀ b' cap' sp',(b'=b ∨ st.sz≤b')→(L.length < cap→b'=b∧cap'=cap)→L.length + 1 + sp'.length=cap'→cap'≤maxLen→mono (row val (L ++ [x]) sp')→obsOk (st.put b' (row val (L ++ [x]) sp')) A obs ∧
      Ops P rest k (putV A d (dataV b' (L ++ [x]).length cap')) (st.put b' (row val (L ++ [x]) sp'))):App P 1 bytes (dataV b L.length cap) (.sl tk [.sc (val x)]) d obs rest k A st:=by
  refine App.mut hb (by rw [row_len]; omega) hmo (by omega) hc (by intro d hd; simp only [List.mem_singleton] at hd; subst hd; rfl) (by simpa using h1) (by simpa using h2) fun b' cap' spare k1 k2 k3 k4 k5 k6=>?_
  rw [row_push] at k6 ⊢
  have hlen:L.length + [V.sc (val x)].length=(L ++ [x]).length:=by simp
  rw [hlen]
  simp only [List.length_cons,List.length_nil] at k2 k4 k5
  exact hk b' cap' spare k1 (fun h=>⟨(k5 (by omega)).1,(k5 (by omega)).2.1⟩) (by omega) k3 k6
end
end
section
open Go
abbrev Sec:=ByteArray × ByteArray
def secV (s:Sec):V:=.agg [.sc (.string s.1),.sc (.string s.2)]
def secs (S:List Sec):List V:=S.map secV
theorem secs_len (S:List Sec):(secs S).length=S.length:=by simp [secs]
theorem secs_get {S:List Sec} {i:Nat} {s:Sec} (h:S[i]?=some s):(secs S)[i]?=some (.agg [.sc (.string s.1),.sc (.string s.2)]):=by simp [secs,h,secV]
def rightS (s:Sec):Bool:=decide (1≤s.1.size∧s.1.size≤40∧1≤s.2.size∧s.2.size≤40)
section
variable {st:St} {S:List Sec} {tk:Tk}
set_option maxRecDepth 100000 in
theorem secRight_v {n k:ByteArray}:VCalls Tryz.prog 34 [.agg [.sc (.string n),.sc (.string k)]] st fun r s=>r=.sc (.bool (rightS (n,k)))∧st=s:=by
  refine vcalls_enter vc34 (Nat.le_of_ble_eq_true rfl) fun hwf hok=>?_
  show Run _ Vc34.body (.fin (finQ Vc34.res _)) _ _
  unfold Vc34 zg zo
  simp (maxSteps:=3000000) only [go_sem,↓reduceIte]
  intro b hb
  by_cases c1:1≤n.size
  · by_cases c2:n.size≤40
    · by_cases c3:1≤k.size
      · simp (maxSteps:=3000000) only [go_sem,↓reduceIte,decide_eq_true (show (1:Int)≤(n.size:Int) by omega),decide_eq_true (show (n.size:Int)≤40 by omega),decide_eq_true (show (1:Int)≤(k.size:Int) by omega)]
        exact ⟨_,_,Wk.refl _,weak_put hwf.weak hb,by simp [rightS,c1,c2,c3]; omega,rfl⟩
      · simp (maxSteps:=3000000) only [go_sem,↓reduceIte,decide_eq_true (show (1:Int)≤(n.size:Int) by omega),decide_eq_true (show (n.size:Int)≤40 by omega),decide_eq_false (show ¬ (1:Int)≤(k.size:Int) by omega)]
        exact ⟨_,_,Wk.refl _,weak_put hwf.weak hb,by simp [rightS,c3],rfl⟩
    · simp (maxSteps:=3000000) only [go_sem,↓reduceIte,decide_eq_true (show (1:Int)≤(n.size:Int) by omega),decide_eq_false (show ¬ (n.size:Int)≤40 by omega)]
      exact ⟨_,_,Wk.refl _,weak_put hwf.weak hb,by simp [rightS,c2],rfl⟩
  · simp (maxSteps:=3000000) only [go_sem,↓reduceIte,decide_eq_false (show ¬ (1:Int)≤(n.size:Int) by omega)]
    exact ⟨_,_,Wk.refl _,weak_put hwf.weak hb,by simp [rightS,c1],rfl⟩
set_option maxRecDepth 100000 in
def whyS (kept:List Sec):List Sec→Int
  | []=>0
  | s :: r=>if rightS s=false then 13 else if (aget s.1 kept).isSome=true then 72 else whyS (kept ++ [s]) r
def newS (S:List Sec):Int:=if 8 < S.length then 12 else whyS [] S
structure SecI (st s:St) (rb tb mb:Nat) (kept:List Sec) (es:List (V × V × Nat)) (c:Nat):Prop where
  rbox:s.box rb=some [.sc (.map none)]
  tbox:s.box tb=some [.sc (.map (some mb))]
  mbox:s.box mb=some [.mp false [.str] es c]
  mp:Mp vstr vstr es c kept
  weak:st.weak s
  lt:s.Lt
  rt:rb ≠ tb
  rm:rb ≠ mb
  tm:tb ≠ mb
  fr:st.sz≤rb
  ft:st.sz≤tb
  fm:st.sz≤mb
theorem SecI.var {s:St} {rb tb mb c:Nat} {kept:List Sec} {es:List (V × V × Nat)} (h:SecI st s rb tb mb kept es c) {v:Nat} (hv:s.sz≤v) (cs:List V):SecI st (s.put v cs) rb tb mb kept es c:=by
  have q1:=h.lt.box rb _ h.rbox
  have q2:=h.lt.box tb _ h.tbox
  have q3:=h.lt.box mb _ h.mbox
  exact ⟨by rw [put_box_ne (by omega)]; exact h.rbox,by rw [put_box_ne (by omega)]; exact h.tbox,by rw [put_box_ne (by omega)]; exact h.mbox,h.mp,weak_put h.weak (by have:=h.weak.sz; omega),h.lt.put,h.rt,h.rm,h.tm,h.fr,h.ft,h.fm⟩
theorem SecI.add {s:St} {rb tb mb c:Nat} {kept:List Sec} {es:List (V × V × Nat)} (h:SecI st s rb tb mb kept es c) {n k:ByteArray} (ha:aget n kept=none) :
    SecI st (s.put mb [.mp false [.str] (mset (vstr n) (vstr k) c es) (mclk es (vstr n) c)]) rb tb mb (kept ++ [(n,k)]) (mset (vstr n) (vstr k) c es) (mclk es (vstr n) c):=by
  have m1:=Mp.set vstr_eq h.mp n k
  rw [aset_new ha] at m1
  exact ⟨by rw [put_box_ne h.rm]; exact h.rbox,by rw [put_box_ne h.tm]; exact h.tbox,put_box_same,m1,weak_put h.weak h.fm,h.lt.put,h.rt,h.rm,h.tm,h.fr,h.ft,h.fm⟩
structure TabS (s:St) (mb:Nat) (S:List Sec) (es:List (V × V × Nat)) (c:Nat):Prop where
  box:s.box mb=some [.mp false [.str] es c]
  mp:Mp vstr vstr es c S
theorem TabS.find {s:St} {mb c:Nat} {es:List (V × V × Nat)} (h:TabS s mb S es c) (n:ByteArray):mfind (.sc (.string n)) es=(aget n S).map vstr:=Mp.find vstr_eq h.mp n
theorem TabS.put {s:St} {mb c b:Nat} {es:List (V × V × Nat)} {cs:List V} (h:TabS s mb S es c) (hb:mb ≠ b):TabS (s.put b cs) mb S es c:=⟨by rw [put_box_ne hb]; exact h.box,h.mp⟩
def NewSQ (st:St) (S:List Sec) (r:V) (s:St):Prop :=
  (newS S ≠ 0∧r=.tup [.agg [.sc (.map none)],.sc (.int .i64 (newS S))]∧s=st) ∨
  (newS S=0∧∃ mb es c,r=.tup [.agg [.sc (.map (some mb))],.sc (.int .i64 0)]∧TabS s mb S es c∧st.weak s∧s.Lt∧st.sz≤mb)
set_option maxRecDepth 100000 in
set_option maxHeartbeats 4000000 in
theorem secNew_v:VCalls Tryz.prog 5 [.sl tk (secs S)] st (NewSQ st S):=by
  refine vcalls_enter vc5 (Nat.le_of_ble_eq_true rfl) fun hwf hok=>?_
  show Run _ Vc5.body (.fin (finQ Vc5.res _)) _ _
  unfold Vc5 zn zo
  have hsm:=vlen_max (hok (.sl tk (secs S)) (by simp))
  rw [secs_len] at hsm
  simp (maxSteps:=3000000) only [go_sem,↓reduceIte]
  intro rb hrb
  by_cases c1:8 < S.length
  · have e:newS S=12:=by simp [newS,c1]
    simp (maxSteps:=3000000) only [go_sem,↓reduceIte,secs_len,decide_eq_true (show (8:Int) < (S.length:Int) by omega)]
    exact ⟨_,_,Wk.refl _,weak_put hwf.weak hrb,.inl ⟨by rw [e]; simp,by rw [e],rfl⟩⟩
  have e0:newS S=whyS [] S:=by simp [newS,c1]
  simp (maxSteps:=3000000) only [go_sem,↓reduceIte,secs_len,decide_eq_false (show ¬ (8:Int) < (S.length:Int) by omega)]
  intro mb hmb tb htb
  have hlt:=hwf.lt
  have q1:rb < mb:=by omega
  have q2:mb < tb:=by omega
  have q3:st.sz≤mb:=by omega
  have q4:st.sz≤tb:=by omega
  clear htb hmb
  have I0:SecI st (((st.put rb [.sc (.map none)]).put mb [.mp false [.str] [] 0]).put tb [.sc (.map (some mb))]) rb tb mb [] [] 0 :=
    ⟨by rw [put_box_ne (by omega),put_box_ne (by omega),put_box_same],put_box_same,by rw [put_box_ne (by omega),put_box_same],.nil,weak_put (weak_put (weak_put hwf.weak hrb) q3) q4,hlt.put.put.put,by omega,by omega,by omega,hrb,q4,q3⟩
  refine run_loop [3,6,7,8,17,18,19,20,21,22,23,24,25,26,27,28,29,30,31,32,33,34,35,36,37,38,39,40,41] (fun C s'=>∃ (i:Nat) (es:List (V × V × Nat)) (c:Nat),i≤S.length∧C 17=.sc (.int .i64 i)∧SecI st s' rb tb mb (S.take i) es c∧whyS [] S=whyS (S.take i) (S.drop i)) (fun C _=>S.length - vnat (C 17)) rfl ?_ ?_
  · simp (maxSteps:=3000000) only [go_sem,↓reduceIte]
    exact ⟨0,[],0,by omega,rfl,I0,rfl⟩
  · rintro C s' ⟨i,es,c,hi,h17,I,hE⟩
    by_cases hlt':i < S.length
    · obtain ⟨x,hx⟩:=get_ex hlt'
      have hdr:S.drop i=x :: S.drop (i + 1):=by
        rw [List.drop_eq_getElem_cons hlt']
        have:=(List.getElem?_eq_some_iff.1 hx).2
        rw [this]
      have htk:S.take (i + 1)=S.take i ++ [x]:=by rw [List.take_add_one,hx]; rfl
      rw [hdr] at hE
      simp only [whyS] at hE
      simp (maxSteps:=3000000) only [go_sem,↓reduceIte,h17,secs_get hx,decide_eq_true (show (i:Int) < (S.length:Int) by omega)]
      repeat (apply And.intro; focus (first | omega | (simp; done)))
      intro v hv
      have I1:=I.var hv [.sc (.string x.1),.sc (.string x.2)]
      refine Cal.mk secRight_v ?_
      rintro _ _ ⟨rfl,rfl⟩ -
      have nv1:rb ≠ v:=by have:=I.lt.box rb _ I.rbox; omega
      have nv2:tb ≠ v:=by have:=I.lt.box tb _ I.tbox; omega
      have nv3:mb ≠ v:=by have:=I.lt.box mb _ I.mbox; omega
      cases c7:rightS (x.1,x.2)
      · rw [if_pos c7] at hE
        simp (maxSteps:=3000000) only [go_sem,↓reduceIte,put_box_ne nv1,I.rbox]
        exact ⟨_,_,Wk.refl _,weak_put I1.weak hrb,.inl ⟨by rw [e0,hE]; simp,by rw [e0,hE],rfl⟩⟩
      rw [if_neg (by rw [c7]; simp)] at hE
      have hfd:mfind (.sc (.string x.1)) es=(aget x.1 (S.take i)).map vstr:=Mp.find vstr_eq I.mp x.1
      cases c8:aget x.1 (S.take i) with
      | some y =>
        rw [if_pos (by rw [c8]; rfl)] at hE
        simp (maxSteps:=3000000) only [go_sem,↓reduceIte,put_box_ne nv1,put_box_ne nv2,put_box_ne nv3,I.rbox,I.tbox,I.mbox,hfd,c8,Option.isSome_some,Option.getD_some,Option.map_some]
        exact ⟨_,_,Wk.refl _,weak_put I1.weak hrb,.inl ⟨by rw [e0,hE]; simp,by rw [e0,hE],rfl⟩⟩
      | none =>
        rw [if_neg (by rw [c8]; simp)] at hE
        have hA:=I1.add (n:=x.1) (k:=x.2) c8
        simp only [vstr] at hA
        simp (maxSteps:=3000000) only [go_sem,↓reduceIte,put_box_ne nv2,put_box_ne nv3,I.tbox,I.mbox,hfd,c8,Option.isSome_none,Option.getD_none,h17]
        repeat (apply And.intro; focus (first | omega | (simp; done)))
        exact ⟨⟨i + 1,_,_,by omega,by simp,by rw [htk]; exact hA,by rw [htk]; exact hE⟩,by omega⟩
    · obtain rfl:i=S.length:=by omega
      rw [List.drop_length,List.take_length] at hE
      rw [List.take_length] at I
      have rt:=I.rt
      have rm:=I.rm
      simp (maxSteps:=3000000) only [go_sem,↓reduceIte,h17,I.tbox,I.rbox]
      exact ⟨_,_,Wk.refl _,I.lt.put.weak,.inr ⟨by rw [e0,hE]; rfl,mb,es,c,rfl,⟨by rw [put_box_ne rm.symm]; exact I.mbox,I.mp⟩,weak_put I.weak hrb,I.lt.put,I.fm⟩⟩
end
end
section
open Go
structure Au where
  ph:Int
  id:Int
  chal:List Int
  op:Bool
  at_:Int
  tries:Int
  name:ByteArray
def Au.zero:Au:=⟨0,0,[],false,0,0,⟨#[]⟩⟩
def auC (tv:Value) (host:ByteArray) (A:Au) (tk:Tk):List V:=[.sc (.int .i64 A.ph),.sc tv,.sc (.string host),.sc (.int .u8 A.id),.sl tk (bs A.chal),.sc (.bool A.op),.sc (.int .i64 A.at_),.sc (.int .i64 A.tries),.sc (.string A.name)]
def Lr.four (r:Lr):Lr:=r.next.1.next.1.next.1.next.1
def Lr.nums (r:Lr):List Int:=[r.next.2,r.next.1.next.2,r.next.1.next.1.next.2,r.next.1.next.1.next.1.next.2]
def chalOf (r:Lr):List Int:=r.nums.flatMap fun x=>beL x 4
theorem chalOf_len {r:Lr}:(chalOf r).length=16:=by simp [chalOf,Lr.nums,beL_len]
theorem chalOf_isB {r:Lr}:IsB (chalOf r):=fun x hx=>by
  obtain ⟨n,_,hx⟩:=List.mem_flatMap.1 hx
  exact beL_isB _ _ x hx
def Au.fresh (A:Au) (now:Int) (r:Lr):Au:=⟨1,(A.id + 1) % 256,chalOf r,true,now + 3,1,⟨#[]⟩⟩
section
variable {st:St} {u d:Nat} {tv:Value} {host nm key:ByteArray} {A:Au} {tk:Tk} {now:Int} {r:Lr}
theorem authNew_v:VCalls Tryz.prog 37 [.agg [.sc tv],.sc (.string host)] st fun v s=>∃ u,v=ptrV u∧st.sz≤u∧s=st.put u (auC tv host .zero .nil):=by
  refine vcalls_enterq pc37 (Nat.le_of_ble_eq_true rfl) rfl fun hwf hok=>?_
  show Run _ Pc37.body (.fin (finP Pc37.res _)) _ _
  unfold Pc37 zn zo
  simp (maxSteps:=3000000) only [go_sem,↓reduceIte]
  intro u hu
  exact ⟨_,_,Wk.refl _,hwf.lt.put.weak,u,rfl,hu,rfl⟩
set_option maxRecDepth 100000 in
theorem secFnd_v {S:List Sec} {mb c:Nat} {es:List (V × V × Nat)} (h:TabS st mb S es c) (hg:aget nm S=some key):VCalls Tryz.prog 184 [.agg [.sc (.map (some mb))],.sc (.string nm)] st fun r s=>r=.tup [.sc (.string key),.sc (.bool true)]∧st=s:=by
  refine vcalls_enterq pc184 (Nat.le_of_ble_eq_true rfl) rfl fun hwf hok=>?_
  show Run _ Pc184.body (.fin (finP Pc184.res _)) _ _
  unfold Pc184 zn zo
  simp (maxSteps:=3000000) only [go_sem,↓reduceIte,h.box,h.find,hg,Option.isSome_some,Option.getD_some,Option.map_some,vstr]
  exact ⟨_,_,Wk.refl _,hwf.weak,rfl,rfl⟩
set_option maxRecDepth 100000 in
theorem authAsk_v (hb:st.box u=some (auC tv host A tk)) (hc:A.chal.length=16) (hh:host.size≤255) (n0:0≤now) (n1:now≤1000000000) (t0:A.tries=0) :
    VCalls Tryz.prog 109 [ptrV u,.sc (.int .i64 now)] st fun v s=>v=.sl .no (ctls [makeC 1 A.id A.chal host])∧s=st.put u (auC tv host { A with at_:=now + 3,tries:=1 } tk):=by
  refine vcalls_enterq pc109 (Nat.le_of_ble_eq_true rfl) rfl fun hwf hok=>?_
  show Run _ Pc109.body (.fin (finP Pc109.res _)) _ _
  unfold Pc109 zn zo
  have hlt:=hwf.lt
  unfold auC at hb ⊢
  rw [t0] at hb
  have hl:=hlt.put (b:=u) (cs:=[.sc (.int .i64 A.ph),.sc tv,.sc (.string host),.sc (.int .u8 A.id),.sl tk (bs A.chal),.sc (.bool A.op),.sc (.int .i64 (now + 3)),.sc (.int .i64 1),.sc (.string A.name)])
  simp (maxSteps:=3000000) only [go_sem,↓reduceIte,hb]
  refine ⟨by omega,?_⟩
  refine Cal.mk (chapMake_v (by omega) (by omega) hh) ?_
  rintro _ _ ⟨⟨t,rfl⟩,rfl⟩ -
  simp (maxSteps:=3000000) only [go_sem,↓reduceIte,Ctl.v,makeC]
  refine Bo.own (by simp [allLen,V.cells]) ?_
  intro g hg
  simp (maxSteps:=3000000) only [go_sem,↓reduceIte]
  exact ⟨_,_,Wk.no,weak_use hl.weak hg,rfl,rfl⟩
set_option maxRecDepth 100000 in
theorem authFresh_v (hb:st.box u=some (auC tv host A tk)) (hd:DrB st d r.ds r.k) (hG:DrG r.ds r.k) (hud:u ≠ d) (hh:host.size≤255) (n0:0≤now) (n1:now≤1000000000) (i0:0≤A.id) :
    VCalls Tryz.prog 107 [ptrV u,.sc (.int .i64 now),ptrV d] st fun v s=>v=.sl .no (ctls [makeC 1 ((A.id + 1) % 256) (chalOf r) host])∧DrB s d r.four.ds r.four.k∧Tn [u,d] st s ∧
      ∃ tk,s.box u=some (auC tv host { A with id:=(A.id + 1) % 256,chal:=chalOf r,op:=true,at_:=now + 3,tries:=1 } tk):=by
  refine vcalls_enterq pc107 (Nat.le_of_ble_eq_true rfl) rfl fun hwf hok=>?_
  show Run _ Pc107.body (.fin (finP Pc107.res _)) _ _
  unfold Pc107 zn zo
  have hlt:=hwf.lt
  unfold auC at hb
  simp (maxSteps:=3000000) only [go_sem,↓reduceIte,hb]
  have T0:Tn [u] st (st.put u [.sc (.int .i64 A.ph),.sc tv,.sc (.string host),.sc (.int .u8 ((A.id + 1) % 256)),.sl tk (bs A.chal),.sc (.bool A.op),.sc (.int .i64 A.at_),.sc (.int .i64 A.tries),.sc (.string A.name)]):=(Tn.refl hlt).put (.inl (by simp)) hlt
  have B0:(st.put u [.sc (.int .i64 A.ph),.sc tv,.sc (.string host),.sc (.int .u8 ((A.id + 1) % 256)),.sl tk (bs A.chal),.sc (.bool A.op),.sc (.int .i64 A.at_),.sc (.int .i64 A.tries),.sc (.string A.name)]).box u=_:=put_box_same
  obtain ⟨td,hd⟩:=hd
  have D0:DrB (st.put u [.sc (.int .i64 A.ph),.sc tv,.sc (.string host),.sc (.int .u8 ((A.id + 1) % 256)),.sl tk (bs A.chal),.sc (.bool A.op),.sc (.int .i64 A.at_),.sc (.int .i64 A.tries),.sc (.string A.name)]) d r.ds r.k:=⟨td,T0.box d _ hd (by simp [hud.symm])⟩
  generalize st.put u _=s0 at T0 B0 D0 ⊢
  refine Cal.mk (drNext_v D0 hG) ?_
  rintro _ s1 ⟨rfl,D1,T1⟩ -
  have G1:=(next_good hG).1
  simp (maxSteps:=3000000) only [go_sem,↓reduceIte]
  refine Cal.mk (drNext_v D1 G1) ?_
  rintro _ s2 ⟨rfl,D2,T2⟩ -
  have G2:=(next_good G1).1
  simp (maxSteps:=3000000) only [go_sem,↓reduceIte]
  refine Cal.mk (drNext_v D2 G2) ?_
  rintro _ s3 ⟨rfl,D3,T3⟩ -
  have G3:=(next_good G2).1
  simp (maxSteps:=3000000) only [go_sem,↓reduceIte]
  refine Cal.mk (drNext_v D3 G3) ?_
  rintro _ s4 ⟨rfl,D4,T4⟩ -
  have T:=((T1.trans T2).trans T3).trans T4
  have B4:=T.box u _ B0 (by simp [hud])
  have T5:Tn [u,d] st s4:=(T0.wide (by simp)).trans (T.wide (by simp))
  have D4':DrB s4 d r.four.ds r.four.k:=D4
  have hc:bs (chalOf r)=bs (chalOf r):=rfl
  simp (maxSteps:=3000000) only [go_sem,↓reduceIte]
  refine Bo.own (by simp [allLen,V.cells]) ?_
  intro g hg
  obtain ⟨t4,D4'⟩:=D4'
  have T6:=T5.use (g:=g) (m:=4) hg hlt
  have B6:(s4.use g 4).box u=_:=B4
  have D6:(s4.use g 4).box d=_:=D4'
  generalize s4.use g 4=s6 at T6 B6 D6 ⊢
  simp (maxSteps:=3000000) only [go_sem,↓reduceIte]
  refine Cal.mk (chapBytes_v (ns:=r.nums) (by simp [Lr.nums])) ?_
  rintro _ _ ⟨rfl,rfl⟩ -
  rw [show r.nums.flatMap (fun x=>beL x 4)=chalOf r from rfl]
  simp (maxSteps:=3000000) only [go_sem,↓reduceIte,B6]
  have T7:Tn [u,d] st (s6.put u [.sc (.int .i64 A.ph),.sc tv,.sc (.string host),.sc (.int .u8 ((A.id + 1) % 256)),.sl .no (bs (chalOf r)),.sc (.bool true),.sc (.int .i64 A.at_),.sc (.int .i64 0),.sc (.string A.name)]):=T6.put (.inl (by simp)) hlt
  have B7:(s6.put u [.sc (.int .i64 A.ph),.sc tv,.sc (.string host),.sc (.int .u8 ((A.id + 1) % 256)),.sl .no (bs (chalOf r)),.sc (.bool true),.sc (.int .i64 A.at_),.sc (.int .i64 0),.sc (.string A.name)]).box u=some (auC tv host { A with id:=(A.id + 1) % 256,chal:=chalOf r,op:=true,tries:=0 } .no):=put_box_same
  have D7:(s6.put u [.sc (.int .i64 A.ph),.sc tv,.sc (.string host),.sc (.int .u8 ((A.id + 1) % 256)),.sl .no (bs (chalOf r)),.sc (.bool true),.sc (.int .i64 A.at_),.sc (.int .i64 0),.sc (.string A.name)]).box d=_:=(put_box_ne hud.symm).trans D6
  generalize s6.put u _=s7 at T7 B7 D7 ⊢
  refine Cal.mk (authAsk_v B7 chalOf_len hh n0 n1 rfl) ?_
  rintro _ s8 ⟨rfl,rfl⟩ -
  have T8:=T7.put (b:=u) (cs:=auC tv host { A with id:=(A.id + 1) % 256,chal:=chalOf r,op:=true,tries:=1,at_:=now + 3 } .no) (.inl (by simp)) hlt
  simp (maxSteps:=3000000) only [go_sem,↓reduceIte]
  exact ⟨_,_,Wk.refl _,T8.lt.weak,rfl,⟨t4,(put_box_ne hud.symm).trans D7⟩,T8,.no,put_box_same⟩
set_option maxRecDepth 100000 in
theorem authStart_v (hb:st.box u=some (auC tv host A tk)) (hd:DrB st d r.ds r.k) (hG:DrG r.ds r.k) (hud:u ≠ d) (hh:host.size≤255) (n0:0≤now) (n1:now≤1000000000) (i0:0≤A.id) :
    VCalls Tryz.prog 92 [ptrV u,.sc (.int .i64 now),ptrV d] st fun v s=>v=.sl .no (ctls [makeC 1 ((A.id + 1) % 256) (chalOf r) host])∧DrB s d r.four.ds r.four.k∧Tn [u,d] st s ∧
      ∃ tk,s.box u=some (auC tv host (A.fresh now r) tk):=by
  refine vcalls_enterq pc92 (Nat.le_of_ble_eq_true rfl) rfl fun hwf hok=>?_
  show Run _ Pc92.body (.fin (finP Pc92.res _)) _ _
  unfold Pc92 zn zo
  have hlt:=hwf.lt
  unfold auC at hb
  simp (maxSteps:=3000000) only [go_sem,↓reduceIte,hb]
  have T0:Tn [u,d] st (st.put u [.sc (.int .i64 1),.sc tv,.sc (.string host),.sc (.int .u8 A.id),.sl tk (bs A.chal),.sc (.bool A.op),.sc (.int .i64 A.at_),.sc (.int .i64 A.tries),.sc (.string ⟨#[]⟩)]):=(Tn.refl hlt).put (.inl (by simp)) hlt
  have B0:(st.put u [.sc (.int .i64 1),.sc tv,.sc (.string host),.sc (.int .u8 A.id),.sl tk (bs A.chal),.sc (.bool A.op),.sc (.int .i64 A.at_),.sc (.int .i64 A.tries),.sc (.string ⟨#[]⟩)]).box u=some (auC tv host { A with ph:=1,name:=⟨#[]⟩ } tk):=put_box_same
  obtain ⟨td,hd⟩:=hd
  have D0:DrB (st.put u [.sc (.int .i64 1),.sc tv,.sc (.string host),.sc (.int .u8 A.id),.sl tk (bs A.chal),.sc (.bool A.op),.sc (.int .i64 A.at_),.sc (.int .i64 A.tries),.sc (.string ⟨#[]⟩)]) d r.ds r.k:=⟨td,(put_box_ne hud.symm).trans hd⟩
  generalize st.put u _=s0 at T0 B0 D0 ⊢
  refine Cal.mk (authFresh_v B0 D0 hG hud hh n0 n1 i0) ?_
  rintro _ s8 ⟨rfl,D,T,tk2,B⟩ -
  simp (maxSteps:=3000000) only [go_sem,↓reduceIte]
  exact ⟨_,_,Wk.refl _,T.lt.weak,rfl,D,T0.trans T,tk2,B⟩
set_option maxRecDepth 100000 in
theorem authRight_v {S:List Sec} {mb c:Nat} {es:List (V × V × Nat)} {tw:Tk} (h:TabS st mb S es c) (hg:aget nm S=some key) (hk:key.size≤40) (hb:st.box u=some (auC (.map (some mb)) host A tk)) (hc:A.chal.length≤100) (hcB:IsB A.chal) (p1:A.ph=1) (i0:0≤A.id) (i1:A.id < 256) :
    VCalls Tryz.prog 148 [ptrV u,.sl tw (bs (valueC A.id key A.chal)),.sc (.string nm)] st fun v s=>v=.sc (.bool true)∧st=s:=by
  refine vcalls_enterq pc148 (Nat.le_of_ble_eq_true rfl) rfl fun hwf hok=>?_
  show Run _ Pc148.body (.fin (finP Pc148.res _)) _ _
  unfold Pc148 zg zo
  have hlt:=hwf.lt
  unfold auC at hb
  rw [p1] at hb
  simp (maxSteps:=3000000) only [go_sem,↓reduceIte,hb]
  refine Cal.mk (secFnd_v h hg) ?_
  rintro _ _ ⟨rfl,rfl⟩ -
  simp (maxSteps:=3000000) only [go_sem,↓reduceIte,hb]
  refine Cal.mk (chapRight_v i0 i1 (by omega) hcB (by omega) md5M_isB) ?_
  rintro _ _ ⟨rfl,rfl⟩ -
  simp (maxSteps:=3000000) only [go_sem,↓reduceIte,hb]
  exact ⟨_,_,Wk.refl _,hwf.weak,rfl,rfl⟩
set_option maxRecDepth 100000 in
theorem authTake_v {S:List Sec} {mb c:Nat} {es:List (V × V × Nat)} {tw:Tk} (h:TabS st mb S es c) (hg:aget nm S=some key) (hk:key.size≤40) (hn:nm.size≤40) (hb:st.box u=some (auC (.map (some mb)) host A tk)) (hc:A.chal.length≤100) (hcB:IsB A.chal) (p1:A.ph=1) (i0:0≤A.id) (i1:A.id < 256) (o1:A.op=true) (n0:0≤now) (n1:now≤1000000000) :
    VCalls Tryz.prog 98 [ptrV u,.sc (.int .i64 now),(makeC 2 A.id (valueC A.id key A.chal) nm).v tw] st fun v s=>v=.sl .no (ctls [⟨3,A.id,[]⟩])∧s=st.put u (auC (.map (some mb)) host { A with ph:=2,op:=false,at_:=now + 100,name:=nm } tk):=by
  obtain ⟨W,hW⟩:∃ W,valueC A.id key A.chal=W:=⟨_,rfl⟩
  have hl:W.length=16:=by rw [← hW]; exact md5M_len
  rw [hW]
  show VCalls Tryz.prog 98 [ptrV u,.sc (.int .i64 now),.agg [.sc (.int .u8 2),.sc (.int .u8 A.id),.sl tw (bs ((W.length:Int) :: (W ++ bytesOf nm)))]] st _
  refine vcalls_enterq pc98 (Nat.le_of_ble_eq_true rfl) rfl fun hwf hok=>?_
  show Run _ Pc98.body (.fin (finP Pc98.res _)) _ _
  unfold Pc98 zg zn zo
  have hlt:=hwf.lt
  have hb':=hb
  unfold auC at hb ⊢
  rw [p1,o1] at hb
  simp (maxSteps:=3000000) only [go_sem,↓reduceIte]
  refine Cal.mk (chapSplit_v (by omega) (by omega) (by omega)) ?_
  rintro _ _ ⟨⟨t,rfl⟩,rfl⟩ -
  have m1:=authRight_v (tw:=t) h hg hk hb' hc hcB p1 i0 i1
  rw [hW] at m1
  simp (maxSteps:=3000000) only [go_sem,↓reduceIte,hb]
  refine Cal.mk m1 ?_
  rintro _ _ ⟨rfl,rfl⟩ -
  have hl:=hlt.put (b:=u) (cs:=[.sc (.int .i64 2),.sc (.map (some mb)),.sc (.string host),.sc (.int .u8 A.id),.sl tk (bs A.chal),.sc (.bool false),.sc (.int .i64 (now + 100)),.sc (.int .i64 A.tries),.sc (.string nm)])
  simp (maxSteps:=3000000) only [go_sem,↓reduceIte,hb]
  refine ⟨by omega,?_⟩
  refine Bo.own (by simp [allLen,V.cells]) ?_
  intro g hg
  simp (maxSteps:=3000000) only [go_sem,↓reduceIte]
  exact ⟨_,_,Wk.no,weak_use hl.weak hg,rfl,rfl⟩
end
end
section
open Go
def buildFr (proto:Int) (D:List Int) (bare short:Bool):List Int :=
  (if bare=true∧proto ≠ 49185 then [] else [255,3]) ++ (if short=true∧proto < 256 then [proto] else [proto / 256,proto % 256]) ++ D
end
end Go.Proofs.YtcoalhgmlbhhmaaGreat
