/- Steps of the proof, joined: Rt2. -/
import Derived.Test.YtifeoamomonbjaaGreatDoorZwe
import Derived.Test.YtifeoamomonbjaaGreatDoorVc
namespace Go.Proofs.YtifeoamomonbjaaGreatDoor
open Go
attribute [local go_sem] run_skip run_reg run_seq run_blk run_exit run_ret run_cond if_true if_false at_code_n at_code_x at_code_r at_blk_n at_blk_x at_blk_r at_rnd_n at_rnd_x at_rnd_r at_fin_n at_fin_r ops_nil ops_grd grd_und grd_tt grd_ff grd_tf grd_ft ops_mv ops_pick ops_bin ops_binZ ops_un ops_binb ops_eqs ops_isnil ops_pnil ops_b2s ops_s2b ops_b2sB ops_s2a ops_slcA ops_aidx vaidx vb2sB vs2a vslcA ops_sidx vs2b vsidx srcX ops_appx apx_mk ops_mks ops_mko mks_int mko_int vbinb veqs visnil vpnil vb2s ops_conv ops_fld ops_ix ops_ixa ops_load ops_nilck ops_ext ops_len ops_slen ops_mn ops_mx ops_bld ops_bsl ops_slc ops_sslc ops_box ops_alc ops_alcX ops_boxX ops_bslo ops_store ops_app ops_call ev_t ev_c put_get put_none opv_mk stb_some sto_ptr over_get rel_mk vnat Bx Stp vbld vbsl put_box_same put_box_ne put_sz put_own use_box use_sz put_put args0 List.getD_cons_zero List.getD_cons_succ List.getD_nil vpick vbin vbinZ vbinI vbinS vun vconv norm vfld vnil vlen vslen vext vmm vix vixa vload takeV takeB mono_nil mono_two mono_sc mono_any mono_und mono_sl mono_agg mono_ep vmlk vmlen vmnil vinil vent vmfn allSc vslc3 kOk fitsV ops_mlk ops_mlen ops_mnil ops_inil ops_ent ops_mfn ops_slc3 ops_mkm ops_mup mup_map mub_some ops_mdel mdl_nil mdl_map mdb_some ops_rng rng_none rng_map rgb_some ops_nxt ops_ment met_map meb_some ops_est est_map esb_some ops_clr clr_nil clr_box clb_some ops_calv clv_func vslc vsslc fillV splice V.cells strip strip1 allLen ptrV obsOk shAmt IntKind.bits List.map_cons List.map_nil List.length_cons List.length_nil List.getElem?_cons_zero List.getElem?_cons_succ List.take_succ_cons List.take_zero List.drop_succ_cons List.drop_zero List.cons_append List.nil_append List.append_nil List.take_nil List.drop_nil Option.map_some Option.map_none and_true true_and Int.toNat_natCast Nat.min_def Nat.zero_add Nat.add_zero Nat.zero_mul Nat.mul_one Nat.one_mul vret rvAll rvVal resv_1 resv_2 decide_true decide_false Int.lt_irrefl Bool.not_true Bool.not_false ne_eq not_true_eq_false not_false_eq_true eq_self Bool.true_eq_false Bool.false_eq_true List.contains_cons List.contains_nil Bool.false_or Bool.true_or Bool.or_false Bool.or_true List.mem_cons List.not_mem_nil or_false or_true true_or false_or mono_bs ops_aidxn vaidxn ops_fv vfv ops_mki vmki ops_inv ops_cpy cpy_box cpb_some
section
namespace Ev
open Go Go.Proofs Go.Proofs.YtifeoamomonbjaaGreatDoor
theorem seq_seq {Q:VQ} {K K2:(Nat→V)→St→Prop}:(Q.seq K).seq K2=Q.seq K2:=by funext e A s; cases e <;> rfl
def isS4:VC→Bool
  | .seq _ (.seq _ (.seq _ (.seq _ _)))=>true
  | _=>false
def hd4:VC→VC
  | .seq x (.seq y (.seq a (.seq b _)))=>.seq x (.seq y (.seq a b))
  | _=>.skip
def tl4:VC→VC
  | .seq _ (.seq _ (.seq _ (.seq _ r)))=>r
  | _=>.skip
def isS2:VC→Bool
  | .seq _ (.seq _ _)=>true
  | _=>false
def hd2:VC→VC
  | .seq x (.seq y _)=>.seq x y
  | _=>.skip
def tl2:VC→VC
  | .seq _ (.seq _ r)=>r
  | _=>.skip
def isS1:VC→Bool
  | .seq _ _=>true
  | _=>false
def hd1:VC→VC
  | .seq x _=>x
  | _=>.skip
def tl1:VC→VC
  | .seq _ r=>r
  | _=>.skip
section
variable {P:Program} {Q:VQ} {A:Nat→V} {st:St} {c:VC}
theorem vwp_4 (hc:isS4 c=true) (h:vwp P (hd4 c) (Q.seq (vwp P (tl4 c) Q)) A st):vwp P c Q A st:=by
  unfold isS4 at hc
  split at hc
  · simpa only [hd4,tl4,vwp,seq_seq] using h
  · cases hc
theorem vwp_2 (hc:isS2 c=true) (h:vwp P (hd2 c) (Q.seq (vwp P (tl2 c) Q)) A st):vwp P c Q A st:=by
  unfold isS2 at hc
  split at hc
  · simpa only [hd2,tl2,vwp,seq_seq] using h
  · cases hc
theorem vwp_1 (hc:isS1 c=true) (h:vwp P (hd1 c) (Q.seq (vwp P (tl1 c) Q)) A st):vwp P c Q A st:=by
  unfold isS1 at hc
  split at hc
  · exact h
  · cases hc
end
noncomputable section
def rsN (r:Rs):Bool:=match r with | .ok .normal _ _=>true | _=>false
def rsA (r:Rs):En:=match r with | .ok .normal A _=>A | _=>en0
def rsH (r:Rs):Hp:=match r with | .ok .normal _ H=>H | _=>hp0
theorem rsN_ok {r:Rs} (h:rsN r=true):r=.ok .normal (rsA r) (rsH r):=by
  unfold rsN at h
  split at h
  · rfl
  · cases h
def rbody:VC:=Vc3.body
def rbA:VC:=hd4 rbody
def rb5:VC:=hd1 (tl4 rbody)
def rbB:VC:=hd2 (tl1 (tl4 rbody))
def rb8:VC:=tl2 (tl1 (tl4 rbody))
def rA0 (line code more:Int):En:=eargs [.int .i64 line,.int .i64 code,.int .i64 more] 0 en0
def rrun (c:VC) (A:En) (H:Hp):Rs:=(cC rcfg.meth (fun _=>false) c).f (ecall rcfg 1000) A H
def run1 (line code more:Int):Rs:=rrun rbA (rA0 line code more) hp0
theorem run1_n (line code more:Int):rsN (run1 line code more)=true:=by kernel_rfl
theorem run1_2 (line code more:Int):(rsA (run1 line code more)).at 2=.int .i64 more:=by kernel_rfl
def rA2 (A:En) (n:Int):En:=((((A.put 83 .any).put 84 .any).put 85 .any).put 86 .any).put 10 (.int .i64 n)
def run2 (line code more n:Int):Rs:=rrun rbB (rA2 (rsA (run1 line code more)) n) (rsH (run1 line code more))
def fin2 (r:Rs):Option (W × W × W × Bx):=match r with
  | .ok .normal A H=>some (A.at 0,A.at 1,A.at 7,H.get 0)
  | _=>none
def fin2v (line code:Int):Option (W × W × W × Bx):=some (.int .i64 line,.int .i64 code,.ptr 0 0,.cells none [.int .i64 line,.int .i64 code])
theorem fin2_ok {r:Rs} {a b c:W} {d:Bx} (h:fin2 r=some (a,b,c,d)):∃ A H,r=.ok .normal A H∧A.at 0=a∧A.at 1=b∧A.at 7=c∧H.get 0=d:=by
  unfold fin2 at h
  split at h
  · cases h; exact ⟨_,_,rfl,rfl,rfl,rfl,rfl⟩
  · cases h
set_option maxRecDepth 1000000 in
theorem r2_400 (line code more:Int):fin2 (run2 line code more 400)=fin2v line code:=by kernel_rfl
theorem r2_401 (line code more:Int):fin2 (run2 line code more 401)=fin2v line code:=by kernel_rfl
theorem r2_402 (line code more:Int):fin2 (run2 line code more 402)=fin2v line code:=by kernel_rfl
theorem r2_403 (line code more:Int):fin2 (run2 line code more 403)=fin2v line code:=by kernel_rfl
theorem r2_404 (line code more:Int):fin2 (run2 line code more 404)=fin2v line code:=by kernel_rfl
theorem r2_405 (line code more:Int):fin2 (run2 line code more 405)=fin2v line code:=by kernel_rfl
theorem r2_406 (line code more:Int):fin2 (run2 line code more 406)=fin2v line code:=by kernel_rfl
theorem r2_407 (line code more:Int):fin2 (run2 line code more 407)=fin2v line code:=by kernel_rfl
theorem r2_408 (line code more:Int):fin2 (run2 line code more 408)=fin2v line code:=by kernel_rfl
theorem r2_409 (line code more:Int):fin2 (run2 line code more 409)=fin2v line code:=by kernel_rfl
theorem r2_410 (line code more:Int):fin2 (run2 line code more 410)=fin2v line code:=by kernel_rfl
theorem r2_411 (line code more:Int):fin2 (run2 line code more 411)=fin2v line code:=by kernel_rfl
theorem r2_412 (line code more:Int):fin2 (run2 line code more 412)=fin2v line code:=by kernel_rfl
theorem r2_413 (line code more:Int):fin2 (run2 line code more 413)=fin2v line code:=by kernel_rfl
theorem r2_414 (line code more:Int):fin2 (run2 line code more 414)=fin2v line code:=by kernel_rfl
theorem r2_415 (line code more:Int):fin2 (run2 line code more 415)=fin2v line code:=by kernel_rfl
theorem r2_416 (line code more:Int):fin2 (run2 line code more 416)=fin2v line code:=by kernel_rfl
theorem r2_417 (line code more:Int):fin2 (run2 line code more 417)=fin2v line code:=by kernel_rfl
theorem r2_418 (line code more:Int):fin2 (run2 line code more 418)=fin2v line code:=by kernel_rfl
theorem r2_419 (line code more:Int):fin2 (run2 line code more 419)=fin2v line code:=by kernel_rfl
theorem r2_420 (line code more:Int):fin2 (run2 line code more 420)=fin2v line code:=by kernel_rfl
theorem run2_all (line code more n:Int) (h1:400≤n) (h2:n≤420):fin2 (run2 line code more n)=fin2v line code:=by
  have:n=400 ∨ n=401 ∨ n=402 ∨ n=403 ∨ n=404 ∨ n=405 ∨ n=406 ∨ n=407 ∨ n=408 ∨ n=409 ∨ n=410 ∨ n=411 ∨ n=412 ∨ n=413 ∨ n=414 ∨ n=415 ∨ n=416 ∨ n=417 ∨ n=418 ∨ n=419 ∨ n=420:=by omega
  rcases this with rfl | rfl | rfl | rfl | rfl | rfl | rfl | rfl | rfl | rfl | rfl | rfl | rfl | rfl | rfl | rfl | rfl | rfl | rfl | rfl | rfl
  · exact r2_400 line code more
  · exact r2_401 line code more
  · exact r2_402 line code more
  · exact r2_403 line code more
  · exact r2_404 line code more
  · exact r2_405 line code more
  · exact r2_406 line code more
  · exact r2_407 line code more
  · exact r2_408 line code more
  · exact r2_409 line code more
  · exact r2_410 line code more
  · exact r2_411 line code more
  · exact r2_412 line code more
  · exact r2_413 line code more
  · exact r2_414 line code more
  · exact r2_415 line code more
  · exact r2_416 line code more
  · exact r2_417 line code more
  · exact r2_418 line code more
  · exact r2_419 line code more
  · exact r2_420 line code more
end
end Ev
end
end Go.Proofs.YtifeoamomonbjaaGreatDoor
