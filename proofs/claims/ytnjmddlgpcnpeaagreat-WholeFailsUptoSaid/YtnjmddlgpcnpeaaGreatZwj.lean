/- Steps of the proof, joined: WfFacts. -/
import Derived.Test.YtnjmddlgpcnpeaaGreatRows
import Derived.JoinedOf
import Derived.KernelRfl
import Derived.Test.YtnjmddlgpcnpeaaGreatVc
namespace Go.Proofs.YtnjmddlgpcnpeaaGreat
open Go
attribute [local go_sem] run_skip run_reg run_seq run_blk run_exit run_ret run_cond if_true if_false at_code_n at_code_x at_code_r at_blk_n at_blk_x at_blk_r at_rnd_n at_rnd_x at_rnd_r at_fin_n at_fin_r ops_nil ops_grd grd_und grd_tt grd_ff grd_tf grd_ft ops_mv ops_pick ops_bin ops_binZ ops_un ops_binb ops_eqs ops_isnil ops_pnil ops_b2s ops_s2b ops_b2sB ops_s2a ops_slcA ops_aidx vaidx vb2sB vs2a vslcA ops_sidx vs2b vsidx srcX ops_appx apx_mk ops_mks ops_mko mks_int mko_int vbinb veqs visnil vpnil vb2s ops_conv ops_fld ops_ix ops_ixa ops_load ops_nilck ops_ext ops_len ops_slen ops_mn ops_mx ops_bld ops_bsl ops_slc ops_sslc ops_box ops_alc ops_alcX ops_boxX ops_bslo ops_store ops_app ops_call ev_t ev_c put_get put_none opv_mk stb_some sto_ptr over_get rel_mk vnat Bx Stp vbld vbsl put_box_same put_box_ne put_sz put_own use_box use_sz put_put args0 List.getD_cons_zero List.getD_cons_succ List.getD_nil vpick vbin vbinZ vbinI vbinS vun vconv norm vfld vnil vlen vslen vext vmm vix vixa vload takeV takeB mono_nil mono_two mono_sc mono_any mono_und mono_sl mono_agg mono_ep vmlk vmlen vmnil vinil vent vmfn allSc vslc3 kOk fitsV ops_mlk ops_mlen ops_mnil ops_inil ops_ent ops_mfn ops_slc3 ops_mkm ops_mup mup_map mub_some ops_mdel mdl_nil mdl_map mdb_some ops_rng rng_none rng_map rgb_some ops_nxt ops_ment met_map meb_some ops_est est_map esb_some ops_clr clr_nil clr_box clb_some ops_calv clv_func vslc vsslc fillV splice V.cells strip strip1 allLen ptrV obsOk shAmt IntKind.bits List.map_cons List.map_nil List.length_cons List.length_nil List.getElem?_cons_zero List.getElem?_cons_succ List.take_succ_cons List.take_zero List.drop_succ_cons List.drop_zero List.cons_append List.nil_append List.append_nil List.take_nil List.drop_nil Option.map_some Option.map_none and_true true_and Int.toNat_natCast Nat.min_def Nat.zero_add Nat.add_zero Nat.zero_mul Nat.mul_one Nat.one_mul vret rvAll rvVal resv_1 resv_2 decide_true decide_false Int.lt_irrefl Bool.not_true Bool.not_false ne_eq not_true_eq_false not_false_eq_true eq_self Bool.true_eq_false Bool.false_eq_true List.contains_cons List.contains_nil Bool.false_or Bool.true_or Bool.or_false Bool.or_true List.mem_cons List.not_mem_nil or_false or_true true_or false_or mono_bs ops_aidxn vaidxn ops_fv vfv ops_mki vmki ops_inv ops_cpy cpy_box cpb_some
section
open Go
def jf0 (_:Program) (_:FuncId) (_:Func) (s:ChangeSpec) (c:OpenClaim):Bool:=c.wf (OpenSpec.ofChange s)
def jf1 (P:Program) (_:FuncId) (_:Func) (_:ChangeSpec) (_:OpenClaim):Bool:=laidOutB P
def jf2 (P:Program) (_:FuncId) (_:Func) (_:ChangeSpec) (_:OpenClaim):Bool:=mapsRowed P
def jf3 (P:Program) (_:FuncId) (fn:Func) (_:ChangeSpec) (_:OpenClaim):Bool:=fn.params.all (P.readableRec ·)
def jf4 (P:Program) (_:FuncId) (_:Func) (s:ChangeSpec) (c:OpenClaim):Bool:=namedTie P c.named s.vars
def jf5 (_:Program) (_:FuncId) (_:Func) (_:ChangeSpec) (c:OpenClaim):Bool:=(c.stops == [])
def jf6 (P:Program) (_:FuncId) (_:Func) (_:ChangeSpec) (_:OpenClaim):Bool:=(P.stops == [])
def jf7 (_:Program) (_:FuncId) (_:Func) (_:ChangeSpec) (c:OpenClaim):Bool:=(c.knobs == [])
def jf8 (P:Program) (_:FuncId) (_:Func) (_:ChangeSpec) (_:OpenClaim):Bool:=(P.stopKnobs == [])
def jf9 (P:Program) (f:FuncId) (_:Func) (_:ChangeSpec) (c:OpenClaim):Bool:=(c.inPlace == P.inPlace f)
def jf10 (P:Program) (f:FuncId) (_:Func) (_:ChangeSpec) (c:OpenClaim):Bool:=(c.unfollowed == P.unfollowed f)
def jf11 (P:Program) (f:FuncId) (_:Func) (_:ChangeSpec) (c:OpenClaim):Bool:=(c.recurses == P.recurses f)
def jf12 (P:Program) (f:FuncId) (_:Func) (_:ChangeSpec) (c:OpenClaim):Bool:=(c.named == P.varsNamed f)
def jf13 (P:Program) (_:FuncId) (fn:Func) (s:ChangeSpec) (c:OpenClaim):Bool:=(c.maps == (fn.params.toList ++ s.plain.varTypes P).any (P.mapsRec ·))
def jf14 (P:Program) (_:FuncId) (fn:Func) (s:ChangeSpec) (c:OpenClaim):Bool:=(c.ifaces == (fn.params.toList ++ s.plain.varTypes P).any (P.ifacesRec ·))
def jf15 (P:Program) (_:FuncId) (fn:Func) (_:ChangeSpec) (c:OpenClaim):Bool:=(c.mapsOut == P.mapsAmong fn.resultTypes.toList)
def jf16 (P:Program) (_:FuncId) (fn:Func) (s:ChangeSpec) (c:OpenClaim):Bool:=(c.loops == (fn.params.toList ++ s.plain.varTypes P).any (P.loopsFrom ·))
def jf17 (P:Program) (_:FuncId) (fn:Func) (s:ChangeSpec) (c:OpenClaim):Bool:=(c.wideKeys == (fn.params.toList ++ s.plain.varTypes P ++ fn.resultTypes.toList).any (P.wideKeysFrom ·))
def jf18 (P:Program) (_:FuncId) (_:Func) (s:ChangeSpec) (_:OpenClaim):Bool:=s.vars.all (P.varReadable ·)
def jf19 (P:Program) (_:FuncId) (fn:Func) (_:ChangeSpec) (_:OpenClaim):Bool:=fn.resultTypes.all (fun t=>P.readableRec t && decide (t < P.types.size))
def jf20 (P:Program) (_:FuncId) (fn:Func) (_:ChangeSpec) (c:OpenClaim):Bool:=(c.ifacesOut == fn.resultTypes.toList.any (P.ifacesRec ·))
def jf21 (P:Program) (_:FuncId) (fn:Func) (_:ChangeSpec) (c:OpenClaim):Bool:=(c.loopsOut == fn.resultTypes.toList.any (P.loopsFrom ·))
def jf22 (P:Program) (_:FuncId) (_:Func) (_:ChangeSpec) (c:OpenClaim):Bool:=(c.plainKeys == P.plainKeys)
def jf23 (_:Program) (_:FuncId) (_:Func) (_:ChangeSpec) (c:OpenClaim):Bool:=c.shortTexts.isNone
def jf24 (P:Program) (_:FuncId) (_:Func) (_:ChangeSpec) (_:OpenClaim):Bool:=P.stopsHeard
def jf25 (P:Program) (_:FuncId) (_:Func) (_:ChangeSpec) (_:OpenClaim):Bool:=P.mayEnter
def jf26 (P:Program) (_:FuncId) (_:Func) (_:ChangeSpec) (c:OpenClaim):Bool:=(c.lifted == P.liftsFinal)
def jf27 (P:Program) (_:FuncId) (_:Func) (_:ChangeSpec) (c:OpenClaim):Bool:=(P.make == some c.make)
def jf28 (P:Program) (_:FuncId) (fn:Func) (_:ChangeSpec) (c:OpenClaim):Bool:=(c.kinds == (if c.domain.isEmpty then [] else fn.params.toList.map fun t=>match P.underlying t with | some (.int k)=>some k | _=>none))
def jf29 (_:Program) (_:FuncId) (_:Func) (_:ChangeSpec) (c:OpenClaim):Bool:=(c.pinned == c.pinnedBy)
def jf30 (P:Program) (_:FuncId) (fn:Func) (s:ChangeSpec) (c:OpenClaim):Bool:=(c.veiled == (fn.params.toList ++ s.plain.varTypes P ++ fn.resultTypes.toList).any (P.veiledRec ·))
def jf31 (P:Program) (_:FuncId) (fn:Func) (s:ChangeSpec) (c:OpenClaim):Bool:=c.veiledFits P fn.params.toList (fn.params.toList ++ s.plain.varTypes P ++ fn.resultTypes.toList)
theorem joined_mk {P:Program} {f:FuncId} {fn:Func} {s:ChangeSpec} {c:OpenClaim} (h0:jf0 P f fn s c=true) (h1:jf1 P f fn s c=true) (h2:jf2 P f fn s c=true) (h3:jf3 P f fn s c=true) (h4:jf4 P f fn s c=true) (h5:jf5 P f fn s c=true) (h6:jf6 P f fn s c=true) (h7:jf7 P f fn s c=true) (h8:jf8 P f fn s c=true) (h9:jf9 P f fn s c=true) (h10:jf10 P f fn s c=true) (h11:jf11 P f fn s c=true) (h12:jf12 P f fn s c=true) (h13:jf13 P f fn s c=true) (h14:jf14 P f fn s c=true) (h15:jf15 P f fn s c=true) (h16:jf16 P f fn s c=true) (h17:jf17 P f fn s c=true) (h18:jf18 P f fn s c=true) (h19:jf19 P f fn s c=true) (h20:jf20 P f fn s c=true) (h21:jf21 P f fn s c=true) (h22:jf22 P f fn s c=true) (h23:jf23 P f fn s c=true) (h24:jf24 P f fn s c=true) (h25:jf25 P f fn s c=true) (h26:jf26 P f fn s c=true) (h27:jf27 P f fn s c=true) (h28:jf28 P f fn s c=true) (h29:jf29 P f fn s c=true) (h30:jf30 P f fn s c=true) (h31:jf31 P f fn s c=true):joinedFacts P f fn s c=true:=by
  simp only [joinedFacts,Bool.and_eq_true]
  exact ⟨⟨⟨⟨⟨⟨⟨⟨⟨⟨⟨⟨⟨⟨⟨⟨⟨⟨⟨⟨⟨⟨⟨⟨⟨⟨⟨⟨⟨⟨⟨h0,h1⟩,h2⟩,h3⟩,h4⟩,h5⟩,h6⟩,h7⟩,h8⟩,h9⟩,h10⟩,h11⟩,h12⟩,h13⟩,h14⟩,h15⟩,h16⟩,h17⟩,h18⟩,h19⟩,h20⟩,h21⟩,h22⟩,h23⟩,h24⟩,h25⟩,h26⟩,h27⟩,h28⟩,h29⟩,h30⟩,h31⟩
theorem j0:jf0 Tryz.prog 3 Tryz.f3 (Rows.OpenSpec.upto Rows.wholeFailsSpec).bare Rows.wholeFailsUptoRow=true:=by kernel_rfl
theorem j1:jf1 Tryz.prog 3 Tryz.f3 (Rows.OpenSpec.upto Rows.wholeFailsSpec).bare Rows.wholeFailsUptoRow=true:=by kernel_rfl
theorem j2:jf2 Tryz.prog 3 Tryz.f3 (Rows.OpenSpec.upto Rows.wholeFailsSpec).bare Rows.wholeFailsUptoRow=true:=by kernel_rfl
theorem j3:jf3 Tryz.prog 3 Tryz.f3 (Rows.OpenSpec.upto Rows.wholeFailsSpec).bare Rows.wholeFailsUptoRow=true:=by kernel_rfl
theorem j4:jf4 Tryz.prog 3 Tryz.f3 (Rows.OpenSpec.upto Rows.wholeFailsSpec).bare Rows.wholeFailsUptoRow=true:=by kernel_rfl
theorem j5:jf5 Tryz.prog 3 Tryz.f3 (Rows.OpenSpec.upto Rows.wholeFailsSpec).bare Rows.wholeFailsUptoRow=true:=by kernel_rfl
theorem j6:jf6 Tryz.prog 3 Tryz.f3 (Rows.OpenSpec.upto Rows.wholeFailsSpec).bare Rows.wholeFailsUptoRow=true:=by kernel_rfl
theorem j7:jf7 Tryz.prog 3 Tryz.f3 (Rows.OpenSpec.upto Rows.wholeFailsSpec).bare Rows.wholeFailsUptoRow=true:=by kernel_rfl
theorem j8:jf8 Tryz.prog 3 Tryz.f3 (Rows.OpenSpec.upto Rows.wholeFailsSpec).bare Rows.wholeFailsUptoRow=true:=by kernel_rfl
theorem j9:jf9 Tryz.prog 3 Tryz.f3 (Rows.OpenSpec.upto Rows.wholeFailsSpec).bare Rows.wholeFailsUptoRow=true:=by kernel_rfl
theorem j10:jf10 Tryz.prog 3 Tryz.f3 (Rows.OpenSpec.upto Rows.wholeFailsSpec).bare Rows.wholeFailsUptoRow=true:=by kernel_rfl
theorem j11:jf11 Tryz.prog 3 Tryz.f3 (Rows.OpenSpec.upto Rows.wholeFailsSpec).bare Rows.wholeFailsUptoRow=true:=by kernel_rfl
theorem j12:jf12 Tryz.prog 3 Tryz.f3 (Rows.OpenSpec.upto Rows.wholeFailsSpec).bare Rows.wholeFailsUptoRow=true:=by kernel_rfl
theorem j13:jf13 Tryz.prog 3 Tryz.f3 (Rows.OpenSpec.upto Rows.wholeFailsSpec).bare Rows.wholeFailsUptoRow=true:=by kernel_rfl
theorem j14:jf14 Tryz.prog 3 Tryz.f3 (Rows.OpenSpec.upto Rows.wholeFailsSpec).bare Rows.wholeFailsUptoRow=true:=by kernel_rfl
theorem j15:jf15 Tryz.prog 3 Tryz.f3 (Rows.OpenSpec.upto Rows.wholeFailsSpec).bare Rows.wholeFailsUptoRow=true:=by kernel_rfl
theorem j16:jf16 Tryz.prog 3 Tryz.f3 (Rows.OpenSpec.upto Rows.wholeFailsSpec).bare Rows.wholeFailsUptoRow=true:=by kernel_rfl
theorem j17:jf17 Tryz.prog 3 Tryz.f3 (Rows.OpenSpec.upto Rows.wholeFailsSpec).bare Rows.wholeFailsUptoRow=true:=by kernel_rfl
theorem j18:jf18 Tryz.prog 3 Tryz.f3 (Rows.OpenSpec.upto Rows.wholeFailsSpec).bare Rows.wholeFailsUptoRow=true:=by kernel_rfl
theorem j19:jf19 Tryz.prog 3 Tryz.f3 (Rows.OpenSpec.upto Rows.wholeFailsSpec).bare Rows.wholeFailsUptoRow=true:=by kernel_rfl
theorem j20:jf20 Tryz.prog 3 Tryz.f3 (Rows.OpenSpec.upto Rows.wholeFailsSpec).bare Rows.wholeFailsUptoRow=true:=by kernel_rfl
theorem j21:jf21 Tryz.prog 3 Tryz.f3 (Rows.OpenSpec.upto Rows.wholeFailsSpec).bare Rows.wholeFailsUptoRow=true:=by kernel_rfl
theorem j22:jf22 Tryz.prog 3 Tryz.f3 (Rows.OpenSpec.upto Rows.wholeFailsSpec).bare Rows.wholeFailsUptoRow=true:=by kernel_rfl
theorem j23:jf23 Tryz.prog 3 Tryz.f3 (Rows.OpenSpec.upto Rows.wholeFailsSpec).bare Rows.wholeFailsUptoRow=true:=by kernel_rfl
theorem j24:jf24 Tryz.prog 3 Tryz.f3 (Rows.OpenSpec.upto Rows.wholeFailsSpec).bare Rows.wholeFailsUptoRow=true:=by kernel_rfl
theorem j25:jf25 Tryz.prog 3 Tryz.f3 (Rows.OpenSpec.upto Rows.wholeFailsSpec).bare Rows.wholeFailsUptoRow=true:=by kernel_rfl
theorem j26:jf26 Tryz.prog 3 Tryz.f3 (Rows.OpenSpec.upto Rows.wholeFailsSpec).bare Rows.wholeFailsUptoRow=true:=by kernel_rfl
theorem j27:jf27 Tryz.prog 3 Tryz.f3 (Rows.OpenSpec.upto Rows.wholeFailsSpec).bare Rows.wholeFailsUptoRow=true:=by kernel_rfl
theorem j28:jf28 Tryz.prog 3 Tryz.f3 (Rows.OpenSpec.upto Rows.wholeFailsSpec).bare Rows.wholeFailsUptoRow=true:=by kernel_rfl
theorem j29:jf29 Tryz.prog 3 Tryz.f3 (Rows.OpenSpec.upto Rows.wholeFailsSpec).bare Rows.wholeFailsUptoRow=true:=by kernel_rfl
theorem j30:jf30 Tryz.prog 3 Tryz.f3 (Rows.OpenSpec.upto Rows.wholeFailsSpec).bare Rows.wholeFailsUptoRow=true:=by kernel_rfl
theorem j31:jf31 Tryz.prog 3 Tryz.f3 (Rows.OpenSpec.upto Rows.wholeFailsSpec).bare Rows.wholeFailsUptoRow=true:=by kernel_rfl
theorem WholeFails_facts:joinedFacts Tryz.prog 3 Tryz.f3 (Rows.OpenSpec.upto Rows.wholeFailsSpec).bare Rows.wholeFailsUptoRow=true:=joined_mk j0 j1 j2 j3 j4 j5 j6 j7 j8 j9 j10 j11 j12 j13 j14 j15 j16 j17 j18 j19 j20 j21 j22 j23 j24 j25 j26 j27 j28 j29 j30 j31
end
end Go.Proofs.YtnjmddlgpcnpeaaGreat
