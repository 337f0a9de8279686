/- Steps of the proof, joined: VJoin4, VJoin5, Base, Open, VEnter, VSeat, VOpenB. -/
import Derived.Test.YtlngegoamfklgaaZwb
import Derived.Test.YtlngegoamfklgaaProg
import Derived.WalkKit
import Derived.WalkSpells
import Derived.WalkLawsBesides
import Derived.Deep.RegionHeld3
import Derived.Deep.DrawnRows
import Derived.BigQuiet
import Derived.Lib.Hide
import Derived.ProofKit
import Derived.OpenShut
import Derived.Deep.Slices
import Derived.Test.YtlngegoamfklgaaZeb
import Derived.Test.YtlngegoamfklgaaVc
namespace Go.Proofs.Ytlngegoamfklgaa
open Go
attribute [local go_sem] run_skip run_reg run_seq run_blk run_exit run_ret run_cond if_true if_false at_code_n at_code_x at_code_r at_blk_n at_blk_x at_blk_r at_rnd_n at_rnd_x at_rnd_r at_fin_n at_fin_r ops_nil ops_grd grd_und grd_tt grd_ff grd_tf grd_ft ops_mv ops_pick ops_bin ops_un ops_binb ops_eqs ops_isnil ops_pnil ops_b2s ops_s2b ops_b2sB ops_s2a ops_slcA ops_aidx vaidx vb2sB vs2a vslcA ops_sidx vs2b vsidx srcX ops_appx apx_mk ops_mks ops_mko mks_int mko_int vbinb veqs visnil vpnil vb2s ops_conv ops_fld ops_ix ops_ixa ops_load ops_nilck ops_ext ops_len ops_slen ops_mn ops_mx ops_bld ops_bsl ops_slc ops_sslc ops_box ops_alc ops_alcX ops_boxX ops_bslo ops_store ops_app ops_call ev_t ev_c put_get put_none opv_mk stb_some sto_ptr over_get rel_mk vnat Bx Stp vbld vbsl put_box_same put_box_ne put_sz put_own use_box use_sz put_put args0 List.getD_cons_zero List.getD_cons_succ List.getD_nil vpick vbin vbinI vbinS vun vconv norm vfld vnil vlen vslen vext vmm vix vixa vload takeV takeB mono_nil mono_two mono_sc mono_any mono_und mono_sl mono_agg mono_ep vmlk vmlen vmnil vent vmfn allSc vslc3 kOk fitsV ops_mlk ops_mlen ops_mnil ops_ent ops_mfn ops_slc3 ops_mkm ops_mup mup_map mub_some ops_mdel mdl_nil mdl_map mdb_some ops_rng rng_none rng_map rgb_some ops_nxt ops_ment met_map meb_some ops_est est_map esb_some ops_clr clr_nil clr_box clb_some ops_calv clv_func vslc vsslc fillV splice V.cells strip strip1 allLen ptrV obsOk shAmt IntKind.bits List.map_cons List.map_nil List.length_cons List.length_nil List.getElem?_cons_zero List.getElem?_cons_succ List.take_succ_cons List.take_zero List.drop_succ_cons List.drop_zero List.cons_append List.nil_append List.append_nil List.take_nil List.drop_nil Option.map_some Option.map_none and_true true_and Int.toNat_natCast Nat.min_def Nat.zero_add Nat.add_zero Nat.zero_mul Nat.mul_one Nat.one_mul vret rvAll rvVal resv_1 resv_2 decide_true decide_false Int.lt_irrefl Bool.not_true Bool.not_false ne_eq not_true_eq_false not_false_eq_true eq_self Bool.true_eq_false Bool.false_eq_true List.contains_cons List.contains_nil Bool.false_or Bool.true_or Bool.or_false Bool.or_true List.mem_cons List.not_mem_nil or_false or_true true_or false_or mono_bs ops_aidxn vaidxn ops_mki vmki ops_inv ops_cpy cpy_box cpb_some
section
open Go

abbrev Ky := Int × Int × Int × Int
def kyV (k : Ky) : V := .agg [.sc (.int .u32 k.1), .sc (.int .u32 k.2.1), .sc (.int .u16 k.2.2.1), .sc (.int .u8 k.2.2.2)]
theorem kyV_eq (a b : Ky) : eqV (kyV a).cells (kyV b).cells = decide (a = b) := by
  simp only [kyV, V.cells, eqV, Bool.and_true]
  rw [Bool.eq_iff_iff]
  simp only [Bool.and_eq_true, decide_eq_true_eq]
  exact ⟨fun h => Prod.ext h.1 (Prod.ext h.2.1 (Prod.ext h.2.2.1 h.2.2.2)), fun h => by rw [h]; exact ⟨rfl, rfl, rfl, rfl⟩⟩
def kyD (d : DG) : Ky := (d.src, d.dst, d.id, d.proto)
abbrev LfK : List Lf := [.int .u32, .int .u32, .int .u16, .int .u8]
/-- What waits. -/
structure JnW (base s : St) (jb : Nat) (d : DG) (step n : Nat) (S : List Nat) : Prop where
  ex : ∃ mb pb rb es c, base.sz ≤ mb ∧ base.sz ≤ pb ∧ base.sz ≤ rb ∧ jb ≠ mb ∧ jb ≠ pb ∧ jb ≠ rb ∧ mb ≠ pb ∧ mb ≠ rb ∧ rb ≠ pb ∧
    s.box jb = some [.sc (.map (some mb)), .sc (.int .i64 1)] ∧ s.box mb = some [.mp true LfK es c] ∧ Mp kyV ptrV es c [(kyD d, pb)] ∧ PartB s pb d step n (HdP d step) S (some rb)
theorem PartB.rblt {s : St} {pb rb : Nat} {d : DG} {step n : Nat} {H : List V → Prop} {S : List Nat} (h : PartB s pb d step n H S (some rb)) (hl : s.Lt) : rb < s.sz ∧ pb < s.sz := by
  obtain ⟨rv, h1, h2, h3, h4, h5, h6, h7, h8, h9, hb, hH, hr⟩ := h.ex
  rcases hr with ⟨f, _⟩ | ⟨rb', _, _, e, _, _, e4, _⟩
  · cases f
  · cases e; exact ⟨hl.box _ _ e4, hl.box pb _ hb⟩
theorem PartB.grow {s s' : St} {pb : Nat} {d : DG} {step n : Nat} {H : List V → Prop} {S : List Nat} {o : Option Nat} (h : PartB s pb d step n H S o) (hw : s.weak s') : PartB s' pb d step n H S o := by
  obtain ⟨rv, h1, h2, h3, h4, h5, h6, h7, h8, h9, hb, hH, hr⟩ := h.ex
  exact ⟨rv, h1, h2, h3, h4, h5, h6, h7, h8, h9, (hw.box pb _ hb).1, hH, hr.wx (.of hw)⟩
structure JnE (s : St) (jb : Nat) : Prop where
  ex : ∃ mb es c, jb ≠ mb ∧ s.box jb = some [.sc (.map (some mb)), .sc (.int .i64 1)] ∧ s.box mb = some [.mp true LfK es c] ∧ Mp kyV ptrV es c []
structure Jn (base s : St) (jb : Nat) (d : DG) (step n : Nat) (S : List Nat) : Prop where
  weak : base.weak s
  lt : s.Lt
  le : base.sz ≤ jb
  st : (S = [] ∧ s.box jb = some [.sc (.map none), .sc (.int .i64 0)]) ∨ (S ≠ [] ∧ S.length < n ∧ JnW base s jb d step n S) ∨ (S.length = n ∧ JnE s jb)
def jPutQ (base : St) (jb : Nat) (d : DG) (step n : Nat) (S : List Nat) (v : V) (s : St) : Prop :=
  Jn base s jb d step n S ∧ v = (if S.length = n then .tup [.sl .no (bs (ipB d)), .sc (.bool true)] else .tup [.sl .nil [], .sc (.bool false)])
theorem ipB_isB {d : DG} (hd : d.Ok) (hf : ipFits d) : IsB (ipB d) := ((ipPre_isB hd (ckS_range (ipPre_isB hd (c := 0) (by omega) (by omega) hf)).1 (by have := (ckS_range (ipPre_isB hd (c := 0) (by omega) (by omega) hf)).2; omega) hf).append hd.D)
section
variable {base st : St} {jb n step j : Nat} {d : DG} {S : List Nat} {tk : Tk}
theorem jRoom_v (h : st.box jb = some [.sc (.map none), .sc (.int .i64 0)]) : VCalls Try.prog 107 [ptrV jb] st fun v s => v = .tup [] ∧ st = s := by
  refine vcalls_enter vc107 (Nat.le_of_ble_eq_true rfl) fun hwf hok => ?_
  show Run _ Vc107.body (.fin (finQ Vc107.res _)) _ _
  unfold Vc107
  simp (config := {maxSteps := 3000000}) only [go_sem, Int.reduceLT, ↓reduceIte, h]
  exact ⟨_, _, Wk.refl _, hwf.weak, rfl, rfl⟩
set_option maxRecDepth 100000 in
set_option maxHeartbeats 16000000 in
theorem jPut_v (h : CutD d step n) (hd : d.Ok) (hf : ipFits d) (hj : j < n) (hjS : j ∉ S) (hSd : S.Nodup) (hSn : ∀ i ∈ S, i < n) (J : Jn base st jb d step n S) :
    VCalls Try.prog 65 [ptrV jb, .sc (.int .i64 0), .sl tk (bs (ipB (pieceD d step (j * step))))] st (jPutQ base jb d step n (S ++ [j])) := by
  refine vcalls_enter vc65 (Nat.le_of_ble_eq_true rfl) fun hwf hok => ?_
  show Run _ Vc65.body (.fin (finQ Vc65.res _)) _ _
  unfold Vc65
  have hlt := hwf.lt
  have hD := h.D
  have hjd : j * step < d.D.length := h.at.2 hj
  obtain ⟨po, pf⟩ := piece_ok (step := step) h.lim (Nat.le_refl _) (by rw [h.f]; rfl) hjd
  obtain ⟨b1, b2⟩ := ip_back po pf []
  rw [List.append_nil] at b1 b2
  have hbl : (ipB (pieceD d step (j * step))).length ≤ 1000000 := by
    have hb1 := pf.1; have hb2 := pf.2.2
    simp only [ipB, List.length_append, ipPre_len]; omega
  simp (config := {maxSteps := 3000000}) only [go_sem, Nat.reduceEqDiff, Int.reduceNeg, ↓reduceIte]
  refine Cal.mk (ip4Parse_v (ipB_isB po pf) (by omega)) ?_
  rintro _ _ ⟨⟨tk1, tk2, rfl⟩, rfl⟩ -
  rw [b1, b2]
  have h8 := h.eight j
  obtain ⟨q, hq⟩ : ∃ q : Nat, q = j * step / 8 := ⟨_, rfl⟩
  obtain ⟨f1, f2, f3, f4, f5, f6⟩ := frag_bits q (by omega)
  have hpl := h.le hj
  have hpp := h.pos hj
  have htwo := h.two
  have hmore := h.more (j := j)
  obtain ⟨fr, hfr⟩ : ∃ fr : Int, fr = (pieceD d step (j * step)).frag := ⟨_, rfl⟩
  have hfr' : fr = (q : Int) + (if j * step + step < d.D.length then 8192 else 0) := by rw [hfr, hq]; simp only [pieceD, h.f]; omega
  have g1 : decide (ibit .and .u16 fr 16383 = 0) = false := decide_eq_false (by
    rw [hfr']
    split
    · rw [f2]; omega
    · rw [Int.add_zero, f1]
      rename_i hh
      have : ¬ j + 1 < n := fun k => hh (hmore.2 k)
      have : 0 < j * step := Nat.mul_pos (by omega) h.s0
      omega)
  have g2 : ibit .and .u16 fr 8191 = q := by
    rw [hfr']
    split
    · exact f4
    · rw [Int.add_zero]; exact f3
  have g3 : decide (ibit .and .u16 fr 8192 = 0) = decide (¬ j * step + step < d.D.length) := by
    rw [hfr']
    split
    · rename_i hh
      rw [f6, decide_eq_false (by decide), decide_eq_false (fun k => k hh)]
    · rename_i hh
      rw [Int.add_zero, f5, decide_eq_true rfl, decide_eq_true hh]
  have e1 : (8 : Int) * (q : Int) = ((j * step : Nat) : Int) := by omega
  obtain ⟨L, hL⟩ : ∃ L, L = pDat d step j := ⟨_, rfl⟩
  have ev : (pieceD d step (j * step)).v tk1 tk2 = .agg [.sc (.int .u8 d.tos), .sc (.int .u8 d.ttl), .sc (.int .u8 d.proto), .sc (.int .u16 d.id), .sc (.int .u16 fr), .sc (.int .u32 d.src), .sc (.int .u32 d.dst), .sl tk1 (bs d.O), .sl tk2 (bs L)] := by rw [hfr, hL]; rfl
  rw [ev]
  rw [← hL] at hpl hpp
  have g4 : decide ((L.length : Int) = 0) = false := decide_eq_false (by omega)
  have g5 : decide (65515 < ((j * step : Nat) : Int) + (L.length : Int)) = false := decide_eq_false (by omega)
  have g6 : decide (¬ j * step + step < d.D.length) = false → (L.length : Int) % 8 = 0 := fun k => by
    have k2 : j * step + step < d.D.length := Decidable.not_not.1 (of_decide_eq_false k)
    have := h.full (hmore.1 k2)
    rw [← hL] at this; omega
  have hjs : st.box jb ≠ none := by
    rcases J.st with ⟨_, hb⟩ | ⟨_, _, ⟨_, _, _, _, _, _, _, _, _, _, _, _, _, _, hb, _⟩⟩ | ⟨_, ⟨_, _, _, _, hb, _⟩⟩ <;> rw [hb] <;> exact fun k => by cases k
  obtain ⟨jc, hjc⟩ := Option.ne_none_iff_exists'.1 hjs
  have hjl := hlt.box jb _ hjc
  have hH0 : j = 0 → fr = 8192 := fun e => by
    rw [hfr', if_pos (hmore.2 (by omega))]
    have : q = 0 := by rw [hq, e]; simp
    omega
  subst hL
  have hSd2 : (S ++ [j]).Nodup := List.nodup_append.2 ⟨hSd, by simp, fun a ha b hb => by
    rw [List.mem_singleton.1 hb]; rintro rfl; exact hjS ha⟩
  have hSn2 : ∀ i ∈ S ++ [j], i < n := fun i hi => (List.mem_append.1 hi).elim (hSn i) (fun e => by rw [List.mem_singleton.1 e]; exact hj)
  have hdel : ∀ {es : List (V × V × Nat)} {c pb : Nat}, Mp kyV ptrV es c [(kyD d, pb)] → Mp kyV ptrV (mdel (.agg [.sc (.int .u32 d.src), .sc (.int .u32 d.dst), .sc (.int .u16 d.id), .sc (.int .u8 d.proto)]) es) c [] := fun {es c pb} m => by
    have := Mp.del kyV_eq m (kyD d)
    rw [show adel (kyD d) [(kyD d, pb)] = [] by simp [adel]] at this
    exact this
  simp (config := {maxSteps := 3000000}) only [go_sem, Nat.reduceEqDiff, Nat.reduceAdd, Nat.reduceLT, Nat.reduceLeDiff, Int.reduceNeg, ↓reduceIte]
  intro v hv
  generalize hcN : (decide (¬ j * step + step < d.D.length)) = las at g3 g6
  cases las
  · have g7 := g6 rfl
    simp (config := {maxSteps := 3000000}) only [go_sem, Nat.reduceEqDiff, Nat.reduceAdd, Nat.reduceLT, Nat.reduceLeDiff, Int.reduceLT, Int.reduceNeg, ↓reduceIte, reduceCtorEq, g1, g2, g3, e1, g4, g5, g7, bs_len]
    repeat (apply And.intro; focus (first | omega | (simp; done)))
    intro k hk
    have k1 : v < k := by omega
    have k2 : st.sz ≤ k := by omega
    clear hk
    have jv : jb ≠ v := by omega
    have jk : jb ≠ k := by omega
    have vk : v ≠ k := by omega
    have W1 : st.weak ((st.put v [.sc (.int .u8 d.tos), .sc (.int .u8 d.ttl), .sc (.int .u8 d.proto), .sc (.int .u16 d.id), .sc (.int .u16 fr), .sc (.int .u32 d.src), .sc (.int .u32 d.dst), .sl tk1 (bs d.O), .sl tk2 (bs (pDat d step j))]).put k [.sc (.int .u32 d.src), .sc (.int .u32 d.dst), .sc (.int .u16 d.id), .sc (.int .u8 d.proto)]) := weak_put (weak_put hwf.weak hv) k2
    have L1 : ((st.put v [.sc (.int .u8 d.tos), .sc (.int .u8 d.ttl), .sc (.int .u8 d.proto), .sc (.int .u16 d.id), .sc (.int .u16 fr), .sc (.int .u32 d.src), .sc (.int .u32 d.dst), .sl tk1 (bs d.O), .sl tk2 (bs (pDat d step j))]).put k [.sc (.int .u32 d.src), .sc (.int .u32 d.dst), .sc (.int .u16 d.id), .sc (.int .u8 d.proto)]).Lt := hlt.put.put
    have hbv : ((st.put v [.sc (.int .u8 d.tos), .sc (.int .u8 d.ttl), .sc (.int .u8 d.proto), .sc (.int .u16 d.id), .sc (.int .u16 fr), .sc (.int .u32 d.src), .sc (.int .u32 d.dst), .sl tk1 (bs d.O), .sl tk2 (bs (pDat d step j))]).put k [.sc (.int .u32 d.src), .sc (.int .u32 d.dst), .sc (.int .u16 d.id), .sc (.int .u8 d.proto)]).box v = some [.sc (.int .u8 d.tos), .sc (.int .u8 d.ttl), .sc (.int .u8 d.proto), .sc (.int .u16 d.id), .sc (.int .u16 fr), .sc (.int .u32 d.src), .sc (.int .u32 d.dst), .sl tk1 (bs d.O), .sl tk2 (bs (pDat d step j))] := by rw [put_box_ne vk, put_box_same]
    have hbk : ((st.put v [.sc (.int .u8 d.tos), .sc (.int .u8 d.ttl), .sc (.int .u8 d.proto), .sc (.int .u16 d.id), .sc (.int .u16 fr), .sc (.int .u32 d.src), .sc (.int .u32 d.dst), .sl tk1 (bs d.O), .sl tk2 (bs (pDat d step j))]).put k [.sc (.int .u32 d.src), .sc (.int .u32 d.dst), .sc (.int .u16 d.id), .sc (.int .u8 d.proto)]).box k = some [.sc (.int .u32 d.src), .sc (.int .u32 d.dst), .sc (.int .u16 d.id), .sc (.int .u8 d.proto)] := put_box_same
    generalize (st.put v [.sc (.int .u8 d.tos), .sc (.int .u8 d.ttl), .sc (.int .u8 d.proto), .sc (.int .u16 d.id), .sc (.int .u16 fr), .sc (.int .u32 d.src), .sc (.int .u32 d.dst), .sl tk1 (bs d.O), .sl tk2 (bs (pDat d step j))]).put k [.sc (.int .u32 d.src), .sc (.int .u32 d.dst), .sc (.int .u16 d.id), .sc (.int .u8 d.proto)] = s1 at W1 L1 hbv hbk ⊢
    have hks := L1.box k _ hbk
    have B1 := weak_tr J.weak W1
    have hbs := J.weak.sz
    rcases J.st with ⟨hS, hb⟩ | ⟨hS1, hS2, hW⟩ | ⟨hSn', _⟩
    · subst hS
      have hb1 := (W1.box jb _ hb).1
      simp (config := {maxSteps := 3000000}) only [go_sem, Nat.reduceEqDiff, Nat.reduceAdd, Nat.reduceLeDiff, Int.reduceNeg, ↓reduceIte, reduceCtorEq, hb1, hbk]
      refine Cal.mk (jRoom_v hb1) ?_
      rintro _ _ ⟨rfl, rfl⟩ -
      simp (config := {maxSteps := 3000000}) only [go_sem, Nat.reduceEqDiff, Int.reduceNeg, ↓reduceIte, reduceCtorEq, hb1]
      intro mb hmb
      have jm : jb ≠ mb := by omega
      have km : k ≠ mb := by omega
      have vm : v ≠ mb := by omega
      simp (config := {maxSteps := 3000000}) only [go_sem, Nat.reduceEqDiff, Nat.reduceAdd, Nat.reduceLT, Nat.reduceLeDiff, Int.reduceLE, Int.reduceAdd, Int.reduceNeg, ↓reduceIte, reduceCtorEq, hb1, put_box_ne jm]
      intro pb hpb
      have s1b : s1.sz ≤ pb := by omega
      have mp : mb ≠ pb := by omega
      have jp : jb ≠ pb := by omega
      have kp : k ≠ pb := by omega
      have vp : v ≠ pb := by omega
      have m1 : base.sz ≤ mb := by have := B1.sz; omega
      have m2 : base.sz ≤ pb := by have := B1.sz; omega
      clear hpb
      have BA : base.weak (((s1.put mb [.mp true LfK [] 0]).put jb [.sc (.map (some mb)), .sc (.int .i64 1)]).put pb [.sl .nil [], .sc (.int .u8 0), .sc (.int .u8 0), .sc (.int .u8 0), .sc (.int .u16 0), .sc (.int .u16 0), .sc (.int .u32 0), .sc (.int .u32 0), .sl .nil [], .sl .nil [], .sc (.bool false), .sc (.int .i64 (-1)), .sc (.int .i64 15), .sc (.int .i64 1)]) := weak_put (weak_put (weak_put B1 m1) J.le) m2
      have LA : (((s1.put mb [.mp true LfK [] 0]).put jb [.sc (.map (some mb)), .sc (.int .i64 1)]).put pb [.sl .nil [], .sc (.int .u8 0), .sc (.int .u8 0), .sc (.int .u8 0), .sc (.int .u16 0), .sc (.int .u16 0), .sc (.int .u32 0), .sc (.int .u32 0), .sl .nil [], .sl .nil [], .sc (.bool false), .sc (.int .i64 (-1)), .sc (.int .i64 15), .sc (.int .i64 1)]).Lt := L1.put.put.put
      have hbA : (((s1.put mb [.mp true LfK [] 0]).put jb [.sc (.map (some mb)), .sc (.int .i64 1)]).put pb [.sl .nil [], .sc (.int .u8 0), .sc (.int .u8 0), .sc (.int .u8 0), .sc (.int .u16 0), .sc (.int .u16 0), .sc (.int .u32 0), .sc (.int .u32 0), .sl .nil [], .sl .nil [], .sc (.bool false), .sc (.int .i64 (-1)), .sc (.int .i64 15), .sc (.int .i64 1)]).box jb = some [.sc (.map (some mb)), .sc (.int .i64 1)] := by rw [put_box_ne jp, put_box_same]
      have hmA0 : (((s1.put mb [.mp true LfK [] 0]).put jb [.sc (.map (some mb)), .sc (.int .i64 1)]).put pb [.sl .nil [], .sc (.int .u8 0), .sc (.int .u8 0), .sc (.int .u8 0), .sc (.int .u16 0), .sc (.int .u16 0), .sc (.int .u32 0), .sc (.int .u32 0), .sl .nil [], .sl .nil [], .sc (.bool false), .sc (.int .i64 (-1)), .sc (.int .i64 15), .sc (.int .i64 1)]).box mb = some [.mp true LfK [] 0] := by rw [put_box_ne mp, put_box_ne jm.symm, put_box_same]
      have hkA : (((s1.put mb [.mp true LfK [] 0]).put jb [.sc (.map (some mb)), .sc (.int .i64 1)]).put pb [.sl .nil [], .sc (.int .u8 0), .sc (.int .u8 0), .sc (.int .u8 0), .sc (.int .u16 0), .sc (.int .u16 0), .sc (.int .u32 0), .sc (.int .u32 0), .sl .nil [], .sl .nil [], .sc (.bool false), .sc (.int .i64 (-1)), .sc (.int .i64 15), .sc (.int .i64 1)]).box k = some [.sc (.int .u32 d.src), .sc (.int .u32 d.dst), .sc (.int .u16 d.id), .sc (.int .u8 d.proto)] := by rw [put_box_ne kp, put_box_ne jk.symm, put_box_ne km]; exact hbk
      have hvA : (((s1.put mb [.mp true LfK [] 0]).put jb [.sc (.map (some mb)), .sc (.int .i64 1)]).put pb [.sl .nil [], .sc (.int .u8 0), .sc (.int .u8 0), .sc (.int .u8 0), .sc (.int .u16 0), .sc (.int .u16 0), .sc (.int .u32 0), .sc (.int .u32 0), .sl .nil [], .sl .nil [], .sc (.bool false), .sc (.int .i64 (-1)), .sc (.int .i64 15), .sc (.int .i64 1)]).box v = some [.sc (.int .u8 d.tos), .sc (.int .u8 d.ttl), .sc (.int .u8 d.proto), .sc (.int .u16 d.id), .sc (.int .u16 fr), .sc (.int .u32 d.src), .sc (.int .u32 d.dst), .sl tk1 (bs d.O), .sl tk2 (bs (pDat d step j))] := by rw [put_box_ne vp, put_box_ne jv.symm, put_box_ne vm]; exact hbv
      have hpA : (((s1.put mb [.mp true LfK [] 0]).put jb [.sc (.map (some mb)), .sc (.int .i64 1)]).put pb [.sl .nil [], .sc (.int .u8 0), .sc (.int .u8 0), .sc (.int .u8 0), .sc (.int .u16 0), .sc (.int .u16 0), .sc (.int .u32 0), .sc (.int .u32 0), .sl .nil [], .sl .nil [], .sc (.bool false), .sc (.int .i64 (-1)), .sc (.int .i64 15), .sc (.int .i64 1)]).box pb = some [.sl .nil [], .sc (.int .u8 0), .sc (.int .u8 0), .sc (.int .u8 0), .sc (.int .u16 0), .sc (.int .u16 0), .sc (.int .u32 0), .sc (.int .u32 0), .sl .nil [], .sl .nil [], .sc (.bool false), .sc (.int .i64 (-1)), .sc (.int .i64 15), .sc (.int .i64 1)] := put_box_same
      generalize ((s1.put mb [.mp true LfK [] 0]).put jb [.sc (.map (some mb)), .sc (.int .i64 1)]).put pb [.sl .nil [], .sc (.int .u8 0), .sc (.int .u8 0), .sc (.int .u8 0), .sc (.int .u16 0), .sc (.int .u16 0), .sc (.int .u32 0), .sc (.int .u32 0), .sl .nil [], .sl .nil [], .sc (.bool false), .sc (.int .i64 (-1)), .sc (.int .i64 15), .sc (.int .i64 1)] = s2 at BA LA hbA hmA0 hkA hvA hpA ⊢
      have hpl2 := LA.box pb _ hpA
      have hkl2 := LA.box k _ hkA
      have hml2 := LA.box mb _ hmA0
      have hjl2 := LA.box jb _ hbA
      obtain ⟨es, hes⟩ : ∃ es, es = mset (.agg [.sc (.int .u32 d.src), .sc (.int .u32 d.dst), .sc (.int .u16 d.id), .sc (.int .u8 d.proto)]) (.sc (.pointer (some { block := pb, off := 0 }))) 0 [] := ⟨_, rfl⟩
      obtain ⟨c, hc⟩ : ∃ c, c = mclk [] (.agg [.sc (.int .u32 d.src), .sc (.int .u32 d.dst), .sc (.int .u16 d.id), .sc (.int .u8 d.proto)]) 0 := ⟨_, rfl⟩
      have q3 : Mp kyV ptrV es c [(kyD d, pb)] := by rw [hes, hc]; exact Mp.set kyV_eq (Mp.nil (c := 0)) (kyD d) pb
      have P0 : PartB (s2.put mb [.mp true LfK (mset (.agg [.sc (.int .u32 d.src), .sc (.int .u32 d.dst), .sc (.int .u16 d.id), .sc (.int .u8 d.proto)]) (.sc (.pointer (some { block := pb, off := 0 }))) 0 []) (mclk [] (.agg [.sc (.int .u32 d.src), .sc (.int .u32 d.dst), .sc (.int .u16 d.id), .sc (.int .u8 d.proto)]) 0)]) pb d step n (HdP d step) [] none := ⟨_, _, _, _, _, _, _, _, _, _, by rw [put_box_ne mp.symm]; exact hpA, (fun k => by cases k), .inl ⟨rfl, rfl, rfl⟩⟩
      have BA2 : base.weak (s2.put mb [.mp true LfK (mset (.agg [.sc (.int .u32 d.src), .sc (.int .u32 d.dst), .sc (.int .u16 d.id), .sc (.int .u8 d.proto)]) (.sc (.pointer (some { block := pb, off := 0 }))) 0 []) (mclk [] (.agg [.sc (.int .u32 d.src), .sc (.int .u32 d.dst), .sc (.int .u16 d.id), .sc (.int .u8 d.proto)]) 0)]) := weak_put BA m1
      have LA2 : (s2.put mb [.mp true LfK (mset (.agg [.sc (.int .u32 d.src), .sc (.int .u32 d.dst), .sc (.int .u16 d.id), .sc (.int .u8 d.proto)]) (.sc (.pointer (some { block := pb, off := 0 }))) 0 []) (mclk [] (.agg [.sc (.int .u32 d.src), .sc (.int .u32 d.dst), .sc (.int .u16 d.id), .sc (.int .u8 d.proto)]) 0)]).Lt := LA.put
      have hmA2 : (s2.put mb [.mp true LfK (mset (.agg [.sc (.int .u32 d.src), .sc (.int .u32 d.dst), .sc (.int .u16 d.id), .sc (.int .u8 d.proto)]) (.sc (.pointer (some { block := pb, off := 0 }))) 0 []) (mclk [] (.agg [.sc (.int .u32 d.src), .sc (.int .u32 d.dst), .sc (.int .u16 d.id), .sc (.int .u8 d.proto)]) 0)]).box mb = some [.mp true LfK es c] := by rw [put_box_same, hes, hc]
      have hbA2 : (s2.put mb [.mp true LfK (mset (.agg [.sc (.int .u32 d.src), .sc (.int .u32 d.dst), .sc (.int .u16 d.id), .sc (.int .u8 d.proto)]) (.sc (.pointer (some { block := pb, off := 0 }))) 0 []) (mclk [] (.agg [.sc (.int .u32 d.src), .sc (.int .u32 d.dst), .sc (.int .u16 d.id), .sc (.int .u8 d.proto)]) 0)]).box jb = some [.sc (.map (some mb)), .sc (.int .i64 1)] := by rw [put_box_ne jm]; exact hbA
      have hkA2 : (s2.put mb [.mp true LfK (mset (.agg [.sc (.int .u32 d.src), .sc (.int .u32 d.dst), .sc (.int .u16 d.id), .sc (.int .u8 d.proto)]) (.sc (.pointer (some { block := pb, off := 0 }))) 0 []) (mclk [] (.agg [.sc (.int .u32 d.src), .sc (.int .u32 d.dst), .sc (.int .u16 d.id), .sc (.int .u8 d.proto)]) 0)]).box k = some [.sc (.int .u32 d.src), .sc (.int .u32 d.dst), .sc (.int .u16 d.id), .sc (.int .u8 d.proto)] := by rw [put_box_ne km]; exact hkA
      simp (config := {maxSteps := 3000000}) only [go_sem, Nat.reduceEqDiff, Nat.reduceAdd, Nat.reduceLeDiff, Int.reduceNeg, ↓reduceIte, hbA, hmA0, hkA, hvA, put_box_ne vm]
      clear BA LA hbA hkA
      generalize s2.put mb [.mp true LfK (mset (.agg [.sc (.int .u32 d.src), .sc (.int .u32 d.dst), .sc (.int .u16 d.id), .sc (.int .u8 d.proto)]) (.sc (.pointer (some { block := pb, off := 0 }))) 0 []) (mclk [] (.agg [.sc (.int .u32 d.src), .sc (.int .u32 d.dst), .sc (.int .u16 d.id), .sc (.int .u8 d.proto)]) 0)] = sA at P0 BA2 LA2 hmA2 hbA2 hkA2 ⊢
      have BA := BA2
      have LA := LA2
      have hmA := hmA2
      have hbA := hbA2
      have hkA := hkA2
      have hkl := LA.box k _ hkA
      have hjlA := LA.box jb _ hbA
      have hmlA := LA.box mb _ hmA
      have cA := partAdd_v (tk := tk2) (c0 := .sc (.int .u8 d.tos)) (c1 := .sc (.int .u8 d.ttl)) (c2 := .sc (.int .u8 d.proto)) (c3 := .sc (.int .u16 d.id)) (c4 := .sc (.int .u16 fr)) (c5 := .sc (.int .u32 d.src)) (c6 := .sc (.int .u32 d.dst)) (c7 := .sl tk1 (bs d.O)) h hj hSd hSn hjS P0 (fun e => ⟨tk1, tk2, by rw [hH0 e, e]⟩) (by simp [V.cells]) (by simp [V.ob])
      rw [hcN] at cA
      refine Cal.mk cA ?_
      rintro _ s3 ⟨rfl, rb', X, Y, hrb', hrp, rfl, P2⟩ -
      have hr2 : sA.sz ≤ rb' := hrb'.elim (fun e => by cases e) (fun e => e.2)
      have jr : jb ≠ rb' := by omega
      have mr : mb ≠ rb' := by omega
      have kr : k ≠ rb' := by omega
      have hrl : base.sz ≤ rb' := by have := BA.sz; omega
      have W2 : base.weak ((sA.put rb' X).put pb Y) := weak_put (weak_put BA hrl) m2
      have L2 : ((sA.put rb' X).put pb Y).Lt := LA.put.put
      have hb2 : ((sA.put rb' X).put pb Y).box jb = some [.sc (.map (some mb)), .sc (.int .i64 1)] := by rw [put_box_ne jp, put_box_ne jr]; exact hbA
      have hm2 : ((sA.put rb' X).put pb Y).box mb = some [.mp true LfK es c] := by rw [put_box_ne mp, put_box_ne mr]; exact hmA
      have hk2 : ((sA.put rb' X).put pb Y).box k = some [.sc (.int .u32 d.src), .sc (.int .u32 d.dst), .sc (.int .u16 d.id), .sc (.int .u8 d.proto)] := by rw [put_box_ne kp, put_box_ne kr]; exact hkA
      generalize (sA.put rb' X).put pb Y = s2 at W2 L2 hb2 hm2 hk2 P2 ⊢
      simp (config := {maxSteps := 3000000}) only [go_sem, Nat.reduceEqDiff, Int.reduceNeg, ↓reduceIte]
      refine Cal.mk (partWhole_v h hd hf hSd2 hSn2 P2) ?_
      rintro _ s3 (⟨w1, rfl, rfl⟩ | ⟨w1, rfl, Z, rfl⟩) -
      · simp (config := {maxSteps := 3000000}) only [go_sem, Nat.reduceEqDiff, Int.reduceNeg, ↓reduceIte]
        exact ⟨_, _, Wk.refl _, L2.weak, ⟨W2, L2, J.le, .inr (.inl ⟨by simp, w1, ⟨mb, pb, rb', es, c, m1, m2, hrl, jm, jp, jr, mp, mr, hrp, hb2, hm2, q3, P2⟩⟩)⟩, (if_neg (Nat.ne_of_lt w1)).symm⟩
      · simp (config := {maxSteps := 3000000}) only [go_sem, Nat.reduceEqDiff, Nat.reduceAdd, Nat.reduceLeDiff, Int.reduceNeg, ↓reduceIte, reduceCtorEq, put_box_ne jr, put_box_ne kr, put_box_ne mr, hb2, hm2, hk2]
        exact ⟨_, _, Wk.refl _, (L2.put.put).weak, ⟨weak_put (weak_put W2 hrl) m1, L2.put.put, J.le, .inr (.inr ⟨w1, ⟨mb, _, _, jm, by rw [put_box_ne jm, put_box_ne jr]; exact hb2, put_box_same, hdel q3⟩⟩)⟩, (if_pos w1).symm⟩
    · obtain ⟨mb, pb, rb, es, c, m1, m2, m3, m4, m5, m6, m7, m8, m9, q1, q2, q3, q4⟩ := hW.ex
      have hfind : mfind (.agg [.sc (.int .u32 d.src), .sc (.int .u32 d.dst), .sc (.int .u16 d.id), .sc (.int .u8 d.proto)]) es = some (ptrV pb) := by
        have := Mp.find kyV_eq q3 (kyD d)
        rw [show aget (kyD d) [(kyD d, pb)] = some pb by simp [aget]] at this
        exact this
      have hb1 := (W1.box jb _ q1).1
      have hm1 := (W1.box mb _ q2).1
      have P1 := q4.grow W1
      simp (config := {maxSteps := 3000000}) only [go_sem, Nat.reduceEqDiff, Nat.reduceAdd, Nat.reduceLeDiff, Int.reduceNeg, ↓reduceIte, hb1, hm1, hbk, hbv, hfind, Option.isSome_some, Option.getD_some]
      have cA := partAdd_v (tk := tk2) (c0 := .sc (.int .u8 d.tos)) (c1 := .sc (.int .u8 d.ttl)) (c2 := .sc (.int .u8 d.proto)) (c3 := .sc (.int .u16 d.id)) (c4 := .sc (.int .u16 fr)) (c5 := .sc (.int .u32 d.src)) (c6 := .sc (.int .u32 d.dst)) (c7 := .sl tk1 (bs d.O)) h hj hSd hSn hjS P1 (fun e => ⟨tk1, tk2, by rw [hH0 e, e]⟩) (by simp [V.cells]) (by simp [V.ob])
      rw [hcN] at cA
      refine Cal.mk cA ?_
      rintro _ s2 ⟨rfl, rb', X, Y, hrb', hrp, rfl, P2⟩ -
      have hr2 : rb' = rb ∨ s1.sz ≤ rb' := hrb'.elim (fun e => .inl (Option.some.inj e).symm) (fun e => .inr e.2)
      have BA := B1
      have LA := L1
      have hmA := hm1
      have hbA := hb1
      have hkA := hbk
      have jm := m4
      have jp := m5
      have mp := m7
      have hjl2 := LA.box jb _ hb1
      have hml2 := LA.box mb _ hm1
      obtain ⟨hrl2, hpl2⟩ := q4.rblt hlt
      have kp : k ≠ pb := by omega
      have jr : jb ≠ rb' := by omega
      have mr : mb ≠ rb' := by omega
      have kr : k ≠ rb' := by omega
      have hrl : base.sz ≤ rb' := by have := B1.sz; omega
      have W2 : base.weak ((s1.put rb' X).put pb Y) := weak_put (weak_put BA hrl) m2
      have L2 : ((s1.put rb' X).put pb Y).Lt := LA.put.put
      have hb2 : ((s1.put rb' X).put pb Y).box jb = some [.sc (.map (some mb)), .sc (.int .i64 1)] := by rw [put_box_ne jp, put_box_ne jr]; exact hbA
      have hm2 : ((s1.put rb' X).put pb Y).box mb = some [.mp true LfK es c] := by rw [put_box_ne mp, put_box_ne mr]; exact hmA
      have hk2 : ((s1.put rb' X).put pb Y).box k = some [.sc (.int .u32 d.src), .sc (.int .u32 d.dst), .sc (.int .u16 d.id), .sc (.int .u8 d.proto)] := by rw [put_box_ne kp, put_box_ne kr]; exact hkA
      generalize (s1.put rb' X).put pb Y = s2 at W2 L2 hb2 hm2 hk2 P2 ⊢
      simp (config := {maxSteps := 3000000}) only [go_sem, Nat.reduceEqDiff, ↓reduceIte]
      refine Cal.mk (partWhole_v h hd hf hSd2 hSn2 P2) ?_
      rintro _ s3 (⟨w1, rfl, rfl⟩ | ⟨w1, rfl, Z, rfl⟩) -
      · simp (config := {maxSteps := 3000000}) only [go_sem, Nat.reduceEqDiff, ↓reduceIte]
        exact ⟨_, _, Wk.refl _, L2.weak, ⟨W2, L2, J.le, .inr (.inl ⟨by simp, w1, ⟨mb, pb, rb', es, c, m1, m2, hrl, jm, jp, jr, mp, mr, hrp, hb2, hm2, q3, P2⟩⟩)⟩, (if_neg (Nat.ne_of_lt w1)).symm⟩
      · simp (config := {maxSteps := 3000000}) only [go_sem, Nat.reduceEqDiff, Nat.reduceAdd, Nat.reduceLeDiff, ↓reduceIte, reduceCtorEq, put_box_ne jr, put_box_ne kr, put_box_ne mr, hb2, hm2, hk2]
        exact ⟨_, _, Wk.refl _, (L2.put.put).weak, ⟨weak_put (weak_put W2 hrl) m1, L2.put.put, J.le, .inr (.inr ⟨w1, ⟨mb, _, _, jm, by rw [put_box_ne jm, put_box_ne jr]; exact hb2, put_box_same, hdel q3⟩⟩)⟩, (if_pos w1).symm⟩
    · exact absurd ((full_perm hSd hSn hSn').mem_iff.2 (List.mem_range.2 hj)) hjS
  · have g7 := (rfl : True = True)
    simp (config := {maxSteps := 3000000}) only [go_sem, Nat.reduceEqDiff, Nat.reduceAdd, Nat.reduceLT, Nat.reduceLeDiff, Int.reduceNeg, ↓reduceIte, reduceCtorEq, g1, g2, g3, e1, g4, g5, bs_len]
    repeat (apply And.intro; focus (first | omega | (simp; done)))
    intro k hk
    have k1 : v < k := by omega
    have k2 : st.sz ≤ k := by omega
    clear hk
    have jv : jb ≠ v := by omega
    have jk : jb ≠ k := by omega
    have vk : v ≠ k := by omega
    have W1 : st.weak ((st.put v [.sc (.int .u8 d.tos), .sc (.int .u8 d.ttl), .sc (.int .u8 d.proto), .sc (.int .u16 d.id), .sc (.int .u16 fr), .sc (.int .u32 d.src), .sc (.int .u32 d.dst), .sl tk1 (bs d.O), .sl tk2 (bs (pDat d step j))]).put k [.sc (.int .u32 d.src), .sc (.int .u32 d.dst), .sc (.int .u16 d.id), .sc (.int .u8 d.proto)]) := weak_put (weak_put hwf.weak hv) k2
    have L1 : ((st.put v [.sc (.int .u8 d.tos), .sc (.int .u8 d.ttl), .sc (.int .u8 d.proto), .sc (.int .u16 d.id), .sc (.int .u16 fr), .sc (.int .u32 d.src), .sc (.int .u32 d.dst), .sl tk1 (bs d.O), .sl tk2 (bs (pDat d step j))]).put k [.sc (.int .u32 d.src), .sc (.int .u32 d.dst), .sc (.int .u16 d.id), .sc (.int .u8 d.proto)]).Lt := hlt.put.put
    have hbv : ((st.put v [.sc (.int .u8 d.tos), .sc (.int .u8 d.ttl), .sc (.int .u8 d.proto), .sc (.int .u16 d.id), .sc (.int .u16 fr), .sc (.int .u32 d.src), .sc (.int .u32 d.dst), .sl tk1 (bs d.O), .sl tk2 (bs (pDat d step j))]).put k [.sc (.int .u32 d.src), .sc (.int .u32 d.dst), .sc (.int .u16 d.id), .sc (.int .u8 d.proto)]).box v = some [.sc (.int .u8 d.tos), .sc (.int .u8 d.ttl), .sc (.int .u8 d.proto), .sc (.int .u16 d.id), .sc (.int .u16 fr), .sc (.int .u32 d.src), .sc (.int .u32 d.dst), .sl tk1 (bs d.O), .sl tk2 (bs (pDat d step j))] := by rw [put_box_ne vk, put_box_same]
    have hbk : ((st.put v [.sc (.int .u8 d.tos), .sc (.int .u8 d.ttl), .sc (.int .u8 d.proto), .sc (.int .u16 d.id), .sc (.int .u16 fr), .sc (.int .u32 d.src), .sc (.int .u32 d.dst), .sl tk1 (bs d.O), .sl tk2 (bs (pDat d step j))]).put k [.sc (.int .u32 d.src), .sc (.int .u32 d.dst), .sc (.int .u16 d.id), .sc (.int .u8 d.proto)]).box k = some [.sc (.int .u32 d.src), .sc (.int .u32 d.dst), .sc (.int .u16 d.id), .sc (.int .u8 d.proto)] := put_box_same
    generalize (st.put v [.sc (.int .u8 d.tos), .sc (.int .u8 d.ttl), .sc (.int .u8 d.proto), .sc (.int .u16 d.id), .sc (.int .u16 fr), .sc (.int .u32 d.src), .sc (.int .u32 d.dst), .sl tk1 (bs d.O), .sl tk2 (bs (pDat d step j))]).put k [.sc (.int .u32 d.src), .sc (.int .u32 d.dst), .sc (.int .u16 d.id), .sc (.int .u8 d.proto)] = s1 at W1 L1 hbv hbk ⊢
    have hks := L1.box k _ hbk
    have B1 := weak_tr J.weak W1
    have hbs := J.weak.sz
    rcases J.st with ⟨hS, hb⟩ | ⟨hS1, hS2, hW⟩ | ⟨hSn', _⟩
    · subst hS
      have hb1 := (W1.box jb _ hb).1
      simp (config := {maxSteps := 3000000}) only [go_sem, Nat.reduceEqDiff, Nat.reduceAdd, Nat.reduceLeDiff, Int.reduceNeg, ↓reduceIte, reduceCtorEq, hb1, hbk]
      refine Cal.mk (jRoom_v hb1) ?_
      rintro _ _ ⟨rfl, rfl⟩ -
      simp (config := {maxSteps := 3000000}) only [go_sem, Nat.reduceEqDiff, Int.reduceNeg, ↓reduceIte, reduceCtorEq, hb1]
      intro mb hmb
      have jm : jb ≠ mb := by omega
      have km : k ≠ mb := by omega
      have vm : v ≠ mb := by omega
      simp (config := {maxSteps := 3000000}) only [go_sem, Nat.reduceEqDiff, Nat.reduceAdd, Nat.reduceLT, Nat.reduceLeDiff, Int.reduceLE, Int.reduceAdd, Int.reduceNeg, ↓reduceIte, reduceCtorEq, hb1, put_box_ne jm]
      intro pb hpb
      have s1b : s1.sz ≤ pb := by omega
      have mp : mb ≠ pb := by omega
      have jp : jb ≠ pb := by omega
      have kp : k ≠ pb := by omega
      have vp : v ≠ pb := by omega
      have m1 : base.sz ≤ mb := by have := B1.sz; omega
      have m2 : base.sz ≤ pb := by have := B1.sz; omega
      clear hpb
      have BA : base.weak (((s1.put mb [.mp true LfK [] 0]).put jb [.sc (.map (some mb)), .sc (.int .i64 1)]).put pb [.sl .nil [], .sc (.int .u8 0), .sc (.int .u8 0), .sc (.int .u8 0), .sc (.int .u16 0), .sc (.int .u16 0), .sc (.int .u32 0), .sc (.int .u32 0), .sl .nil [], .sl .nil [], .sc (.bool false), .sc (.int .i64 (-1)), .sc (.int .i64 15), .sc (.int .i64 1)]) := weak_put (weak_put (weak_put B1 m1) J.le) m2
      have LA : (((s1.put mb [.mp true LfK [] 0]).put jb [.sc (.map (some mb)), .sc (.int .i64 1)]).put pb [.sl .nil [], .sc (.int .u8 0), .sc (.int .u8 0), .sc (.int .u8 0), .sc (.int .u16 0), .sc (.int .u16 0), .sc (.int .u32 0), .sc (.int .u32 0), .sl .nil [], .sl .nil [], .sc (.bool false), .sc (.int .i64 (-1)), .sc (.int .i64 15), .sc (.int .i64 1)]).Lt := L1.put.put.put
      have hbA : (((s1.put mb [.mp true LfK [] 0]).put jb [.sc (.map (some mb)), .sc (.int .i64 1)]).put pb [.sl .nil [], .sc (.int .u8 0), .sc (.int .u8 0), .sc (.int .u8 0), .sc (.int .u16 0), .sc (.int .u16 0), .sc (.int .u32 0), .sc (.int .u32 0), .sl .nil [], .sl .nil [], .sc (.bool false), .sc (.int .i64 (-1)), .sc (.int .i64 15), .sc (.int .i64 1)]).box jb = some [.sc (.map (some mb)), .sc (.int .i64 1)] := by rw [put_box_ne jp, put_box_same]
      have hmA0 : (((s1.put mb [.mp true LfK [] 0]).put jb [.sc (.map (some mb)), .sc (.int .i64 1)]).put pb [.sl .nil [], .sc (.int .u8 0), .sc (.int .u8 0), .sc (.int .u8 0), .sc (.int .u16 0), .sc (.int .u16 0), .sc (.int .u32 0), .sc (.int .u32 0), .sl .nil [], .sl .nil [], .sc (.bool false), .sc (.int .i64 (-1)), .sc (.int .i64 15), .sc (.int .i64 1)]).box mb = some [.mp true LfK [] 0] := by rw [put_box_ne mp, put_box_ne jm.symm, put_box_same]
      have hkA : (((s1.put mb [.mp true LfK [] 0]).put jb [.sc (.map (some mb)), .sc (.int .i64 1)]).put pb [.sl .nil [], .sc (.int .u8 0), .sc (.int .u8 0), .sc (.int .u8 0), .sc (.int .u16 0), .sc (.int .u16 0), .sc (.int .u32 0), .sc (.int .u32 0), .sl .nil [], .sl .nil [], .sc (.bool false), .sc (.int .i64 (-1)), .sc (.int .i64 15), .sc (.int .i64 1)]).box k = some [.sc (.int .u32 d.src), .sc (.int .u32 d.dst), .sc (.int .u16 d.id), .sc (.int .u8 d.proto)] := by rw [put_box_ne kp, put_box_ne jk.symm, put_box_ne km]; exact hbk
      have hvA : (((s1.put mb [.mp true LfK [] 0]).put jb [.sc (.map (some mb)), .sc (.int .i64 1)]).put pb [.sl .nil [], .sc (.int .u8 0), .sc (.int .u8 0), .sc (.int .u8 0), .sc (.int .u16 0), .sc (.int .u16 0), .sc (.int .u32 0), .sc (.int .u32 0), .sl .nil [], .sl .nil [], .sc (.bool false), .sc (.int .i64 (-1)), .sc (.int .i64 15), .sc (.int .i64 1)]).box v = some [.sc (.int .u8 d.tos), .sc (.int .u8 d.ttl), .sc (.int .u8 d.proto), .sc (.int .u16 d.id), .sc (.int .u16 fr), .sc (.int .u32 d.src), .sc (.int .u32 d.dst), .sl tk1 (bs d.O), .sl tk2 (bs (pDat d step j))] := by rw [put_box_ne vp, put_box_ne jv.symm, put_box_ne vm]; exact hbv
      have hpA : (((s1.put mb [.mp true LfK [] 0]).put jb [.sc (.map (some mb)), .sc (.int .i64 1)]).put pb [.sl .nil [], .sc (.int .u8 0), .sc (.int .u8 0), .sc (.int .u8 0), .sc (.int .u16 0), .sc (.int .u16 0), .sc (.int .u32 0), .sc (.int .u32 0), .sl .nil [], .sl .nil [], .sc (.bool false), .sc (.int .i64 (-1)), .sc (.int .i64 15), .sc (.int .i64 1)]).box pb = some [.sl .nil [], .sc (.int .u8 0), .sc (.int .u8 0), .sc (.int .u8 0), .sc (.int .u16 0), .sc (.int .u16 0), .sc (.int .u32 0), .sc (.int .u32 0), .sl .nil [], .sl .nil [], .sc (.bool false), .sc (.int .i64 (-1)), .sc (.int .i64 15), .sc (.int .i64 1)] := put_box_same
      generalize ((s1.put mb [.mp true LfK [] 0]).put jb [.sc (.map (some mb)), .sc (.int .i64 1)]).put pb [.sl .nil [], .sc (.int .u8 0), .sc (.int .u8 0), .sc (.int .u8 0), .sc (.int .u16 0), .sc (.int .u16 0), .sc (.int .u32 0), .sc (.int .u32 0), .sl .nil [], .sl .nil [], .sc (.bool false), .sc (.int .i64 (-1)), .sc (.int .i64 15), .sc (.int .i64 1)] = s2 at BA LA hbA hmA0 hkA hvA hpA ⊢
      have hpl2 := LA.box pb _ hpA
      have hkl2 := LA.box k _ hkA
      have hml2 := LA.box mb _ hmA0
      have hjl2 := LA.box jb _ hbA
      obtain ⟨es, hes⟩ : ∃ es, es = mset (.agg [.sc (.int .u32 d.src), .sc (.int .u32 d.dst), .sc (.int .u16 d.id), .sc (.int .u8 d.proto)]) (.sc (.pointer (some { block := pb, off := 0 }))) 0 [] := ⟨_, rfl⟩
      obtain ⟨c, hc⟩ : ∃ c, c = mclk [] (.agg [.sc (.int .u32 d.src), .sc (.int .u32 d.dst), .sc (.int .u16 d.id), .sc (.int .u8 d.proto)]) 0 := ⟨_, rfl⟩
      have q3 : Mp kyV ptrV es c [(kyD d, pb)] := by rw [hes, hc]; exact Mp.set kyV_eq (Mp.nil (c := 0)) (kyD d) pb
      have P0 : PartB (s2.put mb [.mp true LfK (mset (.agg [.sc (.int .u32 d.src), .sc (.int .u32 d.dst), .sc (.int .u16 d.id), .sc (.int .u8 d.proto)]) (.sc (.pointer (some { block := pb, off := 0 }))) 0 []) (mclk [] (.agg [.sc (.int .u32 d.src), .sc (.int .u32 d.dst), .sc (.int .u16 d.id), .sc (.int .u8 d.proto)]) 0)]) pb d step n (HdP d step) [] none := ⟨_, _, _, _, _, _, _, _, _, _, by rw [put_box_ne mp.symm]; exact hpA, (fun k => by cases k), .inl ⟨rfl, rfl, rfl⟩⟩
      have BA2 : base.weak (s2.put mb [.mp true LfK (mset (.agg [.sc (.int .u32 d.src), .sc (.int .u32 d.dst), .sc (.int .u16 d.id), .sc (.int .u8 d.proto)]) (.sc (.pointer (some { block := pb, off := 0 }))) 0 []) (mclk [] (.agg [.sc (.int .u32 d.src), .sc (.int .u32 d.dst), .sc (.int .u16 d.id), .sc (.int .u8 d.proto)]) 0)]) := weak_put BA m1
      have LA2 : (s2.put mb [.mp true LfK (mset (.agg [.sc (.int .u32 d.src), .sc (.int .u32 d.dst), .sc (.int .u16 d.id), .sc (.int .u8 d.proto)]) (.sc (.pointer (some { block := pb, off := 0 }))) 0 []) (mclk [] (.agg [.sc (.int .u32 d.src), .sc (.int .u32 d.dst), .sc (.int .u16 d.id), .sc (.int .u8 d.proto)]) 0)]).Lt := LA.put
      have hmA2 : (s2.put mb [.mp true LfK (mset (.agg [.sc (.int .u32 d.src), .sc (.int .u32 d.dst), .sc (.int .u16 d.id), .sc (.int .u8 d.proto)]) (.sc (.pointer (some { block := pb, off := 0 }))) 0 []) (mclk [] (.agg [.sc (.int .u32 d.src), .sc (.int .u32 d.dst), .sc (.int .u16 d.id), .sc (.int .u8 d.proto)]) 0)]).box mb = some [.mp true LfK es c] := by rw [put_box_same, hes, hc]
      have hbA2 : (s2.put mb [.mp true LfK (mset (.agg [.sc (.int .u32 d.src), .sc (.int .u32 d.dst), .sc (.int .u16 d.id), .sc (.int .u8 d.proto)]) (.sc (.pointer (some { block := pb, off := 0 }))) 0 []) (mclk [] (.agg [.sc (.int .u32 d.src), .sc (.int .u32 d.dst), .sc (.int .u16 d.id), .sc (.int .u8 d.proto)]) 0)]).box jb = some [.sc (.map (some mb)), .sc (.int .i64 1)] := by rw [put_box_ne jm]; exact hbA
      have hkA2 : (s2.put mb [.mp true LfK (mset (.agg [.sc (.int .u32 d.src), .sc (.int .u32 d.dst), .sc (.int .u16 d.id), .sc (.int .u8 d.proto)]) (.sc (.pointer (some { block := pb, off := 0 }))) 0 []) (mclk [] (.agg [.sc (.int .u32 d.src), .sc (.int .u32 d.dst), .sc (.int .u16 d.id), .sc (.int .u8 d.proto)]) 0)]).box k = some [.sc (.int .u32 d.src), .sc (.int .u32 d.dst), .sc (.int .u16 d.id), .sc (.int .u8 d.proto)] := by rw [put_box_ne km]; exact hkA
      simp (config := {maxSteps := 3000000}) only [go_sem, Nat.reduceEqDiff, Nat.reduceAdd, Nat.reduceLeDiff, Int.reduceNeg, ↓reduceIte, hbA, hmA0, hkA, hvA, put_box_ne vm]
      clear BA LA hbA hkA
      generalize s2.put mb [.mp true LfK (mset (.agg [.sc (.int .u32 d.src), .sc (.int .u32 d.dst), .sc (.int .u16 d.id), .sc (.int .u8 d.proto)]) (.sc (.pointer (some { block := pb, off := 0 }))) 0 []) (mclk [] (.agg [.sc (.int .u32 d.src), .sc (.int .u32 d.dst), .sc (.int .u16 d.id), .sc (.int .u8 d.proto)]) 0)] = sA at P0 BA2 LA2 hmA2 hbA2 hkA2 ⊢
      have BA := BA2
      have LA := LA2
      have hmA := hmA2
      have hbA := hbA2
      have hkA := hkA2
      have hkl := LA.box k _ hkA
      have hjlA := LA.box jb _ hbA
      have hmlA := LA.box mb _ hmA
      have cA := partAdd_v (tk := tk2) (c0 := .sc (.int .u8 d.tos)) (c1 := .sc (.int .u8 d.ttl)) (c2 := .sc (.int .u8 d.proto)) (c3 := .sc (.int .u16 d.id)) (c4 := .sc (.int .u16 fr)) (c5 := .sc (.int .u32 d.src)) (c6 := .sc (.int .u32 d.dst)) (c7 := .sl tk1 (bs d.O)) h hj hSd hSn hjS P0 (fun e => ⟨tk1, tk2, by rw [hH0 e, e]⟩) (by simp [V.cells]) (by simp [V.ob])
      rw [hcN] at cA
      refine Cal.mk cA ?_
      rintro _ s3 ⟨rfl, rb', X, Y, hrb', hrp, rfl, P2⟩ -
      have hr2 : sA.sz ≤ rb' := hrb'.elim (fun e => by cases e) (fun e => e.2)
      have jr : jb ≠ rb' := by omega
      have mr : mb ≠ rb' := by omega
      have kr : k ≠ rb' := by omega
      have hrl : base.sz ≤ rb' := by have := BA.sz; omega
      have W2 : base.weak ((sA.put rb' X).put pb Y) := weak_put (weak_put BA hrl) m2
      have L2 : ((sA.put rb' X).put pb Y).Lt := LA.put.put
      have hb2 : ((sA.put rb' X).put pb Y).box jb = some [.sc (.map (some mb)), .sc (.int .i64 1)] := by rw [put_box_ne jp, put_box_ne jr]; exact hbA
      have hm2 : ((sA.put rb' X).put pb Y).box mb = some [.mp true LfK es c] := by rw [put_box_ne mp, put_box_ne mr]; exact hmA
      have hk2 : ((sA.put rb' X).put pb Y).box k = some [.sc (.int .u32 d.src), .sc (.int .u32 d.dst), .sc (.int .u16 d.id), .sc (.int .u8 d.proto)] := by rw [put_box_ne kp, put_box_ne kr]; exact hkA
      generalize (sA.put rb' X).put pb Y = s2 at W2 L2 hb2 hm2 hk2 P2 ⊢
      simp (config := {maxSteps := 3000000}) only [go_sem, Nat.reduceEqDiff, Int.reduceNeg, ↓reduceIte]
      refine Cal.mk (partWhole_v h hd hf hSd2 hSn2 P2) ?_
      rintro _ s3 (⟨w1, rfl, rfl⟩ | ⟨w1, rfl, Z, rfl⟩) -
      · simp (config := {maxSteps := 3000000}) only [go_sem, Nat.reduceEqDiff, Int.reduceNeg, ↓reduceIte]
        exact ⟨_, _, Wk.refl _, L2.weak, ⟨W2, L2, J.le, .inr (.inl ⟨by simp, w1, ⟨mb, pb, rb', es, c, m1, m2, hrl, jm, jp, jr, mp, mr, hrp, hb2, hm2, q3, P2⟩⟩)⟩, (if_neg (Nat.ne_of_lt w1)).symm⟩
      · simp (config := {maxSteps := 3000000}) only [go_sem, Nat.reduceEqDiff, Nat.reduceAdd, Nat.reduceLeDiff, Int.reduceNeg, ↓reduceIte, reduceCtorEq, put_box_ne jr, put_box_ne kr, put_box_ne mr, hb2, hm2, hk2]
        exact ⟨_, _, Wk.refl _, (L2.put.put).weak, ⟨weak_put (weak_put W2 hrl) m1, L2.put.put, J.le, .inr (.inr ⟨w1, ⟨mb, _, _, jm, by rw [put_box_ne jm, put_box_ne jr]; exact hb2, put_box_same, hdel q3⟩⟩)⟩, (if_pos w1).symm⟩
    · obtain ⟨mb, pb, rb, es, c, m1, m2, m3, m4, m5, m6, m7, m8, m9, q1, q2, q3, q4⟩ := hW.ex
      have hfind : mfind (.agg [.sc (.int .u32 d.src), .sc (.int .u32 d.dst), .sc (.int .u16 d.id), .sc (.int .u8 d.proto)]) es = some (ptrV pb) := by
        have := Mp.find kyV_eq q3 (kyD d)
        rw [show aget (kyD d) [(kyD d, pb)] = some pb by simp [aget]] at this
        exact this
      have hb1 := (W1.box jb _ q1).1
      have hm1 := (W1.box mb _ q2).1
      have P1 := q4.grow W1
      simp (config := {maxSteps := 3000000}) only [go_sem, Nat.reduceEqDiff, Nat.reduceAdd, Nat.reduceLeDiff, Int.reduceNeg, ↓reduceIte, hb1, hm1, hbk, hbv, hfind, Option.isSome_some, Option.getD_some]
      have cA := partAdd_v (tk := tk2) (c0 := .sc (.int .u8 d.tos)) (c1 := .sc (.int .u8 d.ttl)) (c2 := .sc (.int .u8 d.proto)) (c3 := .sc (.int .u16 d.id)) (c4 := .sc (.int .u16 fr)) (c5 := .sc (.int .u32 d.src)) (c6 := .sc (.int .u32 d.dst)) (c7 := .sl tk1 (bs d.O)) h hj hSd hSn hjS P1 (fun e => ⟨tk1, tk2, by rw [hH0 e, e]⟩) (by simp [V.cells]) (by simp [V.ob])
      rw [hcN] at cA
      refine Cal.mk cA ?_
      rintro _ s2 ⟨rfl, rb', X, Y, hrb', hrp, rfl, P2⟩ -
      have hr2 : rb' = rb ∨ s1.sz ≤ rb' := hrb'.elim (fun e => .inl (Option.some.inj e).symm) (fun e => .inr e.2)
      have BA := B1
      have LA := L1
      have hmA := hm1
      have hbA := hb1
      have hkA := hbk
      have jm := m4
      have jp := m5
      have mp := m7
      have hjl2 := LA.box jb _ hb1
      have hml2 := LA.box mb _ hm1
      obtain ⟨hrl2, hpl2⟩ := q4.rblt hlt
      have kp : k ≠ pb := by omega
      have jr : jb ≠ rb' := by omega
      have mr : mb ≠ rb' := by omega
      have kr : k ≠ rb' := by omega
      have hrl : base.sz ≤ rb' := by have := B1.sz; omega
      have W2 : base.weak ((s1.put rb' X).put pb Y) := weak_put (weak_put BA hrl) m2
      have L2 : ((s1.put rb' X).put pb Y).Lt := LA.put.put
      have hb2 : ((s1.put rb' X).put pb Y).box jb = some [.sc (.map (some mb)), .sc (.int .i64 1)] := by rw [put_box_ne jp, put_box_ne jr]; exact hbA
      have hm2 : ((s1.put rb' X).put pb Y).box mb = some [.mp true LfK es c] := by rw [put_box_ne mp, put_box_ne mr]; exact hmA
      have hk2 : ((s1.put rb' X).put pb Y).box k = some [.sc (.int .u32 d.src), .sc (.int .u32 d.dst), .sc (.int .u16 d.id), .sc (.int .u8 d.proto)] := by rw [put_box_ne kp, put_box_ne kr]; exact hkA
      generalize (s1.put rb' X).put pb Y = s2 at W2 L2 hb2 hm2 hk2 P2 ⊢
      simp (config := {maxSteps := 3000000}) only [go_sem, Nat.reduceEqDiff, ↓reduceIte]
      refine Cal.mk (partWhole_v h hd hf hSd2 hSn2 P2) ?_
      rintro _ s3 (⟨w1, rfl, rfl⟩ | ⟨w1, rfl, Z, rfl⟩) -
      · simp (config := {maxSteps := 3000000}) only [go_sem, Nat.reduceEqDiff, ↓reduceIte]
        exact ⟨_, _, Wk.refl _, L2.weak, ⟨W2, L2, J.le, .inr (.inl ⟨by simp, w1, ⟨mb, pb, rb', es, c, m1, m2, hrl, jm, jp, jr, mp, mr, hrp, hb2, hm2, q3, P2⟩⟩)⟩, (if_neg (Nat.ne_of_lt w1)).symm⟩
      · simp (config := {maxSteps := 3000000}) only [go_sem, Nat.reduceEqDiff, Nat.reduceAdd, Nat.reduceLeDiff, ↓reduceIte, reduceCtorEq, put_box_ne jr, put_box_ne kr, put_box_ne mr, hb2, hm2, hk2]
        exact ⟨_, _, Wk.refl _, (L2.put.put).weak, ⟨weak_put (weak_put W2 hrl) m1, L2.put.put, J.le, .inr (.inr ⟨w1, ⟨mb, _, _, jm, by rw [put_box_ne jm, put_box_ne jr]; exact hb2, put_box_same, hdel q3⟩⟩)⟩, (if_pos w1).symm⟩
    · exact absurd ((full_perm hSd hSn hSn').mem_iff.2 (List.mem_range.2 hj)) hjS
end
end
section
open Go

section
variable {base st : St} {jb n step : Nat} {d : DG} {S : List Nat} {tk tk1 tk2 : Tk}
theorem ipB_len (d : DG) : (ipB d).length = 20 + d.O.length + d.D.length := by simp only [ipB, List.length_append, ipPre_len]
/-- A datagram that is whole. -/
theorem jPutW_v (hd : d.Ok) (hf : ipFits d) (hfr : d.frag = 0 ∨ d.frag = 16384) (hD : d.D.length ≤ 500) : VCalls Try.prog 65 [ptrV jb, .sc (.int .i64 0), .sl tk (bs (ipB d))] st fun v s => v = .tup [.sl .no (bs (ipB d)), .sc (.bool true)] ∧ st = s := by
  refine vcalls_enter vc65 (Nat.le_of_ble_eq_true rfl) fun hwf hok => ?_
  show Run _ Vc65.body (.fin (finQ Vc65.res _)) _ _
  unfold Vc65
  obtain ⟨b1, b2⟩ := ip_back hd hf []
  rw [List.append_nil] at b1 b2
  have hO := hf.1
  have hl := ipB_len d
  simp (config := {maxSteps := 3000000}) only [go_sem, Nat.reduceEqDiff, Int.reduceNeg, ↓reduceIte]
  refine Cal.mk (ip4Parse_v (ipB_isB hd hf) (by omega)) ?_
  rintro _ _ ⟨⟨tk1, tk2, rfl⟩, rfl⟩ -
  rw [b1, b2]
  have g1 : decide (ibit .and .u16 d.frag 16383 = 0) = true := by rcases hfr with e | e <;> rw [e] <;> decide
  have cb := fun s : St => ipBuild_v (st := s) (tk := tk1) (tk' := tk2) d hd (by omega) (by omega)
  rw [if_pos hf] at cb
  simp only [DG.v] at cb ⊢
  simp (config := {maxSteps := 3000000}) only [go_sem, Nat.reduceEqDiff, Nat.reduceAdd, Nat.reduceLT, Nat.reduceLeDiff, Int.reduceNeg, ↓reduceIte]
  intro v hv
  simp (config := {maxSteps := 3000000}) only [go_sem, Nat.reduceEqDiff, Nat.reduceAdd, Nat.reduceLeDiff, Int.reduceNeg, ↓reduceIte, g1]
  refine Cal.mk (cb _) ?_
  rintro _ _ ⟨rfl, rfl⟩ -
  simp (config := {maxSteps := 3000000}) only [go_sem, Nat.reduceEqDiff, Int.reduceNeg, ↓reduceIte]
  exact ⟨_, _, Wk.refl _, weak_put hwf.weak hv, rfl, rfl⟩
theorem jLen_v (h : JnE st jb) : VCalls Try.prog 67 [ptrV jb] st fun v s => v = .sc (.int .i64 0) ∧ st = s := by
  refine vcalls_enter vc67 (Nat.le_of_ble_eq_true rfl) fun hwf hok => ?_
  show Run _ Vc67.body (.fin (finQ Vc67.res _)) _ _
  unfold Vc67
  obtain ⟨mb, es, c, h1, h2, h3, h4⟩ := h.ex
  simp (config := {maxSteps := 3000000}) only [go_sem, ↓reduceIte, reduceCtorEq, h2, h3, h4.len]
  exact ⟨_, _, Wk.refl _, hwf.weak, rfl, rfl⟩
theorem jLen0_v (h : st.box jb = some [.sc (.map none), .sc (.int .i64 0)]) : VCalls Try.prog 67 [ptrV jb] st fun v s => v = .sc (.int .i64 0) ∧ st = s := by
  refine vcalls_enter vc67 (Nat.le_of_ble_eq_true rfl) fun hwf hok => ?_
  show Run _ Vc67.body (.fin (finQ Vc67.res _)) _ _
  unfold Vc67
  simp (config := {maxSteps := 3000000}) only [go_sem, ↓reduceIte, reduceCtorEq, h]
  exact ⟨_, _, Wk.refl _, hwf.weak, rfl, rfl⟩
theorem frag_cases (hd : d.Ok) (hf : ipFits d) (hfr : d.frag = 0 ∨ d.frag = 16384) (hD : d.D.length ≤ 500) (most : Int) :
    (fragE (ipB d) most ≠ 0 ∧ fragR (ipB d) most = []) ∨ (fragE (ipB d) most = 0 ∧ fragR (ipB d) most = [ipB d]) ∨
    (fragE (ipB d) most = 0 ∧ ∃ step n, CutD d step n ∧ fragR (ipB d) most = piecesTo d step n ∧ 20 + (d.O.length : Int) + step ≤ most) := by
  obtain ⟨b1, b2⟩ := ip_back hd hf []
  rw [List.append_nil] at b1 b2
  have hO := hf.1
  have hO4 := hf.2.1
  unfold fragE fragR
  rw [b1, b2]
  have k1 : ¬ ((0 : Int) ≠ 0 ∨ d.frag % 16384 ≠ 0) := by omega
  rw [if_neg k1, if_neg k1]
  by_cases c1 : 20 + (d.O.length : Int) + d.D.length ≤ most
  · rw [if_pos c1, if_pos c1]
    exact .inr (.inl ⟨rfl, by rw [List.take_of_length_le (Nat.le_of_eq (ipB_len d))]⟩)
  rw [if_neg c1, if_neg c1]
  by_cases c2 : 16384 ≤ d.frag % 32768
  · rw [if_pos c2, if_pos c2]; exact .inl ⟨by decide, rfl⟩
  rw [if_neg c2, if_neg c2]
  by_cases c3 : most < 28 + (d.O.length : Int)
  · rw [if_pos c3, if_pos c3]; exact .inl ⟨by decide, rfl⟩
  rw [if_neg c3, if_neg c3]
  refine .inr (.inr ⟨rfl, stepOf d most, nPieces d (stepOf d most), ⟨?_, ?_, ?_, rfl, hD, by omega, ⟨hd, hO, hO4, by omega⟩⟩, rfl, ?_⟩)
  all_goals unfold stepOf; omega
/-- How the calls of Put go. -/
structure Plan (st : St) (jb : Nat) (d : DG) (most : Int) (n : Nat) (f : Nat → List Int) (L : List Nat) : Prop where
  len : L.length = n
  one : 1 ≤ n
  top : n ≤ 500
  le : 1 < n → ∀ j ∈ L, ((f j).length : Int) ≤ most
  K : ∀ σ : List Nat, σ.Perm L → ∃ K : Nat → St → Prop, (∀ s : St, st.weak s → s.Lt → s.box jb = some [.sc (.map none), .sc (.int .i64 0)] → K 0 s) ∧ (∀ i s, K i s → st.weak s ∧ s.Lt) ∧
    (∀ i j s, σ[i]? = some j → K i s → VCalls Try.prog 65 [ptrV jb, .sc (.int .i64 0), .sl .no (bs (f j))] s fun v s' => K (i + 1) s' ∧ v = (if i + 1 = n then .tup [.sl .no (bs (ipB d)), .sc (.bool true)] else .tup [.sl .nil [], .sc (.bool false)])) ∧
    (∀ s, K n s → VCalls Try.prog 67 [ptrV jb] s fun v s' => v = .sc (.int .i64 0) ∧ s = s')
theorem plan1 (hd : d.Ok) (hf : ipFits d) (hfr : d.frag = 0 ∨ d.frag = 16384) (hD : d.D.length ≤ 500) (most : Int) : Plan st jb d most 1 (fun _ => ipB d) [0] :=
  ⟨rfl, Nat.le_refl _, by omega, fun h => absurd h (by decide), fun σ hσ => by
    have hσ : σ = [0] := List.perm_singleton.1 hσ
    subst hσ
    refine ⟨fun i s => st.weak s ∧ s.Lt ∧ s.box jb = some [.sc (.map none), .sc (.int .i64 0)], fun s a b c => ⟨a, b, c⟩, fun i s h => ⟨h.1, h.2.1⟩, fun i j s hi h => ?_, fun s h => jLen0_v h.2.2⟩
    have hi0 : i = 0 := by
      have := (List.getElem?_eq_some_iff.1 hi).1
      simp at this; exact this
    subst hi0
    exact (jPutW_v hd hf hfr hD).mono fun v s' h2 => ⟨h2.2 ▸ h, h2.1⟩⟩
theorem planN (h : CutD d step n) (hd : d.Ok) (hf : ipFits d) (hjb : st.sz ≤ jb) {most : Int} (hm : 20 + (d.O.length : Int) + step ≤ most) : Plan st jb d most n (fun j => ipB (pieceD d step (j * step))) (List.range n) :=
  ⟨by simp, by have := h.two; omega, h.n63, fun _ j hj => by
    rw [ipB_len]
    have : (pieceD d step (j * step)).O = d.O := rfl
    have h2 : (pieceD d step (j * step)).D.length ≤ step := by simp only [pieceD, List.length_take]; omega
    rw [this]; omega, fun σ hσ => by
    have hln : σ.length = n := by simpa using hσ.length_eq
    have hnd : σ.Nodup := hσ.nodup_iff.2 List.nodup_range
    have hmem : ∀ x ∈ σ, x < n := fun x hx => List.mem_range.1 (hσ.mem_iff.1 hx)
    refine ⟨fun i s => Jn st s jb d step n (σ.take i), fun s a b c => ⟨a, b, hjb, .inl ⟨rfl, c⟩⟩, fun i s h => ⟨h.weak, h.lt⟩, fun i j s hi J => ?_, fun s J => ?_⟩
    · have hil := (List.getElem?_eq_some_iff.1 hi).1
      have htk : σ.take (i + 1) = σ.take i ++ [j] := by rw [List.take_add_one, hi]; rfl
      have hnd2 : (σ.take i ++ [j]).Nodup := htk ▸ hnd.sublist (List.take_sublist _ _)
      have hji : j ∉ σ.take i := fun hx => (List.nodup_append.1 hnd2).2.2 j hx j (by simp) rfl
      refine (jPut_v h hd hf (hmem j (List.mem_of_getElem? hi)) hji (hnd.sublist (List.take_sublist _ _)) (fun x hx => hmem x (List.mem_of_mem_take hx)) J).mono fun v s' q => ⟨by show Jn st s' jb d step n (σ.take (i + 1)); rw [htk]; exact q.1, ?_⟩
      have hl2 : (σ.take i ++ [j]).length = i + 1 := by simp only [List.length_append, List.length_take, List.length_singleton]; omega
      have := q.2
      rw [hl2] at this
      exact this
    · have hs := J.st
      rw [List.take_of_length_le (by omega)] at hs
      have := h.two
      rcases hs with ⟨e, _⟩ | ⟨_, e, _⟩ | ⟨_, e⟩
      · rw [e] at hln; simp at hln; omega
      · omega
      · exact jLen_v e⟩
set_option maxRecDepth 100000 in
set_option maxHeartbeats 16000000 in
theorem fragBack_v (hd : d.Ok) {most : Int} {ts : List Int} : VCalls Try.prog 10 [d.v tk1 tk2, .sc (.int .i64 most), .sl tk (ints ts)] st fun r _ => r = .sc (.bool true) := by
  refine vcalls_enter vc10 (Nat.le_of_ble_eq_true rfl) fun hwf hok => ?_
  show Run _ Vc10.body (.fin (finQ Vc10.res _)) _ _
  unfold Vc10
  have g0 : ∀ s : St, st.weak s → ∃ (r' : V) (st'' : St), Wk (V.sc (.bool true)) r' ∧ st''.weak s ∧ r' = V.sc (.bool true) := fun s hw => ⟨_, st, Wk.refl _, hw, rfl⟩
  have hlt := hwf.lt
  have rb := fun s : St => refBuild13_v (st := s) (tk := tk1) (tk' := tk2) d hd
  simp only [DG.v] at rb ⊢
  obtain ⟨m4, hm4⟩ : ∃ m, m = (d.O.length : Int) % 4 := ⟨_, rfl⟩
  simp (config := {maxSteps := 3000000}) only [go_sem, Nat.reduceEqDiff, Nat.reduceAdd, ↓reduceIte, reduceCtorEq]
  intro p hp
  by_cases c1 : 500 < (d.D.length : Int)
  · simp (config := {maxSteps := 3000000}) only [go_sem, Nat.reduceEqDiff, ↓reduceIte, bs_len, decide_eq_true c1]
    exact g0 _ (weak_put hwf.weak hp)
  by_cases c2 : 40 < (d.O.length : Int)
  · simp (config := {maxSteps := 3000000}) only [go_sem, Nat.reduceEqDiff, ↓reduceIte, bs_len, decide_eq_false c1, decide_eq_true c2]
    exact g0 _ (weak_put hwf.weak hp)
  by_cases c3 : ¬ m4 = 0
  · simp (config := {maxSteps := 3000000}) only [go_sem, Nat.reduceEqDiff, Int.reduceLT, ↓reduceIte, bs_len, decide_eq_false c1, decide_eq_false c2, ← hm4, decide_eq_true c3]
    exact ⟨by omega, g0 _ (weak_put hwf.weak hp)⟩
  by_cases c4 : d.frag = 0 ∨ d.frag = 16384
  rotate_left
  · have k1 : decide (¬ d.frag = 0) = true := decide_eq_true (fun e => c4 (.inl e))
    have k2 : decide (¬ d.frag = 16384) = true := decide_eq_true (fun e => c4 (.inr e))
    simp (config := {maxSteps := 3000000}) only [go_sem, Nat.reduceEqDiff, Int.reduceLT, ↓reduceIte, bs_len, decide_eq_false c1, decide_eq_false c2, ← hm4, decide_eq_false c3, k1, k2]
    exact ⟨by omega, g0 _ (weak_put hwf.weak hp)⟩
  by_cases c5 : 200 < (ts.length : Int)
  · have k2 : decide (¬ d.frag = 0) = true → decide (¬ d.frag = 16384) = false := fun e => decide_eq_false (fun k => (of_decide_eq_true e) (c4.resolve_right k))
    generalize hx0 : decide (¬ d.frag = 0) = x at k2
    cases x
    · simp (config := {maxSteps := 3000000}) only [go_sem, Nat.reduceEqDiff, Int.reduceLT, ↓reduceIte, bs_len, decide_eq_false c1, decide_eq_false c2, ← hm4, decide_eq_false c3, hx0, ints_len, decide_eq_true c5]
      exact ⟨by omega, g0 _ (weak_put hwf.weak hp)⟩
    · have k3 := k2 rfl
      simp (config := {maxSteps := 3000000}) only [go_sem, Nat.reduceEqDiff, Int.reduceLT, ↓reduceIte, bs_len, decide_eq_false c1, decide_eq_false c2, ← hm4, decide_eq_false c3, hx0, k3, ints_len, decide_eq_true c5]
      exact ⟨by omega, g0 _ (weak_put hwf.weak hp)⟩
  have hf : ipFits d := ⟨by omega, by omega, by omega⟩
  have rb := fun s : St => rb s (by omega) (by omega)
  simp only [if_pos hf] at rb
  have hlen := ipB_len d
  have hcs := frag_cases hd hf c4 (by omega) most
  have hB := ipB_isB hd hf
  have cut := fun s : St => fragCut_v (tk := .no) (st := s) hB (by omega) most
  have k2 : decide (¬ d.frag = 0) = true → decide (¬ d.frag = 16384) = false := fun e => decide_eq_false (fun k => (of_decide_eq_true e) (c4.resolve_right k))
  have c4' := c4
  have hcs2 : (decide (¬ fragE (ipB d) most = 0) = true ∧ fragR (ipB d) most = []) ∨ ∃ n f L, decide (¬ fragE (ipB d) most = 0) = false ∧ rws (fragR (ipB d) most) = rwf f L ∧ ∀ jb, st.sz ≤ jb → Plan st jb d most n f L := by
    rcases hcs with ⟨e1, e2⟩ | ⟨e1, e2⟩ | ⟨e1, step, n, e2, e3, e4⟩
    · exact .inl ⟨decide_eq_true e1, e2⟩
    · exact .inr ⟨1, fun _ => ipB d, [0], decide_eq_false (fun k => k e1), by rw [e2]; rfl, fun jb _ => plan1 hd hf c4 (by omega) most⟩
    · exact .inr ⟨n, _, _, decide_eq_false (fun k => k e1), by rw [e3]; rfl, fun jb hj => planN e2 hd hf hj e4⟩
  clear hcs
  generalize fragE (ipB d) most = e at hcs2 cut
  generalize fragR (ipB d) most = R at hcs2 cut
  have nc0 : ((0 : Nat) : Int) = 0 := rfl
  have rz : rws [] = [] := rfl
  generalize hx0 : decide (¬ d.frag = 0) = x at k2
  cases x
  case' false => have k3 : decide (¬ d.frag = 16384) = decide (¬ d.frag = 16384) := rfl
  case' true => have k3 := k2 rfl
  all_goals
    simp (config := {maxSteps := 3000000}) only [go_sem, Nat.reduceEqDiff, Nat.reduceAdd, Nat.reduceLeDiff, Int.reduceLT, ↓reduceIte, bs_len, decide_eq_false c1, decide_eq_false c2, ← hm4, decide_eq_false c3, hx0, k3, ints_len, decide_eq_false c5]
    refine ⟨by omega, ?_⟩
    refine Cal.mk (rb _) ?_
    rintro _ _ ⟨rfl, rfl⟩ -
    simp (config := {maxSteps := 3000000}) only [go_sem, Nat.reduceEqDiff, ↓reduceIte]
    refine Cal.mk (cut _) ?_
    rintro _ _ ⟨rfl, rfl⟩ -
    have W1 := weak_put (cs := [.sc (.int .u8 d.tos), .sc (.int .u8 d.ttl), .sc (.int .u8 d.proto), .sc (.int .u16 d.id), .sc (.int .u16 d.frag), .sc (.int .u32 d.src), .sc (.int .u32 d.dst), .sl tk1 (bs d.O), .sl tk2 (bs d.D)]) hwf.weak hp
    have L1 := hlt.put (b := p) (cs := [.sc (.int .u8 d.tos), .sc (.int .u8 d.ttl), .sc (.int .u8 d.proto), .sc (.int .u16 d.id), .sc (.int .u16 d.frag), .sc (.int .u32 d.src), .sc (.int .u32 d.dst), .sl tk1 (bs d.O), .sl tk2 (bs d.D)])
    generalize st.put p [.sc (.int .u8 d.tos), .sc (.int .u8 d.ttl), .sc (.int .u8 d.proto), .sc (.int .u16 d.id), .sc (.int .u16 d.frag), .sc (.int .u32 d.src), .sc (.int .u32 d.dst), .sl tk1 (bs d.O), .sl tk2 (bs d.D)] = s1 at W1 L1 ⊢
    rcases hcs2 with ⟨e1, rfl⟩ | ⟨n, f, L, e1, e2, hpl⟩
    · simp (config := {maxSteps := 3000000}) only [go_sem, Nat.reduceEqDiff, ↓reduceIte, e1, rz, nc0]
      refine Cal.mk alive54_v ?_
      rintro _ _ ⟨rfl, rfl⟩ -
      simp (config := {maxSteps := 3000000}) only [go_sem, Nat.reduceEqDiff, ↓reduceIte]
      exact g0 _ W1
    · rw [e2]
      simp (config := {maxSteps := 3000000}) only [go_sem, Nat.reduceEqDiff, Nat.reduceAdd, ↓reduceIte, reduceCtorEq, e1]
      intro jb hjb
      have hj0 : st.sz ≤ jb := by have := W1.sz; omega
      have pl := hpl jb hj0
      have hn1 := pl.one
      have hn5 := pl.top
      have hLn := pl.len
      refine Cal.mk (order54_v (f := f) (L := L) (by omega) (by omega)) ?_
      rintro _ _ ⟨⟨σ, hσ, rfl⟩, rfl⟩ -
      have hsl : σ.length = n := by rw [hσ.length_eq, hLn]
      obtain ⟨K, q0, q1, q2, q3⟩ := pl.K σ hσ
      have W2 : st.weak (s1.put jb [.sc (.map none), .sc (.int .i64 0)]) := weak_put W1 hj0
      have L2 : (s1.put jb [.sc (.map none), .sc (.int .i64 0)]).Lt := L1.put
      have K0 := q0 _ W2 L2 put_box_same
      generalize s1.put jb [.sc (.map none), .sc (.int .i64 0)] = s2 at K0 ⊢
      simp (config := {maxSteps := 3000000}) only [go_sem, ↓reduceIte]
      refine run_loop [6, 12, 13, 14, 68, 69, 70, 71, 72, 73, 74, 75, 76, 77, 78, 79, 80, 81, 82, 83, 84, 85, 86, 87, 88, 89, 90, 91, 92, 93, 94, 95, 96, 97, 98, 99, 100, 101, 102, 103, 104, 105, 106, 107, 108, 109, 110] (fun B s => ∃ i : Nat, i ≤ n ∧ B 12 = .sc (.int .i64 i) ∧ K i s) (fun B _ => n - vnat (B 12)) rfl ?_ ?_
      · exact ⟨0, by omega, rfl, K0⟩
      · rintro B s ⟨i, hi, h12, Ki⟩
        by_cases c6 : i < n
        · obtain ⟨j, hj⟩ := get_ex (show i < σ.length by omega)
          simp (config := {maxSteps := 3000000}) only [go_sem, Nat.reduceEqDiff, ↓reduceIte, Nat.reduceBEq, h12, rwf_len, hsl, rwf_get hj, decide_eq_true (show (i : Int) < (n : Int) by omega)]
          repeat (apply And.intro; focus (first | omega | (simp; done)))
          refine Cal.mk (q2 i j s hj Ki) ?_
          rintro _ s3 ⟨K3, rfl⟩ -
          have hle : 1 < n → decide (most < ((f j).length : Int)) = false := fun h1 => decide_eq_false (by have := pl.le h1 j (hσ.mem_iff.1 (List.mem_of_getElem? hj)); omega)
          have hT : (!(true == true)) = false := rfl
          have hF : (!(false == false)) = false := rfl
          by_cases c7 : i + 1 = n
          · simp (config := {maxSteps := 3000000}) only [go_sem, Nat.reduceEqDiff, Int.reduceNeg, ↓reduceIte, Nat.reduceBEq, if_pos c7, h12, rwf_len, hsl, hT, decide_eq_true (show (i : Int) = (n : Int) - 1 by omega)]
            repeat (apply And.intro; focus (first | omega | (simp; done)))
            refine Cal.mk eqB_v ?_
            rintro _ _ ⟨rfl, rfl⟩ -
            by_cases c8 : 1 < n
            · simp (config := {maxSteps := 3000000}) only [go_sem, Nat.reduceEqDiff, Int.reduceNeg, ↓reduceIte, Nat.reduceBEq, h12, rwf_len, hsl, rwf_get hj, bs_len, decide_eq_true (show (1 : Int) < (n : Int) by omega), hle c8]
              repeat (apply And.intro; focus (first | omega | (simp; done)))
              exact ⟨⟨i + 1, by omega, by simp, K3⟩, by omega⟩
            · simp (config := {maxSteps := 3000000}) only [go_sem, Nat.reduceEqDiff, Int.reduceNeg, ↓reduceIte, Nat.reduceBEq, h12, rwf_len, hsl, decide_eq_false (show ¬ (1 : Int) < (n : Int) by omega)]
              repeat (apply And.intro; focus (first | omega | (simp; done)))
              exact ⟨⟨i + 1, by omega, by simp, K3⟩, by omega⟩
          · rw [if_neg c7]
            by_cases c8 : 1 < n
            · simp (config := {maxSteps := 3000000}) only [go_sem, Nat.reduceEqDiff, Int.reduceNeg, ↓reduceIte, Nat.reduceBEq, h12, rwf_len, hsl, rwf_get hj, bs_len, hF, decide_eq_false (show ¬ (i : Int) = (n : Int) - 1 by omega), decide_eq_true (show (1 : Int) < (n : Int) by omega), hle c8]
              repeat (apply And.intro; focus (first | omega | (simp; done)))
              exact ⟨⟨i + 1, by omega, by simp, K3⟩, by omega⟩
            · omega
        · obtain rfl : i = n := by omega
          simp (config := {maxSteps := 3000000}) only [go_sem, Nat.reduceEqDiff, ↓reduceIte, Nat.reduceBEq, h12, rwf_len, hsl, decide_eq_true (show (0 : Int) < (i : Int) by omega)]
          refine Cal.mk (q3 s Ki) ?_
          rintro _ _ ⟨rfl, rfl⟩ -
          simp (config := {maxSteps := 3000000}) only [go_sem, Nat.reduceEqDiff, ↓reduceIte]
          refine Cal.mk alive54_v ?_
          rintro _ _ ⟨rfl, rfl⟩ -
          simp (config := {maxSteps := 3000000}) only [go_sem, Nat.reduceEqDiff, ↓reduceIte]
          exact g0 _ (q1 _ _ Ki).1
end
end
section
open Go Go.RowKit

/-- The call hands back v, and nothing that was there has turned. -/
def Pure (w : World) (v : Value) (e : Ending) (w' : World) : Prop := e = .returned v ∧ Below w.heap.size w w'

theorem ret_int {k : IntKind} {a b : Int} (h : a = b) : Ending.returned (.int k a) = .returned (.int k b) := by rw [h]
theorem ret_bool {a b : Bool} (h : a = b) : Ending.returned (.bool a) = .returned (.bool b) := by rw [h]
theorem bcell {W w1 : World} (hb : Below W.heap.size W w1) : (∀ b o, b < W.heap.size → w1.cell? ⟨b, o, none⟩ = W.cell? ⟨b, o, none⟩) ∧ (∀ b o, b < W.heap.size → w1.frozen? ⟨b, o, none⟩ = W.frozen? ⟨b, o, none⟩) :=
  ⟨fun b o h => hb.cell (p := ⟨b, o, none⟩) h, fun b o h => hb.frozen (p := ⟨b, o, none⟩) h⟩
theorem lt_of_cell {w : World} {a : Addr} {v : Value} (h : w.cell? a = some v) : a.block < w.heap.size := by
  rcases Nat.lt_or_ge a.block w.heap.size with hlt | hge
  · exact hlt
  · simp [World.cell?, Array.getElem?_eq_none hge] at h
theorem keep_cell {w w1 : World} {a : Addr} {v : Value} (h : w.cell? a = some v) (hb : Below w.heap.size w w1) : w1.cell? a = some v := (hb.cell (lt_of_cell h)).trans h
theorem below_on {a w w1 : World} (h : Below a.heap.size a w) (h1 : Below w.heap.size w w1) : Below a.heap.size a w1 := h.trans (h1.mono h.size)
theorem below_new {w w1 : World} {o : Obj} (h1 : Below (w.alloc o).heap.size (w.alloc o) w1) : Below w.heap.size w w1 := below_on ((Below.refl _ _).alloc (Nat.le_refl _) _) h1

/-! ### A region that draws its order, whose operations read and whose callees at most make new memory: one walk, in the order of the text -/

structure More where
  blocks : List Obj
  count : Nat
instance : Nonempty More := ⟨⟨[], 0⟩⟩

/-- The world w with new blocks behind, at another count of draws. -/
def ext (w : World) (e : More) : World := { w with heap := w.heap ++ e.blocks.toArray, drawn := e.count }
theorem below_ext (w : World) (e : More) : Below w.heap.size w (ext w e) :=
  ⟨rfl, rfl, rfl, by simp [ext], fun k hk => by simp [ext, Array.getElem?_append, hk]⟩
theorem ext_of_below {w w' : World} (h : Below w.heap.size w w') : ∃ e, w' = ext w e := by
  refine ⟨⟨(w'.heap.toList.drop w.heap.size), w'.drawn⟩, ?_⟩
  obtain ⟨h1, h2, h3, h4, h5⟩ := h
  cases w with | mk hp tp dr os out =>
  cases w' with | mk hp' tp' dr' os' out' =>
  simp only at h1 h2 h3 h4 h5
  subst h1 h2 h3
  simp only [ext, World.mk.injEq, and_true]
  apply Array.ext_getElem?
  intro i
  rw [Array.getElem?_append]
  split
  · rename_i hi; exact h5 i hi
  · rename_i hi
    simp only [List.getElem?_toArray, List.getElem?_drop, Array.getElem?_toList]
    congr 1
    omega
theorem calm_of {P : Program} {f : FuncId} {args : Array Value} {w : World} {e : More} {v : Value} (h : Calls P f args (ext w e) (Pure (ext w e) v)) :
    Calls P f args (ext w e) fun en w'' => en = .returned v ∧ ∃ e2, w'' = ext w e2 :=
  h.mono fun _ _ ⟨he, hb⟩ => ⟨he, ext_of_below (below_on (below_ext w e) hb)⟩
theorem calm_same {P : Program} {f : FuncId} {args : Array Value} {w : World} {e : More} {v : Value} (h : Calls P f args (ext w e) fun en w' => en = .returned v ∧ ext w e = w') :
    Calls P f args (ext w e) fun en w'' => en = .returned v ∧ ∃ e2, w'' = ext w e2 :=
  h.mono fun _ _ ⟨he, hb⟩ => ⟨he, e, hb.symm⟩

/-- The cells of a list are there. -/
def Holds (w : World) (L : List (Addr × Value)) : Prop := ∀ p ∈ L, w.cell? p.1 = some p.2
theorem Holds.keep {w w1 : World} {L : List (Addr × Value)} (h : Holds w L) (hb : Below w.heap.size w w1) : Holds w1 L := fun p hp => keep_cell (h p hp) hb
theorem Holds.cons {w : World} {a : Addr} {v : Value} {L : List (Addr × Value)} : Holds w ((a, v) :: L) ↔ w.cell? a = some v ∧ Holds w L := by
  simp [Holds]
theorem Holds.nil {w : World} : Holds w [] ↔ True := by simp [Holds]

theorem Holds.append {w : World} {L M : List (Addr × Value)} (h : Holds w L) (h' : Holds w M) : Holds w (L ++ M) := by
  intro p hp
  rcases List.mem_append.1 hp with hp | hp
  · exact h p hp
  · exact h' p hp

/-- The cells cs, one behind the other, from place o of block b on. -/
def elemL (b o : Nat) : List Value → List (Addr × Value)
  | [] => []
  | v :: cs => (⟨b, o, none⟩, v) :: elemL b (o + 1) cs
theorem elemL_holds {w : World} {b : Nat} : ∀ (cs : List Value) (o : Nat), (∀ j v, cs[j]? = some v → w.cell? ⟨b, o + j, none⟩ = some v) → Holds w (elemL b o cs)
  | [], _, _ => by simp [elemL, Holds]
  | v :: cs, o, h => by
    rw [elemL, Holds.cons]
    refine ⟨by simpa using h 0 v rfl, elemL_holds cs (o + 1) fun j u hu => ?_⟩
    rw [show o + 1 + j = o + (j + 1) from by omega]
    exact h (j + 1) u (by simpa using hu)
/-- A new block holds what it was made of. -/
theorem elemL_new (w : World) (cs : Array Value) (t : TypeId) : Holds (w.alloc (.cells cs t)) (elemL w.heap.size 0 cs.toList) :=
  elemL_holds _ _ fun j v hv => by
    simp only [World.cell?, World.alloc, Nat.zero_add, Array.getElem?_push_size]
    simpa using hv

/-- A slice whose elements (each of 'size' cells) are these. -/
def Elems (w : World) (A : Option Addr) (size : Nat) (xs : List (List Value)) : Prop :=
  ∀ i cs, xs[i]? = some cs → ∃ b o, A = some ⟨b, o, none⟩ ∧ Holds w (elemL b (o + i * size) cs)
theorem Elems.keep {w w1 : World} {A : Option Addr} {size : Nat} {xs : List (List Value)} (h : Elems w A size xs) (hb : Below w.heap.size w w1) : Elems w1 A size xs := fun i cs hi => by
  obtain ⟨b, o, hA, hh⟩ := h i cs hi
  exact ⟨b, o, hA, hh.keep hb⟩

/-- The place of the first that is so; below 0: there is none. -/
def firstI {α : Type} (h : α → Bool) (l : List α) : Int := match l.findIdx? h with | some i => (i : Int) | none => -1
theorem firstI_at {α : Type} {h : α → Bool} {l : List α} {k : Nat} (hk : k < l.length) (hf : ∀ j, j < k → ∀ x, l[j]? = some x → h x = false) (ht : h l[k] = true) : firstI h l = k := by
  have : l.findIdx? h = some k := by
    rw [List.findIdx?_eq_some_iff_getElem]
    refine ⟨hk, ht, fun j hj => ?_⟩
    have := hf j hj l[j] (List.getElem?_eq_getElem (by omega))
    simp [this]
  rw [firstI, this]
theorem firstI_none {α : Type} {h : α → Bool} {l : List α} (hf : ∀ (j : Nat) (x : α), l[j]? = some x → h x = false) : firstI h l = -1 := by
  have : l.findIdx? h = none := by
    rw [List.findIdx?_eq_none_iff]
    intro x hx
    obtain ⟨j, hj, rfl⟩ := List.mem_iff_getElem.1 hx
    exact hf j _ (List.getElem?_eq_getElem hj)
  rw [firstI, this]
theorem firstI_cases {α : Type} (h : α → Bool) (l : List α) : firstI h l = -1 ∨ ∃ k : Nat, ∃ hk : k < l.length, firstI h l = k ∧ h l[k] = true := by
  unfold firstI
  cases e : l.findIdx? h with
  | none => exact .inl rfl
  | some i =>
    rw [List.findIdx?_eq_some_iff_getElem] at e
    obtain ⟨hi, ht, _⟩ := e
    exact .inr ⟨i, hi, rfl, ht⟩

theorem wp_region_calm {P : Program} {id : Nat} {Q : Exit → Act → World → Prop} {a : Act} {w : World} {l : List Oper} (L : List (Addr × Value)) (hS : Holds w L) (hm : P.follows .mixedOrders = true) (hB : Region.lexB .any l.toArray = true)
    (h : (∀ e, Holds (ext w e) L) → wpQuiet P l.toArray (fun w' => ∃ e, w' = ext w e) (fun a' => ∀ w', Below w.heap.size w w' → Holds w' L → Q .normal a' w') l a) : (Code.region id l.toArray true).wp P Q a w := by
  refine wp_region_quiet (C := fun w' => ∃ e, w' = ext w e) hm hB ⟨⟨[], w.drawn + 1⟩, by simp [ext]⟩ ?_
  have h1 := h fun e => hS.keep (below_ext w e)
  have h2 : ∀ (l : List Oper) (ops : Array Oper) (Q1 Q2 : Act → Prop) (a : Act), (∀ a, Q1 a → Q2 a) → wpQuiet P ops (fun w' => ∃ e, w' = ext w e) Q1 l a → wpQuiet P ops (fun w' => ∃ e, w' = ext w e) Q2 l a := by
    intro l
    induction l with
    | nil => intro _ _ _ a hq h; exact hq _ h
    | cons o l ih =>
      intro ops Q1 Q2 a hq h
      simp only [wpQuiet] at h ⊢
      split at h
      · rename_i hw; rw [if_pos hw]; exact Oper.quiet_mono (fun a ha => ih ops Q1 Q2 a hq ha) h
      · rename_i hw; rw [if_neg hw]; exact ih ops Q1 Q2 _ hq h
  have h3 := h2 l l.toArray _ (fun a' => ∀ w', (∃ e, w' = ext w e) → Q .normal a' w') a (fun a ha w' ⟨e, he⟩ => by subst he; exact ha _ (below_ext w e) (hS.keep (below_ext w e))) h1
  simpa using h3
end
section
open Go Go.RowKit Go.ChangeShapes Go.WideShapes Go.Deep

section
variable {H : Type} {enc : TypeId × Value → H} {P : Program} {w : World} {base : Nat} {spare : Nat → Bool} {held : Bool} {fuel : Nat} {t : TypeId} {cs : List Value} {x : DataW H × List MemPlace}

theorem trod_len {fs : Array Field} (ht : P.underlying t = some (.struct fs)) (h : DataW.trod enc P w base spare held fuel t cs = some x) : cs.length = P.cellsOf t := by
  obtain ⟨_, _, _, _, hl, _⟩ := DataW.trod_struct ht h
  exact hl
theorem trod_field {fs : Array Field} (ht : P.underlying t = some (.struct fs)) (h : DataW.trod enc P w base spare held fuel t cs = some x) (j : Nat) (f : Field) (hj : fs[j]? = some f) :
    ∃ n y, DataW.trod enc P w base spare held n f.type ((cs.drop f.offset).take (P.cellsOf f.type)) = some y := by
  obtain ⟨xs, n, _, _, _, hlen, hf⟩ := DataW.trod_struct ht h
  have h1 := hf j f hj
  have hjl : j < xs.length := by rw [hlen]; exact (Array.getElem?_eq_some_iff.1 hj).1
  exact ⟨n, xs[j], h1.trans (List.getElem?_eq_getElem hjl)⟩
theorem take_one {cs : List Value} {o : Nat} {v : Value} (h : (cs.drop o).take 1 = [v]) : cs[o]? = some v := by
  have : ((cs.drop o).take 1)[0]? = some v := by rw [h]; rfl
  simpa using this
theorem field_int {fs : Array Field} (ht : P.underlying t = some (.struct fs)) (h : DataW.trod enc P w base spare held fuel t cs = some x) (j : Nat) (f : Field) (hj : fs[j]? = some f) {k : IntKind} (hu : P.underlying f.type = some (.int k)) (hc : P.cellsOf f.type = 1) :
    ∃ n, cs[f.offset]? = some (.int k n) ∧ (Lit.int k n).wf = true := by
  obtain ⟨n, y, hy⟩ := trod_field ht h j f hj
  rw [hc] at hy
  obtain ⟨m, e, _, hw⟩ := DataW.trod_int hu hy
  exact ⟨m, take_one e, hw⟩
theorem field_bool {fs : Array Field} (ht : P.underlying t = some (.struct fs)) (h : DataW.trod enc P w base spare held fuel t cs = some x) (j : Nat) (f : Field) (hj : fs[j]? = some f) (hu : P.underlying f.type = some .bool) (hc : P.cellsOf f.type = 1) :
    ∃ b, cs[f.offset]? = some (.bool b) := by
  obtain ⟨n, y, hy⟩ := trod_field ht h j f hj
  rw [hc] at hy
  obtain ⟨m, e, _⟩ := DataW.trod_bool hu hy
  exact ⟨m, take_one e⟩
theorem field_one {fs : Array Field} (ht : P.underlying t = some (.struct fs)) (h : DataW.trod enc P w base spare held fuel t cs = some x) (j : Nat) (f : Field) (hj : fs[j]? = some f) (hc : P.cellsOf f.type = 1) {v : Value} (hv : cs[f.offset]? = some v) :
    ∃ n y, DataW.trod enc P w base spare held n f.type [v] = some y := by
  obtain ⟨n, y, hy⟩ := trod_field ht h j f hj
  rw [hc] at hy
  have : (cs.drop f.offset).take 1 = [v] := by
    obtain ⟨hlt, e⟩ := List.getElem?_eq_some_iff.1 hv
    rw [List.drop_eq_getElem_cons hlt, e]
    rfl
  rw [this] at hy
  exact ⟨n, y, hy⟩
theorem field_sub {fs : Array Field} (ht : P.underlying t = some (.struct fs)) (h : DataW.trod enc P w base spare held fuel t cs = some x) (j : Nat) (f : Field) (hj : fs[j]? = some f) {n : Nat} (hc : P.cellsOf f.type = n) :
    ∃ m y, DataW.trod enc P w base spare held m f.type ((cs.drop f.offset).take n) = some y := by
  subst hc
  exact trod_field ht h j f hj

/-- A struct that comes by value: its cells. -/
theorem open_struct {r : Reach} {b0 : Nat} {v : Value} {d : DataW H} {p : List MemPlace} {fs : Array Field} (ht : P.underlying t = some (.struct fs)) (hv : Value.okWide P w r b0 t v) (h : DataW.Trod enc P w base spare held t v d p) :
    ∃ (cs : List Value) (fuel : Nat), v = .agg cs.toArray ∧ DataW.trod enc P w base spare held fuel t cs = some (d, p) := by
  obtain ⟨cs, rfl, _⟩ := okWide_struct ht hv
  obtain ⟨fuel, hf⟩ := h
  exact ⟨cs.toList, fuel, rfl, hf⟩

theorem list_of {α : Type} {Q : Nat → α → Prop} : ∀ (n : Nat), (∀ i, i < n → ∃ r, Q i r) → ∃ l : List α, l.length = n ∧ ∀ (i : Nat) (r : α), l[i]? = some r → Q i r
  | 0, _ => ⟨[], rfl, by simp⟩
  | n + 1, h => by
    obtain ⟨l, hl, hq⟩ := list_of n (fun i hi => h i (by omega))
    obtain ⟨r, hr⟩ := h n (by omega)
    refine ⟨l ++ [r], by simp [hl], fun i r' hi => ?_⟩
    rw [List.getElem?_append] at hi
    split at hi
    · exact hq i r' hi
    · rename_i hge
      obtain rfl : i = n := by
        have := (List.getElem?_eq_some_iff.1 hi).1
        simp at this
        omega
      simp [hl] at hi
      subst hi
      exact hr

/-- A slice that comes in: nil, or a row of elements each of which reads. -/
theorem open_elems {e : TypeId} {size : Nat} {v : Value} (ht : P.underlying t = some (.slice e)) (hc : P.cellsOf e = size) (hs : 0 < size) (h : DataW.trod enc P w base spare held fuel t [v] = some x) :
    ∃ A len cap, v = .slice A len cap ∧ len ≤ cap ∧ cap ≤ maxLen ∧ (A = none → len = 0 ∧ cap = 0) ∧
      ∀ i, i < len → ∃ b o cs n y, A = some ⟨b, o, none⟩ ∧ cs.length = size ∧ Holds w (elemL b (o + i * size) cs) ∧ DataW.trod enc P w base spare held n e cs = some y := by
  rcases open_slice ht h with ⟨e1, _⟩ | ⟨a, len, cap, m, n, D, Pl, e1, hb, hl, hm, hmm, _, hi⟩
  · cases e1
    exact ⟨none, 0, 0, rfl, by omega, by omega, fun _ => ⟨rfl, rfl⟩, fun i hi => by omega⟩
  · cases e1
    refine ⟨some a, len, cap, rfl, hl, hm, (by intro h; cases h), fun i hil => ?_⟩
    obtain ⟨cs', hcs, ht'⟩ := hi i (by rw [hmm]; split <;> omega)
    rw [hc] at hcs
    obtain ⟨_, hlen, hcell⟩ := World.cells?_some hcs
    have h0 := hcell 0 hs
    have hlt0 : 0 < cs'.length := by omega
    rw [List.getElem?_eq_getElem hlt0] at h0
    have hspot := World.cell?_spot h0
    obtain ⟨b, o, sp⟩ := a
    have hsp : sp = none := by
      by_cases hz : i * size = 0
      · simpa [Addr.add, hz] using hspot
      · rcases Nat.eq_zero_or_pos i with h0' | h0'
        · simp [h0'] at hz
        · obtain ⟨cs0, hcs0, _⟩ := hi 0 (by rw [hmm]; split <;> omega)
          rw [hc] at hcs0
          obtain ⟨_, hlen0, hcell0⟩ := World.cells?_some hcs0
          have h00 := hcell0 0 hs
          rw [List.getElem?_eq_getElem (by omega)] at h00
          simpa [Addr.add] using World.cell?_spot h00
    subst hsp
    refine ⟨b, o, cs', n, _, rfl, hlen, elemL_holds _ _ fun j u hu => ?_, ht'⟩
    have hj : j < size := by have := (List.getElem?_eq_some_iff.1 hu).1; omega
    have := (hcell j hj).trans hu
    have ea : ((⟨b, o, none⟩ : Addr).add (i * size)).add j = ⟨b, o + i * size + j, none⟩ := by
      unfold Addr.add
      by_cases h1 : i * size = 0 <;> by_cases h2 : j = 0 <;> simp [h1, h2]
    rwa [ea] at this
end
/-- An argument as the statement hands it in: a value of its type, that reads as data. (A structure, so that nothing looks into it.) -/
structure ArgIn {H : Type} (enc : TypeId × Value → H) (P : Program) (W : World) (base : Nat) (t : TypeId) (v : Value) (d : DataW H) (p : List MemPlace) : Prop where
  wide : Value.okWide P W .any base t v
  trod : DataW.Trod enc P W 0 (fun _ => true) true t v d p
section
variable {H : Type} {enc : TypeId × Value → H} {P : Program} {W : World} {base : Nat} {t : TypeId} {v : Value} {d : DataW H} {p : List MemPlace}
theorem ArgIn.slice {e : TypeId} (h : ArgIn enc P W base t v d p) (ht : P.underlying t = some (.slice e)) :
    ∃ A l c fuel, v = .slice A l c ∧ DataW.trod enc P W 0 (fun _ => true) true fuel t [.slice A l c] = some (d, p) := by
  obtain ⟨A, l, c, rfl⟩ := okWide_slice ht h.wide
  obtain ⟨fuel, hf⟩ := h.trod
  exact ⟨A, l, c, fuel, rfl, hf⟩
theorem ArgIn.struct {fs : Array Field} (h : ArgIn enc P W base t v d p) (ht : P.underlying t = some (.struct fs)) :
    ∃ (cs : List Value) (fuel : Nat), v = .agg cs.toArray ∧ DataW.trod enc P W 0 (fun _ => true) true fuel t cs = some (d, p) :=
  open_struct ht h.wide h.trod
theorem ArgIn.int {k : IntKind} (h : ArgIn enc P W base t v d p) (ht : P.underlying t = some (.int k)) : ∃ n, v = .int k n ∧ (Lit.int k n).wf = true := by
  obtain ⟨n, rfl, _, _, hw⟩ := open_int ht h.wide h.trod
  exact ⟨n, rfl, hw⟩
theorem ArgIn.bool (h : ArgIn enc P W base t v d p) (ht : P.underlying t = some .bool) : ∃ b, v = .bool b := by
  obtain ⟨b, rfl, _⟩ := open_bool ht h.wide h.trod
  exact ⟨b, rfl⟩
theorem ArgIn.string (h : ArgIn enc P W base t v d p) (ht : P.underlying t = some .string) : ∃ s : ByteArray, v = .string s ∧ s.size ≤ maxLen := by
  obtain ⟨s, rfl, _, _, hs⟩ := Go.ChangeMaps.open_string ht h.wide h.trod
  exact ⟨s, rfl, hs⟩
end
/-- A contract at arguments that are these. -/
theorem calls_args {P : Program} {f : FuncId} {args args' : Array Value} {W : World} {R : Ending → World → Prop} (h : Calls P f args W R) (e : args' = args) : Calls P f args' W R := e ▸ h
end
section
open Go Go.RowKit Go.ChangeShapes Go.WideShapes Go.Deep

theorem elemL_get {w : World} {b : Nat} : ∀ {cs : List Value} {o : Nat} (_ : Holds w (elemL b o cs)) {j : Nat} {v : Value} (_ : cs[j]? = some v), w.cell? ⟨b, o + j, none⟩ = some v
  | [], _, _, _, _, h => by simp at h
  | c :: cs, o, hh, j, v, h => by
    rw [elemL, Holds.cons] at hh
    cases j with
    | zero => simp at h; subst h; exact hh.1
    | succ j => rw [show o + (j + 1) = o + 1 + j by omega]; exact elemL_get hh.2 (by simpa using h)
/-- What a type is made of. -/
inductive Sh where
  | int (k : IntKind)
  | bool
  | str
  | sl (s : Sh)
  | st (l : List Sh)
def shFields (P : Program) (g : TypeId → Option Sh) : Nat → List Field → Option (List Sh)
  | _, [] => some []
  | o, f :: fs => if f.offset = o then do
      let s ← g f.type
      let l ← shFields P g (o + P.cellsOf f.type) fs
      pure (s :: l)
    else none
def fieldsEnd (P : Program) : Nat → List Field → Nat
  | o, [] => o
  | o, f :: fs => fieldsEnd P (o + P.cellsOf f.type) fs
def shOf (P : Program) : Nat → TypeId → Option Sh
  | 0, _ => none
  | n + 1, t => match P.underlying t with
    | some (.int k) => if P.cellsOf t = 1 then some (.int k) else none
    | some .bool => if P.cellsOf t = 1 then some .bool else none
    | some .string => if P.cellsOf t = 1 then some .str else none
    | some (.slice e) => if P.cellsOf t = 1 ∧ 0 < P.cellsOf e then (shOf P n e).map .sl else none
    | some (.struct fs) => if fieldsEnd P 0 fs.toList = P.cellsOf t then (shFields P (shOf P n) 0 fs.toList).map .st else none
    | some (.array k e) => if k * P.cellsOf e = P.cellsOf t then (shOf P n e).map fun s => .st (List.replicate k s) else none
    | _ => none
/-- An element as one value. -/
def Sh.pack : Sh → List V → V
  | .st _, ds => .agg ds
  | _, d :: _ => d
  | _, [] => .und
mutual
/-- Such values are of the shape. -/
inductive Sh.Has : Sh → List V → Prop where
  | int (k : IntKind) (n : Int) (h : (Lit.int k n).wf = true) : Sh.Has (.int k) [.sc (.int k n)]
  | bool (b : Bool) : Sh.Has .bool [.sc (.bool b)]
  | str (s : ByteArray) (h : s.size ≤ maxLen) : Sh.Has .str [.sc (.string s)]
  | sl (s : Sh) (l : List V) (h : Sh.Hasl s l) : Sh.Has (.sl s) [.sl .no l]
  | st (l : List Sh) (ds : List V) (h : Sh.Hass l ds) : Sh.Has (.st l) ds
inductive Sh.Hasl : Sh → List V → Prop where
  | nil (s : Sh) : Sh.Hasl s []
  | cons (s : Sh) (ds l : List V) (h : Sh.Has s ds) (k : Sh.Hasl s l) : Sh.Hasl s (s.pack ds :: l)
inductive Sh.Hass : List Sh → List V → Prop where
  | nil : Sh.Hass [] []
  | cons (s : Sh) (l : List Sh) (a b : List V) (h : Sh.Has s a) (k : Sh.Hass l b) : Sh.Hass (s :: l) (a ++ b)
end
theorem hasl_of {s : Sh} : ∀ (l : List V), (∀ d, d ∈ l → ∃ ds, d = s.pack ds ∧ Sh.Has s ds) → Sh.Hasl s l
  | [], _ => .nil s
  | d :: l, h => by
    obtain ⟨ds, rfl, hd⟩ := h d (List.mem_cons_self ..)
    exact .cons s ds l hd (hasl_of l fun e he => h e (List.mem_cons_of_mem _ he))
/-- The ghost that knows all of a world's cells. -/
def ghOf (w : World) : Gh := ⟨fun b o => w.cell? ⟨b, o, none⟩, fun _ => none⟩
/-- Values stand for these cells. -/
def RepR (G : Gh) (ds : List V) (cs : List Value) : Prop := ds.length = cs.length ∧ (∀ v ∈ cs, v.oneCell' = true) ∧ (∀ (i : Nat) (d : V) (v : Value), ds[i]? = some d → cs[i]? = some v → Rep1 G d v) ∧ ∀ d ∈ ds, d.cells = [d]
theorem RepR.one {G : Gh} {d : V} {v : Value} (h : Rep1 G d v) (h1 : v.oneCell' = true) (h2 : d.cells = [d]) : RepR G [d] [v] :=
  ⟨rfl, by simpa using h1, fun i d' v' hd hv => by
    cases i with
    | zero => simp at hd hv; subst hd hv; exact h
    | succ i => simp at hd, by simpa using h2⟩
theorem RepR.append {G : Gh} {a b : List V} {c d : List Value} (h : RepR G a c) (k : RepR G b d) : RepR G (a ++ b) (c ++ d) :=
  ⟨by simp [h.1, k.1], fun v hv => by
    rcases List.mem_append.1 hv with h' | h'
    · exact h.2.1 v h'
    · exact k.2.1 v h', fun i x v hx hv => by
    rw [List.getElem?_append] at hx hv
    rw [← h.1] at hv
    split at hx
    · rename_i hlt
      rw [if_pos hlt] at hv
      exact h.2.2.1 i x v hx hv
    · rename_i hlt
      rw [if_neg hlt] at hv
      exact k.2.2.1 _ x v hx hv, fun x hx => by
    rcases List.mem_append.1 hx with h' | h'
    · exact h.2.2.2 x h'
    · exact k.2.2.2 x h'⟩
theorem pack_cells {s : Sh} {ds : List V} (h : s.Has ds) (hc : ∀ d ∈ ds, d.cells = [d]) : (s.pack ds).cells = ds := by
  cases h with
  | int => rfl
  | bool => rfl
  | str => rfl
  | sl => rfl
  | st => rfl

section
variable {H : Type} {enc : TypeId × Value → H} {P : Program} {w : World} {base : Nat} {spare : Nat → Bool} {held : Bool}
theorem open_sh : ∀ (n : Nat) {t : TypeId} {s : Sh} (_ : shOf P n t = some s) {fuel : Nat} {cs : List Value} {x : DataW H × List MemPlace} (_ : DataW.trod enc P w base spare held fuel t cs = some x),
    ∃ ds, s.Has ds ∧ RepR (ghOf w) ds cs ∧ cs.length = P.cellsOf t
  | 0, _, _, hs, _, _, _, _ => by simp [shOf] at hs
  | n + 1, t, s, hs, fuel, cs, x, h => by
    unfold shOf at hs
    split at hs
    · rename_i k hu
      split at hs
      · rename_i hc
        cases hs
        obtain ⟨m, rfl, _, hw⟩ := DataW.trod_int hu h
        exact ⟨_, .int k m hw, .one (.sc _ rfl) rfl rfl, by rw [hc]; rfl⟩
      · cases hs
    · rename_i hu
      split at hs
      · rename_i hc
        cases hs
        obtain ⟨m, rfl, _⟩ := DataW.trod_bool hu h
        exact ⟨_, .bool m, .one (.sc _ rfl) rfl rfl, by rw [hc]; rfl⟩
      · cases hs
    · rename_i hu
      split at hs
      · rename_i hc
        cases hs
        obtain ⟨m, rfl, _, hm⟩ := DataW.trod_string hu h
        exact ⟨_, .str m hm, .one (.sc _ rfl) rfl rfl, by rw [hc]; rfl⟩
      · cases hs
    · rename_i e hu
      split at hs
      · rename_i hc
        obtain ⟨s', hs', rfl⟩ := Option.map_eq_some_iff.1 hs
        have hlen1 : ∃ v, cs = [v] := by
          rcases DataW.trod_slice hu h with ⟨rfl, _⟩ | ⟨a, len, cap, _, _, _, _, rfl, _⟩
          · exact ⟨_, rfl⟩
          · exact ⟨_, rfl⟩
        obtain ⟨v, rfl⟩ := hlen1
        obtain ⟨A, len, cap, rfl, hle, hm, hA, hel⟩ := open_elems hu rfl hc.2 h
        obtain ⟨l, hl, hq⟩ := list_of (Q := fun i (p : V × List Value) => ∃ b o, A = some ⟨b, o, none⟩ ∧ p.2.length = P.cellsOf e ∧ Holds w (elemL b (o + i * P.cellsOf e) p.2) ∧ ∃ ds, p.1 = s'.pack ds ∧ s'.Has ds ∧ RepR (ghOf w) ds p.2) len (fun i hi => by
          obtain ⟨b, o, cs', n', y, hA', hlen, hh, ht⟩ := hel i hi
          obtain ⟨ds, k1, k2, k3⟩ := open_sh n hs' ht
          exact ⟨(s'.pack ds, cs'), b, o, hA', hlen, hh, ds, rfl, k1, k2⟩)
        refine ⟨[.sl .no (l.map (·.1))], .sl s' _ (hasl_of _ fun d hd => ?_), .one ?_ rfl rfl, by rw [hc.1]; rfl⟩
        · obtain ⟨p, hp, rfl⟩ := List.mem_map.1 hd
          obtain ⟨i, hi, rfl⟩ := List.mem_iff_getElem.1 hp
          obtain ⟨_, _, _, _, _, ds, k1, k2, _⟩ := hq i _ (List.getElem?_eq_getElem hi)
          exact ⟨ds, k1, k2⟩
        · cases A with
          | none =>
            obtain ⟨rfl, rfl⟩ := hA rfl
            obtain rfl := List.eq_nil_of_length_eq_zero hl
            exact .nil .no (fun g k e => by cases e)
          | some a =>
            by_cases h0 : len = 0
            · subst h0
              obtain rfl := List.eq_nil_of_length_eq_zero hl
              exact .emp a cap hm
            · obtain ⟨b, o, _, _, _, hA', _⟩ := hel 0 (by omega)
              cases hA'
              have hlm : len = (l.map (·.1)).length := by simp [hl]
              rw [hlm]
              refine .sl .no _ b o (P.cellsOf e) cap (fun i j => ((l[i]?.map (·.2)).getD []).getD j default) (fun i d hd => ?_) (fun i j hi hj => ?_) (fun i j hi hj => ?_) (fun i d j c hd hc' => ?_) (by simp; omega) hm (by simp) (fun g k e => by cases e)
              · rw [List.getElem?_map] at hd
                obtain ⟨p, hp, rfl⟩ := Option.map_eq_some_iff.1 hd
                obtain ⟨_, _, _, k1, _, ds, k2, k3, k4⟩ := hq i p hp
                rw [k2, pack_cells k3 k4.2.2.2, k4.1, k1]
              · obtain ⟨p, hp⟩ : ∃ p, l[i]? = some p := ⟨_, List.getElem?_eq_getElem (by simpa using hi)⟩
                obtain ⟨b', o', e', k1, k0, ds, k2, k3, k4⟩ := hq i p hp
                cases e'
                have hj' : j < p.2.length := by omega
                simp only [hp, Option.map_some, Option.getD_some, ghOf]
                have := elemL_get k0 (List.getElem?_eq_getElem hj')
                rw [this]
                simp [List.getD, hj']
              · obtain ⟨p, hp⟩ : ∃ p, l[i]? = some p := ⟨_, List.getElem?_eq_getElem (by simpa using hi)⟩
                obtain ⟨b', o', e', k1, k0, ds, k2, k3, k4⟩ := hq i p hp
                have hj' : j < p.2.length := by omega
                simp only [hp, Option.map_some, Option.getD_some]
                simp only [List.getD, List.getElem?_eq_getElem hj', Option.getD_some]
                exact k4.2.1 _ (List.getElem_mem hj')
              · rw [List.getElem?_map] at hd
                obtain ⟨p, hp, rfl⟩ := Option.map_eq_some_iff.1 hd
                obtain ⟨_, _, _, k1, _, ds, k2, k3, k4⟩ := hq i p hp
                rw [k2, pack_cells k3 k4.2.2.2] at hc'
                have hj' : j < p.2.length := by rw [← k4.1]; exact (List.getElem?_eq_some_iff.1 hc').1
                simp only [hp, Option.map_some, Option.getD_some]
                simp only [List.getD, List.getElem?_eq_getElem hj', Option.getD_some]
                exact k4.2.2.1 j c _ hc' (List.getElem?_eq_getElem hj')
      · cases hs
    · rename_i fs hu
      split at hs
      · rename_i hend
        obtain ⟨ss, hss, rfl⟩ := Option.map_eq_some_iff.1 hs
        have hl := trod_len hu h
        have key : ∀ (gs : List Field) (j0 o : Nat) (ss : List Sh), (∀ i f, gs[i]? = some f → fs[j0 + i]? = some f) → shFields P (shOf P n) o gs = some ss → fieldsEnd P o gs = cs.length →
            ∃ ds, Sh.Hass ss ds ∧ RepR (ghOf w) ds (cs.drop o) := by
          intro gs
          induction gs with
          | nil =>
            intro j0 o ss _ hss he
            simp only [shFields, Option.some.injEq] at hss
            subst hss
            simp only [fieldsEnd] at he
            exact ⟨[], .nil, by rw [List.drop_of_length_le (by omega)]; exact ⟨rfl, by simp, by simp, by simp⟩⟩
          | cons f gs ih =>
            intro j0 o ss hg hss he
            simp only [shFields] at hss
            split at hss
            · rename_i hof
              simp only [Option.bind_eq_bind, Option.bind_eq_some_iff] at hss
              obtain ⟨s0, h0, ss', h1, h2⟩ := hss
              cases h2
              simp only [fieldsEnd] at he
              obtain ⟨ds', k1, k2⟩ := ih (j0 + 1) _ ss' (fun i g hi => by rw [show j0 + 1 + i = j0 + (i + 1) by omega]; exact hg (i + 1) g (by simpa using hi)) h1 he
              obtain ⟨m, y, hy⟩ := trod_field hu h j0 f (by simpa using hg 0 f rfl)
              rw [hof] at hy
              obtain ⟨ds0, q1, q2, q3⟩ := open_sh n h0 hy
              refine ⟨ds0 ++ ds', .cons _ _ _ _ q1 k1, ?_⟩
              have := q2.append k2
              rwa [← List.drop_drop, List.take_append_drop] at this
            · cases hss
        obtain ⟨ds, k1, k2⟩ := key fs.toList 0 0 ss (fun i f hf => by simpa using hf) hss (by rw [hend, hl])
        exact ⟨ds, .st _ _ k1, by simpa using k2, hl⟩
      · cases hs
    · rename_i k e hu
      split at hs
      · rename_i hend
        obtain ⟨s', hs', rfl⟩ := Option.map_eq_some_iff.1 hs
        obtain ⟨xs, m, _, _, hl, hxl, hget⟩ := DataW.trod_array hu h
        have key : ∀ (j i : Nat), i + j = k → ∃ ds, Sh.Hass (List.replicate j s') ds ∧ RepR (ghOf w) ds (cs.drop (i * P.cellsOf e)) := by
          intro j
          induction j with
          | zero =>
            intro i hij
            refine ⟨[], .nil, ?_⟩
            have : i = k := by omega
            subst this
            rw [List.drop_of_length_le (by omega)]
            exact ⟨rfl, by simp, by simp, by simp⟩
          | succ j ih =>
            intro i hij
            obtain ⟨ds', k1, k2⟩ := ih (i + 1) (by omega)
            have hlt : i < xs.length := by omega
            have hy := hget i (by omega)
            rw [List.getElem?_eq_getElem hlt] at hy
            obtain ⟨ds0, q1, q2, q3⟩ := open_sh n hs' hy
            refine ⟨ds0 ++ ds', .cons _ _ _ _ q1 k1, ?_⟩
            have := q2.append k2
            rwa [Nat.add_mul, Nat.one_mul, ← List.drop_drop, List.take_append_drop] at this
        obtain ⟨ds, k1, k2⟩ := key k 0 (by omega)
        exact ⟨ds, .st _ _ k1, by simpa using k2, hl⟩
      · cases hs
    · cases hs
theorem RepR.agg {G : Gh} {ds : List V} {cs : List Value} (h : RepR G ds cs) : Rep1 G (.agg ds) (.agg cs.toArray) :=
  .agg ds _ (by simp [h.1]) (fun i v hv => h.2.1 v (List.mem_of_getElem? (by simpa using hv))) (fun i c v hc hv => h.2.2.1 i c v hc (by simpa using hv))
theorem RepR.head {G : Gh} {d : V} {v : Value} (h : RepR G [d] [v]) : Rep1 G d v := h.2.2.1 0 d v rfl rfl
/-- An argument, as the statement hands it in, as an abstract value. -/
theorem arg_sh {W : World} (n : Nat) {t : TypeId} {s : Sh} {v : Value} {d : DataW H} {p : List MemPlace} (hs : shOf P n t = some s) (h : ArgIn enc P W base t v d p) : ∃ ds, s.Has ds ∧ Rep1 (ghOf W) (s.pack ds) v := by
  cases n with
  | zero => simp [shOf] at hs
  | succ n =>
  have hs0 := hs
  unfold shOf at hs
  split at hs
  · rename_i k hu
    split at hs
    · cases hs
      obtain ⟨m, rfl, hw⟩ := h.int hu
      exact ⟨_, .int k m hw, .sc _ rfl⟩
    · cases hs
  · rename_i hu
    split at hs
    · cases hs
      obtain ⟨b, rfl⟩ := h.bool hu
      exact ⟨_, .bool b, .sc _ rfl⟩
    · cases hs
  · rename_i hu
    split at hs
    · cases hs
      obtain ⟨b, rfl, hm⟩ := h.string hu
      exact ⟨_, .str b hm, .sc _ rfl⟩
    · cases hs
  · rename_i e hu
    split at hs
    · obtain ⟨s', hs', rfl⟩ := Option.map_eq_some_iff.1 hs
      obtain ⟨A, l, c, fuel, rfl, ht⟩ := h.slice hu
      obtain ⟨ds, k1, k2, _⟩ := open_sh _ hs0 ht
      refine ⟨ds, k1, ?_⟩
      cases k1 with
      | sl _ l' h' => exact k2.head
    · cases hs
  · rename_i fs hu
    split at hs
    · obtain ⟨ss, hss, rfl⟩ := Option.map_eq_some_iff.1 hs
      obtain ⟨cs, fuel, rfl, ht⟩ := h.struct hu
      obtain ⟨ds, k1, k2, _⟩ := open_sh _ hs0 ht
      exact ⟨ds, k1, k2.agg⟩
    · cases hs
  · rename_i k e hu
    split at hs
    · obtain ⟨s', hs', rfl⟩ := Option.map_eq_some_iff.1 hs
      have hwd := h.wide
      simp only [Value.okWide, hu] at hwd
      obtain ⟨cs, rfl, _⟩ := hwd
      obtain ⟨fuel, ht⟩ := h.trod
      obtain ⟨ds, k1, k2, _⟩ := open_sh _ hs0 ht
      have ha := k2.agg
      rw [show (Value.agg cs).cells.toList.toArray = cs from by simp [Value.cells]] at ha
      exact ⟨ds, k1, ha⟩
    · cases hs
  · cases hs
end
/-- The state that a law begins in. -/
def st0 (w : World) : St := ⟨fun _ => none, fun _ => none, w.heap.size⟩
theorem repW0 (w : World) : RepW (Fr.of w) (ghOf w) (st0 w) w :=
  ⟨fun _ _ _ h => h, fun _ _ h => (by cases h), fun _ _ h => (by cases h), fun _ _ h => (by cases h), Nat.le_refl _, Below.refl _ _, fun _ _ h => (by cases h)⟩
/-- A law's contract as its call. -/
theorem v_calls {P : Program} {f : FuncId} {args : List V} {us : Array Value} {w : World} (h : VCalls P f args (st0 w) fun r _ => r = .sc (.bool true)) (hl : us.size = args.length)
    (hr : ∀ (i : Nat) (d : V) (u : Value), args[i]? = some d → us[i]? = some u → Rep1 (ghOf w) d u) : Calls P f us w (Pure w (.bool true)) :=
  (h (Fr.of w) (ghOf w) w us (repW0 w) hl hr).mono fun e w' ⟨u, r, st', G', h1, h2, h3, _, h5⟩ => by
    subst h2
    cases h3
    exact ⟨h1, h5.bel⟩
theorem reps1 {G : Gh} {d : V} {u : Value} (h : Rep1 G d u) : ∀ (i : Nat) (x : V) (v : Value), [d][i]? = some x → #[u][i]? = some v → Rep1 G x v := fun i x v hx hv => by
  cases i with
  | zero => simp at hx hv; subst hx hv; exact h
  | succ i => simp at hx
theorem reps2 {G : Gh} {d e : V} {u q : Value} (h : Rep1 G d u) (k : Rep1 G e q) : ∀ (i : Nat) (x : V) (v : Value), [d, e][i]? = some x → #[u, q][i]? = some v → Rep1 G x v := fun i x v hx hv => by
  match i with
  | 0 => simp at hx hv; subst hx hv; exact h
  | 1 => simp at hx hv; subst hx hv; exact k
  | i + 2 => simp at hx
theorem reps3 {G : Gh} {d e f : V} {u q r : Value} (h : Rep1 G d u) (k : Rep1 G e q) (l : Rep1 G f r) : ∀ (i : Nat) (x : V) (v : Value), [d, e, f][i]? = some x → #[u, q, r][i]? = some v → Rep1 G x v := fun i x v hx hv => by
  match i with
  | 0 => simp at hx hv; subst hx hv; exact h
  | 1 => simp at hx hv; subst hx hv; exact k
  | 2 => simp at hx hv; subst hx hv; exact l
  | i + 3 => simp at hx
end
section
open Go Go.RowKit

theorem own : ownKnob Try.prog.godebug = none := by kernel_rfl
theorem laidOut : laidOutB Try.prog = true := by kernel_rfl
theorem u8_wf {n : Int} (h : (Lit.int .u8 n).wf = true) : 0 ≤ n ∧ n < 256 := by have := bounds_u8 h; omega
theorem hasl_bytes : ∀ {l : List V}, Sh.Hasl (.int .u8) l → ∃ L, IsB L ∧ l = bs L := by
  intro l
  induction l with
  | nil => exact fun _ => ⟨[], by intro x hx; (cases hx), rfl⟩
  | cons d l ih =>
    intro h
    cases h with
    | cons _ ds _ h k =>
      obtain ⟨L, hB, rfl⟩ := ih k
      cases h with
      | int _ n hw => exact ⟨n :: L, by
          intro x hx
          rcases List.mem_cons.1 hx with rfl | hx
          · exact u8_wf hw
          · exact hB x hx, rfl⟩
theorem has_bytes {ds : List V} (h : Sh.Has (.sl (.int .u8)) ds) : ∃ L, IsB L ∧ ds = [.sl .no (bs L)] := by
  cases h with
  | sl _ l h =>
    obtain ⟨L, hB, rfl⟩ := hasl_bytes h
    exact ⟨L, hB, rfl⟩
end
section
open Go Go.RowKit

theorem hass_nil {ds : List V} (h : Sh.Hass [] ds) : ds = [] := by cases h; rfl
theorem hass_int {k : IntKind} {l : List Sh} {ds : List V} (h : Sh.Hass (.int k :: l) ds) : ∃ n b, ds = .sc (.int k n) :: b ∧ (Lit.int k n).wf = true ∧ Sh.Hass l b := by
  cases h with
  | cons _ _ a b h0 h1 =>
    cases h0 with
    | int _ n hw => exact ⟨n, b, rfl, hw, h1⟩
theorem hass_bool {l : List Sh} {ds : List V} (h : Sh.Hass (.bool :: l) ds) : ∃ n b, ds = .sc (.bool n) :: b ∧ Sh.Hass l b := by
  cases h with
  | cons _ _ a b h0 h1 =>
    cases h0 with
    | bool n => exact ⟨n, b, rfl, h1⟩
theorem hass_str {l : List Sh} {ds : List V} (h : Sh.Hass (.str :: l) ds) : ∃ n b, ds = .sc (.string n) :: b ∧ n.size ≤ maxLen ∧ Sh.Hass l b := by
  cases h with
  | cons _ _ a b h0 h1 =>
    cases h0 with
    | str n hn => exact ⟨n, b, rfl, hn, h1⟩
theorem hass_st {m l : List Sh} {ds : List V} (h : Sh.Hass (.st m :: l) ds) : ∃ a b, ds = a ++ b ∧ Sh.Hass m a ∧ Sh.Hass l b := by
  cases h with
  | cons _ _ a b h0 h1 =>
    cases h0 with
    | st _ _ h => exact ⟨a, b, rfl, h, h1⟩
theorem has_st {l : List Sh} {ds : List V} (h : Sh.Has (.st l) ds) : Sh.Hass l ds := by
  cases h with
  | st _ _ h => exact h
/-- A slice of structs, element by element. -/
theorem hasl_map {α : Type} {s : Sh} (f : α → V) (ok : α → Prop) (h1 : ∀ ds, Sh.Has s ds → ∃ a, ok a ∧ s.pack ds = f a) : ∀ {l : List V}, Sh.Hasl s l → ∃ L : List α, (∀ a ∈ L, ok a) ∧ l = L.map f := by
  intro l
  induction l with
  | nil => exact fun _ => ⟨[], by intro x hx; (cases hx), rfl⟩
  | cons d l ih =>
    intro h
    cases h with
    | cons _ ds _ h k =>
      obtain ⟨L, hB, rfl⟩ := ih k
      obtain ⟨a, ha, e⟩ := h1 ds h
      exact ⟨a :: L, by
          intro x hx
          rcases List.mem_cons.1 hx with rfl | hx
          · exact ha
          · exact hB x hx, by rw [e]; rfl⟩
theorem has_slmap {α : Type} {s : Sh} {f : α → V} {ok : α → Prop} (h1 : ∀ ds, Sh.Has s ds → ∃ a, ok a ∧ s.pack ds = f a) {ds : List V} (h : Sh.Has (.sl s) ds) : ∃ L : List α, (∀ a ∈ L, ok a) ∧ ds = [.sl .no (L.map f)] := by
  cases h with
  | sl _ l h =>
    obtain ⟨L, hB, rfl⟩ := hasl_map f ok h1 h
    exact ⟨L, hB, rfl⟩
end
end Go.Proofs.Ytlngegoamfklgaa
