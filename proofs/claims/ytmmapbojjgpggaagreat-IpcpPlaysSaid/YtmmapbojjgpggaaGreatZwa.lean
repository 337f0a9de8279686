/- Steps of the proof, joined: VRows, VOptLaw, VFsm, VFsm2, VSortLaw, VSortW, VAuto, VNegLaw, VLcpLaw, VIpLaw, VBe, VOpt1, VCut, VLopt1, VLopt2, VLopt3, VWk, VIopt, VIopt2, VLopt4, VMagic, VMagic2, VStr, VNeg1, VNeg2, VNeg3, VNeg4, VNeg5, VNeg6, VLcp1, VLcp2, VLcpLaw2. -/
import Derived.Test.YtmmapbojjgpggaaGreatZec
import Derived.Test.YtmmapbojjgpggaaGreatVc
import Derived.Test.YtmmapbojjgpggaaGreatPc
namespace Go.Proofs.YtmmapbojjgpggaaGreat
open Go
attribute [local go_sem] run_skip run_reg run_seq run_blk run_exit run_ret run_cond if_true if_false at_code_n at_code_x at_code_r at_blk_n at_blk_x at_blk_r at_rnd_n at_rnd_x at_rnd_r at_fin_n at_fin_r ops_nil ops_grd grd_und grd_tt grd_ff grd_tf grd_ft ops_mv ops_pick ops_bin ops_un ops_binb ops_eqs ops_isnil ops_pnil ops_b2s ops_s2b ops_b2sB ops_s2a ops_slcA ops_aidx vaidx vb2sB vs2a vslcA ops_sidx vs2b vsidx srcX ops_appx apx_mk ops_mks ops_mko mks_int mko_int vbinb veqs visnil vpnil vb2s ops_conv ops_fld ops_ix ops_ixa ops_load ops_nilck ops_ext ops_len ops_slen ops_mn ops_mx ops_bld ops_bsl ops_slc ops_sslc ops_box ops_alc ops_alcX ops_boxX ops_bslo ops_store ops_app ops_call ev_t ev_c put_get put_none opv_mk stb_some sto_ptr over_get rel_mk vnat Bx Stp vbld vbsl put_box_same put_box_ne put_sz put_own use_box use_sz put_put args0 List.getD_cons_zero List.getD_cons_succ List.getD_nil vpick vbin vbinI vbinS vun vconv norm vfld vnil vlen vslen vext vmm vix vixa vload takeV takeB mono_nil mono_two mono_sc mono_any mono_und mono_sl mono_agg mono_ep vmlk vmlen vmnil vent vmfn allSc vslc3 kOk fitsV ops_mlk ops_mlen ops_mnil ops_ent ops_mfn ops_slc3 ops_mkm ops_mup mup_map mub_some ops_mdel mdl_nil mdl_map mdb_some ops_rng rng_none rng_map rgb_some ops_nxt ops_ment met_map meb_some ops_est est_map esb_some ops_clr clr_nil clr_box clb_some ops_calv clv_func vslc vsslc fillV splice V.cells strip strip1 allLen ptrV obsOk shAmt IntKind.bits List.map_cons List.map_nil List.length_cons List.length_nil List.getElem?_cons_zero List.getElem?_cons_succ List.take_succ_cons List.take_zero List.drop_succ_cons List.drop_zero List.cons_append List.nil_append List.append_nil List.take_nil List.drop_nil Option.map_some Option.map_none and_true true_and Int.toNat_natCast Nat.min_def Nat.zero_add Nat.add_zero Nat.zero_mul Nat.mul_one Nat.one_mul vret rvAll rvVal resv_1 resv_2 decide_true decide_false Int.lt_irrefl Bool.not_true Bool.not_false ne_eq not_true_eq_false not_false_eq_true eq_self Bool.true_eq_false Bool.false_eq_true List.contains_cons List.contains_nil Bool.false_or Bool.true_or Bool.or_false Bool.or_true List.mem_cons List.not_mem_nil or_false or_true true_or false_or mono_bs ops_aidxn vaidxn ops_fv vfv ops_mki vmki ops_inv ops_cpy cpy_box cpb_some at_finp_n at_finp_r vretp rpAll rpVal vpv resp_0 resp_1 resp_2 Nat.reduceEqDiff Nat.reduceAdd Nat.reduceMul Nat.reduceSub Nat.reduceLT Nat.reduceLeDiff Int.reduceToNat Int.reduceLE Int.reduceLT Int.reducePow Int.reduceMul Int.reduceAdd Int.reduceSub Int.reduceNeg Int.reduceEq Int.reduceMod Int.reduceDiv Nat.reducePow Nat.reduceMod Nat.reduceDiv reduceCtorEq Nat.reduceBEq
section
open Go
theorem own_nil {size : Nat} {st : St} : Own size st (.sl .nil []) [] := .inl ⟨rfl, rfl⟩
theorem own_sl {size : Nat} {st : St} {v : V} {l : List V} (h : Own size st v l) : ∃ tk, v = .sl tk l := by
  rcases h with ⟨rfl, rfl⟩ | ⟨g, rfl, _⟩
  · exact ⟨_, rfl⟩
  · exact ⟨_, rfl⟩
theorem own_put {size : Nat} {st : St} {v : V} {l : List V} (h : Own size st v l) {b : Nat} {cs : List V} : Own size (st.put b cs) v l := by
  rcases h with h | ⟨g, h1, h2, h3⟩
  · exact .inl h
  · exact .inr ⟨g, h1, h2, by simp only [put_sz]; omega⟩
theorem weak_tr {a b c : St} (h : a.weak b) (k : b.weak c) : a.weak c :=
  ⟨fun b cs hb => ⟨(k.box b cs (h.box b cs hb).1).1, (h.box b cs hb).2⟩, fun g m hg => ⟨(k.own g m (h.own g m hg).1).1, (h.own g m hg).2⟩, Nat.le_trans h.sz k.sz⟩
theorem app_keeps {s s' : St} {x r : V} (h : AppSt s x s' r) {t : St} (hw : t.weak s) (hx : ∀ g k l, x = .sl (.own g k) l → t.sz ≤ g) : t.weak s' :=
  ⟨fun b cs hb => ⟨by rw [h.box]; exact (hw.box b cs hb).1, (hw.box b cs hb).2⟩, fun g m hg => ⟨h.own g m (hw.own g m hg).1 (fun l k e => by have := hx g k l e; have := (hw.own g m hg).2; omega), (hw.own g m hg).2⟩, Nat.le_trans hw.sz h.sz⟩
theorem app_fresh {s s' : St} {x r : V} (h : AppSt s x s' r) {t : St} (hs : t.sz ≤ s.sz) (hx : ∀ g k l, x = .sl (.own g k) l → t.sz ≤ g) : ∀ g k l, r = .sl (.own g k) l → t.sz ≤ g := fun g k l e => by
  rcases h.tok g k l e with ⟨l', h1⟩ | h1
  · exact hx g k l' h1
  · omega
structure RO (size : Nat) (base s : St) (r : V) (l : List V) : Prop where
  own : Own size s r l
  weak : base.weak s
  lt : s.Lt
  tok : ∀ g k l', r = .sl (.own g k) l' → base.sz ≤ g
variable {size : Nat} {base s s' : St} {r x : V} {l l' : List V}
theorem RO.nil (hw : base.weak s) (hl : s.Lt) : RO size base s (.sl .nil []) [] := ⟨own_nil, hw, hl, fun g k l e => by cases e⟩
theorem RO.put (h : RO size base s r l) {c : Nat} {cs : List V} (hc : base.sz ≤ c) : RO size base (s.put c cs) r l :=
  ⟨own_put h.own, weak_put h.weak hc, h.lt.put, h.tok⟩
theorem RO.app (h : RO size base s x l) (ho : Own size s' r l') (k : AppSt s x s' r) : RO size base s' r l' :=
  ⟨ho, app_keeps k h.weak h.tok, h.lt.app k, app_fresh k h.weak.sz h.tok⟩
theorem RO.use (hw : base.weak s) (hl : s.Lt) {g : Nat} (hg : s.sz ≤ g) (cs : List V) : RO size base (s.use g cs.length) (.sl (.own g size) cs) cs :=
  ⟨.inr ⟨g, rfl, by simp [St.use], by simp only [use_sz]; omega⟩, weak_use hw (by have := hw.sz; omega), hl.use, fun g' k l e => by cases e; have := hw.sz; omega⟩
theorem RO.sl (h : RO size base s r l) : ∃ tk, r = .sl tk l := own_sl h.own
theorem RO.use0' {size : Nat} {st s : St} (hw : st.weak s) (hl : s.Lt) {g : Nat} (hg : s.sz ≤ g) : RO size st (s.use g 0) (.sl (.own g size) []) [] := RO.use (cs := []) hw hl hg
theorem Wk.tupT {a a' : V} {x : Value} (h : Wk a a') : Wk (.tup [a, .sc x]) (.tup [a', .sc x]) := fun G v hv => by
  cases hv with
  | tup _ vs hl hg =>
    refine .tup _ vs hl fun i c u hc hu => ?_
    match i, hc with
    | 0, hc => simp at hc; subst hc; exact h G u (hg 0 a u rfl hu)
    | 1, hc => exact hg 1 c u hc hu
end
section
open Go
abbrev Opt := Int × List Int
def optV (o : Opt) : V := .agg [.sc (.int .u8 o.1), .sl .no (bs o.2)]
def opts (l : List Opt) : List V := l.map optV
theorem opts_len (l : List Opt) : (opts l).length = l.length := by simp [opts]
theorem opts_append (l m : List Opt) : opts l ++ opts m = opts (l ++ m) := by simp [opts]
theorem allSz_opts (l : List Opt) : allSz 2 (opts l) := fun d hd => by
  obtain ⟨x, _, rfl⟩ := List.mem_map.1 hd; rfl
def oneO (o : Opt) : List Int := o.1 :: (((o.2.take 253).length : Int) + 2) :: o.2.take 253
def buildO (l : List Opt) : List Int := l.flatMap oneO
theorem buildO_append (l m : List Opt) : buildO (l ++ m) = buildO l ++ buildO m := by simp [buildO]
theorem oneO_len (o : Opt) : (oneO o).length ≤ 255 := by
  simp only [oneO, List.length_cons, List.length_take]; omega
theorem buildO_len (l : List Opt) : (buildO l).length ≤ 255 * l.length := by
  induction l with
  | nil => simp [buildO]
  | cons o l ih =>
    have := oneO_len o
    simp only [buildO, List.flatMap_cons, List.length_append, List.length_cons] at ih ⊢
    omega
def parseF : Nat → List Int → List Opt → List Opt × Int
  | 0, _, out => (out, 0)
  | _ + 1, [], out => (out, 0)
  | _ + 1, [_], _ => ([], 10)
  | k + 1, t :: n :: M, out => if n < 2 then ([], 11) else if (M.length : Int) + 2 < n then ([], 10) else parseF k (M.drop (n - 2).toNat) (out ++ [(t, M.take (n - 2).toNat)])
def parseO (L : List Int) : List Opt × Int := parseF L.length L []
theorem parseF_nil {k : Nat} {out : List Opt} : parseF k [] out = (out, 0) := by cases k <;> rfl
def GoodO (l : List Opt) : Prop := ∀ o ∈ l, 0 ≤ o.1 ∧ o.1 < 256 ∧ IsB o.2 ∧ o.2.length ≤ 1000000
theorem GoodO.nil : GoodO [] := fun o h => by cases h
theorem GoodO.append {l m : List Opt} (h : GoodO l) (k : GoodO m) : GoodO (l ++ m) := fun o ho => by
  rcases List.mem_append.1 ho with ho | ho
  · exact h o ho
  · exact k o ho
theorem GoodO.one {o : Opt} (h1 : 0 ≤ o.1) (h2 : o.1 < 256) (h3 : IsB o.2) (h4 : o.2.length ≤ 1000000) : GoodO [o] := fun x hx => by
  simp only [List.mem_singleton] at hx; subst hx; exact ⟨h1, h2, h3, h4⟩
theorem GoodO.get {l : List Opt} (h : GoodO l) {i : Nat} {o : Opt} (ho : l[i]? = some o) : 0 ≤ o.1 ∧ o.1 < 256 ∧ IsB o.2 ∧ o.2.length ≤ 1000000 := h o (List.mem_of_getElem? ho)
theorem IsB.cons' {x : Int} {L : List Int} (h : IsB (x :: L)) : 0 ≤ x ∧ x < 256 := h x (List.mem_cons_self ..)
theorem IsB.tail' {x : Int} {L : List Int} (h : IsB (x :: L)) : IsB L := fun y hy => h y (List.mem_cons_of_mem _ hy)
theorem parseF_good : ∀ {k : Nat} {L : List Int} {out : List Opt}, IsB L → GoodO out → GoodO (parseF k L out).1
  | 0, _, _, _, h => h
  | _ + 1, [], _, _, h => h
  | _ + 1, [_], _, _, _ => GoodO.nil
  | k + 1, t :: n :: M, out, hB, h => by
    unfold parseF
    have h1 := hB.cons'
    have h2 := hB.tail'.cons'
    have h3 := hB.tail'.tail'
    split
    · exact GoodO.nil
    split
    · exact GoodO.nil
    · exact parseF_good (h3.drop _) (h.append (.one h1.1 h1.2 (h3.take _) (by simp only [List.length_take]; omega)))
theorem parseO_good {L : List Int} (h : IsB L) : GoodO (parseO L).1 := parseF_good h .nil
theorem parseF_len : ∀ {k : Nat} {L : List Int} {out : List Opt}, (parseF k L out).1.length ≤ out.length + L.length
  | 0, _, _ => by simp [parseF]
  | _ + 1, [], _ => by simp [parseF]
  | _ + 1, [_], _ => by simp [parseF]
  | k + 1, t :: n :: M, out => by
    unfold parseF
    split
    · simp
    split
    · simp
    · have := @parseF_len k (M.drop (n - 2).toNat) (out ++ [(t, M.take (n - 2).toNat)])
      simp only [List.length_append, List.length_cons, List.length_nil, List.length_drop] at this ⊢
      omega
theorem parseO_len {L : List Int} : (parseO L).1.length ≤ L.length := by
  have := @parseF_len L.length L []
  simpa [parseO] using this
theorem oneO_isB {o : Opt} (h0 : 0 ≤ o.1) (h1 : o.1 < 256) (hB : IsB o.2) : IsB (oneO o) := fun x hx => by
  unfold oneO at hx
  rcases List.mem_cons.1 hx with rfl | hx
  · exact ⟨h0, h1⟩
  rcases List.mem_cons.1 hx with rfl | hx
  · have : (o.2.take 253).length ≤ 253 := by simp only [List.length_take]; omega
    exact ⟨by omega, by omega⟩
  · exact hB.take _ x hx
theorem buildO_isB {l : List Opt} (h : GoodO l) : IsB (buildO l) := fun x hx => by
  obtain ⟨o, ho, hx⟩ := List.mem_flatMap.1 hx
  obtain ⟨h0, h1, h2, _⟩ := h o ho
  exact oneO_isB h0 h1 h2 x hx
def findO (l : List Opt) (t : Int) : Option (List Int) := (l.find? fun o => decide (o.1 = t)).map (·.2)
structure Ctl where
  code : Int
  id : Int
  data : List Int
  deriving DecidableEq
instance : Inhabited Ctl := ⟨⟨0, 0, []⟩⟩
def Ctl.v (p : Ctl) (tk : Tk := .no) : V := .agg [.sc (.int .u8 p.code), .sc (.int .u8 p.id), .sl tk (bs p.data)]
def ctls (l : List Ctl) : List V := l.map fun p => p.v
theorem ctls_len (l : List Ctl) : (ctls l).length = l.length := by simp [ctls]
theorem ctls_append (l m : List Ctl) : ctls l ++ ctls m = ctls (l ++ m) := by simp [ctls]
theorem ctls_get (l : List Ctl) (i : Nat) : (ctls l)[i]? = (l[i]?).map fun p => p.v := by simp [ctls]
theorem allSz_ctls (l : List Ctl) : allSz 3 (ctls l) := fun d hd => by
  obtain ⟨x, _, rfl⟩ := List.mem_map.1 hd; rfl
structure Ctl.Good (p : Ctl) : Prop where
  c0 : 0 ≤ p.code
  c1 : p.code < 256
  i0 : 0 ≤ p.id
  i1 : p.id < 256
  b : IsB p.data
  l : p.data.length ≤ 1000000
def St.bare (s : St) : St := ⟨fun _ => none, fun _ => none, s.sz⟩
theorem bare_weak {s t : St} (h : s.sz ≤ t.sz) : s.bare.weak t := ⟨fun b cs h => by simp [St.bare] at h, fun g m h => by simp [St.bare] at h, h⟩
structure Tn (bx : List Nat) (s t : St) : Prop where
  box : ∀ b cs, s.box b = some cs → b ∉ bx → t.box b = some cs
  own : ∀ g m, s.own g = some m → t.own g = some m
  sz : s.sz ≤ t.sz
  lt : t.Lt
theorem Tn.refl {bx : List Nat} {s : St} (h : s.Lt) : Tn bx s s := ⟨fun _ _ h _ => h, fun _ _ h => h, Nat.le_refl _, h⟩
theorem Tn.trans {bx : List Nat} {s t u : St} (h : Tn bx s t) (k : Tn bx t u) : Tn bx s u :=
  ⟨fun b cs hb hn => k.box b cs (h.box b cs hb hn) hn, fun g m hg => k.own g m (h.own g m hg), Nat.le_trans h.sz k.sz, k.lt⟩
theorem Tn.wide {bx by' : List Nat} {s t : St} (h : Tn bx s t) (hs : ∀ b ∈ bx, b ∈ by') : Tn by' s t :=
  ⟨fun b cs hb hn => h.box b cs hb fun k => hn (hs b k), h.own, h.sz, h.lt⟩
theorem Tn.ofWeak {bx : List Nat} {s t : St} (h : s.weak t) (hl : t.Lt) : Tn bx s t := ⟨fun b cs hb _ => (h.box b cs hb).1, fun g m hg => (h.own g m hg).1, h.sz, hl⟩
theorem Tn.put {bx : List Nat} {s t : St} (h : Tn bx s t) {b : Nat} {cs : List V} (hb : b ∈ bx ∨ s.sz ≤ b) (hs : s.Lt) : Tn bx s (t.put b cs) :=
  ⟨fun c ds hc hn => by
    have hne : c ≠ b := fun e => by
      subst e
      rcases hb with hb | hb
      · exact hn hb
      · have := hs.box c ds hc; omega
    rw [put_box_ne hne]; exact h.box c ds hc hn, h.own, by have := h.sz; simp only [put_sz]; omega, h.lt.put⟩
theorem Tn.bare {bx : List Nat} {s t : St} (h : Tn bx s t) : s.bare.weak t := bare_weak h.sz
theorem Tn.weak {s t : St} (h : Tn [] s t) (hs : s.Lt) : s.weak t := ⟨fun b cs hb => ⟨h.box b cs hb (by simp), hs.box b cs hb⟩, fun g m hg => ⟨h.own g m hg, hs.own g m hg⟩, h.sz⟩
theorem Tn.app {bx : List Nat} {s t u : St} {x r : V} (h : Tn bx s t) (k : AppSt t x u r) (hx : ∀ g k l, x = .sl (.own g k) l → s.sz ≤ g) (hs : s.Lt) : Tn bx s u :=
  ⟨fun b cs hb hn => by rw [k.box]; exact h.box b cs hb hn, fun g m hg => k.own g m (h.own g m hg) (fun l k e => by have := hx g k l e; have := hs.own g m hg; omega), Nat.le_trans h.sz k.sz, h.lt.app k⟩
theorem weak_tn {bx : List Nat} {base s t : St} (h : base.weak s) (k : Tn bx s t) (hb : ∀ b ∈ bx, base.box b = none) : base.weak t :=
  ⟨fun b cs hc => ⟨k.box b cs (h.box b cs hc).1 (fun hm => by rw [hb b hm] at hc; cases hc), (h.box b cs hc).2⟩, fun g m hg => ⟨k.own g m (h.own g m hg).1, (h.own g m hg).2⟩, Nat.le_trans h.sz k.sz⟩
theorem own_tn {size : Nat} {bx : List Nat} {s t : St} {v : V} {l : List V} (h : Own size s v l) (k : Tn bx s t) : Own size t v l := by
  rcases h with h | ⟨g, h1, h2, h3⟩
  · exact .inl h
  · exact .inr ⟨g, h1, k.own g _ h2, by have := k.sz; omega⟩
theorem RO.tn {size : Nat} {bx : List Nat} {base s t : St} {r : V} {l : List V} (h : RO size base s r l) (k : Tn bx s t) (hb : ∀ b ∈ bx, base.box b = none) : RO size base t r l :=
  ⟨own_tn h.own k, weak_tn h.weak k hb, k.lt, h.tok⟩
theorem RO.beside {size : Nat} {base s t : St} {x r r' : V} {l : List V} (h : RO size base s r l) (k : AppSt s x t r') (hx : ∀ g k l, x = .sl (.own g k) l → s.sz ≤ g) : RO size base t r l :=
  h.tn ((Tn.refl (bx := []) h.lt).app k hx h.lt) (by simp)
def WkL (cs ds : List V) : Prop := cs.length = ds.length ∧ ∀ (i : Nat) (c d : V), cs[i]? = some c → ds[i]? = some d → Wk c d
theorem WkL.nil : WkL [] [] := ⟨rfl, fun i c d h => by simp at h⟩
theorem WkL.cons {c d : V} {cs ds : List V} (h : Wk c d) (k : WkL cs ds) : WkL (c :: cs) (d :: ds) :=
  ⟨by simp only [List.length_cons, k.1], fun i x y hx hy => by
    cases i with
    | zero => simp at hx hy; subst hx hy; exact h
    | succ i => exact k.2 i x y (by simpa using hx) (by simpa using hy)⟩
theorem Wk.agg {cs ds : List V} (h : WkL cs ds) : Wk (.agg cs) (.agg ds) := fun G v hv => by
  cases hv with
  | agg _ vs hl h1 hg =>
    refine .agg _ vs (by rw [hl, h.1]) h1 fun i d u hd hu => ?_
    have hi : i < cs.length := by rw [h.1]; exact (List.getElem?_eq_some_iff.1 hd).1
    have hc := List.getElem?_eq_getElem hi
    exact h.2 i _ d hc hd G u (hg i _ u hc hu)
theorem Wk.tup {cs ds : List V} (h : WkL cs ds) : Wk (.tup cs) (.tup ds) := fun G v hv => by
  cases hv with
  | tup _ vs hl hg =>
    refine .tup _ vs (by rw [hl, h.1]) fun i d u hd hu => ?_
    have hi : i < cs.length := by rw [h.1]; exact (List.getElem?_eq_some_iff.1 hd).1
    have hc := List.getElem?_eq_getElem hi
    exact h.2 i _ d hc hd G u (hg i _ u hc hu)
theorem noOwn {s : St} : ∀ g k l, V.sl Tk.nil [] = .sl (.own g k) l → s.sz ≤ g := fun g k l e => by cases e
end
section
open Go
def fsmT : List (List (Int × Int)) := [[(2, 0), (6, 80), (2, 0), (3, 0), (4, 0), (5, 0), (6, 0), (7, 0), (8, 0), (9, 0)],
  [(0, 0), (1, 0), (0, 0), (1, 4), (0, 0), (1, 0), (1, 0), (1, 0), (1, 0), (1, 2)],
  [(1, 4), (1, 0), (6, 80), (3, 0), (5, 0), (5, 0), (6, 0), (7, 0), (8, 0), (9, 0)],
  [(0, 0), (0, 8), (2, 0), (2, 0), (4, 0), (4, 0), (4, 528), (4, 528), (4, 528), (4, 530)],
  [(0, 0), (1, 0), (2, 0), (3, 0), (4, 512), (5, 512), (6, 64), (6, 64), (8, 64), (9, 0)],
  [(0, 0), (1, 0), (2, 0), (3, 0), (2, 8), (3, 8), (3, 8), (3, 8), (3, 8), (9, 0)],
  [(0, 0), (1, 0), (2, 1024), (8, 208), (4, 0), (5, 0), (8, 128), (9, 129), (8, 128), (8, 194)],
  [(0, 0), (1, 0), (2, 1024), (6, 336), (4, 0), (5, 0), (6, 256), (7, 256), (6, 256), (6, 322)],
  [(0, 0), (1, 0), (2, 1024), (3, 1024), (4, 0), (5, 0), (7, 16), (6, 64), (9, 17), (6, 66)],
  [(0, 0), (1, 0), (2, 1024), (3, 1024), (4, 0), (5, 0), (6, 80), (6, 64), (8, 80), (6, 66)],
  [(0, 0), (1, 0), (2, 1024), (3, 1024), (4, 1024), (5, 1024), (6, 1024), (6, 1024), (6, 1024), (5, 1058)],
  [(0, 0), (1, 0), (2, 0), (3, 0), (2, 8), (3, 8), (6, 0), (6, 0), (8, 0), (6, 66)],
  [(0, 0), (1, 0), (2, 2048), (3, 2048), (4, 2048), (5, 2048), (6, 2048), (7, 2048), (8, 2048), (9, 2048)],
  [(0, 0), (1, 0), (2, 0), (3, 0), (4, 0), (5, 0), (6, 0), (6, 0), (8, 0), (9, 0)],
  [(0, 0), (1, 0), (2, 8), (3, 8), (2, 8), (3, 8), (3, 8), (3, 8), (3, 8), (5, 530)],
  [(0, 0), (1, 0), (2, 0), (3, 0), (4, 0), (5, 0), (6, 0), (7, 0), (8, 0), (9, 4096)]]
def fsmR (e : Nat) : List (Int × Int) := (fsmT[e]?).getD []
def cellsF (l : List (Int × Int)) : List V := l.flatMap fun p => [.sc (.int .i64 p.1), .sc (.int .u16 p.2)]
def stepF (s e : Int) : Int × Int := if s < 0 ∨ 9 < s ∨ e < 0 ∨ 15 < e then (s, 0) else ((fsmR e.toNat)[s.toNat]?).getD (s, 0)
section
variable {st : St}
theorem fsmNo_v {s : Int} : VCalls Tryz.prog 138 [.sc (.int .i64 s)] st fun r s' => r = .agg [.sc (.int .i64 s), .sc (.int .u16 0)] ∧ st = s' := by
  refine vcalls_enter vc138 (Nat.le_of_ble_eq_true rfl) fun hwf hok => ?_
  show Run _ Vc138.body (.fin (finQ Vc138.res _)) _ _
  unfold Vc138 zn zo
  simp (maxSteps := 3000000) only [go_sem, ↓reduceIte]
  intro b hb
  exact ⟨_, _, Wk.refl _, weak_put hwf.weak hb, rfl, rfl⟩
set_option maxRecDepth 100000 in
theorem fsmRow_v {a0 b0 a1 b1 a2 b2 a3 b3 a4 b4 a5 b5 a6 b6 a7 b7 : Int} : VCalls Tryz.prog 139 [.agg [.sc (.int .i64 a0), .sc (.int .u16 b0), .sc (.int .i64 a1), .sc (.int .u16 b1), .sc (.int .i64 a2), .sc (.int .u16 b2), .sc (.int .i64 a3), .sc (.int .u16 b3), .sc (.int .i64 a4), .sc (.int .u16 b4), .sc (.int .i64 a5), .sc (.int .u16 b5), .sc (.int .i64 a6), .sc (.int .u16 b6), .sc (.int .i64 a7), .sc (.int .u16 b7)]] st fun r s' => r = .agg [.sc (.int .i64 0), .sc (.int .u16 0), .sc (.int .i64 1), .sc (.int .u16 0), .sc (.int .i64 a0), .sc (.int .u16 b0), .sc (.int .i64 a1), .sc (.int .u16 b1), .sc (.int .i64 a2), .sc (.int .u16 b2), .sc (.int .i64 a3), .sc (.int .u16 b3), .sc (.int .i64 a4), .sc (.int .u16 b4), .sc (.int .i64 a5), .sc (.int .u16 b5), .sc (.int .i64 a6), .sc (.int .u16 b6), .sc (.int .i64 a7), .sc (.int .u16 b7)] ∧ st = s' := by
  refine vcalls_enter vc139 (Nat.le_of_ble_eq_true rfl) fun hwf hok => ?_
  show Run _ Vc139.body (.fin (finQ Vc139.res _)) _ _
  unfold Vc139 zn zo
  simp (maxSteps := 3000000) only [go_sem]
  intro b hb c hc
  have c1 : b < c := by omega
  have c2 : st.sz ≤ c := by omega
  clear hc
  refine Cal.mk fsmNo_v ?_
  rintro _ _ ⟨rfl, rfl⟩ -
  simp (maxSteps := 3000000) only [go_sem]
  refine Cal.mk fsmNo_v ?_
  rintro _ _ ⟨rfl, rfl⟩ -
  simp (maxSteps := 3000000) only [go_sem, ↓reduceIte]
  intro d hd
  have d1 : b < d := by omega
  have d2 : c < d := by omega
  have d3 : st.sz ≤ d := by omega
  clear hd
  have i1 : (2 : Int) < ((10 : Nat) : Int) := by decide
  have i2 : (0 : Int) < ((8 : Nat) : Int) := by decide
  simp (maxSteps := 3000000) only [go_sem, ↓reduceIte, i1, put_box_ne (Nat.ne_of_lt c1), put_box_ne (Nat.ne_of_lt d1), put_box_ne (Nat.ne_of_lt d2)]
  exact ⟨_, _, Wk.refl _, weak_put (weak_put (weak_put (weak_put hwf.weak hb) c2) d3) c2, rfl, rfl⟩
set_option maxRecDepth 100000 in
theorem fsm0_v : VCalls Tryz.prog 129 [.sc (.int .i64 0)] st fun r s' => r = .agg [.sc (.int .i64 2), .sc (.int .u16 0), .sc (.int .i64 6), .sc (.int .u16 80), .sc (.int .i64 2), .sc (.int .u16 0), .sc (.int .i64 3), .sc (.int .u16 0), .sc (.int .i64 4), .sc (.int .u16 0), .sc (.int .i64 5), .sc (.int .u16 0), .sc (.int .i64 6), .sc (.int .u16 0), .sc (.int .i64 7), .sc (.int .u16 0), .sc (.int .i64 8), .sc (.int .u16 0), .sc (.int .i64 9), .sc (.int .u16 0)] ∧ st = s' := by
  refine vcalls_enter vc129 (Nat.le_of_ble_eq_true rfl) fun hwf hok => ?_
  show Run _ Vc129.body (.fin (finQ Vc129.res _)) _ _
  unfold Vc129 zn zo
  simp (maxSteps := 3000000) only [go_sem, ↓reduceIte]
  intro b hb
  repeat (refine Cal.mk fsmNo_v ?_; rintro _ _ ⟨rfl, rfl⟩ -; simp (maxSteps := 3000000) only [go_sem, ↓reduceIte])
  exact ⟨_, _, Wk.refl _, by first | exact weak_put hwf.weak hb | exact weak_put (weak_put hwf.weak hb) hb, rfl, rfl⟩
set_option maxRecDepth 100000 in
theorem fsmTab0_v : VCalls Tryz.prog 122 [.sc (.int .i64 0)] st fun r s' => r = .agg [.sc (.int .i64 2), .sc (.int .u16 0), .sc (.int .i64 6), .sc (.int .u16 80), .sc (.int .i64 2), .sc (.int .u16 0), .sc (.int .i64 3), .sc (.int .u16 0), .sc (.int .i64 4), .sc (.int .u16 0), .sc (.int .i64 5), .sc (.int .u16 0), .sc (.int .i64 6), .sc (.int .u16 0), .sc (.int .i64 7), .sc (.int .u16 0), .sc (.int .i64 8), .sc (.int .u16 0), .sc (.int .i64 9), .sc (.int .u16 0)] ∧ st = s' := by
  refine vcalls_enter vc122 (Nat.le_of_ble_eq_true rfl) fun hwf hok => ?_
  show Run _ Vc122.body (.fin (finQ Vc122.res _)) _ _
  unfold Vc122 zn zo
  simp (maxSteps := 3000000) only [go_sem, ↓reduceIte]
  intro b hb
  try simp (maxSteps := 3000000) only [go_sem, ↓reduceIte]
  refine Cal.mk fsm0_v ?_
  rintro _ _ ⟨rfl, rfl⟩ -
  simp (maxSteps := 3000000) only [go_sem, ↓reduceIte]
  exact ⟨_, _, Wk.refl _, by first | exact weak_put hwf.weak hb | exact weak_put (weak_put hwf.weak hb) hb, rfl, rfl⟩
set_option maxRecDepth 100000 in
theorem fsm1_v : VCalls Tryz.prog 129 [.sc (.int .i64 1)] st fun r s' => r = .agg [.sc (.int .i64 0), .sc (.int .u16 0), .sc (.int .i64 1), .sc (.int .u16 0), .sc (.int .i64 0), .sc (.int .u16 0), .sc (.int .i64 1), .sc (.int .u16 4), .sc (.int .i64 0), .sc (.int .u16 0), .sc (.int .i64 1), .sc (.int .u16 0), .sc (.int .i64 1), .sc (.int .u16 0), .sc (.int .i64 1), .sc (.int .u16 0), .sc (.int .i64 1), .sc (.int .u16 0), .sc (.int .i64 1), .sc (.int .u16 2)] ∧ st = s' := by
  refine vcalls_enter vc129 (Nat.le_of_ble_eq_true rfl) fun hwf hok => ?_
  show Run _ Vc129.body (.fin (finQ Vc129.res _)) _ _
  unfold Vc129 zn zo
  simp (maxSteps := 3000000) only [go_sem, ↓reduceIte]
  intro b hb
  repeat (refine Cal.mk fsmNo_v ?_; rintro _ _ ⟨rfl, rfl⟩ -; simp (maxSteps := 3000000) only [go_sem, ↓reduceIte])
  refine Cal.mk fsmRow_v ?_
  rintro _ _ ⟨rfl, rfl⟩ -
  simp (maxSteps := 3000000) only [go_sem, ↓reduceIte]
  exact ⟨_, _, Wk.refl _, by first | exact weak_put hwf.weak hb | exact weak_put (weak_put hwf.weak hb) hb, rfl, rfl⟩
set_option maxRecDepth 100000 in
theorem fsmTab1_v : VCalls Tryz.prog 122 [.sc (.int .i64 1)] st fun r s' => r = .agg [.sc (.int .i64 0), .sc (.int .u16 0), .sc (.int .i64 1), .sc (.int .u16 0), .sc (.int .i64 0), .sc (.int .u16 0), .sc (.int .i64 1), .sc (.int .u16 4), .sc (.int .i64 0), .sc (.int .u16 0), .sc (.int .i64 1), .sc (.int .u16 0), .sc (.int .i64 1), .sc (.int .u16 0), .sc (.int .i64 1), .sc (.int .u16 0), .sc (.int .i64 1), .sc (.int .u16 0), .sc (.int .i64 1), .sc (.int .u16 2)] ∧ st = s' := by
  refine vcalls_enter vc122 (Nat.le_of_ble_eq_true rfl) fun hwf hok => ?_
  show Run _ Vc122.body (.fin (finQ Vc122.res _)) _ _
  unfold Vc122 zn zo
  simp (maxSteps := 3000000) only [go_sem, ↓reduceIte]
  intro b hb
  try simp (maxSteps := 3000000) only [go_sem, ↓reduceIte]
  refine Cal.mk fsm1_v ?_
  rintro _ _ ⟨rfl, rfl⟩ -
  simp (maxSteps := 3000000) only [go_sem, ↓reduceIte]
  exact ⟨_, _, Wk.refl _, by first | exact weak_put hwf.weak hb | exact weak_put (weak_put hwf.weak hb) hb, rfl, rfl⟩
set_option maxRecDepth 100000 in
theorem fsm2_v : VCalls Tryz.prog 130 [.sc (.int .i64 2)] st fun r s' => r = .agg [.sc (.int .i64 1), .sc (.int .u16 4), .sc (.int .i64 1), .sc (.int .u16 0), .sc (.int .i64 6), .sc (.int .u16 80), .sc (.int .i64 3), .sc (.int .u16 0), .sc (.int .i64 5), .sc (.int .u16 0), .sc (.int .i64 5), .sc (.int .u16 0), .sc (.int .i64 6), .sc (.int .u16 0), .sc (.int .i64 7), .sc (.int .u16 0), .sc (.int .i64 8), .sc (.int .u16 0), .sc (.int .i64 9), .sc (.int .u16 0)] ∧ st = s' := by
  refine vcalls_enter vc130 (Nat.le_of_ble_eq_true rfl) fun hwf hok => ?_
  show Run _ Vc130.body (.fin (finQ Vc130.res _)) _ _
  unfold Vc130 zn zo
  simp (maxSteps := 3000000) only [go_sem, ↓reduceIte]
  intro b hb
  repeat (refine Cal.mk fsmNo_v ?_; rintro _ _ ⟨rfl, rfl⟩ -; simp (maxSteps := 3000000) only [go_sem, ↓reduceIte])
  exact ⟨_, _, Wk.refl _, by first | exact weak_put hwf.weak hb | exact weak_put (weak_put hwf.weak hb) hb, rfl, rfl⟩
set_option maxRecDepth 100000 in
theorem fsmTab2_v : VCalls Tryz.prog 122 [.sc (.int .i64 2)] st fun r s' => r = .agg [.sc (.int .i64 1), .sc (.int .u16 4), .sc (.int .i64 1), .sc (.int .u16 0), .sc (.int .i64 6), .sc (.int .u16 80), .sc (.int .i64 3), .sc (.int .u16 0), .sc (.int .i64 5), .sc (.int .u16 0), .sc (.int .i64 5), .sc (.int .u16 0), .sc (.int .i64 6), .sc (.int .u16 0), .sc (.int .i64 7), .sc (.int .u16 0), .sc (.int .i64 8), .sc (.int .u16 0), .sc (.int .i64 9), .sc (.int .u16 0)] ∧ st = s' := by
  refine vcalls_enter vc122 (Nat.le_of_ble_eq_true rfl) fun hwf hok => ?_
  show Run _ Vc122.body (.fin (finQ Vc122.res _)) _ _
  unfold Vc122 zn zo
  simp (maxSteps := 3000000) only [go_sem, ↓reduceIte]
  intro b hb
  try simp (maxSteps := 3000000) only [go_sem, ↓reduceIte]
  refine Cal.mk fsm2_v ?_
  rintro _ _ ⟨rfl, rfl⟩ -
  simp (maxSteps := 3000000) only [go_sem, ↓reduceIte]
  exact ⟨_, _, Wk.refl _, by first | exact weak_put hwf.weak hb | exact weak_put (weak_put hwf.weak hb) hb, rfl, rfl⟩
set_option maxRecDepth 100000 in
theorem fsm3_v : VCalls Tryz.prog 130 [.sc (.int .i64 3)] st fun r s' => r = .agg [.sc (.int .i64 0), .sc (.int .u16 0), .sc (.int .i64 0), .sc (.int .u16 8), .sc (.int .i64 2), .sc (.int .u16 0), .sc (.int .i64 2), .sc (.int .u16 0), .sc (.int .i64 4), .sc (.int .u16 0), .sc (.int .i64 4), .sc (.int .u16 0), .sc (.int .i64 4), .sc (.int .u16 528), .sc (.int .i64 4), .sc (.int .u16 528), .sc (.int .i64 4), .sc (.int .u16 528), .sc (.int .i64 4), .sc (.int .u16 530)] ∧ st = s' := by
  refine vcalls_enter vc130 (Nat.le_of_ble_eq_true rfl) fun hwf hok => ?_
  show Run _ Vc130.body (.fin (finQ Vc130.res _)) _ _
  unfold Vc130 zn zo
  simp (maxSteps := 3000000) only [go_sem, ↓reduceIte]
  intro b hb
  repeat (refine Cal.mk fsmNo_v ?_; rintro _ _ ⟨rfl, rfl⟩ -; simp (maxSteps := 3000000) only [go_sem, ↓reduceIte])
  exact ⟨_, _, Wk.refl _, by first | exact weak_put hwf.weak hb | exact weak_put (weak_put hwf.weak hb) hb, rfl, rfl⟩
set_option maxRecDepth 100000 in
theorem fsmTab3_v : VCalls Tryz.prog 122 [.sc (.int .i64 3)] st fun r s' => r = .agg [.sc (.int .i64 0), .sc (.int .u16 0), .sc (.int .i64 0), .sc (.int .u16 8), .sc (.int .i64 2), .sc (.int .u16 0), .sc (.int .i64 2), .sc (.int .u16 0), .sc (.int .i64 4), .sc (.int .u16 0), .sc (.int .i64 4), .sc (.int .u16 0), .sc (.int .i64 4), .sc (.int .u16 528), .sc (.int .i64 4), .sc (.int .u16 528), .sc (.int .i64 4), .sc (.int .u16 528), .sc (.int .i64 4), .sc (.int .u16 530)] ∧ st = s' := by
  refine vcalls_enter vc122 (Nat.le_of_ble_eq_true rfl) fun hwf hok => ?_
  show Run _ Vc122.body (.fin (finQ Vc122.res _)) _ _
  unfold Vc122 zn zo
  simp (maxSteps := 3000000) only [go_sem, ↓reduceIte]
  intro b hb
  try simp (maxSteps := 3000000) only [go_sem, ↓reduceIte]
  refine Cal.mk fsm3_v ?_
  rintro _ _ ⟨rfl, rfl⟩ -
  simp (maxSteps := 3000000) only [go_sem, ↓reduceIte]
  exact ⟨_, _, Wk.refl _, by first | exact weak_put hwf.weak hb | exact weak_put (weak_put hwf.weak hb) hb, rfl, rfl⟩
set_option maxRecDepth 100000 in
theorem fsm4_v : VCalls Tryz.prog 131 [.sc (.int .i64 4)] st fun r s' => r = .agg [.sc (.int .i64 0), .sc (.int .u16 0), .sc (.int .i64 1), .sc (.int .u16 0), .sc (.int .i64 2), .sc (.int .u16 0), .sc (.int .i64 3), .sc (.int .u16 0), .sc (.int .i64 4), .sc (.int .u16 512), .sc (.int .i64 5), .sc (.int .u16 512), .sc (.int .i64 6), .sc (.int .u16 64), .sc (.int .i64 6), .sc (.int .u16 64), .sc (.int .i64 8), .sc (.int .u16 64), .sc (.int .i64 9), .sc (.int .u16 0)] ∧ st = s' := by
  refine vcalls_enter vc131 (Nat.le_of_ble_eq_true rfl) fun hwf hok => ?_
  show Run _ Vc131.body (.fin (finQ Vc131.res _)) _ _
  unfold Vc131 zn zo
  simp (maxSteps := 3000000) only [go_sem, ↓reduceIte]
  intro b hb
  repeat (refine Cal.mk fsmNo_v ?_; rintro _ _ ⟨rfl, rfl⟩ -; simp (maxSteps := 3000000) only [go_sem, ↓reduceIte])
  refine Cal.mk fsmRow_v ?_
  rintro _ _ ⟨rfl, rfl⟩ -
  simp (maxSteps := 3000000) only [go_sem, ↓reduceIte]
  exact ⟨_, _, Wk.refl _, by first | exact weak_put hwf.weak hb | exact weak_put (weak_put hwf.weak hb) hb, rfl, rfl⟩
set_option maxRecDepth 100000 in
theorem fsmTab4_v : VCalls Tryz.prog 122 [.sc (.int .i64 4)] st fun r s' => r = .agg [.sc (.int .i64 0), .sc (.int .u16 0), .sc (.int .i64 1), .sc (.int .u16 0), .sc (.int .i64 2), .sc (.int .u16 0), .sc (.int .i64 3), .sc (.int .u16 0), .sc (.int .i64 4), .sc (.int .u16 512), .sc (.int .i64 5), .sc (.int .u16 512), .sc (.int .i64 6), .sc (.int .u16 64), .sc (.int .i64 6), .sc (.int .u16 64), .sc (.int .i64 8), .sc (.int .u16 64), .sc (.int .i64 9), .sc (.int .u16 0)] ∧ st = s' := by
  refine vcalls_enter vc122 (Nat.le_of_ble_eq_true rfl) fun hwf hok => ?_
  show Run _ Vc122.body (.fin (finQ Vc122.res _)) _ _
  unfold Vc122 zn zo
  simp (maxSteps := 3000000) only [go_sem, ↓reduceIte]
  intro b hb
  try simp (maxSteps := 3000000) only [go_sem, ↓reduceIte]
  refine Cal.mk fsm4_v ?_
  rintro _ _ ⟨rfl, rfl⟩ -
  simp (maxSteps := 3000000) only [go_sem, ↓reduceIte]
  exact ⟨_, _, Wk.refl _, by first | exact weak_put hwf.weak hb | exact weak_put (weak_put hwf.weak hb) hb, rfl, rfl⟩
set_option maxRecDepth 100000 in
theorem fsm5_v : VCalls Tryz.prog 131 [.sc (.int .i64 5)] st fun r s' => r = .agg [.sc (.int .i64 0), .sc (.int .u16 0), .sc (.int .i64 1), .sc (.int .u16 0), .sc (.int .i64 2), .sc (.int .u16 0), .sc (.int .i64 3), .sc (.int .u16 0), .sc (.int .i64 2), .sc (.int .u16 8), .sc (.int .i64 3), .sc (.int .u16 8), .sc (.int .i64 3), .sc (.int .u16 8), .sc (.int .i64 3), .sc (.int .u16 8), .sc (.int .i64 3), .sc (.int .u16 8), .sc (.int .i64 9), .sc (.int .u16 0)] ∧ st = s' := by
  refine vcalls_enter vc131 (Nat.le_of_ble_eq_true rfl) fun hwf hok => ?_
  show Run _ Vc131.body (.fin (finQ Vc131.res _)) _ _
  unfold Vc131 zn zo
  simp (maxSteps := 3000000) only [go_sem, ↓reduceIte]
  intro b hb
  repeat (refine Cal.mk fsmNo_v ?_; rintro _ _ ⟨rfl, rfl⟩ -; simp (maxSteps := 3000000) only [go_sem, ↓reduceIte])
  refine Cal.mk fsmRow_v ?_
  rintro _ _ ⟨rfl, rfl⟩ -
  simp (maxSteps := 3000000) only [go_sem, ↓reduceIte]
  exact ⟨_, _, Wk.refl _, by first | exact weak_put hwf.weak hb | exact weak_put (weak_put hwf.weak hb) hb, rfl, rfl⟩
set_option maxRecDepth 100000 in
theorem fsmTab5_v : VCalls Tryz.prog 122 [.sc (.int .i64 5)] st fun r s' => r = .agg [.sc (.int .i64 0), .sc (.int .u16 0), .sc (.int .i64 1), .sc (.int .u16 0), .sc (.int .i64 2), .sc (.int .u16 0), .sc (.int .i64 3), .sc (.int .u16 0), .sc (.int .i64 2), .sc (.int .u16 8), .sc (.int .i64 3), .sc (.int .u16 8), .sc (.int .i64 3), .sc (.int .u16 8), .sc (.int .i64 3), .sc (.int .u16 8), .sc (.int .i64 3), .sc (.int .u16 8), .sc (.int .i64 9), .sc (.int .u16 0)] ∧ st = s' := by
  refine vcalls_enter vc122 (Nat.le_of_ble_eq_true rfl) fun hwf hok => ?_
  show Run _ Vc122.body (.fin (finQ Vc122.res _)) _ _
  unfold Vc122 zn zo
  simp (maxSteps := 3000000) only [go_sem, ↓reduceIte]
  intro b hb
  try simp (maxSteps := 3000000) only [go_sem, ↓reduceIte]
  refine Cal.mk fsm5_v ?_
  rintro _ _ ⟨rfl, rfl⟩ -
  simp (maxSteps := 3000000) only [go_sem, ↓reduceIte]
  exact ⟨_, _, Wk.refl _, by first | exact weak_put hwf.weak hb | exact weak_put (weak_put hwf.weak hb) hb, rfl, rfl⟩
set_option maxRecDepth 100000 in
theorem fsm6_v : VCalls Tryz.prog 132 [.sc (.int .i64 6)] st fun r s' => r = .agg [.sc (.int .i64 0), .sc (.int .u16 0), .sc (.int .i64 1), .sc (.int .u16 0), .sc (.int .i64 2), .sc (.int .u16 1024), .sc (.int .i64 8), .sc (.int .u16 208), .sc (.int .i64 4), .sc (.int .u16 0), .sc (.int .i64 5), .sc (.int .u16 0), .sc (.int .i64 8), .sc (.int .u16 128), .sc (.int .i64 9), .sc (.int .u16 129), .sc (.int .i64 8), .sc (.int .u16 128), .sc (.int .i64 8), .sc (.int .u16 194)] ∧ st = s' := by
  refine vcalls_enter vc132 (Nat.le_of_ble_eq_true rfl) fun hwf hok => ?_
  show Run _ Vc132.body (.fin (finQ Vc132.res _)) _ _
  unfold Vc132 zn zo
  simp (maxSteps := 3000000) only [go_sem, ↓reduceIte]
  intro b hb
  repeat (refine Cal.mk fsmNo_v ?_; rintro _ _ ⟨rfl, rfl⟩ -; simp (maxSteps := 3000000) only [go_sem, ↓reduceIte])
  refine Cal.mk fsmRow_v ?_
  rintro _ _ ⟨rfl, rfl⟩ -
  simp (maxSteps := 3000000) only [go_sem, ↓reduceIte]
  exact ⟨_, _, Wk.refl _, by first | exact weak_put hwf.weak hb | exact weak_put (weak_put hwf.weak hb) hb, rfl, rfl⟩
set_option maxRecDepth 100000 in
theorem fsmTab6_v : VCalls Tryz.prog 122 [.sc (.int .i64 6)] st fun r s' => r = .agg [.sc (.int .i64 0), .sc (.int .u16 0), .sc (.int .i64 1), .sc (.int .u16 0), .sc (.int .i64 2), .sc (.int .u16 1024), .sc (.int .i64 8), .sc (.int .u16 208), .sc (.int .i64 4), .sc (.int .u16 0), .sc (.int .i64 5), .sc (.int .u16 0), .sc (.int .i64 8), .sc (.int .u16 128), .sc (.int .i64 9), .sc (.int .u16 129), .sc (.int .i64 8), .sc (.int .u16 128), .sc (.int .i64 8), .sc (.int .u16 194)] ∧ st = s' := by
  refine vcalls_enter vc122 (Nat.le_of_ble_eq_true rfl) fun hwf hok => ?_
  show Run _ Vc122.body (.fin (finQ Vc122.res _)) _ _
  unfold Vc122 zn zo
  simp (maxSteps := 3000000) only [go_sem, ↓reduceIte]
  intro b hb
  try simp (maxSteps := 3000000) only [go_sem, ↓reduceIte]
  refine Cal.mk fsm6_v ?_
  rintro _ _ ⟨rfl, rfl⟩ -
  simp (maxSteps := 3000000) only [go_sem, ↓reduceIte]
  exact ⟨_, _, Wk.refl _, by first | exact weak_put hwf.weak hb | exact weak_put (weak_put hwf.weak hb) hb, rfl, rfl⟩
set_option maxRecDepth 100000 in
theorem fsm7_v : VCalls Tryz.prog 132 [.sc (.int .i64 7)] st fun r s' => r = .agg [.sc (.int .i64 0), .sc (.int .u16 0), .sc (.int .i64 1), .sc (.int .u16 0), .sc (.int .i64 2), .sc (.int .u16 1024), .sc (.int .i64 6), .sc (.int .u16 336), .sc (.int .i64 4), .sc (.int .u16 0), .sc (.int .i64 5), .sc (.int .u16 0), .sc (.int .i64 6), .sc (.int .u16 256), .sc (.int .i64 7), .sc (.int .u16 256), .sc (.int .i64 6), .sc (.int .u16 256), .sc (.int .i64 6), .sc (.int .u16 322)] ∧ st = s' := by
  refine vcalls_enter vc132 (Nat.le_of_ble_eq_true rfl) fun hwf hok => ?_
  show Run _ Vc132.body (.fin (finQ Vc132.res _)) _ _
  unfold Vc132 zn zo
  simp (maxSteps := 3000000) only [go_sem, ↓reduceIte]
  intro b hb
  repeat (refine Cal.mk fsmNo_v ?_; rintro _ _ ⟨rfl, rfl⟩ -; simp (maxSteps := 3000000) only [go_sem, ↓reduceIte])
  refine Cal.mk fsmRow_v ?_
  rintro _ _ ⟨rfl, rfl⟩ -
  simp (maxSteps := 3000000) only [go_sem, ↓reduceIte]
  exact ⟨_, _, Wk.refl _, by first | exact weak_put hwf.weak hb | exact weak_put (weak_put hwf.weak hb) hb, rfl, rfl⟩
set_option maxRecDepth 100000 in
theorem fsmTab7_v : VCalls Tryz.prog 122 [.sc (.int .i64 7)] st fun r s' => r = .agg [.sc (.int .i64 0), .sc (.int .u16 0), .sc (.int .i64 1), .sc (.int .u16 0), .sc (.int .i64 2), .sc (.int .u16 1024), .sc (.int .i64 6), .sc (.int .u16 336), .sc (.int .i64 4), .sc (.int .u16 0), .sc (.int .i64 5), .sc (.int .u16 0), .sc (.int .i64 6), .sc (.int .u16 256), .sc (.int .i64 7), .sc (.int .u16 256), .sc (.int .i64 6), .sc (.int .u16 256), .sc (.int .i64 6), .sc (.int .u16 322)] ∧ st = s' := by
  refine vcalls_enter vc122 (Nat.le_of_ble_eq_true rfl) fun hwf hok => ?_
  show Run _ Vc122.body (.fin (finQ Vc122.res _)) _ _
  unfold Vc122 zn zo
  simp (maxSteps := 3000000) only [go_sem, ↓reduceIte]
  intro b hb
  try simp (maxSteps := 3000000) only [go_sem, ↓reduceIte]
  refine Cal.mk fsm7_v ?_
  rintro _ _ ⟨rfl, rfl⟩ -
  simp (maxSteps := 3000000) only [go_sem, ↓reduceIte]
  exact ⟨_, _, Wk.refl _, by first | exact weak_put hwf.weak hb | exact weak_put (weak_put hwf.weak hb) hb, rfl, rfl⟩
set_option maxRecDepth 100000 in
theorem fsm8_v : VCalls Tryz.prog 133 [.sc (.int .i64 8)] st fun r s' => r = .agg [.sc (.int .i64 0), .sc (.int .u16 0), .sc (.int .i64 1), .sc (.int .u16 0), .sc (.int .i64 2), .sc (.int .u16 1024), .sc (.int .i64 3), .sc (.int .u16 1024), .sc (.int .i64 4), .sc (.int .u16 0), .sc (.int .i64 5), .sc (.int .u16 0), .sc (.int .i64 7), .sc (.int .u16 16), .sc (.int .i64 6), .sc (.int .u16 64), .sc (.int .i64 9), .sc (.int .u16 17), .sc (.int .i64 6), .sc (.int .u16 66)] ∧ st = s' := by
  refine vcalls_enter vc133 (Nat.le_of_ble_eq_true rfl) fun hwf hok => ?_
  show Run _ Vc133.body (.fin (finQ Vc133.res _)) _ _
  unfold Vc133 zn zo
  simp (maxSteps := 3000000) only [go_sem, ↓reduceIte]
  intro b hb
  intro c hc
  have c1 : b ≠ c := by omega
  have c2 : st.sz ≤ c := by omega
  clear hc
  have i1 : (4 : Int) < ((8 : Nat) : Int) := by decide
  have i2 : (6 : Int) < ((8 : Nat) : Int) := by decide
  try simp (maxSteps := 3000000) only [go_sem, ↓reduceIte, i1, i2, if_true, put_box_ne c1, put_box_ne c1.symm]
  repeat (refine Cal.mk fsmNo_v ?_; rintro _ _ ⟨rfl, rfl⟩ -; simp (maxSteps := 3000000) only [go_sem, ↓reduceIte])
  refine Cal.mk fsmRow_v ?_
  rintro _ _ ⟨rfl, rfl⟩ -
  simp (maxSteps := 3000000) only [go_sem, ↓reduceIte, put_box_ne c1]
  exact ⟨_, _, Wk.refl _, by first | exact weak_put (weak_put (weak_put hwf.weak hb) c2) hb | exact weak_put (weak_put (weak_put (weak_put hwf.weak hb) c2) c2) hb | exact weak_put (weak_put hwf.weak hb) c2, rfl, rfl⟩
set_option maxRecDepth 100000 in
theorem fsmTab8_v : VCalls Tryz.prog 122 [.sc (.int .i64 8)] st fun r s' => r = .agg [.sc (.int .i64 0), .sc (.int .u16 0), .sc (.int .i64 1), .sc (.int .u16 0), .sc (.int .i64 2), .sc (.int .u16 1024), .sc (.int .i64 3), .sc (.int .u16 1024), .sc (.int .i64 4), .sc (.int .u16 0), .sc (.int .i64 5), .sc (.int .u16 0), .sc (.int .i64 7), .sc (.int .u16 16), .sc (.int .i64 6), .sc (.int .u16 64), .sc (.int .i64 9), .sc (.int .u16 17), .sc (.int .i64 6), .sc (.int .u16 66)] ∧ st = s' := by
  refine vcalls_enter vc122 (Nat.le_of_ble_eq_true rfl) fun hwf hok => ?_
  show Run _ Vc122.body (.fin (finQ Vc122.res _)) _ _
  unfold Vc122 zn zo
  simp (maxSteps := 3000000) only [go_sem, ↓reduceIte]
  intro b hb
  try simp (maxSteps := 3000000) only [go_sem, ↓reduceIte]
  refine Cal.mk fsm8_v ?_
  rintro _ _ ⟨rfl, rfl⟩ -
  simp (maxSteps := 3000000) only [go_sem, ↓reduceIte]
  exact ⟨_, _, Wk.refl _, by first | exact weak_put hwf.weak hb | exact weak_put (weak_put hwf.weak hb) hb, rfl, rfl⟩
set_option maxRecDepth 100000 in
theorem fsm9_v : VCalls Tryz.prog 133 [.sc (.int .i64 9)] st fun r s' => r = .agg [.sc (.int .i64 0), .sc (.int .u16 0), .sc (.int .i64 1), .sc (.int .u16 0), .sc (.int .i64 2), .sc (.int .u16 1024), .sc (.int .i64 3), .sc (.int .u16 1024), .sc (.int .i64 4), .sc (.int .u16 0), .sc (.int .i64 5), .sc (.int .u16 0), .sc (.int .i64 6), .sc (.int .u16 80), .sc (.int .i64 6), .sc (.int .u16 64), .sc (.int .i64 8), .sc (.int .u16 80), .sc (.int .i64 6), .sc (.int .u16 66)] ∧ st = s' := by
  refine vcalls_enter vc133 (Nat.le_of_ble_eq_true rfl) fun hwf hok => ?_
  show Run _ Vc133.body (.fin (finQ Vc133.res _)) _ _
  unfold Vc133 zn zo
  simp (maxSteps := 3000000) only [go_sem, ↓reduceIte]
  intro b hb
  intro c hc
  have c1 : b ≠ c := by omega
  have c2 : st.sz ≤ c := by omega
  clear hc
  have i1 : (4 : Int) < ((8 : Nat) : Int) := by decide
  have i2 : (6 : Int) < ((8 : Nat) : Int) := by decide
  try simp (maxSteps := 3000000) only [go_sem, i1, i2]
  repeat (refine Cal.mk fsmNo_v ?_; rintro _ _ ⟨rfl, rfl⟩ -; simp (maxSteps := 3000000) only [go_sem, ↓reduceIte])
  refine Cal.mk fsmRow_v ?_
  rintro _ _ ⟨rfl, rfl⟩ -
  simp (maxSteps := 3000000) only [go_sem, ↓reduceIte, put_box_ne c1]
  exact ⟨_, _, Wk.refl _, by first | exact weak_put (weak_put (weak_put hwf.weak hb) c2) hb | exact weak_put (weak_put (weak_put (weak_put hwf.weak hb) c2) c2) hb | exact weak_put (weak_put hwf.weak hb) c2, rfl, rfl⟩
set_option maxRecDepth 100000 in
theorem fsmTab9_v : VCalls Tryz.prog 122 [.sc (.int .i64 9)] st fun r s' => r = .agg [.sc (.int .i64 0), .sc (.int .u16 0), .sc (.int .i64 1), .sc (.int .u16 0), .sc (.int .i64 2), .sc (.int .u16 1024), .sc (.int .i64 3), .sc (.int .u16 1024), .sc (.int .i64 4), .sc (.int .u16 0), .sc (.int .i64 5), .sc (.int .u16 0), .sc (.int .i64 6), .sc (.int .u16 80), .sc (.int .i64 6), .sc (.int .u16 64), .sc (.int .i64 8), .sc (.int .u16 80), .sc (.int .i64 6), .sc (.int .u16 66)] ∧ st = s' := by
  refine vcalls_enter vc122 (Nat.le_of_ble_eq_true rfl) fun hwf hok => ?_
  show Run _ Vc122.body (.fin (finQ Vc122.res _)) _ _
  unfold Vc122 zn zo
  simp (maxSteps := 3000000) only [go_sem, ↓reduceIte]
  intro b hb
  try simp (maxSteps := 3000000) only [go_sem, ↓reduceIte]
  refine Cal.mk fsm9_v ?_
  rintro _ _ ⟨rfl, rfl⟩ -
  simp (maxSteps := 3000000) only [go_sem, ↓reduceIte]
  exact ⟨_, _, Wk.refl _, by first | exact weak_put hwf.weak hb | exact weak_put (weak_put hwf.weak hb) hb, rfl, rfl⟩
set_option maxRecDepth 100000 in
theorem fsm10_v : VCalls Tryz.prog 134 [.sc (.int .i64 10)] st fun r s' => r = .agg [.sc (.int .i64 0), .sc (.int .u16 0), .sc (.int .i64 1), .sc (.int .u16 0), .sc (.int .i64 2), .sc (.int .u16 1024), .sc (.int .i64 3), .sc (.int .u16 1024), .sc (.int .i64 4), .sc (.int .u16 1024), .sc (.int .i64 5), .sc (.int .u16 1024), .sc (.int .i64 6), .sc (.int .u16 1024), .sc (.int .i64 6), .sc (.int .u16 1024), .sc (.int .i64 6), .sc (.int .u16 1024), .sc (.int .i64 5), .sc (.int .u16 1058)] ∧ st = s' := by
  refine vcalls_enter vc134 (Nat.le_of_ble_eq_true rfl) fun hwf hok => ?_
  show Run _ Vc134.body (.fin (finQ Vc134.res _)) _ _
  unfold Vc134 zn zo
  simp (maxSteps := 3000000) only [go_sem, ↓reduceIte]
  intro b hb
  repeat (refine Cal.mk fsmNo_v ?_; rintro _ _ ⟨rfl, rfl⟩ -; simp (maxSteps := 3000000) only [go_sem, ↓reduceIte])
  refine Cal.mk fsmRow_v ?_
  rintro _ _ ⟨rfl, rfl⟩ -
  simp (maxSteps := 3000000) only [go_sem, ↓reduceIte]
  exact ⟨_, _, Wk.refl _, by first | exact weak_put hwf.weak hb | exact weak_put (weak_put hwf.weak hb) hb, rfl, rfl⟩
set_option maxRecDepth 100000 in
theorem fsmTab10_v : VCalls Tryz.prog 122 [.sc (.int .i64 10)] st fun r s' => r = .agg [.sc (.int .i64 0), .sc (.int .u16 0), .sc (.int .i64 1), .sc (.int .u16 0), .sc (.int .i64 2), .sc (.int .u16 1024), .sc (.int .i64 3), .sc (.int .u16 1024), .sc (.int .i64 4), .sc (.int .u16 1024), .sc (.int .i64 5), .sc (.int .u16 1024), .sc (.int .i64 6), .sc (.int .u16 1024), .sc (.int .i64 6), .sc (.int .u16 1024), .sc (.int .i64 6), .sc (.int .u16 1024), .sc (.int .i64 5), .sc (.int .u16 1058)] ∧ st = s' := by
  refine vcalls_enter vc122 (Nat.le_of_ble_eq_true rfl) fun hwf hok => ?_
  show Run _ Vc122.body (.fin (finQ Vc122.res _)) _ _
  unfold Vc122 zn zo
  simp (maxSteps := 3000000) only [go_sem, ↓reduceIte]
  intro b hb
  try simp (maxSteps := 3000000) only [go_sem, ↓reduceIte]
  refine Cal.mk fsm10_v ?_
  rintro _ _ ⟨rfl, rfl⟩ -
  simp (maxSteps := 3000000) only [go_sem, ↓reduceIte]
  exact ⟨_, _, Wk.refl _, by first | exact weak_put hwf.weak hb | exact weak_put (weak_put hwf.weak hb) hb, rfl, rfl⟩
set_option maxRecDepth 100000 in
theorem fsm11_v : VCalls Tryz.prog 134 [.sc (.int .i64 11)] st fun r s' => r = .agg [.sc (.int .i64 0), .sc (.int .u16 0), .sc (.int .i64 1), .sc (.int .u16 0), .sc (.int .i64 2), .sc (.int .u16 0), .sc (.int .i64 3), .sc (.int .u16 0), .sc (.int .i64 2), .sc (.int .u16 8), .sc (.int .i64 3), .sc (.int .u16 8), .sc (.int .i64 6), .sc (.int .u16 0), .sc (.int .i64 6), .sc (.int .u16 0), .sc (.int .i64 8), .sc (.int .u16 0), .sc (.int .i64 6), .sc (.int .u16 66)] ∧ st = s' := by
  refine vcalls_enter vc134 (Nat.le_of_ble_eq_true rfl) fun hwf hok => ?_
  show Run _ Vc134.body (.fin (finQ Vc134.res _)) _ _
  unfold Vc134 zn zo
  simp (maxSteps := 3000000) only [go_sem, ↓reduceIte]
  intro b hb
  repeat (refine Cal.mk fsmNo_v ?_; rintro _ _ ⟨rfl, rfl⟩ -; simp (maxSteps := 3000000) only [go_sem, ↓reduceIte])
  refine Cal.mk fsmRow_v ?_
  rintro _ _ ⟨rfl, rfl⟩ -
  simp (maxSteps := 3000000) only [go_sem, ↓reduceIte]
  exact ⟨_, _, Wk.refl _, by first | exact weak_put hwf.weak hb | exact weak_put (weak_put hwf.weak hb) hb, rfl, rfl⟩
set_option maxRecDepth 100000 in
theorem fsmTab11_v : VCalls Tryz.prog 122 [.sc (.int .i64 11)] st fun r s' => r = .agg [.sc (.int .i64 0), .sc (.int .u16 0), .sc (.int .i64 1), .sc (.int .u16 0), .sc (.int .i64 2), .sc (.int .u16 0), .sc (.int .i64 3), .sc (.int .u16 0), .sc (.int .i64 2), .sc (.int .u16 8), .sc (.int .i64 3), .sc (.int .u16 8), .sc (.int .i64 6), .sc (.int .u16 0), .sc (.int .i64 6), .sc (.int .u16 0), .sc (.int .i64 8), .sc (.int .u16 0), .sc (.int .i64 6), .sc (.int .u16 66)] ∧ st = s' := by
  refine vcalls_enter vc122 (Nat.le_of_ble_eq_true rfl) fun hwf hok => ?_
  show Run _ Vc122.body (.fin (finQ Vc122.res _)) _ _
  unfold Vc122 zn zo
  simp (maxSteps := 3000000) only [go_sem, ↓reduceIte]
  intro b hb
  try simp (maxSteps := 3000000) only [go_sem, ↓reduceIte]
  refine Cal.mk fsm11_v ?_
  rintro _ _ ⟨rfl, rfl⟩ -
  simp (maxSteps := 3000000) only [go_sem, ↓reduceIte]
  exact ⟨_, _, Wk.refl _, by first | exact weak_put hwf.weak hb | exact weak_put (weak_put hwf.weak hb) hb, rfl, rfl⟩
set_option maxRecDepth 100000 in
theorem fsm12_v : VCalls Tryz.prog 135 [.sc (.int .i64 12)] st fun r s' => r = .agg [.sc (.int .i64 0), .sc (.int .u16 0), .sc (.int .i64 1), .sc (.int .u16 0), .sc (.int .i64 2), .sc (.int .u16 2048), .sc (.int .i64 3), .sc (.int .u16 2048), .sc (.int .i64 4), .sc (.int .u16 2048), .sc (.int .i64 5), .sc (.int .u16 2048), .sc (.int .i64 6), .sc (.int .u16 2048), .sc (.int .i64 7), .sc (.int .u16 2048), .sc (.int .i64 8), .sc (.int .u16 2048), .sc (.int .i64 9), .sc (.int .u16 2048)] ∧ st = s' := by
  refine vcalls_enter vc135 (Nat.le_of_ble_eq_true rfl) fun hwf hok => ?_
  show Run _ Vc135.body (.fin (finQ Vc135.res _)) _ _
  unfold Vc135 zn zo
  simp (maxSteps := 3000000) only [go_sem, ↓reduceIte]
  intro b hb
  repeat (refine Cal.mk fsmNo_v ?_; rintro _ _ ⟨rfl, rfl⟩ -; simp (maxSteps := 3000000) only [go_sem, ↓reduceIte])
  refine Cal.mk fsmRow_v ?_
  rintro _ _ ⟨rfl, rfl⟩ -
  simp (maxSteps := 3000000) only [go_sem, ↓reduceIte]
  exact ⟨_, _, Wk.refl _, by first | exact weak_put hwf.weak hb | exact weak_put (weak_put hwf.weak hb) hb, rfl, rfl⟩
set_option maxRecDepth 100000 in
theorem fsmTab12_v : VCalls Tryz.prog 122 [.sc (.int .i64 12)] st fun r s' => r = .agg [.sc (.int .i64 0), .sc (.int .u16 0), .sc (.int .i64 1), .sc (.int .u16 0), .sc (.int .i64 2), .sc (.int .u16 2048), .sc (.int .i64 3), .sc (.int .u16 2048), .sc (.int .i64 4), .sc (.int .u16 2048), .sc (.int .i64 5), .sc (.int .u16 2048), .sc (.int .i64 6), .sc (.int .u16 2048), .sc (.int .i64 7), .sc (.int .u16 2048), .sc (.int .i64 8), .sc (.int .u16 2048), .sc (.int .i64 9), .sc (.int .u16 2048)] ∧ st = s' := by
  refine vcalls_enter vc122 (Nat.le_of_ble_eq_true rfl) fun hwf hok => ?_
  show Run _ Vc122.body (.fin (finQ Vc122.res _)) _ _
  unfold Vc122 zn zo
  simp (maxSteps := 3000000) only [go_sem, ↓reduceIte]
  intro b hb
  try simp (maxSteps := 3000000) only [go_sem, ↓reduceIte]
  refine Cal.mk fsm12_v ?_
  rintro _ _ ⟨rfl, rfl⟩ -
  simp (maxSteps := 3000000) only [go_sem, ↓reduceIte]
  exact ⟨_, _, Wk.refl _, by first | exact weak_put hwf.weak hb | exact weak_put (weak_put hwf.weak hb) hb, rfl, rfl⟩
set_option maxRecDepth 100000 in
theorem fsm13_v : VCalls Tryz.prog 135 [.sc (.int .i64 13)] st fun r s' => r = .agg [.sc (.int .i64 0), .sc (.int .u16 0), .sc (.int .i64 1), .sc (.int .u16 0), .sc (.int .i64 2), .sc (.int .u16 0), .sc (.int .i64 3), .sc (.int .u16 0), .sc (.int .i64 4), .sc (.int .u16 0), .sc (.int .i64 5), .sc (.int .u16 0), .sc (.int .i64 6), .sc (.int .u16 0), .sc (.int .i64 6), .sc (.int .u16 0), .sc (.int .i64 8), .sc (.int .u16 0), .sc (.int .i64 9), .sc (.int .u16 0)] ∧ st = s' := by
  refine vcalls_enter vc135 (Nat.le_of_ble_eq_true rfl) fun hwf hok => ?_
  show Run _ Vc135.body (.fin (finQ Vc135.res _)) _ _
  unfold Vc135 zn zo
  simp (maxSteps := 3000000) only [go_sem, ↓reduceIte]
  intro b hb
  repeat (refine Cal.mk fsmNo_v ?_; rintro _ _ ⟨rfl, rfl⟩ -; simp (maxSteps := 3000000) only [go_sem, ↓reduceIte])
  refine Cal.mk fsmRow_v ?_
  rintro _ _ ⟨rfl, rfl⟩ -
  simp (maxSteps := 3000000) only [go_sem, ↓reduceIte]
  exact ⟨_, _, Wk.refl _, by first | exact weak_put hwf.weak hb | exact weak_put (weak_put hwf.weak hb) hb, rfl, rfl⟩
set_option maxRecDepth 100000 in
theorem fsmTab13_v : VCalls Tryz.prog 122 [.sc (.int .i64 13)] st fun r s' => r = .agg [.sc (.int .i64 0), .sc (.int .u16 0), .sc (.int .i64 1), .sc (.int .u16 0), .sc (.int .i64 2), .sc (.int .u16 0), .sc (.int .i64 3), .sc (.int .u16 0), .sc (.int .i64 4), .sc (.int .u16 0), .sc (.int .i64 5), .sc (.int .u16 0), .sc (.int .i64 6), .sc (.int .u16 0), .sc (.int .i64 6), .sc (.int .u16 0), .sc (.int .i64 8), .sc (.int .u16 0), .sc (.int .i64 9), .sc (.int .u16 0)] ∧ st = s' := by
  refine vcalls_enter vc122 (Nat.le_of_ble_eq_true rfl) fun hwf hok => ?_
  show Run _ Vc122.body (.fin (finQ Vc122.res _)) _ _
  unfold Vc122 zn zo
  simp (maxSteps := 3000000) only [go_sem, ↓reduceIte]
  intro b hb
  try simp (maxSteps := 3000000) only [go_sem, ↓reduceIte]
  refine Cal.mk fsm13_v ?_
  rintro _ _ ⟨rfl, rfl⟩ -
  simp (maxSteps := 3000000) only [go_sem, ↓reduceIte]
  exact ⟨_, _, Wk.refl _, by first | exact weak_put hwf.weak hb | exact weak_put (weak_put hwf.weak hb) hb, rfl, rfl⟩
set_option maxRecDepth 100000 in
theorem fsm14_v : VCalls Tryz.prog 135 [.sc (.int .i64 14)] st fun r s' => r = .agg [.sc (.int .i64 0), .sc (.int .u16 0), .sc (.int .i64 1), .sc (.int .u16 0), .sc (.int .i64 2), .sc (.int .u16 8), .sc (.int .i64 3), .sc (.int .u16 8), .sc (.int .i64 2), .sc (.int .u16 8), .sc (.int .i64 3), .sc (.int .u16 8), .sc (.int .i64 3), .sc (.int .u16 8), .sc (.int .i64 3), .sc (.int .u16 8), .sc (.int .i64 3), .sc (.int .u16 8), .sc (.int .i64 5), .sc (.int .u16 530)] ∧ st = s' := by
  refine vcalls_enter vc135 (Nat.le_of_ble_eq_true rfl) fun hwf hok => ?_
  show Run _ Vc135.body (.fin (finQ Vc135.res _)) _ _
  unfold Vc135 zn zo
  simp (maxSteps := 3000000) only [go_sem, ↓reduceIte]
  intro b hb
  repeat (refine Cal.mk fsmNo_v ?_; rintro _ _ ⟨rfl, rfl⟩ -; simp (maxSteps := 3000000) only [go_sem, ↓reduceIte])
  refine Cal.mk fsmRow_v ?_
  rintro _ _ ⟨rfl, rfl⟩ -
  simp (maxSteps := 3000000) only [go_sem, ↓reduceIte]
  exact ⟨_, _, Wk.refl _, by first | exact weak_put hwf.weak hb | exact weak_put (weak_put hwf.weak hb) hb, rfl, rfl⟩
set_option maxRecDepth 100000 in
theorem fsmTab14_v : VCalls Tryz.prog 122 [.sc (.int .i64 14)] st fun r s' => r = .agg [.sc (.int .i64 0), .sc (.int .u16 0), .sc (.int .i64 1), .sc (.int .u16 0), .sc (.int .i64 2), .sc (.int .u16 8), .sc (.int .i64 3), .sc (.int .u16 8), .sc (.int .i64 2), .sc (.int .u16 8), .sc (.int .i64 3), .sc (.int .u16 8), .sc (.int .i64 3), .sc (.int .u16 8), .sc (.int .i64 3), .sc (.int .u16 8), .sc (.int .i64 3), .sc (.int .u16 8), .sc (.int .i64 5), .sc (.int .u16 530)] ∧ st = s' := by
  refine vcalls_enter vc122 (Nat.le_of_ble_eq_true rfl) fun hwf hok => ?_
  show Run _ Vc122.body (.fin (finQ Vc122.res _)) _ _
  unfold Vc122 zn zo
  simp (maxSteps := 3000000) only [go_sem, ↓reduceIte]
  intro b hb
  try simp (maxSteps := 3000000) only [go_sem, ↓reduceIte]
  refine Cal.mk fsm14_v ?_
  rintro _ _ ⟨rfl, rfl⟩ -
  simp (maxSteps := 3000000) only [go_sem, ↓reduceIte]
  exact ⟨_, _, Wk.refl _, by first | exact weak_put hwf.weak hb | exact weak_put (weak_put hwf.weak hb) hb, rfl, rfl⟩
set_option maxRecDepth 100000 in
theorem fsm15_v : VCalls Tryz.prog 135 [.sc (.int .i64 15)] st fun r s' => r = .agg [.sc (.int .i64 0), .sc (.int .u16 0), .sc (.int .i64 1), .sc (.int .u16 0), .sc (.int .i64 2), .sc (.int .u16 0), .sc (.int .i64 3), .sc (.int .u16 0), .sc (.int .i64 4), .sc (.int .u16 0), .sc (.int .i64 5), .sc (.int .u16 0), .sc (.int .i64 6), .sc (.int .u16 0), .sc (.int .i64 7), .sc (.int .u16 0), .sc (.int .i64 8), .sc (.int .u16 0), .sc (.int .i64 9), .sc (.int .u16 4096)] ∧ st = s' := by
  refine vcalls_enter vc135 (Nat.le_of_ble_eq_true rfl) fun hwf hok => ?_
  show Run _ Vc135.body (.fin (finQ Vc135.res _)) _ _
  unfold Vc135 zn zo
  simp (maxSteps := 3000000) only [go_sem, ↓reduceIte]
  intro b hb
  repeat (refine Cal.mk fsmNo_v ?_; rintro _ _ ⟨rfl, rfl⟩ -; simp (maxSteps := 3000000) only [go_sem, ↓reduceIte])
  refine Cal.mk fsmRow_v ?_
  rintro _ _ ⟨rfl, rfl⟩ -
  simp (maxSteps := 3000000) only [go_sem, ↓reduceIte]
  exact ⟨_, _, Wk.refl _, by first | exact weak_put hwf.weak hb | exact weak_put (weak_put hwf.weak hb) hb, rfl, rfl⟩
set_option maxRecDepth 100000 in
theorem fsmTab15_v : VCalls Tryz.prog 122 [.sc (.int .i64 15)] st fun r s' => r = .agg [.sc (.int .i64 0), .sc (.int .u16 0), .sc (.int .i64 1), .sc (.int .u16 0), .sc (.int .i64 2), .sc (.int .u16 0), .sc (.int .i64 3), .sc (.int .u16 0), .sc (.int .i64 4), .sc (.int .u16 0), .sc (.int .i64 5), .sc (.int .u16 0), .sc (.int .i64 6), .sc (.int .u16 0), .sc (.int .i64 7), .sc (.int .u16 0), .sc (.int .i64 8), .sc (.int .u16 0), .sc (.int .i64 9), .sc (.int .u16 4096)] ∧ st = s' := by
  refine vcalls_enter vc122 (Nat.le_of_ble_eq_true rfl) fun hwf hok => ?_
  show Run _ Vc122.body (.fin (finQ Vc122.res _)) _ _
  unfold Vc122 zn zo
  simp (maxSteps := 3000000) only [go_sem, ↓reduceIte]
  intro b hb
  try simp (maxSteps := 3000000) only [go_sem, ↓reduceIte]
  refine Cal.mk fsm15_v ?_
  rintro _ _ ⟨rfl, rfl⟩ -
  simp (maxSteps := 3000000) only [go_sem, ↓reduceIte]
  exact ⟨_, _, Wk.refl _, by first | exact weak_put hwf.weak hb | exact weak_put (weak_put hwf.weak hb) hb, rfl, rfl⟩
end
end
section
open Go
theorem cellsF_len : ∀ l : List (Int × Int), (cellsF l).length = l.length * 2
  | [] => rfl
  | p :: l => by
    have := cellsF_len l
    simp only [cellsF, List.flatMap_cons, List.length_append, List.length_cons, List.length_nil] at this ⊢
    omega
theorem cellsF_get : ∀ {l : List (Int × Int)} {i : Nat} {p : Int × Int}, l[i]? = some p → ((cellsF l).drop (i * 2)).take 2 = [.sc (.int .i64 p.1), .sc (.int .u16 p.2)]
  | [], i, p, h => by simp at h
  | q :: l, 0, p, h => by
    simp only [List.getElem?_cons_zero, Option.some.injEq] at h
    subst h; rfl
  | q :: l, i + 1, p, h => by
    rw [List.getElem?_cons_succ] at h
    have := cellsF_get h
    have e : (i + 1) * 2 = i * 2 + 2 := by omega
    rw [e]
    exact this
theorem fsmR_len : ∀ e : Nat, e < 16 → (fsmR e).length = 10 := by decide
section
variable {st : St}
theorem fsmTable_v {e : Nat} (he : e < 16) : VCalls Tryz.prog 122 [.sc (.int .i64 e)] st fun r s' => r = .agg (cellsF (fsmR e)) ∧ st = s' := by
  match e, he with
  | 0, _ => exact fsmTab0_v
  | 1, _ => exact fsmTab1_v
  | 2, _ => exact fsmTab2_v
  | 3, _ => exact fsmTab3_v
  | 4, _ => exact fsmTab4_v
  | 5, _ => exact fsmTab5_v
  | 6, _ => exact fsmTab6_v
  | 7, _ => exact fsmTab7_v
  | 8, _ => exact fsmTab8_v
  | 9, _ => exact fsmTab9_v
  | 10, _ => exact fsmTab10_v
  | 11, _ => exact fsmTab11_v
  | 12, _ => exact fsmTab12_v
  | 13, _ => exact fsmTab13_v
  | 14, _ => exact fsmTab14_v
  | 15, _ => exact fsmTab15_v
  | n + 16, h => omega
set_option maxRecDepth 100000 in
theorem fsmStep_v {s e : Int} : VCalls Tryz.prog 103 [.sc (.int .i64 s), .sc (.int .i64 e)] st fun r s' => r = .tup [.sc (.int .i64 (stepF s e).1), .sc (.int .u16 (stepF s e).2)] ∧ st = s' := by
  refine vcalls_enter vc103 (Nat.le_of_ble_eq_true rfl) fun hwf hok => ?_
  show Run _ Vc103.body (.fin (finQ Vc103.res _)) _ _
  unfold Vc103 zg zn zo
  by_cases c1 : s < 0
  · simp (maxSteps := 3000000) only [go_sem, ↓reduceIte, decide_eq_true c1]
    exact ⟨_, _, Wk.refl _, hwf.weak, by simp [stepF, c1], rfl⟩
  by_cases c2 : 9 < s
  · simp (maxSteps := 3000000) only [go_sem, ↓reduceIte, decide_eq_false c1, decide_eq_true c2]
    exact ⟨_, _, Wk.refl _, hwf.weak, by simp [stepF, c2], rfl⟩
  by_cases c3 : e < 0
  · simp (maxSteps := 3000000) only [go_sem, ↓reduceIte, decide_eq_false c1, decide_eq_false c2, decide_eq_true c3]
    exact ⟨_, _, Wk.refl _, hwf.weak, by simp [stepF, c3], rfl⟩
  by_cases c4 : 15 < e
  · simp (maxSteps := 3000000) only [go_sem, ↓reduceIte, decide_eq_false c1, decide_eq_false c2, decide_eq_false c3, decide_eq_true c4]
    exact ⟨_, _, Wk.refl _, hwf.weak, by simp [stepF, c4], rfl⟩
  obtain ⟨i, rfl⟩ : ∃ i : Nat, s = i := ⟨s.toNat, by omega⟩
  obtain ⟨k, rfl⟩ : ∃ k : Nat, e = k := ⟨e.toNat, by omega⟩
  have hl := fsmR_len k (by omega)
  obtain ⟨p, hp⟩ : ∃ p, (fsmR k)[i]? = some p := ⟨_, List.getElem?_eq_getElem (by omega)⟩
  have hs : stepF (i : Int) (k : Int) = p := by
    unfold stepF
    rw [if_neg (by omega), Int.toNat_natCast, Int.toNat_natCast, hp]; rfl
  rw [hs]
  have hg := cellsF_get hp
  have hc := cellsF_len (fsmR k)
  have h2 : i * 2 + 2 ≤ (cellsF (fsmR k)).length := by omega
  have h3 : (i : Int) < ((10 : Nat) : Int) := by omega
  have h4 : (0 : Int) ≤ (i : Int) := by omega
  simp (maxSteps := 3000000) only [go_sem, ↓reduceIte, decide_eq_false c1, decide_eq_false c2, decide_eq_false c3, decide_eq_false c4]
  refine Cal.mk (fsmTable_v (by omega)) ?_
  rintro _ _ ⟨rfl, rfl⟩ -
  simp (maxSteps := 3000000) only [go_sem, ↓reduceIte, hg, h2, h3, h4]
  intro b hb
  exact ⟨_, _, Wk.refl _, weak_put hwf.weak hb, rfl, rfl⟩
theorem actHas_v {a l : Int} : VCalls Tryz.prog 95 [.sc (.int .u16 a), .sc (.int .u16 l)] st fun r s' => r = .sc (.bool (decide (¬ ibit .and .u16 a l = 0))) ∧ st = s' := by
  refine vcalls_enter vc95 (Nat.le_of_ble_eq_true rfl) fun hwf hok => ?_
  show Run _ Vc95.body (.fin (finQ Vc95.res _)) _ _
  unfold Vc95 zo
  simp (maxSteps := 3000000) only [go_sem, ↓reduceIte]
  exact ⟨_, _, Wk.refl _, hwf.weak, rfl, rfl⟩
end
end
section
section
variable {α : Type}
end
section
variable {α : Type} [Inhabited α]
variable {lt : α → α → Bool}
end
end
section
open Go
theorem put_selfR {st : St} {b : Nat} {cs : List V} (hb : st.box b = some cs) (h : b < st.sz) : st.put b cs = st := by
  cases st with
  | mk box own sz =>
    simp only [St.put, St.mk.injEq, true_and]
    simp only at hb h
    refine ⟨?_, by omega⟩
    funext i
    by_cases e : i = b
    · subst e; simp [hb]
    · simp [e]
section
variable {α : Type} [Inhabited α] {lt : α → α → Bool}
end
end
section
open Go
def hasA (a l : Int) : Bool := decide (¬ ibit .and .u16 a l = 0)
def cntA (act left : Int) : Int :=
  let l1 := if hasA act 16 && hasA act 512 then 2 else if hasA act 16 then 10 else if hasA act 32 then 0 else left
  if hasA act 576 then max (l1 - 1) 0 else l1
section
variable {st : St} {b : Nat} {s l t : Int} {rest : List V}
theorem actHasB_v {a l : Int} : VCalls Tryz.prog 95 [.sc (.int .u16 a), .sc (.int .u16 l)] st fun r s' => r = .sc (.bool (hasA a l)) ∧ st = s' := actHas_v
set_option maxRecDepth 100000 in
set_option maxHeartbeats 4000000 in
theorem autoCount_v {act : Int} (hb : st.box b = some (.sc (.int .i64 s) :: .sc (.int .i64 l) :: .sc (.int .i64 t) :: rest)) (h0 : 0 ≤ l) (h1 : l ≤ 10) :
    VCalls Tryz.prog 104 [ptrV b, .sc (.int .u16 act)] st fun r s' => r = .tup [] ∧ s' = st.put b (.sc (.int .i64 s) :: .sc (.int .i64 (cntA act l)) :: .sc (.int .i64 t) :: rest) := by
  refine vcalls_enter vc104 (Nat.le_of_ble_eq_true rfl) fun hwf hok => ?_
  show Run _ Vc104.body (.fin (finQ Vc104.res _)) _ _
  unfold Vc104 zg zn zo
  have hlt := hwf.lt
  have self : st.put b (.sc (.int .i64 s) :: .sc (.int .i64 l) :: .sc (.int .i64 t) :: rest) = st := put_selfR hb (hlt.box b _ hb)
  have hA := fun (x : Int) (s' : St) => actHasB_v (st := s') (a := act) (l := x)
  cases e1 : hasA act 16
  all_goals cases e2 : hasA act 512
  all_goals cases e3 : hasA act 32
  all_goals cases e4 : hasA act 576
  all_goals
    simp (maxSteps := 3000000) only [go_sem, ↓reduceIte]
    repeat (refine Cal.mk (hA _ _) ?_; rintro _ _ ⟨rfl, rfl⟩ -; simp (maxSteps := 3000000) only [go_sem, ↓reduceIte, e1, e2, e3, e4, hb])
  all_goals try refine ⟨by omega, ?_⟩
  all_goals first
    | exact ⟨_, _, Wk.refl _, (hlt.put (b := b)).weak, rfl, by simp [cntA, e1, e2, e3, e4]⟩
    | exact ⟨_, _, Wk.refl _, hwf.weak, rfl, by simp [cntA, e1, e2, e3, e4]; exact self.symm⟩
def atA (act now t : Int) : Int := if hasA act 608 then now + 3 else t
set_option maxRecDepth 100000 in
set_option maxHeartbeats 4000000 in
theorem autoDo_v {now e : Int} (hb : st.box b = some (.sc (.int .i64 s) :: .sc (.int .i64 l) :: .sc (.int .i64 t) :: rest)) (h0 : 0 ≤ l) (h1 : l ≤ 10) (hn : 0 ≤ now) (hn2 : now ≤ 1000000000) :
    VCalls Tryz.prog 83 [ptrV b, .sc (.int .i64 now), .sc (.int .i64 e)] st fun r s' => r = .sc (.int .u16 (stepF s e).2) ∧ s' = st.put b (.sc (.int .i64 (stepF s e).1) :: .sc (.int .i64 (cntA (stepF s e).2 l)) :: .sc (.int .i64 (atA (stepF s e).2 now t)) :: rest) := by
  refine vcalls_enter vc83 (Nat.le_of_ble_eq_true rfl) fun hwf hok => ?_
  show Run _ Vc83.body (.fin (finQ Vc83.res _)) _ _
  unfold Vc83 zn zo
  have hlt := hwf.lt
  simp (maxSteps := 3000000) only [go_sem, ↓reduceIte, hb]
  refine Cal.mk fsmStep_v ?_
  rintro _ _ ⟨rfl, rfl⟩ -
  generalize stepF s e = p
  simp (maxSteps := 3000000) only [go_sem, ↓reduceIte, hb]
  refine Cal.mk (autoCount_v put_box_same h0 h1) ?_
  rintro _ _ ⟨rfl, rfl⟩ -
  simp (maxSteps := 3000000) only [go_sem, ↓reduceIte]
  refine Cal.mk actHasB_v ?_
  rintro _ _ ⟨rfl, rfl⟩ -
  cases e1 : hasA p.2 608
  all_goals
    simp (maxSteps := 3000000) only [go_sem, ↓reduceIte]
  · exact ⟨_, _, Wk.refl _, (hlt.put (b := b)).weak, rfl, by simp [atA, e1]⟩
  · refine ⟨by omega, ?_⟩
    exact ⟨_, _, Wk.refl _, (hlt.put (b := b)).weak, rfl, by simp [atA, e1]⟩
end
end
section
open Go
structure Rul (R : Type) where
  request : R → List Opt
  judge : R → List Opt → R × Int × List Opt
  agreed : R → List Opt → R
  naked : R → List Opt → R
  rejected : R → List Opt → R × Bool
structure Neg (R : Type) where
  s : Int
  left : Int
  at_ : Int
  id : Int
  req : List Int
  naks : Int
  r : R
structure Nout where
  P : List Ctl
  up : Bool
  down : Bool
  over : Bool
  deriving DecidableEq
def Nout.no : Nout := ⟨[], false, false, false⟩
def Nout.both (a b : Nout) : Nout := ⟨a.P ++ b.P, a.up || b.up, a.down || b.down, a.over || b.over⟩
def buildC (p : Ctl) : List Int := p.code :: p.id :: (beL (((p.data.take 65531).length : Int) + 4) 2 ++ p.data.take 65531)
def rejC (id : Int) (p : Ctl) (most : Nat) : Ctl := ⟨7, id, (buildC p).take (most - 4)⟩
def tickA (s left at_ now : Int) : Int × Int × Int × Int :=
  if s < 4 ∨ 8 < s ∨ now < at_ then (s, left, at_, 0)
  else ((stepF s (if 0 < left then 4 else 5)).1, cntA (stepF s (if 0 < left then 4 else 5)).2 left, atA (stepF s (if 0 < left then 4 else 5)).2 now (now + 3), (stepF s (if 0 < left then 4 else 5)).2)
section
variable {R : Type} (U : Rul R) (N : Neg R)
def Neg.step (now e : Int) : Neg R := { N with s := (stepF N.s e).1, left := cntA (stepF N.s e).2 N.left, at_ := atA (stepF N.s e).2 now N.at_ }
def Neg.bump : Neg R := { N with id := (N.id + 1) % 256 }
def Neg.asked (again : Bool) : Neg R := { N with id := if again = true ∧ buildO (U.request N.r) = N.req then N.id else (N.id + 1) % 256, req := buildO (U.request N.r) }
def Neg.d1 (act : Int) (again : Bool) : Neg R × List Ctl := if hasA act 64 = true then (N.asked U again, [⟨1, (N.asked U again).id, buildO (U.request N.r)⟩]) else (N, [])
def Neg.d2 (act : Int) (back : Ctl) (P : List Ctl) : List Ctl := if hasA act 384 = true then P ++ [back] else P
def Neg.d3 (act : Int) (P : List Ctl) : Neg R × List Ctl := if hasA act 512 = true then (N.bump, P ++ [⟨5, N.bump.id, []⟩]) else (N, P)
def Neg.d4 (act : Int) (p : Ctl) (P : List Ctl) : List Ctl := if hasA act 1024 = true then P ++ [⟨6, p.id, []⟩] else P
def Neg.d5 (act : Int) (p : Ctl) (P : List Ctl) : Neg R × List Ctl := if hasA act 2048 = true then (N.bump, P ++ [rejC N.bump.id p 1400]) else (N, P)
def Neg.d6 (act : Int) : Neg R := if hasA act 2 = true then { N with naks := 0 } else N
def Neg.done (act : Int) (again : Bool) (p back : Ctl) : Neg R × Nout :=
  let a1 := N.d1 U act again
  let a3 := a1.1.d3 act (Neg.d2 act back a1.2)
  let a5 := a3.1.d5 act p (Neg.d4 act p a3.2)
  (a5.1.d6 act, ⟨a5.2, hasA act 1, hasA act 2, hasA act 8⟩)
def zeroC : Ctl := ⟨0, 0, []⟩
def Neg.event (now e : Int) (p back : Ctl) : Neg R × Nout := (N.step now e).done U (stepF N.s e).2 false p back
def Neg.start (now : Int) : Neg R × Nout :=
  let a := N.event U now 0 zeroC zeroC
  let b := a.1.event U now 2 zeroC zeroC
  (b.1, a.2.both b.2)
def Neg.close (now : Int) : Neg R × Nout := N.event U now 3 zeroC zeroC
def Neg.cut (now : Int) : Neg R × Nout := N.event U now 1 zeroC zeroC
def Neg.tick (now : Int) : Neg R × Nout :=
  let t := tickA N.s N.left N.at_ now
  Neg.done U { N with s := t.1, left := t.2.1, at_ := t.2.2.1 } t.2.2.2 true zeroC zeroC
def theirsO (l like : List Opt) : List Opt := l.filter fun o => (findO like o.1).isSome
def Neg.judge (p : Ctl) (l : List Opt) : Neg R × Ctl × Bool :=
  let j := U.judge N.r l
  let n1 := if j.2.1 = 3 then N.naks + 1 else N.naks
  let ov : Bool := decide (j.2.1 = 3 ∧ 5 < n1)
  let code := if ov = true then 4 else j.2.1
  let out := if ov = true then theirsO l j.2.2 else j.2.2
  ({ N with r := j.1, naks := if code = 2 then 0 else n1 }, ⟨code, p.id, buildO out⟩, decide (code = 2))
def Neg.request (now : Int) (p : Ctl) : Neg R × Nout :=
  let l := parseO p.data
  if l.2 ≠ 0 then (N, .no)
  else if N.s = 4 ∨ N.s = 5 ∨ N.s < 3 then N.event U now 6 p zeroC
  else
    let j := N.judge U p l.1
    if j.2.2 = false then j.1.event U now 7 p j.2.1
    else Neg.event U { j.1 with r := U.agreed j.1.r l.1 } now 6 p j.2.1
def Neg.answered (now : Int) (p : Ctl) : Neg R × Nout :=
  let l := parseO p.data
  if l.2 ≠ 0 ∨ p.id ≠ N.id ∨ p.code = 2 ∧ p.data ≠ N.req then (N, .no)
  else if p.code = 2 then N.event U now 8 p zeroC
  else if p.code = 3 then Neg.event U { N with r := U.naked N.r l.1 } now 9 p zeroC
  else
    let x := U.rejected N.r l.1
    if x.2 = false then Neg.close U { N with r := x.1 } now
    else Neg.event U { N with r := x.1 } now 9 p zeroC
def evOf (p : Ctl) : Int :=
  if p.code = 5 then 10 else if p.code = 6 then 11 else if p.code = 7 ∧ 0 < p.data.length ∧ p.data.getD 0 0 ≤ 7 then 14 else if p.code = 7 ∨ p.code = 8 then 13 else 15
def Neg.take (codes now : Int) (p : Ctl) : Neg R × Nout :=
  if p.code < 1 ∨ codes < p.code then N.event U now 12 p zeroC
  else if p.code = 1 then N.request U now p
  else if p.code ≤ 4 then N.answered U now p
  else N.event U now (evOf p) p zeroC
end
end
section
open Go
structure Want where
  mru : Int
  auth : Bool
  magic : Int
  pfc : Bool
  acfc : Bool
  deriving DecidableEq
def Want.cells (w : Want) : List V := [.sc (.int .u16 w.mru), .sc (.bool w.auth), .sc (.int .u32 w.magic), .sc (.bool w.pfc), .sc (.bool w.acfc)]
structure Want.Good (w : Want) : Prop where
  m0 : 0 ≤ w.mru
  m1 : w.mru < 65536
  g0 : 0 ≤ w.magic
  g1 : w.magic < 4294967296
def Want.zero : Want := ⟨0, false, 0, false, false⟩
def num2 (L : List Int) : Int := if L.length < 2 then 0 else numL (L.take 2)
def num4 (L : List Int) : Int := if L.length < 4 then 0 else numL (L.take 4)
theorem num2_rng {L : List Int} (h : IsB L) : 0 ≤ num2 L ∧ num2 L < 65536 := by
  unfold num2
  split
  · exact ⟨by omega, by omega⟩
  · have e : (L.take 2).length = 2 := by simp only [List.length_take]; omega
    have := numL_range _ (L.take 2) rfl (h.take _)
    rw [e] at this
    exact this
theorem num4_rng {L : List Int} (h : IsB L) : 0 ≤ num4 L ∧ num4 L < 4294967296 := by
  unfold num4
  split
  · exact ⟨by omega, by omega⟩
  · have e : (L.take 4).length = 4 := by simp only [List.length_take]; omega
    have := numL_range _ (L.take 4) rfl (h.take _)
    rw [e] at this
    exact this
def sizeT (t : Int) : Int := if t = 1 then 2 else if t = 2 ∨ t = 5 then 4 else if t = 7 ∨ t = 8 then 0 else -1
def betterO (o : Opt) (own draw : Int) : Option Opt :=
  if o.1 = 1 ∧ (num2 o.2 < 128 ∨ 1500 < num2 o.2) then some (1, beL 1400 2) else if o.1 = 5 ∧ (num4 o.2 = 0 ∨ num4 o.2 = own) then some (5, beL draw 4) else none
def judgeStep (own draw : Int) (a : List Opt × List Opt × List Int) (o : Opt) : List Opt × List Opt × List Int :=
  if sizeT o.1 ≠ (o.2.length : Int) ∨ o.1 ∈ a.2.2 then (a.1 ++ [o], a.2.1, a.2.2)
  else (a.1, a.2.1 ++ (betterO o own draw).toList, o.1 :: a.2.2)
def judgeF (own draw : Int) (l : List Opt) : List Opt × List Opt × List Int := l.foldl (judgeStep own draw) ([], [], [])
def judgeL (l : List Opt) (own draw : Int) : Int × List Opt :=
  let a := judgeF own draw l
  if a.1 ≠ [] then (4, a.1) else if a.2.1 ≠ [] then (3, a.2.1) else (2, l)
def nakStep (w : Want) (o : Opt) : Want :=
  if o.1 = 1 ∧ o.2.length = 2 ∧ w.mru ≠ 0 ∧ 128 ≤ num2 o.2 ∧ num2 o.2 ≤ 1500 then { w with mru := num2 o.2 }
  else if o.1 = 5 ∧ o.2.length = 4 ∧ w.magic ≠ 0 ∧ num4 o.2 ≠ 0 then { w with magic := num4 o.2 } else w
def nakedL (w : Want) (l : List Opt) : Want := l.foldl nakStep w
def madeD (k : Int) : Int :=
  let x := k * 2654435761 % 4294967296
  let y := ibit .xor .u32 x (x / 32768)
  let z := y * 2246822507 % 4294967296
  ibit .xor .u32 z (z / 8192)
structure Lr where
  w : Want
  g : Want
  ds : List Int
  k : Int
  guard : Int
def Lr.next (r : Lr) : Lr × Int := match r.ds with
  | [] => ({ r with k := (r.k + 1) % 4294967296 }, madeD ((r.k + 1) % 4294967296))
  | x :: l => ({ r with ds := l, k := (r.k + 1) % 4294967296 }, x)
def Lr.draw (r : Lr) : Lr × Int := if r.next.2 ≠ 0 then r.next else if r.next.1.next.2 ≠ 0 then r.next.1.next else (r.next.1.next.1, 1)
def theirN (l : List Opt) : Int := match findO l 5 with
  | some d => num4 d
  | none => 0
def Lr.see (r : Lr) (own x : Int) : Lr := { r with guard := if own ≠ 0 ∧ own = x then r.guard + 1 else 0 }
def Lr.judge (r : Lr) (l : List Opt) : Lr × Int × List Opt :=
  let d := if (r.w.magic ≠ 0 ∧ r.w.magic = theirN l) ∨ theirN l = 0 then (r.see r.w.magic (theirN l)).draw else (r.see r.w.magic (theirN l), 0)
  (d.1, judgeL l r.w.magic d.2)
def Lr.naked (r : Lr) (l : List Opt) : Lr :=
  match findO l 5 with
  | none => { r with w := nakedL r.w l }
  | some d =>
    let r1 := Lr.see { r with w := nakedL r.w l } r.w.magic (num4 d)
    if r.w.magic ≠ 0 ∧ r.w.magic = num4 d then { r1.draw.1 with w := { r1.draw.1.w with magic := r1.draw.2 } } else r1
end
section
open Go
structure AW where
  a : Int
  d1 : Int
  d2 : Int
  deriving DecidableEq
def AW.cells (w : AW) : List V := [.sc (.int .u32 w.a), .sc (.int .u32 w.d1), .sc (.int .u32 w.d2)]
structure AW.Good (w : AW) : Prop where
  a0 : 0 ≤ w.a
  a1 : w.a < 4294967296
  b0 : 0 ≤ w.d1
  b1 : w.d1 < 4294967296
  c0 : 0 ≤ w.d2
  c1 : w.d2 < 4294967296
def AW.zero : AW := ⟨0, 0, 0⟩
def AW.of (w : AW) (t : Int) : Int := if t = 3 then w.a else if t = 129 then w.d1 else if t = 131 then w.d2 else 0
theorem AW.of_rng {w : AW} (h : w.Good) (t : Int) : 0 ≤ w.of t ∧ w.of t < 4294967296 := by
  obtain ⟨h1, h2, h3, h4, h5, h6⟩ := h
  unfold AW.of
  split
  · omega
  split
  · omega
  split <;> omega
def oneA (t x : Int) : Opt := (t, beL x 4)
def optsA (w : AW) : List Opt := (if w.a ≠ 0 then [oneA 3 w.a] else []) ++ (if w.d1 ≠ 0 then [oneA 129 w.d1] else []) ++ (if w.d2 ≠ 0 then [oneA 131 w.d2] else [])
theorem optsA_len (w : AW) : (optsA w).length ≤ 3 := by
  unfold optsA
  simp only [List.length_append]
  have e : ∀ (c : Prop) [Decidable c] (x : Opt), (if c then [x] else []).length ≤ 1 := fun c _ x => by split <;> simp
  have h1 := e (w.a ≠ 0) (oneA 3 w.a)
  have h2 := e (w.d1 ≠ 0) (oneA 129 w.d1)
  have h3 := e (w.d2 ≠ 0) (oneA 131 w.d2)
  omega
theorem oneA_good {t x : Int} (h0 : 0 ≤ t) (h1 : t < 256) : GoodO [oneA t x] := .one h0 h1 (beL_isB _ _) (by simp only [oneA, beL_len]; omega)
theorem optsA_good (w : AW) : GoodO (optsA w) := by
  have e : ∀ (c : Prop) [Decidable c] (t x : Int), 0 ≤ t → t < 256 → GoodO (if c then [oneA t x] else []) := fun c _ t x h1 h2 => by
    split
    · exact oneA_good h1 h2
    · exact .nil
  exact ((e _ 3 w.a (by decide) (by decide)).append (e _ 129 w.d1 (by decide) (by decide))).append (e _ 131 w.d2 (by decide) (by decide))
def stepA (g : AW) (a : List Opt × List Opt × List Int) (o : Opt) : List Opt × List Opt × List Int :=
  if g.of o.1 = 0 ∨ o.2.length ≠ 4 ∨ o.1 ∈ a.2.2 then (a.1 ++ [o], a.2.1, a.2.2)
  else (a.1, a.2.1 ++ (if num4 o.2 ≠ g.of o.1 then [oneA o.1 (g.of o.1)] else []), o.1 :: a.2.2)
def foldA (g : AW) (l : List Opt) : List Opt × List Opt × List Int := l.foldl (stepA g) ([], [], [])
def nakA (g : AW) (a : List Opt × List Opt × List Int) : List Opt := if 3 ∈ a.2.2 then a.2.1 else a.2.1 ++ [oneA 3 g.a]
def judgeA (l : List Opt) (g : AW) : Int × List Opt :=
  if (foldA g l).1 ≠ [] then (4, (foldA g l).1) else if nakA g (foldA g l) ≠ [] then (3, nakA g (foldA g l)) else (2, l)
def ofStepA (w : AW) (o : Opt) : AW :=
  if o.2.length ≠ 4 then w else if o.1 = 3 then { w with a := num4 o.2 } else if o.1 = 129 then { w with d1 := num4 o.2 } else if o.1 = 131 then { w with d2 := num4 o.2 } else w
def ofA (l : List Opt) : AW := l.foldl ofStepA .zero
theorem foldA_good {g : AW} : ∀ {l : List Opt} {a : List Opt × List Opt × List Int}, GoodO l → GoodO a.1 → GoodO a.2.1 → GoodO (l.foldl (stepA g) a).1 ∧ GoodO (l.foldl (stepA g) a).2.1
  | [], a, _, h1, h2 => ⟨h1, h2⟩
  | o :: l, a, hl, h1, h2 => by
    have ho := hl o (by simp)
    refine foldA_good (l := l) (fun x hx => hl x (by simp [hx])) ?_ ?_
    · unfold stepA
      split
      · exact h1.append (.one ho.1 ho.2.1 ho.2.2.1 ho.2.2.2)
      · exact h1
    · unfold stepA
      split
      · exact h2
      · refine h2.append ?_
        split
        · exact oneA_good ho.1 ho.2.1
        · exact .nil
theorem foldA_len {g : AW} : ∀ {l : List Opt} {a : List Opt × List Opt × List Int}, (l.foldl (stepA g) a).1.length ≤ a.1.length + l.length ∧ (l.foldl (stepA g) a).2.1.length ≤ a.2.1.length + l.length
  | [], a => by simp
  | o :: l, a => by
    have h := foldA_len (g := g) (l := l) (a := stepA g a o)
    have h1 : (stepA g a o).1.length ≤ a.1.length + 1 ∧ (stepA g a o).2.1.length ≤ a.2.1.length + 1 := by
      unfold stepA
      split
      · simp
      · simp only [List.length_append]
        split <;> simp
    simp only [List.foldl_cons, List.length_cons]
    omega
theorem AW.of_ne {g : AW} {t : Int} (h : g.of t ≠ 0) : t = 3 ∨ t = 129 ∨ t = 131 := by
  unfold AW.of at h
  split at h
  · exact .inl (by assumption)
  split at h
  · exact .inr (.inl (by assumption))
  split at h
  · exact .inr (.inr (by assumption))
  · exact absurd rfl h
def seen3 (l : List Int) : Nat := (if 3 ∈ l then 1 else 0) + (if 129 ∈ l then 1 else 0) + (if 131 ∈ l then 1 else 0)
theorem stepA_nak {g : AW} {a : List Opt × List Opt × List Int} {o : Opt} (h : a.2.1.length ≤ seen3 a.2.2) : (stepA g a o).2.1.length ≤ seen3 (stepA g a o).2.2 := by
  unfold stepA
  split
  · exact h
  · rename_i c
    simp only [not_or] at c
    obtain ⟨c1, _, c2⟩ := c
    have hl : ∀ (p : Prop) [Decidable p] (x : Opt), (if p then [x] else []).length ≤ 1 := fun p _ x => by split <;> simp
    have h1 := hl (num4 o.2 ≠ g.of o.1) (oneA o.1 (g.of o.1))
    simp only [List.length_append]
    refine Nat.le_trans (Nat.add_le_add h h1) ?_
    unfold seen3
    rcases AW.of_ne c1 with e | e | e
    · rw [e] at c2 ⊢; simp [c2]; omega
    · rw [e] at c2 ⊢; simp [c2]; omega
    · rw [e] at c2 ⊢; simp [c2]
theorem foldA_nak {g : AW} : ∀ {l : List Opt} {a : List Opt × List Opt × List Int}, a.2.1.length ≤ seen3 a.2.2 → (l.foldl (stepA g) a).2.1.length ≤ seen3 (l.foldl (stepA g) a).2.2
  | [], _, h => h
  | o :: l, a, h => foldA_nak (l := l) (stepA_nak h)
theorem seen3_le (l : List Int) : seen3 l ≤ 3 := by
  unfold seen3
  split <;> split <;> split <;> omega
theorem nakA_good {g : AW} {l : List Opt} (h : GoodO l) : GoodO (nakA g (foldA g l)) ∧ (nakA g (foldA g l)).length ≤ 4 := by
  have hg := foldA_good (g := g) (a := ([], [], [])) h .nil .nil
  have hn := foldA_nak (g := g) (l := l) (a := ([], [], [])) (Nat.zero_le _)
  have h3 := seen3_le (foldA g l).2.2
  unfold foldA at *
  unfold nakA
  split
  · exact ⟨hg.2, by omega⟩
  · exact ⟨hg.2.append (oneA_good (by decide) (by decide)), by simp only [List.length_append, List.length_cons, List.length_nil]; omega⟩
theorem judgeA_good {g : AW} {l : List Opt} (h : GoodO l) (hl : l.length ≤ 1000000) : 0 ≤ (judgeA l g).1 ∧ (judgeA l g).1 < 256 ∧ GoodO (judgeA l g).2 ∧ (judgeA l g).2.length ≤ 1000000 := by
  have hg := foldA_good (g := g) (a := ([], [], [])) h .nil .nil
  have hn := foldA_len (g := g) (l := l) (a := ([], [], []))
  have hk := nakA_good (g := g) h
  simp only [List.length_nil, Nat.zero_add] at hn
  unfold judgeA
  generalize nakA g (foldA g l) = K at hk
  unfold foldA
  split
  · exact ⟨by show (0 : Int) ≤ 4; decide, by show (4 : Int) < 256; decide, hg.1, by have := hn.1; simp only; omega⟩
  split
  · exact ⟨by show (0 : Int) ≤ 3; decide, by show (3 : Int) < 256; decide, hk.1, by have := hk.2; simp only; omega⟩
  · exact ⟨by show (0 : Int) ≤ 2; decide, by show (2 : Int) < 256; decide, h, hl⟩
theorem seenA_fold {g : AW} {t : Int} (ht : g.of t ≠ 0) : ∀ {m : List Opt} {a : List Opt × List Opt × List Int}, t ∈ (m.foldl (stepA g) a).2.2 ↔ t ∈ a.2.2 ∨ ∃ x ∈ m, x.1 = t ∧ x.2.length = 4
  | [], a => by simp
  | o :: m, a => by
    rw [List.foldl_cons, seenA_fold ht]
    have h : t ∈ (stepA g a o).2.2 ↔ t ∈ a.2.2 ∨ o.1 = t ∧ o.2.length = 4 := by
      unfold stepA
      split
      · rename_i c
        refine ⟨.inl, fun h => h.elim id fun ⟨h1, h2⟩ => ?_⟩
        subst h1
        exact c.elim (fun e => absurd e ht) fun c => c.elim (fun e => absurd h2 e) id
      · rename_i c
        simp only [not_or, Decidable.not_not] at c
        simp only [List.mem_cons]
        constructor
        · rintro (rfl | h)
          · exact .inr ⟨rfl, c.2.1⟩
          · exact .inl h
        · rintro (h | ⟨h1, h2⟩)
          · exact .inr h
          · exact .inl h1.symm
    rw [h]
    clear h
    simp only [List.mem_cons]
    constructor
    · rintro ((h | h) | ⟨x, hx, h⟩)
      · exact .inl h
      · exact .inr ⟨o, .inl rfl, h⟩
      · exact .inr ⟨x, .inr hx, h⟩
    · rintro (h | ⟨x, hx | hx, h⟩)
      · exact .inl (.inl h)
      · subst hx; exact .inl (.inr h)
      · exact .inr ⟨x, hx, h⟩
structure Ir where
  mine : AW
  give : AW
  got : AW
def ipU : Rul Ir where
  request r := optsA r.mine
  judge r l := (r, judgeA l r.give)
  agreed r l := { r with got := ofA l }
  naked r _ := r
  rejected r l := ({ r with mine := { r.mine with a := if (findO l 3).isSome = true then 0 else r.mine.a } }, true)
def ipNew (me : Int) (give : AW) : Neg Ir := ⟨0, 0, 0, 0, [], 0, ⟨⟨me, 0, 0⟩, give, .zero⟩⟩
end
section
open Go
section
variable {tk : Tk} {L : List Int} {st : St} {b at_ : Nat} {bad : Bool}
theorem Get16_v (hB : IsB L) : VCalls Tryz.prog 88 [.sl tk (bs L)] st fun r st' => r = .sc (.int .u16 (if L.length < 2 then 0 else numL (L.take 2))) ∧ st = st' := by
  refine vcalls_enter vc88 (Nat.le_of_ble_eq_true rfl) fun hwf hok => ?_
  show Run _ Vc88.body (.fin (finQ Vc88.res _)) _ _
  unfold Vc88 zo
  simp (config := {maxSteps := 3000000}) (disch := ((fail_if_success refine selfNe ?_); omega)) only [go_sem, ↓reduceIte, bs_len]
  refine If.dec (fun h => ?_) (fun h => ?_)
  · simp (config := {maxSteps := 3000000}) (disch := ((fail_if_success refine selfNe ?_); omega)) only [go_sem, ↓reduceIte]
    exact ⟨_, _, Wk.refl _, hwf.weak, by rw [if_pos (by omega)], rfl⟩
  · obtain ⟨a, h0⟩ := get_ex (L := L) (i := 0) (by omega)
    obtain ⟨b, h1⟩ := get_ex (L := L) (i := 1) (by omega)
    have b0 := hB.get h0
    have b1 := hB.get h1
    have hn : numL (L.take 2) = 256 * a + b := by
      match L, h with
      | x :: y :: L, _ => simp at h0 h1; subst h0 h1; simp [numL]
    simp (config := {maxSteps := 3000000}) (disch := ((fail_if_success refine selfNe ?_); omega)) only [go_sem, ↓reduceIte, bs_get, h0, h1, emod_small, ibit_or, u16_join]
    exact ⟨_, _, Wk.refl _, hwf.weak, by rw [if_neg (by omega), hn], rfl⟩
theorem Own.nil {size : Nat} {st : St} : Own size st (.sl .nil []) [] := .inl ⟨rfl, rfl⟩
theorem Own.sl {size : Nat} {st : St} {v : V} {l : List V} (h : Own size st v l) : ∃ tk, v = .sl tk l := by
  rcases h with ⟨rfl, rfl⟩ | ⟨g, rfl, _⟩
  · exact ⟨_, rfl⟩
  · exact ⟨_, rfl⟩
theorem Put16_v {x : V} {n : Int} (hown : Own 1 st x (bs L)) (hl : L.length ≤ 1000000000000) (h0 : 0 ≤ n) (h1 : n < 65536) : VCalls Tryz.prog 128 [x, .sc (.int .u16 n)] st fun r st' => Own 1 st' r (bs (L ++ beL n 2)) ∧ AppSt st x st' r := by
  refine vcalls_enter vc128 (Nat.le_of_ble_eq_true rfl) fun hwf hok => ?_
  show Run _ Vc128.body (.fin (finQ Vc128.res _)) _ _
  unfold Vc128 zo
  simp (config := {maxSteps := 3000000}) (disch := ((fail_if_success refine selfNe ?_); omega)) only [go_sem, ↓reduceIte]
  refine App.mk hown (by simp [allSz, V.cells]) (by rw [bs_len]; unfold maxLen; simp; omega) (by rw [bs_len]; simp; omega) ?_
  intro r st' k1 k2
  simp (config := {maxSteps := 3000000}) (disch := ((fail_if_success refine selfNe ?_); omega)) only [go_sem, ↓reduceIte]
  refine ⟨_, _, Wk.refl _, k2.weak hwf, ?_, k2⟩
  rw [← bs_append]
  have e : beL n 2 = [n / 256 % 256, n % 256] := by simp [beL]
  rw [e]; exact k1
theorem Put32_v {x : V} {n : Int} (hown : Own 1 st x (bs L)) (hl : L.length ≤ 1000000000000) (h0 : 0 ≤ n) (h1 : n < 4294967296) : VCalls Tryz.prog 46 [x, .sc (.int .u32 n)] st fun r st' => Own 1 st' r (bs (L ++ beL n 4)) ∧ AppSt st x st' r := by
  refine vcalls_enter vc46 (Nat.le_of_ble_eq_true rfl) fun hwf hok => ?_
  show Run _ Vc46.body (.fin (finQ Vc46.res _)) _ _
  unfold Vc46 zo
  simp (config := {maxSteps := 3000000}) (disch := ((fail_if_success refine selfNe ?_); omega)) only [go_sem, ↓reduceIte]
  refine App.mk hown (by simp [allSz, V.cells]) (by rw [bs_len]; unfold maxLen; simp; omega) (by rw [bs_len]; simp; omega) ?_
  intro r st' k1 k2
  simp (config := {maxSteps := 3000000}) (disch := ((fail_if_success refine selfNe ?_); omega)) only [go_sem, ↓reduceIte]
  refine ⟨_, _, Wk.refl _, k2.weak hwf, ?_, k2⟩
  rw [← bs_append]
  have e : beL n 4 = [n / 16777216 % 256, n / 65536 % 256, n / 256 % 256, n % 256] := by simp [beL]
  rw [e]; exact k1
end
end
section
open Go
theorem opts_at {l : List Opt} {i : Nat} {o : Opt} (h : l[i]? = some o) : (opts l)[i]? = some (.agg [.sc (.int .u8 o.1), .sl .no (bs o.2)]) := by simp [opts, h, optV]
theorem take_snoc {α : Type} {l : List α} {i : Nat} {o : α} (h : l[i]? = some o) : l.take (i + 1) = l.take i ++ [o] := by
  rw [List.take_add_one, h]; rfl
theorem buildO_snoc {l : List Opt} {i : Nat} {o : Opt} (h : l[i]? = some o) : buildO (l.take (i + 1)) = buildO (l.take i) ++ [o.1, ((o.2.take 253).length : Int) + 2] ++ o.2.take 253 := by
  rw [take_snoc h, buildO_append]
  simp [buildO, oneO]
section
variable {st : St} {tk : Tk} {l : List Opt}
set_option maxRecDepth 100000 in
set_option maxHeartbeats 4000000 in
theorem optBuild_v (hG : GoodO l) (hl : l.length ≤ 1000000000) : VCalls Tryz.prog 118 [.sl tk (opts l)] st fun r s => r = .sl .no (bs (buildO l)) ∧ st = s := by
  refine vcalls_enter vc118 (Nat.le_of_ble_eq_true rfl) fun hwf hok => ?_
  show Run _ Vc118.body (.fin (finQ Vc118.res _)) _ _
  unfold Vc118 zn zo
  simp (maxSteps := 3000000) only [go_sem, ↓reduceIte]
  refine run_loop [3, 5, 6, 9, 10, 11, 12, 13, 14, 15, 16, 17, 18, 19, 20, 21, 22, 23, 24, 25, 26, 27, 28, 29, 30, 31] (fun B s => ∃ (i : Nat) (v : V), i ≤ l.length ∧ B 9 = .sc (.int .i64 i) ∧ B 3 = v ∧ RO 1 st s v (bs (buildO (l.take i)))) (fun B _ => l.length - vnat (B 9)) rfl ?_ ?_
  · exact ⟨0, .sl .nil [], by omega, rfl, rfl, RO.nil hwf.weak hwf.lt⟩
  · rintro B s ⟨i, v, hi, h9, h3, R⟩
    by_cases c1 : i < l.length
    · obtain ⟨o, ho⟩ := get_ex c1
      obtain ⟨g1, g2, g3, g4⟩ := hG.get ho
      have hsn := buildO_snoc ho
      have hbl := buildO_len (l.take i)
      have hbl2 : (l.take i).length ≤ l.length := by simp only [List.length_take]; omega
      obtain ⟨k, hk⟩ : ∃ k, (o.2.take 253).length = k := ⟨_, rfl⟩
      have hkl : k ≤ 253 ∧ k ≤ o.2.length := by rw [← hk]; simp only [List.length_take]; omega
      have hmin : min (o.2.length : Int) 253 = (k : Int) := by rw [← hk]; simp only [List.length_take]; omega
      have htk : o.2.take k = o.2.take 253 := by
        rw [← hk]
        rcases Nat.lt_or_ge o.2.length 253 with h | h
        · rw [List.take_of_length_le (Nat.le_of_lt h), List.take_length]
        · rw [show (o.2.take 253).length = 253 by simp only [List.length_take]; omega]
      rw [hk] at hsn
      obtain ⟨tv, hv⟩ := R.sl
      rw [hv] at h3 R
      have he : ((k : Int) + 2) % 256 = (k : Int) + 2 := by omega
      simp (maxSteps := 3000000) only [go_sem, ↓reduceIte, h9, h3, opts_len, opts_at ho, decide_eq_true (show (i : Int) < (l.length : Int) by omega), bs_len, hmin, bs_take, htk, hk, he]
      repeat (apply And.intro; focus (first | omega | (simp; done)))
      intro b hb
      have sb : st.sz ≤ b := by have := R.weak.sz; omega
      have R1 := R.put (c := b) (cs := [.sc (.int .u8 o.1), .sl .no (bs o.2)]) sb
      generalize s.put b [.sc (.int .u8 o.1), .sl .no (bs o.2)] = s1 at R1 ⊢
      refine ⟨⟨allSz_bs _, by omega, by omega⟩, ⟨by omega, by omega⟩, ?_⟩
      refine App.mk (bytes := 1) (ys := bs [o.1, (k : Int) + 2]) R1.own (allSz_bs _) (by simp only [bs_len, List.length_cons, List.length_nil]; unfold maxLen; omega) (by simp only [bs_len, List.length_cons, List.length_nil]; omega) ?_
      intro r2 s2 k1 k2
      have R2 := R1.app k1 k2
      rw [bs_append] at R2
      obtain ⟨t2, rfl⟩ := R2.sl
      simp (maxSteps := 3000000) only [go_sem, ↓reduceIte]
      refine App.mk (bytes := 1) (ys := bs (o.2.take 253)) R2.own (allSz_bs _) (by simp only [bs_len, hk, List.length_append, List.length_cons, List.length_nil]; unfold maxLen; omega) (by simp only [bs_len, hk, List.length_append, List.length_cons, List.length_nil]; omega) ?_
      intro r3 s3 k3 k4
      have R3 := R2.app k3 k4
      rw [bs_append, ← hsn] at R3
      simp (maxSteps := 3000000) only [go_sem, ↓reduceIte, h9]
      repeat (apply And.intro; focus (first | omega | (simp; done)))
      exact ⟨⟨i + 1, _, by omega, by simp, rfl, R3⟩, by omega⟩
    · obtain rfl : i = l.length := by omega
      rw [List.take_length] at R
      obtain ⟨tv, rfl⟩ := R.sl
      simp (maxSteps := 3000000) only [go_sem, ↓reduceIte, h9, h3, opts_len]
      exact ⟨_, _, Wk.no, R.weak, rfl, rfl⟩
set_option maxRecDepth 100000 in
set_option maxHeartbeats 4000000 in
theorem optParse_v {L : List Int} (hB : IsB L) (hl : L.length ≤ 1000000) : VCalls Tryz.prog 105 [.sl tk (bs L)] st fun r s => r = .tup [.sl .no (opts (parseO L).1), .sc (.int .i64 (parseO L).2)] ∧ st = s := by
  refine vcalls_enter vc105 (Nat.le_of_ble_eq_true rfl) fun hwf hok => ?_
  show Run _ Vc105.body (.fin (finQ Vc105.res _)) _ _
  unfold Vc105 zo
  simp (maxSteps := 3000000) only [go_sem]
  refine run_loop [0, 2, 3, 4, 5, 6, 7, 8, 9, 10, 11, 12, 13, 14, 15, 16, 17, 18, 19, 20, 21, 22, 23, 24, 25, 26, 27, 28, 29, 30, 31, 32, 33, 34, 35, 36, 37, 38, 39, 40, 41, 42, 43] (fun B s => ∃ (k : Nat) (M : List Int) (out : List Opt) (v : V) (t2 : Tk), parseO L = parseF k M out ∧ M.length ≤ k ∧ out.length + M.length ≤ L.length ∧ IsB M ∧ B 0 = .sl t2 (bs M) ∧ B 4 = v ∧ RO 2 st s v (opts out)) (fun B _ => match B 0 with | .sl _ l => l.length | _ => 0) rfl ?_ ?_
  · exact ⟨L.length, L, [], .sl .nil [], tk, rfl, Nat.le_refl _, by simp, hB, rfl, rfl, RO.nil hwf.weak hwf.lt⟩
  · rintro B s ⟨k, M, out, v, t2, hp, hMk, hlen, hBM, h0, h4, R⟩
    obtain ⟨tv, rfl⟩ := R.sl
    match M, k, hp, hMk, hlen, hBM, h0 with
    | [], k, hp, hMk, hlen, hBM, h0 =>
      rw [parseF_nil] at hp
      simp (maxSteps := 3000000) only [go_sem, ↓reduceIte, h0, h4, bs_len, List.length_nil, decide_eq_false (show ¬ (0 : Int) < ((0 : Nat) : Int) by decide)]
      rw [hp]
      exact ⟨_, _, Wk.tupT Wk.no, R.weak, rfl, rfl⟩
    | [x], 0, hp, hMk, hlen, hBM, h0 => exact absurd hMk (by simp)
    | [x], k + 1, hp, hMk, hlen, hBM, h0 =>
      have hp' : parseO L = ([], 10) := hp
      have l1 : (bs [x]).length = 1 := rfl
      simp (maxSteps := 3000000) only [go_sem, ↓reduceIte, h0, l1, decide_eq_true (show (0 : Int) < ((1 : Nat) : Int) by decide), decide_eq_true (show ((1 : Nat) : Int) < 2 by decide)]
      rw [hp']
      exact ⟨_, _, Wk.tupT Wk.no, R.weak, rfl, rfl⟩
    | t :: n :: M, 0, hp, hMk, hlen, hBM, h0 => exact absurd hMk (by simp)
    | t :: n :: M, k + 1, hp, hMk, hlen, hBM, h0 =>
      obtain ⟨t0, t1⟩ := hBM.cons'
      obtain ⟨n0, n1⟩ := hBM.tail'.cons'
      have hBM2 := hBM.tail'.tail'
      have g0 : (bs (t :: n :: M))[0]? = some (.sc (.int .u8 t)) := rfl
      have g1 : (bs (t :: n :: M))[1]? = some (.sc (.int .u8 n)) := rfl
      simp only [List.length_cons] at hMk hlen
      by_cases c1 : n < 2
      · have hp' : parseO L = ([], 11) := by rw [hp, parseF, if_pos c1]
        simp (maxSteps := 3000000) only [go_sem, ↓reduceIte, h0, bs_len, List.length_cons, g1, decide_eq_true (show (0 : Int) < ((M.length + 1 + 1 : Nat) : Int) by omega), decide_eq_false (show ¬ ((M.length + 1 + 1 : Nat) : Int) < 2 by omega), decide_eq_true c1]
        rw [hp']
        exact ⟨_, _, Wk.tupT Wk.no, R.weak, rfl, rfl⟩
      by_cases c2 : (M.length : Int) + 2 < n
      · have hp' : parseO L = ([], 10) := by rw [hp, parseF, if_neg c1, if_pos c2]
        simp (maxSteps := 3000000) only [go_sem, ↓reduceIte, h0, bs_len, List.length_cons, g1, decide_eq_true (show (0 : Int) < ((M.length + 1 + 1 : Nat) : Int) by omega), decide_eq_false (show ¬ ((M.length + 1 + 1 : Nat) : Int) < 2 by omega), decide_eq_false c1, decide_eq_true (show ((M.length + 1 + 1 : Nat) : Int) < n by omega)]
        repeat (apply And.intro; focus (first | omega | (simp; done)))
        rw [hp']
        exact ⟨_, _, Wk.tupT Wk.no, R.weak, rfl, rfl⟩
      have hp' : parseO L = parseF k (M.drop (n - 2).toNat) (out ++ [(t, M.take (n - 2).toNat)]) := by rw [hp, parseF, if_neg c1, if_neg c2]
      obtain ⟨q, hq⟩ : ∃ q : Nat, (n - 2).toNat = q := ⟨_, rfl⟩
      have hnq : n = ((q + 2 : Nat) : Int) := by omega
      rw [hq] at hp'
      have e1 : ((bs (t :: n :: M)).take (q + 2)).drop 2 = bs (M.take q) := by rw [bs_take, bs_drop]; rfl
      have e2 : (bs (t :: n :: M)).drop (q + 2) = bs (M.drop q) := by rw [bs_drop]; rfl
      have hqM : q ≤ M.length := by omega
      clear hq
      subst hnq
      simp (maxSteps := 3000000) only [go_sem, ↓reduceIte, h0, h4, bs_len, List.length_cons, g0, g1, decide_eq_true (show (0 : Int) < ((M.length + 1 + 1 : Nat) : Int) by omega), decide_eq_false (show ¬ ((M.length + 1 + 1 : Nat) : Int) < 2 by omega), decide_eq_false c1, decide_eq_false (show ¬ ((M.length + 1 + 1 : Nat) : Int) < ((q + 2 : Nat) : Int) by omega), e1]
      refine ⟨⟨by omega, by omega⟩, ⟨by omega, by omega⟩, ⟨allSz_bs _, by omega, by omega⟩, ?_⟩
      have htq : (M.take q).length ≤ M.length := by simp only [List.length_take]; omega
      refine App.mk (bytes := 1) (l := []) (ys := bs (M.take q)) own_nil (allSz_bs _) (by simp only [bs_len, List.length_nil]; unfold maxLen; omega) (by simp only [bs_len, List.length_nil]; omega) ?_
      intro r2 s2 k1 k2
      have N2 : RO 1 st.bare s2 r2 (bs (M.take q)) := (RO.nil (bare_weak (by have := R.weak.sz; exact this)) R.lt).app k1 k2
      have R2 : RO 2 st s2 (.sl tv (opts out)) (opts out) := R.beside k2 noOwn
      obtain ⟨t3, rfl⟩ := N2.sl
      simp (maxSteps := 3000000) only [go_sem, ↓reduceIte]
      refine App.mk (bytes := 32) (l := opts out) (ys := opts [(t, M.take q)]) R2.own (allSz_opts _) (by simp only [opts_len, List.length_cons, List.length_nil]; unfold maxLen; omega) (by simp only [opts_len, List.length_cons, List.length_nil]; omega) ?_
      intro r4 s4 k3 k4
      have R4 := R2.app k3 k4
      rw [opts_append] at R4
      simp (maxSteps := 3000000) only [go_sem, ↓reduceIte, h0, e2]
      refine ⟨⟨allSz_bs _, by omega, by rw [bs_len]; simp only [List.length_cons]; omega⟩, ?_⟩
      refine ⟨⟨k, M.drop q, out ++ [(t, M.take q)], _, _, hp', by simp only [List.length_drop]; omega, by simp only [List.length_append, List.length_cons, List.length_nil, List.length_drop]; omega, hBM2.drop _, rfl, rfl, R4⟩, ?_⟩
      simp only [bs_len, List.length_drop]
      omega
set_option maxRecDepth 100000 in
set_option maxHeartbeats 4000000 in
theorem optFind_v {t : Int} (hl : l.length ≤ 1000000) (hG : GoodO l) : VCalls Tryz.prog 136 [.sl tk (opts l), .sc (.int .u8 t)] st fun r s =>
    r = .tup [.agg [.sc (.int .u8 (if (findO l t).isSome = true then t else 0)), .sl .no (bs ((findO l t).getD []))], .sc (.bool (findO l t).isSome)] ∧ st = s := by
  refine vcalls_enter vc136 (Nat.le_of_ble_eq_true rfl) fun hwf hok => ?_
  show Run _ Vc136.body (.fin (finQ Vc136.res _)) _ _
  unfold Vc136 zn zo
  have hlt := hwf.lt
  simp (maxSteps := 3000000) only [go_sem, ↓reduceIte]
  intro f hf
  have W0 : st.weak (st.put f [.sc (.int .u8 0), .sl .nil []]) := weak_put hwf.weak hf
  have B0 : (st.put f [.sc (.int .u8 0), .sl .nil []]).box f = some [.sc (.int .u8 0), .sl .nil []] := put_box_same
  have L0 : (st.put f [.sc (.int .u8 0), .sl .nil []]).Lt := hlt.put
  generalize st.put f [.sc (.int .u8 0), .sl .nil []] = s0 at W0 B0 L0 ⊢
  refine run_loop [5, 7, 10, 11, 12, 13, 14, 15, 16, 17, 18, 19, 20, 21, 22, 23, 24] (fun B s => ∃ (i : Nat), i ≤ l.length ∧ B 10 = .sc (.int .i64 i) ∧ findO l t = findO (l.drop i) t ∧ s0.weak s ∧ s.Lt) (fun B _ => l.length - vnat (B 10)) rfl ?_ ?_
  · exact ⟨0, by omega, rfl, rfl, L0.weak, L0⟩
  · rintro B s ⟨i, hi, h10, hfi, W, L⟩
    have hbf := (W.box f _ B0).1
    by_cases c1 : i < l.length
    · obtain ⟨o, ho⟩ := get_ex c1
      obtain ⟨g1, g2, g3, g4⟩ := hG.get ho
      have hd : l.drop i = o :: l.drop (i + 1) := by
        obtain ⟨h, rfl⟩ := List.getElem?_eq_some_iff.1 ho
        exact List.drop_eq_getElem_cons h
      rw [hd] at hfi
      by_cases c2 : o.1 = t
      · have hfo : findO l t = some o.2 := by rw [hfi]; simp [findO, c2]
        simp (maxSteps := 3000000) only [go_sem, ↓reduceIte, h10, opts_len, opts_at ho, decide_eq_true (show (i : Int) < (l.length : Int) by omega), decide_eq_true c2]
        repeat (apply And.intro; focus (first | omega | (simp; done)))
        intro b hb
        have bf : f ≠ b := by have := (W.box f _ B0).2; have := W.sz; omega
        have sb : s0.sz ≤ b := by have := W.sz; omega
        refine App.mk (bytes := 1) (l := []) (ys := bs o.2) own_nil (allSz_bs _) (by simp only [bs_len, List.length_nil]; unfold maxLen; omega) (by simp only [bs_len, List.length_nil]; omega) ?_
        intro r2 s2 k1 k2
        have N2 : RO 1 st.bare s2 r2 (bs o.2) := (RO.nil (bare_weak (by have := W0.sz; have := W.sz; simp only [put_sz]; omega)) L.put).app k1 k2
        obtain ⟨t3, rfl⟩ := N2.sl
        have W2 : s0.weak s2 := app_keeps k2 (weak_put W sb) (fun g k l e => by cases e)
        have B2 := (W2.box f _ B0).1
        have bl : f < s0.sz := (W2.box f _ B0).2
        have Bb : s2.box b = some [.sc (.int .u8 t), .sl .no (bs o.2)] := by rw [k2.box, put_box_same, c2]
        simp (maxSteps := 3000000) only [go_sem, ↓reduceIte, B2, Bb]
        refine ⟨by rw [c2], _, _, Wk.tup (.cons (.agg (.cons (.refl _) (.cons .no .nil))) (.cons (.refl _) .nil)), weak_put (weak_tr W0 W2) hf, ?_, rfl⟩
        rw [hfo, c2]; rfl
      · have hfo : findO l t = findO (l.drop (i + 1)) t := by rw [hfi]; simp [findO, c2]
        simp (maxSteps := 3000000) only [go_sem, ↓reduceIte, h10, opts_len, opts_at ho, decide_eq_true (show (i : Int) < (l.length : Int) by omega), decide_eq_false c2]
        repeat (apply And.intro; focus (first | omega | (simp; done)))
        intro b hb
        have sb : s0.sz ≤ b := by have := W.sz; omega
        repeat (apply And.intro; focus (first | omega | (simp; done)))
        exact ⟨⟨i + 1, by omega, by simp, hfo, weak_put W sb, L.put⟩, by omega⟩
    · obtain rfl : i = l.length := by omega
      have hfo : findO l t = none := by rw [hfi, List.drop_length]; rfl
      have self : s.put f [.sc (.int .u8 0), .sl .nil []] = s := put_selfR hbf (L.box f _ hbf)
      simp (maxSteps := 3000000) only [go_sem, ↓reduceIte, h10, opts_len, hbf]
      refine ⟨_, _, Wk.tup (.cons (.agg (.cons (.refl _) (.cons .no .nil))) (.cons (.refl _) .nil)), ?_, ?_, rfl⟩
      · rw [self]; exact weak_tr W0 W
      · rw [hfo]; rfl
section
variable {p : Ctl} {most : Nat} {id : Int}
set_option maxRecDepth 100000 in
theorem cpBuild_v (hG : p.Good) : VCalls Tryz.prog 119 [p.v tk] st fun r s => r = .sl .no (bs (buildC p)) ∧ st = s := by
  obtain ⟨c, i, D⟩ := p
  obtain ⟨g1, g2, g3, g4, g5, g6⟩ := hG
  simp only at g1 g2 g3 g4 g5 g6
  show VCalls Tryz.prog 119 [.agg [.sc (.int .u8 c), .sc (.int .u8 i), .sl tk (bs D)]] st _
  refine vcalls_enter vc119 (Nat.le_of_ble_eq_true rfl) fun hwf hok => ?_
  show Run _ Vc119.body (.fin (finQ Vc119.res _)) _ _
  unfold Vc119 zo
  have hlt := hwf.lt
  obtain ⟨k, hk⟩ : ∃ k, (D.take 65531).length = k := ⟨_, rfl⟩
  have hkl : k ≤ 65531 ∧ k ≤ D.length := by rw [← hk]; simp only [List.length_take]; omega
  have hmin : min (D.length : Int) 65531 = (k : Int) := by rw [← hk]; simp only [List.length_take]; omega
  have htk : D.take k = D.take 65531 := by
    rw [← hk]
    rcases Nat.lt_or_ge D.length 65531 with h | h
    · rw [List.take_of_length_le (Nat.le_of_lt h), List.take_length]
    · rw [show (D.take 65531).length = 65531 by simp only [List.length_take]; omega]
  have he : ((k : Int) + 4) % 65536 = (k : Int) + 4 := by omega
  simp (maxSteps := 3000000) only [go_sem, ↓reduceIte, bs_len, hmin, bs_take, htk]
  intro b hb
  refine ⟨⟨allSz_bs _, by omega, by omega⟩, ?_⟩
  refine Bo.own (by simp [allLen, V.cells]) ?_
  intro g hg
  simp only [put_sz] at hg
  have R0 : RO 1 st ((st.put b [.sc (.int .u8 c), .sc (.int .u8 i), .sl tk (bs D)]).use g 2) (.sl (.own g 1) (bs [c, i])) (bs [c, i]) := RO.use (cs := bs [c, i]) (weak_put hwf.weak hb) hlt.put (by simp only [put_sz]; exact hg)
  generalize (st.put b [.sc (.int .u8 c), .sc (.int .u8 i), .sl tk (bs D)]).use g 2 = s1 at R0 ⊢
  simp (maxSteps := 3000000) only [go_sem, ↓reduceIte, bs_len, hk, he]
  refine ⟨⟨by omega, by omega⟩, ?_⟩
  refine Cal.mk (Put16_v (L := [c, i]) R0.own (by simp) (by omega) (by omega)) ?_
  rintro r2 s2 ⟨k1, k2⟩ -
  have R2 := R0.app k1 k2
  obtain ⟨t2, rfl⟩ := R2.sl
  simp (maxSteps := 3000000) only [go_sem, ↓reduceIte]
  refine App.mk (bytes := 1) (ys := bs (D.take 65531)) R2.own (allSz_bs _) (by simp only [bs_len, hk, List.length_append, List.length_cons, List.length_nil, beL_len]; unfold maxLen; omega) (by simp only [bs_len, hk, List.length_append, List.length_cons, List.length_nil, beL_len]; omega) ?_
  intro r3 s3 k3 k4
  have R3 := R2.app k3 k4
  rw [bs_append] at R3
  obtain ⟨t3, rfl⟩ := R3.sl
  simp (maxSteps := 3000000) only [go_sem, ↓reduceIte]
  refine ⟨_, _, Wk.no, R3.weak, ?_, rfl⟩
  simp only [buildC, hk]
theorem buildC_len (p : Ctl) : (buildC p).length ≤ 65535 := by
  simp only [buildC, List.length_cons, List.length_append, beL_len, List.length_take]; omega
theorem cpReject_v (hG : p.Good) : VCalls Tryz.prog 98 [.sc (.int .u8 id), p.v tk, .sc (.int .i64 1400)] st fun r s => r = (rejC id p 1400).v ∧ st = s := by
  have hG' := hG
  obtain ⟨c, i, D⟩ := p
  show VCalls Tryz.prog 98 [.sc (.int .u8 id), .agg [.sc (.int .u8 c), .sc (.int .u8 i), .sl tk (bs D)], .sc (.int .i64 1400)] st _
  refine vcalls_enter vc98 (Nat.le_of_ble_eq_true rfl) fun hwf hok => ?_
  show Run _ Vc98.body (.fin (finQ Vc98.res _)) _ _
  unfold Vc98 zn zo
  have hlt := hwf.lt
  simp (maxSteps := 3000000) only [go_sem, ↓reduceIte]
  intro b hb f hf
  have W0 : st.weak ((st.put b [.sc (.int .u8 c), .sc (.int .u8 i), .sl tk (bs D)]).put f [.sc (.int .u8 0), .sc (.int .u8 0), .sl .nil []]) := weak_put (weak_put hwf.weak hb) (by omega)
  have B0 : ((st.put b [.sc (.int .u8 c), .sc (.int .u8 i), .sl tk (bs D)]).put f [.sc (.int .u8 0), .sc (.int .u8 0), .sl .nil []]).box f = some [.sc (.int .u8 0), .sc (.int .u8 0), .sl .nil []] := put_box_same
  have bf : b ≠ f := by omega
  have hbl := buildC_len ⟨c, i, D⟩
  simp (maxSteps := 3000000) only [go_sem, ↓reduceIte, put_box_ne bf]
  refine Cal.mk (cpBuild_v (p := ⟨c, i, D⟩) (tk := tk) hG') ?_
  rintro _ _ ⟨rfl, rfl⟩ -
  have hrej : (rejC id ⟨c, i, D⟩ 1400).v = .agg [.sc (.int .u8 7), .sc (.int .u8 id), .sl .no (bs ((buildC ⟨c, i, D⟩).take 1396))] := rfl
  rw [hrej]
  generalize buildC ⟨c, i, D⟩ = X at hbl ⊢
  obtain ⟨k, hk⟩ : ∃ k, (X.take 1396).length = k := ⟨_, rfl⟩
  have hkl : k ≤ 1396 ∧ k ≤ X.length := by rw [← hk]; simp only [List.length_take]; omega
  have hmax : max (1396 : Int) 0 = 1396 := rfl
  have hmin : min (X.length : Int) 1396 = (k : Int) := by rw [← hk]; simp only [List.length_take]; omega
  have htk : X.take k = X.take 1396 := by
    rw [← hk]
    rcases Nat.lt_or_ge X.length 1396 with h | h
    · rw [List.take_of_length_le (Nat.le_of_lt h), List.take_length]
    · rw [show (X.take 1396).length = 1396 by simp only [List.length_take]; omega]
  simp (maxSteps := 3000000) only [go_sem, ↓reduceIte, B0, bs_len, hmax, hmin, bs_take, htk]
  exact ⟨⟨allSz_bs _, by omega, by omega⟩, _, _, Wk.refl _, weak_put (weak_put hwf.weak hb) (by omega), rfl, rfl⟩
theorem cpKnown_v {c m : Int} : VCalls Tryz.prog 85 [.sc (.int .u8 c), .sc (.int .u8 m)] st fun r s => r = .sc (.bool (decide (1 ≤ c ∧ c ≤ m))) ∧ st = s := by
  refine vcalls_enter vc85 (Nat.le_of_ble_eq_true rfl) fun hwf hok => ?_
  show Run _ Vc85.body (.fin (finQ Vc85.res _)) _ _
  unfold Vc85 zg zo
  by_cases h1 : 1 ≤ c
  · simp (maxSteps := 3000000) only [go_sem, ↓reduceIte, decide_eq_true h1]
    exact ⟨_, _, Wk.refl _, hwf.weak, by simp [h1], rfl⟩
  · simp (maxSteps := 3000000) only [go_sem, ↓reduceIte, decide_eq_false h1]
    exact ⟨_, _, Wk.refl _, hwf.weak, by simp [h1], rfl⟩
end
end
end
section
open Go
def cutQ (I : (Nat → V) → St → Prop) : VQ
  | .normal, A, st => I A st
  | _, _, _ => False
def cutK (I : (Nat → V) → St → Prop) (Q : VQ) : VQ
  | .normal, A, st => I A st
  | e, A, st => Q e A st
section
variable {P : Program} {k : Kt} {A : Nat → V} {st : St}
theorem at_cutk_n {I : (Nat → V) → St → Prop} {Q : VQ} : At P (.fin (cutK I Q)) .normal A st = I A st := _root_.id rfl
theorem at_cut {I : (Nat → V) → St → Prop} : At P (.fin (cutQ I)) .normal A st = I A st := _root_.id rfl
theorem over_same {ws : List Nat} {B : Nat → V} (h : ∀ t, t ∉ ws → B t = A t) : over ws B A = B := funext fun t => by
  simp only [over]
  split
  · rfl
  · rename_i ht; exact (h t ht).symm
theorem Grd.cut {v : V} {w : Bool} {o : VO} {rest : List VO} {c : VC} (ws : List Nat) (I : (Nat → V) → Prop) (hw : (((o :: rest).flatMap VO.w).all fun t => ws.contains t) = true)
    (h1 : Grd P v w o rest (.fin (cutQ fun B s => s = st ∧ I B)) A st) (h2 : ∀ B, I B → Run P c k (over ws B A) st) : Grd P v w o rest (.code c k) A st := by
  have hw' : ∀ t ∈ (o :: rest).flatMap VO.w, t ∈ ws := fun t ht => by
    have := List.all_eq_true.1 hw t ht
    simpa using this
  have hk : ∀ B s, (∀ t, t ∉ ws → B t = A t) → (s = st ∧ I B) → At P (.code c k) .normal B s := fun B s hB hI => by
    have := h2 B hI.2
    rw [over_same hB] at this
    rw [hI.1]
    exact this
  have hwr : ∀ t ∈ rest.flatMap VO.w, t ∈ ws := fun t ht => hw' t (by simp only [List.flatMap_cons, List.mem_append]; exact .inr ht)
  have hput : ∀ r, ∀ t, t ∉ ws → putV A o.dst r t = A t := fun r t ht => by
    cases hd : o.dst with
    | none => rfl
    | some d =>
      simp only [putV]
      rw [if_neg (fun e => ht (hw' t (by subst e; simp [VO.w, hd])))]
  unfold Grd at h1 ⊢
  split at h1
  · exact ⟨fun e => vops_writes ws A (fun B s hB hI => hk B s hB hI) (o :: rest) hw' (fun t _ => rfl) (h1.1 e), fun e => vops_writes ws A (fun B s hB hI => hk B s hB hI) rest hwr (hput _) (h1.2 e)⟩
  · exact vops_writes ws A (fun B s hB hI => hk B s hB hI) rest hwr (hput _) h1
  · exact h1
theorem Run.cut {c rest : VC} (ws : List Nat) (I : (Nat → V) → St → Prop) (hw : (c.writes.all fun t => ws.contains t) = true)
    (h1 : Run P c (.fin (cutK I (k.q P))) A st) (h2 : ∀ B s, I B s → Run P rest k (over ws B A) s) : Run P c (.code rest k) A st := by
  have hw' : ∀ t ∈ c.writes, t ∈ ws := fun t ht => by
    have := List.all_eq_true.1 hw t ht
    simpa using this
  refine vwp_writes ws A c hw' (fun e B s hB hq => ?_) (fun t _ => rfl) h1
  cases e with
  | normal =>
    have := h2 B s hq
    rw [over_same hB] at this
    exact this
  | exit id => exact hq
  | ret => exact hq
theorem If.cut {v : V} {a b rest : VC} (ws : List Nat) (I : (Nat → V) → St → Prop) (hw : ((a.writes ++ b.writes).all fun t => ws.contains t) = true)
    (h1 : If P v a b (.fin (cutK I (k.q P))) A st) (h2 : ∀ B s, I B s → Run P rest k (over ws B A) s) : If P v a b (.code rest k) A st := by
  rw [List.all_append, Bool.and_eq_true] at hw
  unfold If at h1 ⊢
  split at h1
  · exact ⟨fun e => Run.cut ws I hw.1 (h1.1 e) h2, fun e => Run.cut ws I hw.2 (h1.2 e) h2⟩
  · exact h1
end
end
section
open Go
theorem Get16_n {tk : Tk} {L : List Int} {st : St} (hB : IsB L) : VCalls Tryz.prog 88 [.sl tk (bs L)] st fun r s => r = .sc (.int .u16 (num2 L)) ∧ st = s := Get16_v hB
section
variable {st : St} {w : Want} {tk : Tk} {l : List Opt} {own draw : Int}
end
end
section
open Go
section
variable {st : St} {tk : Tk} {l : List Opt} {own draw : Int} {o : Opt}
set_option maxRecDepth 100000 in
theorem Get32_n {L : List Int} (hB : IsB L) : VCalls Tryz.prog 66 [.sl tk (bs L)] st fun r s => r = .sc (.int .u32 (num4 L)) ∧ st = s := by
  refine vcalls_enter vc66 (Nat.le_of_ble_eq_true rfl) fun hwf hok => ?_
  show Run _ Vc66.body (.fin (finQ Vc66.res _)) _ _
  unfold Vc66 zo
  by_cases h : L.length < 4
  · simp (maxSteps := 3000000) only [go_sem, ↓reduceIte, bs_len, decide_eq_true (show (L.length : Int) < 4 by omega)]
    exact ⟨_, _, Wk.refl _, hwf.weak, by rw [num4, if_pos h], rfl⟩
  have r0 := num2_rng hB
  have r2 := num2_rng (hB.drop 2)
  have hj := u32_join (num2 L) (num2 (L.drop 2)) r0.1 r0.2 r2.1 r2.2
  have hsp : num4 L = 65536 * num2 L + num2 (L.drop 2) := by
    match L, h with
    | a :: b :: c :: d :: L, _ =>
      have n4 : num4 (a :: b :: c :: d :: L) = numL [a, b, c, d] := by rw [num4, if_neg (by simp only [List.length_cons]; omega)]; rfl
      have n2 : num2 (a :: b :: c :: d :: L) = numL [a, b] := by rw [num2, if_neg (by simp only [List.length_cons]; omega)]; rfl
      have n2' : num2 ((a :: b :: c :: d :: L).drop 2) = numL [c, d] := by
        show num2 (c :: d :: L) = _
        rw [num2, if_neg (by simp only [List.length_cons]; omega)]; rfl
      rw [n4, n2, n2']
      simp [numL]; omega
    | [], h | [_], h | [_, _], h | [_, _, _], h => exact absurd (by simp) h
  rw [hsp]
  have g0 := fun s => Get16_n (tk := tk) (st := s) hB
  have g2 := fun s => Get16_n (tk := .no) (st := s) (hB.drop 2)
  generalize num2 L = a at *
  generalize num2 (L.drop 2) = c at *
  have e1 : a * 65536 % 4294967296 = a * 65536 := by omega
  have e2 : a % 4294967296 = a := by omega
  have e3 : c % 4294967296 = c := by omega
  simp (maxSteps := 3000000) only [go_sem, ↓reduceIte, bs_len, decide_eq_false (show ¬ (L.length : Int) < 4 by omega), bs_drop, allSz_bs']
  repeat (apply And.intro; focus (first | omega | (simp; done)))
  refine Cal.mk (g0 _) ?_
  rintro _ _ ⟨rfl, rfl⟩ -
  simp (maxSteps := 3000000) only [go_sem, ↓reduceIte, e1, e2]
  refine Cal.mk (g2 _) ?_
  rintro _ _ ⟨rfl, rfl⟩ -
  simp (maxSteps := 3000000) only [go_sem, ↓reduceIte, e3, ibit_or, hj]
  exact ⟨_, _, Wk.refl _, hwf.weak, rfl, rfl⟩
end
end
section
open Go
def Apart (u v : Tk) : Prop := ∀ g k k', u = .own g k → v ≠ .own g k'
theorem Apart.nil {v : Tk} : Apart .nil v := fun g k k' e => by cases e
theorem Apart.symm {u v : Tk} (h : Apart u v) : Apart v u := fun g k k' e e' => h g k' k e' e
theorem RO.two {n m : Nat} {st s s2 : St} {u v t2 : Tk} {L L' M : List V} (RU : RO n st s (.sl u L) L) (RV : RO m st s (.sl v M) M) (h : Apart u v) (k1 : Own n s2 (.sl t2 L') L') (k2 : AppSt s (.sl u L) s2 (.sl t2 L')) :
    RO n st s2 (.sl t2 L') L' ∧ RO m st s2 (.sl v M) M ∧ Apart t2 v := by
  have R2 := RU.app k1 k2
  refine ⟨R2, ⟨?_, R2.weak, R2.lt, RV.tok⟩, fun g k k' e e' => ?_⟩
  · rcases RV.own with o | ⟨g, h1, h2, h3⟩
    · exact .inl o
    · refine .inr ⟨g, h1, k2.own g _ h2 (fun l k e => ?_), by have := k2.sz; omega⟩
      simp only [V.sl.injEq] at h1 e
      exact h g k m e.1 h1.1
  · subst e e'
    rcases k2.tok g k L' rfl with ⟨l', e1⟩ | e1
    · simp only [V.sl.injEq] at e1
      exact h g k k' e1.1 rfl
    · rcases RV.own with ⟨o, _⟩ | ⟨g', h1, h2, h3⟩
      · cases o
      · simp only [V.sl.injEq, Tk.own.injEq] at h1
        obtain ⟨⟨rfl, _⟩, _⟩ := h1
        omega
section
variable {st : St} {tk : Tk} {l : List Opt} {own draw : Int}
end
end
section
open Go
section
variable {P : Program} {k : Kt} {A : Nat → V} {st : St}
theorem Grd.decd {p : Prop} {_ : Decidable p} {w : Bool} {o : VO} {rest : List VO} (h1 : p → Grd P (.sc (.bool (decide p))) w o rest k A st) (h2 : ¬ p → Grd P (.sc (.bool (decide p))) w o rest k A st) : Grd P (.sc (.bool (decide p))) w o rest k A st := by
  by_cases h : p
  · exact h1 h
  · exact h2 h
theorem Grd.two {b : Bool} {w : Bool} {o : VO} {rest : List VO} (h1 : b = true → Grd P (.sc (.bool b)) w o rest k A st) (h2 : b = false → Grd P (.sc (.bool b)) w o rest k A st) : Grd P (.sc (.bool b)) w o rest k A st := by
  cases h : b
  · exact h2 h |> fun x => by rw [h] at x; exact x
  · exact h1 h |> fun x => by rw [h] at x; exact x
end
end
section
open Go
def adA (w : AW) (i : Int) : Int := if i = 0 then w.a else if i = 1 then w.d1 else w.d2
def plcI (t : Int) : Int := if t = 3 then 0 else if t = 129 then 1 else if t = 131 then 2 else 0
def plcB (t : Int) : Bool := decide (t = 3 ∨ t = 129 ∨ t = 131)
theorem plc_at {g : AW} {t : Int} (h : plcB t = true) : adA g (plcI t) = g.of t := by
  have h := of_decide_eq_true h
  rcases h with rfl | rfl | rfl <;> rfl
theorem plc_no {g : AW} {t : Int} (h : plcB t = false) : g.of t = 0 := by
  have h := of_decide_eq_false h
  simp only [not_or] at h
  unfold AW.of
  rw [if_neg h.1, if_neg h.2.1, if_neg h.2.2]
section
variable {st : St} {tk : Tk} {w g : AW} {l : List Opt}
theorem ioptPlace_v {t : Int} : VCalls Tryz.prog 178 [.sc (.int .u8 t)] st fun r s => r = .tup [.sc (.int .i64 (plcI t)), .sc (.bool (plcB t))] ∧ st = s := by
  unfold plcI plcB
  refine vcalls_enterq pc178 (Nat.le_of_ble_eq_true rfl) rfl fun hwf hok => ?_
  show Run _ Pc178.body (.fin (finP Pc178.res _)) _ _
  unfold Pc178 zo
  by_cases c1 : t = 3
  · simp (maxSteps := 3000000) only [go_sem, ↓reduceIte, decide_eq_true c1]
    exact ⟨_, _, Wk.refl _, hwf.weak, by simp [c1], rfl⟩
  by_cases c2 : t = 129
  · simp (maxSteps := 3000000) only [go_sem, ↓reduceIte, decide_eq_false c1, decide_eq_true c2]
    exact ⟨_, _, Wk.refl _, hwf.weak, by simp [c2], rfl⟩
  by_cases c3 : t = 131
  · simp (maxSteps := 3000000) only [go_sem, ↓reduceIte, decide_eq_false c1, decide_eq_false c2, decide_eq_true c3]
    exact ⟨_, _, Wk.refl _, hwf.weak, by simp [c3], rfl⟩
  · simp (maxSteps := 3000000) only [go_sem, ↓reduceIte, decide_eq_false c1, decide_eq_false c2, decide_eq_false c3]
    exact ⟨_, _, Wk.refl _, hwf.weak, by simp [c1, c2, c3], rfl⟩
theorem ioptAt_v {i : Int} (h0 : 0 ≤ i) (h2 : i ≤ 2) : VCalls Tryz.prog 179 [.agg w.cells, .sc (.int .i64 i)] st fun r s => r = .sc (.int .u32 (adA w i)) ∧ st = s := by
  have hc : i = 0 ∨ i = 1 ∨ i = 2 := by omega
  rcases hc with rfl | rfl | rfl
  all_goals
    refine vcalls_enterq pc179 (Nat.le_of_ble_eq_true rfl) rfl fun hwf hok => ?_
    show Run _ Pc179.body (.fin (finP Pc179.res _)) _ _
    unfold Pc179 zo
    simp (maxSteps := 3000000) only [go_sem, ↓reduceIte, AW.cells]
    intro b hb
    have W := weak_put (cs := [.sc (.int .u32 w.a), .sc (.int .u32 w.d1), .sc (.int .u32 w.d2)]) hwf.weak hb
    first | exact ⟨_, _, Wk.refl _, W, rfl, rfl⟩ | exact ⟨by omega, _, _, Wk.refl _, W, rfl, rfl⟩
theorem ioptOne_v {t x : Int} (h0 : 0 ≤ x) (h1 : x < 4294967296) : VCalls Tryz.prog 180 [.sc (.int .u8 t), .sc (.int .u32 x)] st fun r s => (∃ u, r = .agg [.sc (.int .u8 t), .sl u (bs (beL x 4))]) ∧ st.weak s ∧ s.Lt := by
  refine vcalls_enterq pc180 (Nat.le_of_ble_eq_true rfl) rfl fun hwf hok => ?_
  show Run _ Pc180.body (.fin (finP Pc180.res _)) _ _
  unfold Pc180 zo
  simp (maxSteps := 3000000) only [go_sem, ↓reduceIte]
  refine Cal.mk (Put32_v (L := []) own_nil (by simp) h0 h1) ?_
  rintro r s1 ⟨o1, o2⟩ -
  have R1 := (RO.nil hwf.lt.weak hwf.lt).app o1 o2
  obtain ⟨t1, rfl⟩ := R1.sl
  simp (maxSteps := 3000000) only [go_sem, ↓reduceIte]
  exact ⟨_, _, Wk.refl _, R1.lt.weak, ⟨t1, rfl⟩, R1.weak, R1.lt⟩
theorem opt_app {s : St} {t : Tk} {P : List Opt} (o : Opt) {d : Option Nat} {rest : List VO} {k : Kt} {A : Nat → V} (R : RO 2 st s (.sl t (opts P)) (opts P)) (hl : P.length ≤ 100000000) (hk : ∀ t2 s2, RO 2 st s2 (.sl t2 (opts (P ++ [o]))) (opts (P ++ [o])) → Ops Tryz.prog rest k (putV A d (.sl t2 (opts (P ++ [o])))) s2) : App Tryz.prog 2 32 (.sl t (opts P)) (.sl .no [.agg [.sc (.int .u8 o.1), .sl .no (bs o.2)]]) d [] rest k A s := by
  refine App.mk (bytes := 32) (l := opts P) (ys := opts [o]) R.own (allSz_opts _) (by simp only [opts_len, List.length_cons, List.length_nil]; unfold maxLen; omega) (by simp only [opts_len, List.length_cons, List.length_nil]; omega) ?_
  intro r2 s2 k1 k2
  have R2 := R.app k1 k2
  rw [opts_append] at R2
  obtain ⟨t2, rfl⟩ := R2.sl
  exact ⟨trivial, hk t2 s2 R2⟩
def firstA (w : AW) : Nat → List Opt
  | 0 => []
  | 1 => if w.a ≠ 0 then [oneA 3 w.a] else []
  | 2 => (if w.a ≠ 0 then [oneA 3 w.a] else []) ++ (if w.d1 ≠ 0 then [oneA 129 w.d1] else [])
  | _ => optsA w
theorem RO.over' {size : Nat} {base s t : St} {x : V} {l : List V} (h : RO size base s x l) (hw : s.weak t) (hl : t.Lt) : RO size base t x l :=
  h.tn (Tn.ofWeak (bx := []) hw hl) (by simp)
theorem firstA_len (w : AW) (i : Nat) : (firstA w i).length ≤ 3 := by
  have h := optsA_len w
  unfold optsA at h
  simp only [List.length_append] at h
  match i with
  | 0 => simp [firstA]
  | 1 => simp only [firstA]; omega
  | 2 => simp only [firstA, List.length_append]; omega
  | n + 3 => simp only [firstA, optsA, List.length_append]; omega
theorem firstA_next {w : AW} {i : Nat} (hi : i < 3) {t x : Int} (h : i = 0 ∧ t = 3 ∧ x = w.a ∨ i = 1 ∧ t = 129 ∧ x = w.d1 ∨ i = 2 ∧ t = 131 ∧ x = w.d2) : firstA w (i + 1) = firstA w i ++ if x ≠ 0 then [oneA t x] else [] := by
  rcases h with ⟨rfl, rfl, rfl⟩ | ⟨rfl, rfl, rfl⟩ | ⟨rfl, rfl, rfl⟩ <;> rfl
set_option maxRecDepth 100000 in
set_option maxHeartbeats 4000000 in
theorem ioptOptions_v (hw : w.Good) : VCalls Tryz.prog 177 [.agg w.cells] st fun r s => r = .sl .no (opts (optsA w)) ∧ st = s := by
  refine vcalls_enterq pc177 (Nat.le_of_ble_eq_true rfl) rfl fun hwf hok => ?_
  show Run _ Pc177.body (.fin (finP Pc177.res _)) _ _
  unfold Pc177 zo
  obtain ⟨w1, w2, w3, w4, w5, w6⟩ := hw
  simp (maxSteps := 3000000) only [go_sem, AW.cells]
  refine run_loop [3, 4, 5, 6, 8, 9, 11, 12, 14, 16, 20, 21, 22, 23] (fun B s => ∃ (i : Nat) (t : Tk), i ≤ 3 ∧ B 8 = .sc (.int .i64 i) ∧ B 3 = .sl t (opts (firstA w i)) ∧ RO 2 st s (.sl t (opts (firstA w i))) (opts (firstA w i))) (fun B _ => 3 - vnat (B 8)) rfl ?_ ?_
  · exact ⟨0, .nil, by omega, rfl, rfl, RO.nil hwf.weak hwf.lt⟩
  · rintro B s ⟨i, t, hi, h8, h3, R⟩
    by_cases c : i < 3
    rotate_left
    · obtain rfl : i = 3 := by omega
      have h8 : B 8 = .sc (.int .i64 3) := h8
      simp (maxSteps := 3000000) only [go_sem, ↓reduceIte, h8, h3]
      exact ⟨_, _, Wk.no, R.weak, rfl, rfl⟩
    have hlen := firstA_len w i
    have hc : i = 0 ∨ i = 1 ∨ i = 2 := by omega
    have key : ∀ (ty x : Int), (i = 0 ∧ ty = 3 ∧ x = w.a ∨ i = 1 ∧ ty = 129 ∧ x = w.d1 ∨ i = 2 ∧ ty = 131 ∧ x = w.d2) → adA w i = x ∧ firstA w (i + 1) = firstA w i ++ if x ≠ 0 then [oneA ty x] else [] := fun ty x h => by
      refine ⟨?_, firstA_next c h⟩
      rcases h with ⟨rfl, _, rfl⟩ | ⟨rfl, _, rfl⟩ | ⟨rfl, _, rfl⟩ <;> rfl
    rcases hc with rfl | rfl | rfl
    · have h8 : B 8 = .sc (.int .i64 0) := h8
      obtain ⟨ka, kf⟩ := key 3 w.a (.inl ⟨rfl, rfl, rfl⟩)
      rw [show (((0 : Nat) : Int)) = 0 from rfl] at ka
      simp (maxSteps := 3000000) only [go_sem, ↓reduceIte, h8]
      repeat (apply And.intro; focus (first | omega | (simp; done)))
      refine Cal.mk (ioptAt_v (w := w) (i := 0) (by decide) (by decide)) ?_
      rintro _ _ ⟨rfl, rfl⟩ -
      rw [ka]
      by_cases c0 : w.a = 0
      · rw [if_neg (fun e => e c0), List.append_nil] at kf
        simp (maxSteps := 3000000) only [go_sem, ↓reduceIte, decide_eq_false (show ¬ w.a ≠ 0 from fun e => e c0), h8]
        exact ⟨0 + 1, t, by omega, rfl, by rw [kf]; exact h3, by rw [kf]; exact R⟩
      · rw [if_pos c0] at kf
        simp (maxSteps := 3000000) only [go_sem, ↓reduceIte, decide_eq_true (show w.a ≠ 0 from c0)]
        refine Cal.mk (ioptOne_v (t := 3) (x := w.a) (by assumption) (by assumption)) ?_
        rintro _ s1 ⟨⟨u, rfl⟩, W1, L1⟩ -
        simp (maxSteps := 3000000) only [go_sem, ↓reduceIte, h3]
        refine opt_app (oneA 3 w.a) (R.over' W1 L1) (by omega) fun t2 s2 R2 => ?_
        rw [← kf] at R2 ⊢
        simp (maxSteps := 3000000) only [go_sem, ↓reduceIte, h8]
        exact ⟨0 + 1, t2, by omega, rfl, rfl, R2⟩
    · have h8 : B 8 = .sc (.int .i64 1) := h8
      obtain ⟨ka, kf⟩ := key 129 w.d1 (.inr (.inl ⟨rfl, rfl, rfl⟩))
      rw [show (((1 : Nat) : Int)) = 1 from rfl] at ka
      simp (maxSteps := 3000000) only [go_sem, ↓reduceIte, h8]
      repeat (apply And.intro; focus (first | omega | (simp; done)))
      refine Cal.mk (ioptAt_v (w := w) (i := 1) (by decide) (by decide)) ?_
      rintro _ _ ⟨rfl, rfl⟩ -
      rw [ka]
      by_cases c0 : w.d1 = 0
      · rw [if_neg (fun e => e c0), List.append_nil] at kf
        simp (maxSteps := 3000000) only [go_sem, ↓reduceIte, decide_eq_false (show ¬ w.d1 ≠ 0 from fun e => e c0), h8]
        exact ⟨1 + 1, t, by omega, rfl, by rw [kf]; exact h3, by rw [kf]; exact R⟩
      · rw [if_pos c0] at kf
        simp (maxSteps := 3000000) only [go_sem, ↓reduceIte, decide_eq_true (show w.d1 ≠ 0 from c0)]
        refine Cal.mk (ioptOne_v (t := 129) (x := w.d1) (by assumption) (by assumption)) ?_
        rintro _ s1 ⟨⟨u, rfl⟩, W1, L1⟩ -
        simp (maxSteps := 3000000) only [go_sem, ↓reduceIte, h3]
        refine opt_app (oneA 129 w.d1) (R.over' W1 L1) (by omega) fun t2 s2 R2 => ?_
        rw [← kf] at R2 ⊢
        simp (maxSteps := 3000000) only [go_sem, ↓reduceIte, h8]
        exact ⟨1 + 1, t2, by omega, rfl, rfl, R2⟩
    · have h8 : B 8 = .sc (.int .i64 2) := h8
      obtain ⟨ka, kf⟩ := key 131 w.d2 (.inr (.inr ⟨rfl, rfl, rfl⟩))
      rw [show (((2 : Nat) : Int)) = 2 from rfl] at ka
      simp (maxSteps := 3000000) only [go_sem, ↓reduceIte, h8]
      repeat (apply And.intro; focus (first | omega | (simp; done)))
      refine Cal.mk (ioptAt_v (w := w) (i := 2) (by decide) (by decide)) ?_
      rintro _ _ ⟨rfl, rfl⟩ -
      rw [ka]
      by_cases c0 : w.d2 = 0
      · rw [if_neg (fun e => e c0), List.append_nil] at kf
        simp (maxSteps := 3000000) only [go_sem, ↓reduceIte, decide_eq_false (show ¬ w.d2 ≠ 0 from fun e => e c0), h8]
        exact ⟨2 + 1, t, by omega, rfl, by rw [kf]; exact h3, by rw [kf]; exact R⟩
      · rw [if_pos c0] at kf
        simp (maxSteps := 3000000) only [go_sem, ↓reduceIte, decide_eq_true (show w.d2 ≠ 0 from c0)]
        refine Cal.mk (ioptOne_v (t := 131) (x := w.d2) (by assumption) (by assumption)) ?_
        rintro _ s1 ⟨⟨u, rfl⟩, W1, L1⟩ -
        simp (maxSteps := 3000000) only [go_sem, ↓reduceIte, h3]
        refine opt_app (oneA 131 w.d2) (R.over' W1 L1) (by omega) fun t2 s2 R2 => ?_
        rw [← kf] at R2 ⊢
        simp (maxSteps := 3000000) only [go_sem, ↓reduceIte, h8]
        exact ⟨2 + 1, t2, by omega, rfl, rfl, R2⟩
end
end
section
open Go
theorem ofA_snoc {l : List Opt} {i : Nat} {o : Opt} (h : l[i]? = some o) : (l.take (i + 1)).foldl ofStepA .zero = ofStepA ((l.take i).foldl ofStepA .zero) o := by
  rw [take_snoc h, List.foldl_append]; rfl
theorem foldA_snoc {g : AW} {l : List Opt} {i : Nat} {o : Opt} (h : l[i]? = some o) : foldA g (l.take (i + 1)) = stepA g (foldA g (l.take i)) o := by
  unfold foldA
  rw [take_snoc h, List.foldl_append]; rfl
structure JI (st s : St) (b : Nat) (u v : Tk) (F : List Opt × List Opt × List Int) : Prop where
  RU : RO 2 st s (.sl u (opts F.1)) (opts F.1)
  RV : RO 2 st s (.sl v (opts F.2.1)) (opts F.2.1)
  ap : Apart u v
  bx : s.box b = some [.sc (.bool (decide (3 ∈ F.2.2))), .sc (.bool (decide (129 ∈ F.2.2))), .sc (.bool (decide (131 ∈ F.2.2)))]
  sb : st.sz ≤ b
section
variable {st s : St} {tk : Tk} {w g : AW} {l : List Opt} {b : Nat} {u v : Tk} {rej nak : List Opt} {seen : List Int}
theorem JI.addR (J : JI st s b u v (rej, nak, seen)) (o : Opt) (hl : rej.length ≤ 100000000) {d : Option Nat} {rest : List VO} {k : Kt} {A : Nat → V} (hk : ∀ t2 s2, JI st s2 b t2 v (rej ++ [o], nak, seen) → Ops Tryz.prog rest k (putV A d (.sl t2 (opts (rej ++ [o])))) s2) : App Tryz.prog 2 32 (.sl u (opts rej)) (.sl .no [.agg [.sc (.int .u8 o.1), .sl .no (bs o.2)]]) d [] rest k A s := by
  refine App.mk (bytes := 32) (l := opts rej) (ys := opts [o]) J.RU.own (allSz_opts _) (by simp only [opts_len, List.length_cons, List.length_nil]; unfold maxLen; omega) (by simp only [opts_len, List.length_cons, List.length_nil]; omega) ?_
  intro r2 s2 k1 k2
  rw [opts_append] at k1
  obtain ⟨t2, rfl⟩ := own_sl k1
  obtain ⟨RU2, RV2, hap2⟩ := J.RU.two J.RV J.ap k1 k2
  exact ⟨trivial, hk t2 s2 ⟨RU2, RV2, hap2, by rw [k2.box]; exact J.bx, J.sb⟩⟩
theorem JI.addN (J : JI st s b u v (rej, nak, seen)) (o : Opt) (hl : nak.length ≤ 100000000) {d : Option Nat} {rest : List VO} {k : Kt} {A : Nat → V} (hk : ∀ t2 s2, JI st s2 b u t2 (rej, nak ++ [o], seen) → Ops Tryz.prog rest k (putV A d (.sl t2 (opts (nak ++ [o])))) s2) : App Tryz.prog 2 32 (.sl v (opts nak)) (.sl .no [.agg [.sc (.int .u8 o.1), .sl .no (bs o.2)]]) d [] rest k A s := by
  refine App.mk (bytes := 32) (l := opts nak) (ys := opts [o]) J.RV.own (allSz_opts _) (by simp only [opts_len, List.length_cons, List.length_nil]; unfold maxLen; omega) (by simp only [opts_len, List.length_cons, List.length_nil]; omega) ?_
  intro r2 s2 k1 k2
  rw [opts_append] at k1
  obtain ⟨t2, rfl⟩ := own_sl k1
  obtain ⟨RV2, RU2, hap2⟩ := J.RV.two J.RU J.ap.symm k1 k2
  exact ⟨trivial, hk t2 s2 ⟨RU2, RV2, hap2.symm, by rw [k2.box]; exact J.bx, J.sb⟩⟩
theorem JI.over (J : JI st s b u v (rej, nak, seen)) {s2 : St} (hw : s.weak s2) (hl : s2.Lt) : JI st s2 b u v (rej, nak, seen) :=
  ⟨J.RU.over' hw hl, J.RV.over' hw hl, J.ap, (hw.box b _ J.bx).1, J.sb⟩
theorem JI.see (J : JI st s b u v (rej, nak, seen)) {seen2 : List Int} : JI st (s.put b [.sc (.bool (decide (3 ∈ seen2))), .sc (.bool (decide (129 ∈ seen2))), .sc (.bool (decide (131 ∈ seen2)))]) b u v (rej, nak, seen2) :=
  ⟨J.RU.put J.sb, J.RV.put J.sb, J.ap, put_box_same, J.sb⟩
set_option maxRecDepth 100000 in
set_option maxHeartbeats 4000000 in
theorem ioptOf_v (hG : GoodO l) (hl : l.length ≤ 1000000) : VCalls Tryz.prog 175 [.sl tk (opts l)] st fun r s => r = .agg (ofA l).cells ∧ st = s := by
  refine vcalls_enterq pc175 (Nat.le_of_ble_eq_true rfl) rfl fun hwf hok => ?_
  show Run _ Pc175.body (.fin (finP Pc175.res _)) _ _
  unfold Pc175 zg zn zo
  have hlt := hwf.lt
  simp (maxSteps := 3000000) only [go_sem, ↓reduceIte]
  intro b hb
  refine run_loop [5, 6, 7, 8, 11, 12, 13, 14, 17, 18, 19, 20, 22, 25, 26, 27, 28, 30, 31, 33, 35, 37, 39, 40, 41] (fun B s => ∃ (i : Nat) (X : AW), i ≤ l.length ∧ B 11 = .sc (.int .i64 i) ∧ X = (l.take i).foldl ofStepA .zero ∧ s = st.put b X.cells) (fun B _ => l.length - vnat (B 11)) rfl ?_ ?_
  · exact ⟨0, .zero, by omega, rfl, by simp, rfl⟩
  · rintro B s ⟨i, X, hi, h11, hX, rfl⟩
    by_cases c1 : i < l.length
    rotate_left
    · obtain rfl : i = l.length := by omega
      rw [List.take_length] at hX
      simp (maxSteps := 3000000) only [go_sem, ↓reduceIte, h11, opts_len, AW.cells, put_box_same]
      exact ⟨_, _, Wk.refl _, weak_put hwf.weak hb, by rw [ofA, ← hX], rfl⟩
    obtain ⟨⟨T, D⟩, ho⟩ := get_ex c1
    obtain ⟨q0, q1, oB, oL⟩ := hG.get ho
    simp only at oB
    have hil := decide_eq_true (show (i : Int) < (l.length : Int) by omega)
    have hsn := ofA_snoc ho
    rw [← hX] at hsn
    have done : ∀ X2, X2 = ofStepA X (T, D) → (∃ (i' : Nat) (X' : AW), i' ≤ l.length ∧ V.sc (.int .i64 ((i : Int) + 1)) = .sc (.int .i64 i') ∧ X' = (l.take i').foldl ofStepA .zero ∧ st.put b X2.cells = st.put b X'.cells) ∧ l.length - ((i : Int) + 1).toNat < l.length - i := fun X2 e =>
      ⟨⟨i + 1, X2, by omega, by simp, by rw [hsn, e], rfl⟩, by omega⟩
    simp (maxSteps := 3000000) only [go_sem, ↓reduceIte, h11, opts_len, hil, opts_at ho]
    repeat (apply And.intro; focus (first | omega | (simp; done)))
    refine Cal.mk ioptPlace_v ?_
    rintro _ _ ⟨rfl, rfl⟩ -
    by_cases c2 : T = 3 ∨ T = 129 ∨ T = 131
    rotate_left
    · have e := done X (by
        simp only [not_or] at c2
        unfold ofStepA
        split
        · rfl
        · rw [if_neg c2.1, if_neg c2.2.1, if_neg c2.2.2])
      unfold AW.cells at e
      simp (maxSteps := 3000000) only [go_sem, ↓reduceIte, show plcB T = false from decide_eq_false c2, Bool.not_false, h11, AW.cells]
      repeat (apply And.intro; focus (first | omega | (simp; done)))
      exact e
    have hpb : plcB T = true := decide_eq_true c2
    by_cases c3 : D.length = 4
    rotate_left
    · have e := done X (by unfold ofStepA; rw [if_pos c3])
      unfold AW.cells at e
      simp (maxSteps := 3000000) only [go_sem, ↓reduceIte, hpb, Bool.not_true, bs_len, decide_eq_true (show (D.length : Int) ≠ 4 by omega), h11, AW.cells]
      repeat (apply And.intro; focus (first | omega | (simp; done)))
      exact e
    have hc3 := decide_eq_false (show ¬ (D.length : Int) ≠ 4 by omega)
    simp (maxSteps := 3000000) only [go_sem, ↓reduceIte, hpb, Bool.not_true, bs_len, hc3]
    refine Cal.mk (Get32_n oB) ?_
    rintro _ _ ⟨rfl, rfl⟩ -
    rcases c2 with rfl | rfl | rfl
    · have e := done { X with a := num4 D } (by unfold ofStepA; rw [if_neg (fun e => e c3)]; rfl)
      unfold AW.cells at e
      simp (maxSteps := 3000000) only [go_sem, ↓reduceIte, show plcI 3 = 0 from rfl, h11, AW.cells, put_box_same, put_put]
      repeat (apply And.intro; focus (first | omega | (simp; done)))
      exact e
    · have e := done { X with d1 := num4 D } (by unfold ofStepA; rw [if_neg (fun e => e c3)]; rfl)
      unfold AW.cells at e
      simp (maxSteps := 3000000) only [go_sem, ↓reduceIte, show plcI 129 = 1 from rfl, h11, AW.cells, put_box_same, put_put]
      repeat (apply And.intro; focus (first | omega | (simp; done)))
      exact e
    · have e := done { X with d2 := num4 D } (by unfold ofStepA; rw [if_neg (fun e => e c3)]; rfl)
      unfold AW.cells at e
      simp (maxSteps := 3000000) only [go_sem, ↓reduceIte, show plcI 131 = 2 from rfl, h11, AW.cells, put_box_same, put_put]
      repeat (apply And.intro; focus (first | omega | (simp; done)))
      exact e
set_option maxRecDepth 100000 in
set_option maxHeartbeats 16000000 in
theorem ioptJudge_v (hg : g.Good) (hG : GoodO l) (hl : l.length ≤ 1000000) : VCalls Tryz.prog 176 [.sl tk (opts l), .agg g.cells] st fun r s => (∃ t2, r = .tup [.sc (.int .u8 (judgeA l g).1), .sl t2 (opts (judgeA l g).2)]) ∧ st = s := by
  refine vcalls_enterq pc176 (Nat.le_of_ble_eq_true rfl) rfl fun hwf hok => ?_
  show Run _ Pc176.body (.fin (finP Pc176.res _)) _ _
  unfold Pc176 zg zn zo
  have hlt := hwf.lt
  simp (maxSteps := 3000000) only [go_sem, ↓reduceIte, AW.cells]
  intro b hb
  refine run_loop [6, 7, 10, 11, 12, 15, 16, 17, 18, 21, 22, 23, 24, 26, 29, 30, 31, 32, 34, 35, 36, 37, 39, 40, 41, 42, 43, 45, 46, 47, 49, 51, 52, 53, 55, 56, 59, 60, 62, 63, 64, 65, 66] (fun B s => ∃ (i : Nat) (u v : Tk), i ≤ l.length ∧ B 15 = .sc (.int .i64 i) ∧ B 6 = .sl u (opts (foldA g (l.take i)).1) ∧ B 7 = .sl v (opts (foldA g (l.take i)).2.1) ∧ JI st s b u v (foldA g (l.take i))) (fun B _ => l.length - vnat (B 15)) rfl ?_ ?_
  · exact ⟨0, .nil, .nil, by omega, rfl, rfl, rfl, RO.nil (weak_put hwf.weak hb) hlt.put, RO.nil (weak_put hwf.weak hb) hlt.put, .nil, put_box_same, hb⟩
  · rintro B s ⟨i, u, v, hi, h15, h6, h7, J⟩
    have hFl := foldA_len (g := g) (l := l.take i) (a := ([], [], []))
    have hti : (l.take i).length ≤ 1000000 := by simp only [List.length_take]; omega
    change (foldA g (l.take i)).1.length ≤ _ ∧ (foldA g (l.take i)).2.1.length ≤ _ at hFl
    simp only [List.length_nil, Nat.zero_add] at hFl
    by_cases c1 : i < l.length
    · obtain ⟨⟨T, D⟩, ho⟩ := get_ex c1
      obtain ⟨q0, q1, oB, oL⟩ := hG.get ho
      simp only at oB
      have hil := decide_eq_true (show (i : Int) < (l.length : Int) by omega)
      have hsn := foldA_snoc (g := g) ho
      generalize foldA g (l.take i) = F at h6 h7 J hFl hsn
      obtain ⟨rej, nak, seen⟩ := F
      simp only at h6 h7 hFl
      have done : ∀ (u2 v2 : Tk) (s2 : St) (F2 : List Opt × List Opt × List Int), F2 = stepA g (rej, nak, seen) (T, D) → JI st s2 b u2 v2 F2 → (∃ (i' : Nat) (u' v' : Tk), i' ≤ l.length ∧ V.sc (.int .i64 ((i : Int) + 1)) = .sc (.int .i64 i') ∧ V.sl u2 (opts F2.1) = .sl u' (opts (foldA g (l.take i')).1) ∧ V.sl v2 (opts F2.2.1) = .sl v' (opts (foldA g (l.take i')).2.1) ∧ JI st s2 b u' v' (foldA g (l.take i'))) ∧ l.length - ((i : Int) + 1).toNat < l.length - i := fun u2 v2 s2 F2 e k =>
        ⟨⟨i + 1, u2, v2, by omega, by simp, by rw [hsn, e], by rw [hsn, e], by rw [hsn, ← e]; exact k⟩, by omega⟩
      have hof := AW.of_rng hg T
      simp (maxSteps := 3000000) only [go_sem, ↓reduceIte, h15, opts_len, hil, opts_at ho]
      repeat (apply And.intro; focus (first | omega | (simp; done)))
      refine Cal.mk ioptPlace_v ?_
      rintro _ _ ⟨rfl, rfl⟩ -
      by_cases c2 : T = 3 ∨ T = 129 ∨ T = 131
      rotate_left
      · have hpb : plcB T = false := decide_eq_false c2
        have hst : stepA g (rej, nak, seen) (T, D) = (rej ++ [(T, D)], nak, seen) := if_pos (.inl (plc_no hpb))
        simp (maxSteps := 3000000) only [go_sem, ↓reduceIte, hpb, Bool.not_false, h6]
        refine J.addR (T, D) (by omega) fun t2 s2 J2 => ?_
        have e := done t2 v s2 _ hst.symm J2
        simp (maxSteps := 3000000) only [go_sem, ↓reduceIte, h15, h7]
        repeat (apply And.intro; focus (first | omega | (simp; done)))
        exact e
      have hpb : plcB T = true := decide_eq_true c2
      have hat := plc_at (g := g) hpb
      have bx := J.bx
      simp only at bx
      by_cases c3 : D.length = 4
      rotate_left
      · have hst : stepA g (rej, nak, seen) (T, D) = (rej ++ [(T, D)], nak, seen) := if_pos (.inr (.inl c3))
        simp (maxSteps := 3000000) only [go_sem, ↓reduceIte, hpb, Bool.not_true, bs_len, decide_eq_true (show (D.length : Int) ≠ 4 by omega), h6]
        refine J.addR (T, D) (by omega) fun t2 s2 J2 => ?_
        have e := done t2 v s2 _ hst.symm J2
        simp (maxSteps := 3000000) only [go_sem, ↓reduceIte, h15, h7]
        repeat (apply And.intro; focus (first | omega | (simp; done)))
        exact e
      have hc3 := decide_eq_false (show ¬ (D.length : Int) ≠ 4 by omega)
      simp (maxSteps := 3000000) only [go_sem, ↓reduceIte, hpb, Bool.not_true, bs_len, hc3]
      rcases c2 with rfl | rfl | rfl
      · rw [show plcI 3 = 0 from rfl] at hat ⊢
        by_cases c4 : 3 ∈ seen
        · have hst : stepA g (rej, nak, seen) (3, D) = (rej ++ [(3, D)], nak, seen) := if_pos (.inr (.inr c4))
          simp (maxSteps := 3000000) only [go_sem, ↓reduceIte, bx, decide_eq_true c4, h6]
          repeat (apply And.intro; focus (first | omega | (simp; done)))
          refine J.addR (3, D) (by omega) fun t2 s2 J2 => ?_
          have e := done t2 v s2 _ hst.symm J2
          simp (maxSteps := 3000000) only [go_sem, ↓reduceIte, h15, h7]
          repeat (apply And.intro; focus (first | omega | (simp; done)))
          exact e
        simp (maxSteps := 3000000) only [go_sem, ↓reduceIte, bx, decide_eq_false c4]
        repeat (apply And.intro; focus (first | omega | (simp; done)))
        refine Cal.mk (ioptAt_v (w := g) (i := 0) (by decide) (by decide)) ?_
        rintro _ _ ⟨rfl, rfl⟩ -
        rw [hat]
        by_cases c5 : g.of 3 = 0
        · have hst : stepA g (rej, nak, seen) (3, D) = (rej ++ [(3, D)], nak, seen) := if_pos (.inl c5)
          simp (maxSteps := 3000000) only [go_sem, ↓reduceIte, decide_eq_true c5, h6]
          refine J.addR (3, D) (by omega) fun t2 s2 J2 => ?_
          have e := done t2 v s2 _ hst.symm J2
          simp (maxSteps := 3000000) only [go_sem, ↓reduceIte, h15, h7]
          repeat (apply And.intro; focus (first | omega | (simp; done)))
          exact e
        have J1 := J.see (seen2 := 3 :: seen)
        rw [show decide ((129 : Int) ∈ 3 :: seen) = decide (129 ∈ seen) from by simp, show decide ((131 : Int) ∈ 3 :: seen) = decide (131 ∈ seen) from by simp, show decide ((3 : Int) ∈ 3 :: seen) = true from by simp] at J1
        have hst : stepA g (rej, nak, seen) (3, D) = (rej, nak ++ (if num4 D ≠ g.of 3 then [oneA 3 (g.of 3)] else []), 3 :: seen) := if_neg (by simp only [not_or, Decidable.not_not]; exact ⟨c5, c3, c4⟩)
        simp (maxSteps := 3000000) only [go_sem, ↓reduceIte, decide_eq_false c5, bx]
        repeat (apply And.intro; focus (first | omega | (simp; done)))
        generalize s.put b _ = s1 at J1 ⊢
        refine Cal.mk (Get32_n oB) ?_
        rintro _ _ ⟨rfl, rfl⟩ -
        simp (maxSteps := 3000000) only [go_sem, ↓reduceIte]
        refine Cal.mk (ioptAt_v (w := g) (i := 0) (by decide) (by decide)) ?_
        rintro _ _ ⟨rfl, rfl⟩ -
        rw [hat]
        by_cases c6 : num4 D = g.of 3
        · rw [if_neg (fun e => e c6), List.append_nil] at hst
          have e := done u v s1 _ hst.symm J1
          simp (maxSteps := 3000000) only [go_sem, ↓reduceIte, decide_eq_false (show ¬ num4 D ≠ g.of 3 from fun e => e c6), h15, h6, h7]
          repeat (apply And.intro; focus (first | omega | (simp; done)))
          exact e
        · rw [if_pos c6] at hst
          simp (maxSteps := 3000000) only [go_sem, ↓reduceIte, decide_eq_true (show num4 D ≠ g.of 3 from c6)]
          refine Cal.mk (ioptAt_v (w := g) (i := 0) (by decide) (by decide)) ?_
          rintro _ _ ⟨rfl, rfl⟩ -
          rw [hat]
          simp (maxSteps := 3000000) only [go_sem, ↓reduceIte]
          refine Cal.mk (ioptOne_v (t := 3) hof.1 hof.2) ?_
          rintro _ s2 ⟨⟨t, rfl⟩, W2, L2⟩ -
          simp (maxSteps := 3000000) only [go_sem, ↓reduceIte, h7]
          refine (J1.over W2 L2).addN (oneA 3 (g.of 3)) (by omega) fun t3 s3 J3 => ?_
          have e := done u t3 s3 _ hst.symm J3
          simp (maxSteps := 3000000) only [go_sem, ↓reduceIte, h15, h6]
          repeat (apply And.intro; focus (first | omega | (simp; done)))
          exact e
      · rw [show plcI 129 = 1 from rfl] at hat ⊢
        by_cases c4 : 129 ∈ seen
        · have hst : stepA g (rej, nak, seen) (129, D) = (rej ++ [(129, D)], nak, seen) := if_pos (.inr (.inr c4))
          simp (maxSteps := 3000000) only [go_sem, ↓reduceIte, bx, decide_eq_true c4, h6]
          repeat (apply And.intro; focus (first | omega | (simp; done)))
          refine J.addR (129, D) (by omega) fun t2 s2 J2 => ?_
          have e := done t2 v s2 _ hst.symm J2
          simp (maxSteps := 3000000) only [go_sem, ↓reduceIte, h15, h7]
          repeat (apply And.intro; focus (first | omega | (simp; done)))
          exact e
        simp (maxSteps := 3000000) only [go_sem, ↓reduceIte, bx, decide_eq_false c4]
        repeat (apply And.intro; focus (first | omega | (simp; done)))
        refine Cal.mk (ioptAt_v (w := g) (i := 1) (by decide) (by decide)) ?_
        rintro _ _ ⟨rfl, rfl⟩ -
        rw [hat]
        by_cases c5 : g.of 129 = 0
        · have hst : stepA g (rej, nak, seen) (129, D) = (rej ++ [(129, D)], nak, seen) := if_pos (.inl c5)
          simp (maxSteps := 3000000) only [go_sem, ↓reduceIte, decide_eq_true c5, h6]
          refine J.addR (129, D) (by omega) fun t2 s2 J2 => ?_
          have e := done t2 v s2 _ hst.symm J2
          simp (maxSteps := 3000000) only [go_sem, ↓reduceIte, h15, h7]
          repeat (apply And.intro; focus (first | omega | (simp; done)))
          exact e
        have J1 := J.see (seen2 := 129 :: seen)
        rw [show decide ((3 : Int) ∈ 129 :: seen) = decide (3 ∈ seen) from by simp, show decide ((131 : Int) ∈ 129 :: seen) = decide (131 ∈ seen) from by simp, show decide ((129 : Int) ∈ 129 :: seen) = true from by simp] at J1
        have hst : stepA g (rej, nak, seen) (129, D) = (rej, nak ++ (if num4 D ≠ g.of 129 then [oneA 129 (g.of 129)] else []), 129 :: seen) := if_neg (by simp only [not_or, Decidable.not_not]; exact ⟨c5, c3, c4⟩)
        simp (maxSteps := 3000000) only [go_sem, ↓reduceIte, decide_eq_false c5, bx]
        repeat (apply And.intro; focus (first | omega | (simp; done)))
        generalize s.put b _ = s1 at J1 ⊢
        refine Cal.mk (Get32_n oB) ?_
        rintro _ _ ⟨rfl, rfl⟩ -
        simp (maxSteps := 3000000) only [go_sem, ↓reduceIte]
        refine Cal.mk (ioptAt_v (w := g) (i := 1) (by decide) (by decide)) ?_
        rintro _ _ ⟨rfl, rfl⟩ -
        rw [hat]
        by_cases c6 : num4 D = g.of 129
        · rw [if_neg (fun e => e c6), List.append_nil] at hst
          have e := done u v s1 _ hst.symm J1
          simp (maxSteps := 3000000) only [go_sem, ↓reduceIte, decide_eq_false (show ¬ num4 D ≠ g.of 129 from fun e => e c6), h15, h6, h7]
          repeat (apply And.intro; focus (first | omega | (simp; done)))
          exact e
        · rw [if_pos c6] at hst
          simp (maxSteps := 3000000) only [go_sem, ↓reduceIte, decide_eq_true (show num4 D ≠ g.of 129 from c6)]
          refine Cal.mk (ioptAt_v (w := g) (i := 1) (by decide) (by decide)) ?_
          rintro _ _ ⟨rfl, rfl⟩ -
          rw [hat]
          simp (maxSteps := 3000000) only [go_sem, ↓reduceIte]
          refine Cal.mk (ioptOne_v (t := 129) hof.1 hof.2) ?_
          rintro _ s2 ⟨⟨t, rfl⟩, W2, L2⟩ -
          simp (maxSteps := 3000000) only [go_sem, ↓reduceIte, h7]
          refine (J1.over W2 L2).addN (oneA 129 (g.of 129)) (by omega) fun t3 s3 J3 => ?_
          have e := done u t3 s3 _ hst.symm J3
          simp (maxSteps := 3000000) only [go_sem, ↓reduceIte, h15, h6]
          repeat (apply And.intro; focus (first | omega | (simp; done)))
          exact e
      · rw [show plcI 131 = 2 from rfl] at hat ⊢
        by_cases c4 : 131 ∈ seen
        · have hst : stepA g (rej, nak, seen) (131, D) = (rej ++ [(131, D)], nak, seen) := if_pos (.inr (.inr c4))
          simp (maxSteps := 3000000) only [go_sem, ↓reduceIte, bx, decide_eq_true c4, h6]
          repeat (apply And.intro; focus (first | omega | (simp; done)))
          refine J.addR (131, D) (by omega) fun t2 s2 J2 => ?_
          have e := done t2 v s2 _ hst.symm J2
          simp (maxSteps := 3000000) only [go_sem, ↓reduceIte, h15, h7]
          repeat (apply And.intro; focus (first | omega | (simp; done)))
          exact e
        simp (maxSteps := 3000000) only [go_sem, ↓reduceIte, bx, decide_eq_false c4]
        repeat (apply And.intro; focus (first | omega | (simp; done)))
        refine Cal.mk (ioptAt_v (w := g) (i := 2) (by decide) (by decide)) ?_
        rintro _ _ ⟨rfl, rfl⟩ -
        rw [hat]
        by_cases c5 : g.of 131 = 0
        · have hst : stepA g (rej, nak, seen) (131, D) = (rej ++ [(131, D)], nak, seen) := if_pos (.inl c5)
          simp (maxSteps := 3000000) only [go_sem, ↓reduceIte, decide_eq_true c5, h6]
          refine J.addR (131, D) (by omega) fun t2 s2 J2 => ?_
          have e := done t2 v s2 _ hst.symm J2
          simp (maxSteps := 3000000) only [go_sem, ↓reduceIte, h15, h7]
          repeat (apply And.intro; focus (first | omega | (simp; done)))
          exact e
        have J1 := J.see (seen2 := 131 :: seen)
        rw [show decide ((3 : Int) ∈ 131 :: seen) = decide (3 ∈ seen) from by simp, show decide ((129 : Int) ∈ 131 :: seen) = decide (129 ∈ seen) from by simp, show decide ((131 : Int) ∈ 131 :: seen) = true from by simp] at J1
        have hst : stepA g (rej, nak, seen) (131, D) = (rej, nak ++ (if num4 D ≠ g.of 131 then [oneA 131 (g.of 131)] else []), 131 :: seen) := if_neg (by simp only [not_or, Decidable.not_not]; exact ⟨c5, c3, c4⟩)
        simp (maxSteps := 3000000) only [go_sem, ↓reduceIte, decide_eq_false c5, bx]
        repeat (apply And.intro; focus (first | omega | (simp; done)))
        generalize s.put b _ = s1 at J1 ⊢
        refine Cal.mk (Get32_n oB) ?_
        rintro _ _ ⟨rfl, rfl⟩ -
        simp (maxSteps := 3000000) only [go_sem, ↓reduceIte]
        refine Cal.mk (ioptAt_v (w := g) (i := 2) (by decide) (by decide)) ?_
        rintro _ _ ⟨rfl, rfl⟩ -
        rw [hat]
        by_cases c6 : num4 D = g.of 131
        · rw [if_neg (fun e => e c6), List.append_nil] at hst
          have e := done u v s1 _ hst.symm J1
          simp (maxSteps := 3000000) only [go_sem, ↓reduceIte, decide_eq_false (show ¬ num4 D ≠ g.of 131 from fun e => e c6), h15, h6, h7]
          repeat (apply And.intro; focus (first | omega | (simp; done)))
          exact e
        · rw [if_pos c6] at hst
          simp (maxSteps := 3000000) only [go_sem, ↓reduceIte, decide_eq_true (show num4 D ≠ g.of 131 from c6)]
          refine Cal.mk (ioptAt_v (w := g) (i := 2) (by decide) (by decide)) ?_
          rintro _ _ ⟨rfl, rfl⟩ -
          rw [hat]
          simp (maxSteps := 3000000) only [go_sem, ↓reduceIte]
          refine Cal.mk (ioptOne_v (t := 131) hof.1 hof.2) ?_
          rintro _ s2 ⟨⟨t, rfl⟩, W2, L2⟩ -
          simp (maxSteps := 3000000) only [go_sem, ↓reduceIte, h7]
          refine (J1.over W2 L2).addN (oneA 131 (g.of 131)) (by omega) fun t3 s3 J3 => ?_
          have e := done u t3 s3 _ hst.symm J3
          simp (maxSteps := 3000000) only [go_sem, ↓reduceIte, h15, h6]
          repeat (apply And.intro; focus (first | omega | (simp; done)))
          exact e
    · obtain rfl : i = l.length := by omega
      rw [List.take_length] at h6 h7 J hFl
      unfold judgeA nakA
      generalize foldA g l = F at h6 h7 J hFl ⊢
      obtain ⟨rej, nak, seen⟩ := F
      simp only at h6 h7 hFl ⊢
      have bx := J.bx
      simp only at bx
      have hil := decide_eq_false (show ¬ (l.length : Int) < (l.length : Int) by omega)
      simp (maxSteps := 3000000) only [go_sem, ↓reduceIte, h15, opts_len, bx]
      repeat (apply And.intro; focus (first | omega | (simp; done)))
      obtain ⟨nk, hnk⟩ : ∃ n, n = (if 3 ∈ seen then nak else nak ++ [oneA 3 g.a]) := ⟨_, rfl⟩
      rw [← hnk]
      refine If.cut [7, 72, 73, 74, 75] (fun B s2 => (∃ v2, B 7 = .sl v2 (opts nk)) ∧ st.weak s2) rfl ?_ ?_
      · by_cases c4 : 3 ∈ seen
        · rw [if_pos c4] at hnk
          simp (maxSteps := 3000000) only [go_sem, ↓reduceIte, decide_eq_true c4, Bool.not_true, at_cutk_n, h7]
          exact ⟨⟨v, by rw [hnk]⟩, J.RU.weak⟩
        · rw [if_neg c4] at hnk
          simp (maxSteps := 3000000) only [go_sem, ↓reduceIte, decide_eq_false c4, Bool.not_false]
          refine Cal.mk (ioptOne_v (t := 3) hg.a0 hg.a1) ?_
          rintro _ s2 ⟨⟨t, rfl⟩, W2, L2⟩ -
          simp (maxSteps := 3000000) only [go_sem, ↓reduceIte, h7]
          refine (J.over W2 L2).addN (oneA 3 g.a) (by omega) fun t3 s3 J3 => ?_
          simp (maxSteps := 3000000) only [go_sem, ↓reduceIte, at_cutk_n]
          exact ⟨⟨t3, by rw [hnk]⟩, J3.RU.weak⟩
      rintro B2 s2 ⟨⟨v2, h7⟩, W2⟩
      cases rej with
      | cons x rej =>
        simp (maxSteps := 3000000) only [go_sem, ↓reduceIte, h6, opts_len, List.length_cons, decide_eq_true (show (0 : Int) < ((rej.length + 1 : Nat) : Int) by omega)]
        exact ⟨_, _, Wk.refl _, W2, ⟨u, rfl⟩, rfl⟩
      | nil =>
        have h00 := decide_eq_false (show ¬ (0 : Int) < ((0 : Nat) : Int) by decide)
        cases nk with
        | cons x nk =>
          simp (maxSteps := 3000000) only [go_sem, ↓reduceIte, h6, h7, opts_len, List.length_cons, List.length_nil, h00, decide_eq_true (show (0 : Int) < ((nk.length + 1 : Nat) : Int) by omega)]
          exact ⟨_, _, Wk.refl _, W2, ⟨v2, rfl⟩, rfl⟩
        | nil =>
          simp (maxSteps := 3000000) only [go_sem, ↓reduceIte, h6, h7, opts_len, List.length_nil, h00]
          exact ⟨_, _, Wk.refl _, W2, ⟨tk, rfl⟩, rfl⟩
end
end
section
open Go
section
variable {st : St} {tk : Tk} {l : List Opt} {w0 : Want}
end
end
section
open Go
section
variable {st : St} {b n : Nat} {pre post : List V}
end
end
section
open Go
section
variable {st : St} {d : Nat} {r : Lr}
end
end
section
open Go
theorem ba_ext {a b : ByteArray} (h : a.data.toList = b.data.toList) : a = b := by
  cases a; cases b
  simp only [ByteArray.mk.injEq]
  exact Array.toList_inj.1 h
theorem foldl_push_list : ∀ (L : List Int) (r : ByteArray), (L.foldl (fun r n => r.push (UInt8.ofNat n.toNat)) r).data.toList = r.data.toList ++ L.map fun n => UInt8.ofNat n.toNat
  | [], r => by simp
  | x :: L, r => by rw [List.foldl_cons, foldl_push_list L, List.map_cons]; simp [ByteArray.push]
theorem strOf_list (L : List Int) : (strOf L).data.toList = L.map fun n => UInt8.ofNat n.toNat := by
  unfold strOf
  rw [foldl_push_list]
  rfl
theorem strOf_size (L : List Int) : (strOf L).size = L.length := by
  have := congrArg List.length (strOf_list L)
  simpa using this
theorem strOf_append (L M : List Int) : strOf L ++ strOf M = strOf (L ++ M) := ba_ext (by
  rw [ByteArray.data_append, Array.toList_append, strOf_list, strOf_list, strOf_list, List.map_append])
theorem bytesOf_strOf {L : List Int} (h : IsB L) : bytesOf (strOf L) = L := by
  unfold bytesOf
  rw [strOf_list, List.map_map]
  refine (List.map_congr_left fun x hx => ?_).trans (List.map_id _)
  obtain ⟨h0, h1⟩ := h x hx
  simp only [Function.comp, id_eq]
  rw [UInt8.toNat_ofNat']
  omega
theorem strOf_inj {L M : List Int} (h : IsB L) (k : IsB M) : strOf L = strOf M ↔ L = M :=
  ⟨fun e => by rw [← bytesOf_strOf h, ← bytesOf_strOf k, e], fun e => by rw [e]⟩
theorem strOf_nil : (⟨#[]⟩ : ByteArray) = strOf [] := rfl
theorem isB_one {x : Int} (h0 : 0 ≤ x) (h1 : x < 256) : IsB [x] := by
  intro y hy
  simp at hy
  subst hy
  exact ⟨h0, h1⟩
theorem isB_nil : IsB [] := by intro x hx; cases hx
def ss (LL : List (List Int)) : List V := LL.map fun L => .sc (.string (strOf L))
theorem ss_len (LL : List (List Int)) : (ss LL).length = LL.length := by simp [ss]
theorem ss_get (LL : List (List Int)) (i : Nat) : (ss LL)[i]? = (LL[i]?).map fun L => .sc (.string (strOf L)) := by simp [ss]
theorem ss_append (A B : List (List Int)) : ss A ++ ss B = ss (A ++ B) := by simp [ss]
theorem allSz_ss (LL : List (List Int)) : allSz 1 (ss LL) := fun d hd => by
  obtain ⟨x, _, rfl⟩ := List.mem_map.1 hd; rfl
def splS (c : Int) (s : List (List Int) × List Int) (x : Int) : List (List Int) × List Int := if x = c then (s.1 ++ [s.2], []) else (s.1, s.2 ++ [x])
def splF (c : Int) (L : List Int) : List (List Int) × List Int := L.foldl (splS c) ([], [])
def splL (c : Int) (L : List Int) : List (List Int) := (splF c L).1 ++ [(splF c L).2]
theorem splF_snoc (c : Int) (L : List Int) (x : Int) : splF c (L ++ [x]) = splS c (splF c L) x := by simp [splF]
theorem splF_ok (c : Int) : ∀ (L : List Int) (s : List (List Int) × List Int), IsB L → (∀ M ∈ s.1, IsB M) → IsB s.2 → (∀ M ∈ (L.foldl (splS c) s).1, IsB M) ∧ IsB (L.foldl (splS c) s).2
  | [], s, _, h1, h2 => ⟨h1, h2⟩
  | x :: L, s, h, h1, h2 => by
    rw [List.foldl_cons]
    have hx := h x (by simp)
    refine splF_ok c L _ (fun y hy => h y (by simp [hy])) ?_ ?_
    · unfold splS
      split
      · intro M hM
        rcases List.mem_append.1 hM with hM | hM
        · exact h1 M hM
        · simp at hM; subst hM; exact h2
      · exact h1
    · unfold splS
      split
      · exact isB_nil
      · exact h2.append (isB_one hx.1 hx.2)
theorem splF_len (c : Int) : ∀ (L : List Int) (s : List (List Int) × List Int), (L.foldl (splS c) s).1.length ≤ s.1.length + L.length ∧ (L.foldl (splS c) s).2.length ≤ s.2.length + L.length
  | [], s => ⟨by simp, by simp⟩
  | x :: L, s => by
    rw [List.foldl_cons]
    obtain ⟨h1, h2⟩ := splF_len c L (splS c s x)
    have : (splS c s x).1.length ≤ s.1.length + 1 ∧ (splS c s x).2.length ≤ s.2.length + 1 := by
      unfold splS
      split
      · exact ⟨by simp, by simp⟩
      · exact ⟨by simp, by simp⟩
    simp only [List.length_cons]
    omega
theorem splL_isB {c : Int} {L : List Int} (h : IsB L) : ∀ M ∈ splL c L, IsB M := by
  obtain ⟨h1, h2⟩ := splF_ok c L ([], []) h (by intro M hM; cases hM) isB_nil
  intro M hM
  rcases List.mem_append.1 hM with hM | hM
  · exact h1 M hM
  · simp at hM; subst hM; exact h2
theorem splL_len (c : Int) (L : List Int) : (splL c L).length ≤ L.length + 1 := by
  have := (splF_len c L ([], [])).1
  unfold splL splF
  simp at this ⊢
  exact this
def wordsL (L : List Int) : List (List Int) := (splL 32 L).filter fun M => M ≠ []
end
section
open Go
theorem VCalls.wf {P : Program} {f : FuncId} {args : List V} {st : St} {Q : V → St → Prop} (h : st.Wf → VCalls P f args st Q) : VCalls P f args st Q := fun w0 G w us hw hus hr =>
  h ⟨fun b cs hb => (hw.box b cs hb).1, fun g m hg => (hw.own g m hg).1, fun b cs hb => (hw.box b cs hb).2.2.2.2.ok⟩ w0 G w us hw hus hr
structure RulC {R : Type} (U : Rul R) (t : TypeId) (pv : Value) (SI : Nat → St → R → Prop) (bx : List Nat) : Prop where
  one : pv.oneCell' = true
  req : ∃ f, methOf Tryz.prog t "Request" = some f ∧ callable Tryz.prog f = true ∧ ∀ (k : Nat) (st : St) (r : R), SI k st r → VCalls Tryz.prog f [.sc pv] st fun x s => x = .sl .no (opts (U.request r)) ∧ st = s
  reqG : ∀ (k : Nat) (st : St) (r : R), SI k st r → GoodO (U.request r) ∧ (U.request r).length ≤ 100
  judge : ∃ f, methOf Tryz.prog t "Judge" = some f ∧ callable Tryz.prog f = true ∧ ∀ (k : Nat) (st : St) (r : R) (l : List Opt) (tk : Tk), SI k st r → k ≤ 1000000000 → GoodO l → l.length ≤ 1000000 →
    VCalls Tryz.prog f [.sc pv, .sl tk (opts l)] st fun x s => (∃ t2, x = .tup [.sc (.int .u8 (U.judge r l).2.1), .sl t2 (opts (U.judge r l).2.2)]) ∧ SI (k + 1) s (U.judge r l).1 ∧ Tn bx st s
  judgeG : ∀ (k : Nat) (st : St) (r : R) (l : List Opt), SI k st r → GoodO l → l.length ≤ 1000000 → 0 ≤ (U.judge r l).2.1 ∧ (U.judge r l).2.1 < 256 ∧ GoodO (U.judge r l).2.2 ∧ (U.judge r l).2.2.length ≤ 1000000
  agreed : ∃ f, methOf Tryz.prog t "Agreed" = some f ∧ callable Tryz.prog f = true ∧ ∀ (k : Nat) (st : St) (r : R) (l : List Opt) (tk : Tk), SI k st r → k ≤ 1000000000 → GoodO l → l.length ≤ 1000000 →
    VCalls Tryz.prog f [.sc pv, .sl tk (opts l)] st fun x s => x = .tup [] ∧ SI k s (U.agreed r l) ∧ Tn bx st s
  naked : ∃ f, methOf Tryz.prog t "Naked" = some f ∧ callable Tryz.prog f = true ∧ ∀ (k : Nat) (st : St) (r : R) (l : List Opt) (tk : Tk), SI k st r → k ≤ 1000000000 → GoodO l → l.length ≤ 1000000 →
    VCalls Tryz.prog f [.sc pv, .sl tk (opts l)] st fun x s => x = .tup [] ∧ SI (k + 1) s (U.naked r l) ∧ Tn bx st s
  rejected : ∃ f, methOf Tryz.prog t "Rejected" = some f ∧ callable Tryz.prog f = true ∧ ∀ (k : Nat) (st : St) (r : R) (l : List Opt) (tk : Tk), SI k st r → k ≤ 1000000000 → GoodO l → l.length ≤ 1000000 →
    VCalls Tryz.prog f [.sc pv, .sl tk (opts l)] st fun x s => x = .sc (.bool (U.rejected r l).2) ∧ SI k s (U.rejected r l).1 ∧ Tn bx st s
  stay : ∀ (k : Nat) (st s : St) (r : R), SI k st r → (∀ b cs, st.box b = some cs → b ∈ bx → s.box b = some cs) → st.sz ≤ s.sz → SI k s r
  more : ∀ (k : Nat) (st : St) (r : R), SI k st r → SI (k + 1) st r
  lt : ∀ (k : Nat) (st : St) (r : R), SI k st r → ∀ b ∈ bx, b < st.sz
def negC {R : Type} (iv : V) (codes : Int) (N : Neg R) (tk : Tk) : List V :=
  [.sc (.int .i64 N.s), .sc (.int .i64 N.left), .sc (.int .i64 N.at_), iv, .sc (.int .u8 codes), .sc (.int .u8 N.id), .sl tk (bs N.req), .sc (.int .i64 N.naks)]
structure NegI {R : Type} (iv : V) (codes : Int) (SI : Nat → St → R → Prop) (bx : List Nat) (n k : Nat) (st : St) (N : Neg R) : Prop where
  box : ∃ tk, st.box n = some (negC iv codes N tk)
  si : SI k st N.r
  nn : n ∉ bx
  l0 : 0 ≤ N.left
  l1 : N.left ≤ 10
  i0 : 0 ≤ N.id
  i1 : N.id < 256
  a0 : 0 ≤ N.naks
  a1 : N.naks ≤ k
  rb : IsB N.req
theorem cntA_rng {act left : Int} (h0 : 0 ≤ left) (h1 : left ≤ 10) : 0 ≤ cntA act left ∧ cntA act left ≤ 10 := by
  unfold cntA
  simp only
  split <;> split <;> (try split) <;> (try split) <;> omega
section
variable {R : Type} {U : Rul R} {t : TypeId} {pv : Value} {SI : Nat → St → R → Prop} {bx : List Nat} {codes : Int} {n k : Nat} {st : St} {N : Neg R}
theorem NegI.write (hU : RulC U t pv SI bx) {iv : V} (h : NegI iv codes SI bx n k st N) {N' : Neg R} {tk : Tk} (hr : N'.r = N.r) (l0 : 0 ≤ N'.left) (l1 : N'.left ≤ 10) (i0 : 0 ≤ N'.id) (i1 : N'.id < 256) (a0 : 0 ≤ N'.naks) (a1 : N'.naks ≤ k) (rb : IsB N'.req) :
    NegI iv codes SI bx n k (st.put n (negC iv codes N' tk)) N' :=
  ⟨⟨tk, put_box_same⟩, by
    rw [hr]
    refine hU.stay k st _ _ h.si (fun b cs hb hm => ?_) (by simp only [put_sz]; omega)
    rw [put_box_ne (fun e => h.nn (by subst e; exact hm))]; exact hb, h.nn, l0, l1, i0, i1, a0, a1, rb⟩
theorem NegI.tnx (hU : RulC U t pv SI bx) {iv : V} (h : NegI iv codes SI bx n k st N) {s : St} {cs : List Nat} (T : Tn cs st s) (hd : ∀ b ∈ n :: bx, b ∉ cs) : NegI iv codes SI bx n k s N :=
  ⟨by obtain ⟨tk, hb⟩ := h.box; exact ⟨tk, T.box n _ hb (hd n (by simp))⟩, hU.stay k st s _ h.si (fun b cs hb hm => T.box b cs hb (hd b (by simp [hm]))) T.sz, h.nn, h.l0, h.l1, h.i0, h.i1, h.a0, h.a1, h.rb⟩
theorem NegI.tn (hU : RulC U t pv SI bx) {iv : V} (h : NegI iv codes SI bx n k st N) {s : St} (T : Tn [] st s) : NegI iv codes SI bx n k s N :=
  ⟨by obtain ⟨tk, hb⟩ := h.box; exact ⟨tk, T.box n _ hb (by simp)⟩, hU.stay k st s _ h.si (fun b cs hb _ => T.box b cs hb (by simp)) T.sz, h.nn, h.l0, h.l1, h.i0, h.i1, h.a0, h.a1, h.rb⟩
theorem NegI.lt (hU : RulC U t pv SI bx) {iv : V} (h : NegI iv codes SI bx n k st N) (hs : st.Lt) : ∀ b ∈ n :: bx, b < st.sz := fun b hb => by
  rcases List.mem_cons.1 hb with rfl | hb
  · obtain ⟨tk, hx⟩ := h.box; exact hs.box b _ hx
  · exact hU.lt k st _ h.si b hb
theorem NegI.more (hU : RulC U t pv SI bx) {iv : V} (h : NegI iv codes SI bx n k st N) : NegI iv codes SI bx n (k + 1) st N :=
  { h with si := hU.more _ _ _ h.si, a1 := by have := h.a1; omega }
theorem tn_new {s : St} (h : s.Lt) {b : Nat} {cs : List V} (hb : s.sz ≤ b) : Tn [] s (s.put b cs) := (Tn.refl h).put (.inr hb) h
set_option maxRecDepth 100000 in
theorem negFresh_v (hU : RulC U t pv SI bx) (h : NegI (.sc (.iface t pv)) codes SI bx n k st N) :
    VCalls Tryz.prog 97 [ptrV n] st fun r s => r = .sc (.int .u8 N.bump.id) ∧ NegI (.sc (.iface t pv)) codes SI bx n k s N.bump ∧ Tn (n :: bx) st s := by
  refine vcalls_enter vc97 (Nat.le_of_ble_eq_true rfl) fun hwf hok => ?_
  show Run _ Vc97.body (.fin (finQ Vc97.res _)) _ _
  unfold Vc97 zn zo
  have hlt := hwf.lt
  obtain ⟨tk, hb⟩ := h.box
  unfold negC at hb
  have hid : N.bump.id = (N.id + 1) % 256 := rfl
  have hW := h.write hU (N' := N.bump) (tk := tk) rfl h.l0 h.l1 (by rw [hid]; omega) (by rw [hid]; omega) h.a0 h.a1 h.rb
  unfold negC at hW
  rw [hid] at hW
  have hT : Tn (n :: bx) st (st.put n [.sc (.int .i64 N.bump.s), .sc (.int .i64 N.bump.left), .sc (.int .i64 N.bump.at_), .sc (.iface t pv), .sc (.int .u8 codes), .sc (.int .u8 ((N.id + 1) % 256)), .sl tk (bs N.bump.req), .sc (.int .i64 N.bump.naks)]) :=
    (Tn.refl hlt).put (.inl (by simp)) hlt
  simp (maxSteps := 3000000) only [go_sem, ↓reduceIte, hb]
  exact ⟨_, _, Wk.refl _, hT.lt.weak, rfl, hW, hT⟩
theorem negState_v (h : NegI (.sc (.iface t pv)) codes SI bx n k st N) : VCalls Tryz.prog 68 [ptrV n] st fun r s => r = .sc (.int .i64 N.s) ∧ st = s := by
  refine vcalls_enter vc68 (Nat.le_of_ble_eq_true rfl) fun hwf hok => ?_
  show Run _ Vc68.body (.fin (finQ Vc68.res _)) _ _
  unfold Vc68 zo
  obtain ⟨tk, hb⟩ := h.box
  unfold negC at hb
  simp (maxSteps := 3000000) only [go_sem, ↓reduceIte, hb]
  exact ⟨_, _, Wk.refl _, hwf.weak, rfl, rfl⟩
theorem negDo_v (hU : RulC U t pv SI bx) (h : NegI (.sc (.iface t pv)) codes SI bx n k st N) {now e : Int} (hn : 0 ≤ now) (hn2 : now ≤ 1000000000) :
    VCalls Tryz.prog 83 [ptrV n, .sc (.int .i64 now), .sc (.int .i64 e)] st fun r s => r = .sc (.int .u16 (stepF N.s e).2) ∧ NegI (.sc (.iface t pv)) codes SI bx n k s (N.step now e) ∧ Tn (n :: bx) st s := by
  obtain ⟨tk, hb⟩ := h.box
  refine VCalls.wf fun hwf => (autoDo_v (e := e) hb h.l0 h.l1 hn hn2).mono fun r s ⟨e1, e2⟩ => ⟨e1, ?_, ?_⟩
  · have hc := cntA_rng (act := (stepF N.s e).2) h.l0 h.l1
    rw [e2]
    exact h.write hU (N' := N.step now e) (tk := tk) rfl hc.1 hc.2 h.i0 h.i1 h.a0 h.a1 h.rb
  · rw [e2]
    exact (Tn.refl hwf.lt).put (.inl (by simp)) hwf.lt
theorem u8sOf_bsN : ∀ L : List Int, u8sOf (bs L) = some L
  | [] => rfl
  | x :: L => by
    rw [bs_cons]
    simp only [u8sOf, u8sOf_bsN L]
    all_goals rfl
set_option maxRecDepth 100000 in
set_option maxHeartbeats 4000000 in
theorem negAsked_v (hU : RulC U t pv SI bx) (h : NegI (.sc (.iface t pv)) codes SI bx n k st N) {again : Bool} :
    VCalls Tryz.prog 96 [ptrV n, .sc (.bool again)] st fun r s => r = (⟨1, (N.asked U again).id, buildO (U.request N.r)⟩ : Ctl).v ∧ NegI (.sc (.iface t pv)) codes SI bx n k s (N.asked U again) ∧ Tn (n :: bx) st s := by
  obtain ⟨fq, hm, hc, hq⟩ := hU.req
  refine vcalls_enter vc96 (Nat.le_of_ble_eq_true rfl) fun hwf hok => ?_
  show Run _ Vc96.body (.fin (finQ Vc96.res _)) _ _
  unfold Vc96 zg zn zo
  have hlt := hwf.lt
  obtain ⟨tk, hb⟩ := h.box
  have hb' := hb
  unfold negC at hb
  have hnl := hlt.box n _ hb
  obtain ⟨gG, gl⟩ := hU.reqG k st N.r h.si
  have hbB := buildO_isB gG
  have hbl := buildO_len (U.request N.r)
  simp (maxSteps := 3000000) only [go_sem, ↓reduceIte]
  intro f hf
  have nf : n ≠ f := by omega
  have T0 : Tn [] st (st.put f [.sc (.int .u8 0), .sc (.int .u8 0), .sl .nil []]) := tn_new hlt hf
  have h0 := h.tn hU T0
  have B0 : (st.put f [.sc (.int .u8 0), .sc (.int .u8 0), .sl .nil []]).box f = some [.sc (.int .u8 0), .sc (.int .u8 0), .sl .nil []] := put_box_same
  have hb0 := T0.box n _ hb (by simp)
  generalize st.put f [.sc (.int .u8 0), .sc (.int .u8 0), .sl .nil []] = s0 at T0 h0 B0 hb0 ⊢
  have L0 := T0.lt
  simp (maxSteps := 3000000) only [go_sem, ↓reduceIte, hb0]
  refine Ivk.mk hm hc hU.one ?_
  refine Cal.mk (hq k s0 N.r h0.si) ?_
  rintro _ _ ⟨rfl, rfl⟩ -
  simp (maxSteps := 3000000) only [go_sem, ↓reduceIte]
  refine Cal.mk (optBuild_v gG (by omega)) ?_
  rintro _ _ ⟨rfl, rfl⟩ -
  generalize hX : buildO (U.request N.r) = X at hbB hbl ⊢
  have hinj := strOf_inj hbB h.rb
  obtain ⟨N1, hN1⟩ : ∃ N1, N1 = N.asked U again := ⟨_, rfl⟩
  have hreq : N1.req = X := by rw [hN1, ← hX]; rfl
  have hrr : N1.r = N.r := by rw [hN1]; rfl
  have hll : N1.left = N.left := by rw [hN1]; rfl
  have hss : N1.s = N.s := by rw [hN1]; rfl
  have haa : N1.at_ = N.at_ := by rw [hN1]; rfl
  have hnn : N1.naks = N.naks := by rw [hN1]; rfl
  have hid : N1.id = if again = true ∧ X = N.req then N.id else (N.id + 1) % 256 := by rw [hN1, ← hX]; rfl
  rw [← hN1]
  have hi0 : 0 ≤ N1.id ∧ N1.id < 256 := by
    rw [hid]
    split
    · exact ⟨h.i0, h.i1⟩
    · omega
  have TW : Tn (n :: bx) st s0 := T0.wide (by simp)
  have hC : negC (.sc (.iface t pv)) codes N1 .no = [.sc (.int .i64 N.s), .sc (.int .i64 N.left), .sc (.int .i64 N.at_), .sc (.iface t pv), .sc (.int .u8 codes), .sc (.int .u8 N1.id), .sl .no (bs X), .sc (.int .i64 N.naks)] := by
    unfold negC; rw [hss, hll, haa, hreq, hnn]
  have hfd : ∀ b ∈ n :: bx, b ∉ [f] := fun b hb hm => by
    have := h.lt hU hlt b hb
    simp only [List.mem_singleton] at hm
    omega
  by_cases c1 : again = true ∧ X = N.req
  · obtain ⟨rfl, c2⟩ := c1
    rw [if_pos ⟨rfl, c2⟩] at hid
    have h2 : NegI (.sc (.iface t pv)) codes SI bx n k s0 { N with id := N1.id } := by rw [hid]; exact h0
    have T2 := TW
    have B2 := B0
    have e1 : decide (strOf X ≠ strOf N.req) = false := by rw [c2]; simp
    rw [← hid] at hb0
    simp (maxSteps := 3000000) only [go_sem, ↓reduceIte, hb0, u8sOf_bsN, e1]
    generalize s0 = s2 at h2 T2 B2 hb0 ⊢
    obtain ⟨tk2, hb2⟩ := h2.box
    unfold negC at hb2
    have hW := h2.write hU (N' := N1) (tk := .no) hrr (by rw [hll]; exact h.l0) (by rw [hll]; exact h.l1) hi0.1 hi0.2 (by rw [hnn]; exact h.a0) (by rw [hnn]; exact h.a1) (by rw [hreq]; exact hbB)
    rw [hC] at hW
    have T3 : Tn (n :: bx) st (s2.put n [.sc (.int .i64 N.s), .sc (.int .i64 N.left), .sc (.int .i64 N.at_), .sc (.iface t pv), .sc (.int .u8 codes), .sc (.int .u8 N1.id), .sl .no (bs X), .sc (.int .i64 N.naks)]) := T2.put (.inl (by simp)) hlt
    have B3 : (s2.put n [.sc (.int .i64 N.s), .sc (.int .i64 N.left), .sc (.int .i64 N.at_), .sc (.iface t pv), .sc (.int .u8 codes), .sc (.int .u8 N1.id), .sl .no (bs X), .sc (.int .i64 N.naks)]).box f = some [.sc (.int .u8 0), .sc (.int .u8 0), .sl .nil []] := by rw [put_box_ne nf.symm]; exact B2
    generalize s2.put n [.sc (.int .i64 N.s), .sc (.int .i64 N.left), .sc (.int .i64 N.at_), .sc (.iface t pv), .sc (.int .u8 codes), .sc (.int .u8 N1.id), .sl .no (bs X), .sc (.int .i64 N.naks)] = s3 at hW T3 B3 ⊢
    refine App.mk (bytes := 1) (l := []) (ys := bs X) own_nil (allSz_bs _) (by simp only [bs_len, List.length_nil]; unfold maxLen; omega) (by simp only [bs_len, List.length_nil]; omega) ?_
    intro r4 s4 k3 k4
    have T4 := T3.app k4 noOwn hlt
    have N4 : RO 1 st.bare s4 r4 (bs X) := (RO.nil T3.bare T3.lt).app k3 k4
    obtain ⟨t4, rfl⟩ := N4.sl
    have hW4 := hW.tn hU ((Tn.refl (bx := []) T3.lt).app k4 noOwn T3.lt)
    have B4 : s4.box f = some [.sc (.int .u8 0), .sc (.int .u8 0), .sl .nil []] := by rw [k4.box]; exact B3
    obtain ⟨tk5, hb4⟩ := hW4.box
    rw [negC] at hb4
    simp (maxSteps := 3000000) only [go_sem, ↓reduceIte, B4, hb4]
    have T5 : Tn (n :: bx) st (s4.put f [.sc (.int .u8 1), .sc (.int .u8 N1.id), .sl t4 (bs X)]) := T4.put (.inr hf) hlt
    have hW5 := hW4.tnx hU ((Tn.refl (bx := [f]) T4.lt).put (b := f) (cs := [.sc (.int .u8 1), .sc (.int .u8 N1.id), .sl t4 (bs X)]) (.inl (by simp)) T4.lt) hfd
    exact ⟨_, _, Wk.agg (.cons (.refl _) (.cons (.refl _) (.cons .no .nil))), T5.lt.weak, rfl, hW5, T5⟩
  · rw [if_neg c1] at hid
    have hcond : again = false ∨ again = true ∧ ¬ X = N.req := by
      cases again
      · exact .inl rfl
      · exact .inr ⟨rfl, fun e => c1 ⟨rfl, e⟩⟩
    have hNb : { N with id := N1.id } = N.bump := by rw [hid]; rfl
    have key : ∀ (r : V) (s2 : St), r = .sc (.int .u8 N.bump.id) ∧ NegI (.sc (.iface t pv)) codes SI bx n k s2 N.bump ∧ Tn (n :: bx) s0 s2 → NegI (.sc (.iface t pv)) codes SI bx n k s2 { N with id := N1.id } ∧ Tn (n :: bx) st s2 ∧ s2.box f = some [.sc (.int .u8 0), .sc (.int .u8 0), .sl .nil []] := fun r s2 ⟨_, q2, q3⟩ => by
      refine ⟨by rw [hNb]; exact q2, TW.trans q3, q3.box f _ B0 (fun hm => ?_)⟩
      have := h.lt hU hlt f hm
      omega
    rcases hcond with rfl | ⟨rfl, c2⟩
    · simp (maxSteps := 3000000) only [go_sem, ↓reduceIte]
      refine Cal.mk (negFresh_v hU h0) ?_
      intro r s2 hq2 _
      obtain ⟨h2, T2, B2⟩ := key r s2 hq2
      obtain ⟨tk2, hb2⟩ := h2.box
      unfold negC at hb2
      have hW := h2.write hU (N' := N1) (tk := .no) hrr (by rw [hll]; exact h.l0) (by rw [hll]; exact h.l1) hi0.1 hi0.2 (by rw [hnn]; exact h.a0) (by rw [hnn]; exact h.a1) (by rw [hreq]; exact hbB)
      rw [hC] at hW
      have T3 : Tn (n :: bx) st (s2.put n [.sc (.int .i64 N.s), .sc (.int .i64 N.left), .sc (.int .i64 N.at_), .sc (.iface t pv), .sc (.int .u8 codes), .sc (.int .u8 N1.id), .sl .no (bs X), .sc (.int .i64 N.naks)]) := T2.put (.inl (by simp)) hlt
      have B3 : (s2.put n [.sc (.int .i64 N.s), .sc (.int .i64 N.left), .sc (.int .i64 N.at_), .sc (.iface t pv), .sc (.int .u8 codes), .sc (.int .u8 N1.id), .sl .no (bs X), .sc (.int .i64 N.naks)]).box f = some [.sc (.int .u8 0), .sc (.int .u8 0), .sl .nil []] := by rw [put_box_ne nf.symm]; exact B2
      simp (maxSteps := 3000000) only [go_sem, ↓reduceIte, hb2]
      generalize s2.put n [.sc (.int .i64 N.s), .sc (.int .i64 N.left), .sc (.int .i64 N.at_), .sc (.iface t pv), .sc (.int .u8 codes), .sc (.int .u8 N1.id), .sl .no (bs X), .sc (.int .i64 N.naks)] = s3 at hW T3 B3 ⊢
      refine App.mk (bytes := 1) (l := []) (ys := bs X) own_nil (allSz_bs _) (by simp only [bs_len, List.length_nil]; unfold maxLen; omega) (by simp only [bs_len, List.length_nil]; omega) ?_
      intro r4 s4 k3 k4
      have T4 := T3.app k4 noOwn hlt
      have N4 : RO 1 st.bare s4 r4 (bs X) := (RO.nil T3.bare T3.lt).app k3 k4
      obtain ⟨t4, rfl⟩ := N4.sl
      have hW4 := hW.tn hU ((Tn.refl (bx := []) T3.lt).app k4 noOwn T3.lt)
      have B4 : s4.box f = some [.sc (.int .u8 0), .sc (.int .u8 0), .sl .nil []] := by rw [k4.box]; exact B3
      obtain ⟨tk5, hb4⟩ := hW4.box
      rw [negC] at hb4
      simp (maxSteps := 3000000) only [go_sem, ↓reduceIte, B4, hb4]
      have T5 : Tn (n :: bx) st (s4.put f [.sc (.int .u8 1), .sc (.int .u8 N1.id), .sl t4 (bs X)]) := T4.put (.inr hf) hlt
      have hW5 := hW4.tnx hU ((Tn.refl (bx := [f]) T4.lt).put (b := f) (cs := [.sc (.int .u8 1), .sc (.int .u8 N1.id), .sl t4 (bs X)]) (.inl (by simp)) T4.lt) hfd
      exact ⟨_, _, Wk.agg (.cons (.refl _) (.cons (.refl _) (.cons .no .nil))), T5.lt.weak, rfl, hW5, T5⟩
    · have e1 : decide (strOf X ≠ strOf N.req) = true := decide_eq_true (fun e => c2 (hinj.1 e))
      simp (maxSteps := 3000000) only [go_sem, ↓reduceIte, hb0, u8sOf_bsN, e1]
      refine Cal.mk (negFresh_v hU h0) ?_
      intro r s2 hq2 _
      obtain ⟨h2, T2, B2⟩ := key r s2 hq2
      obtain ⟨tk2, hb2⟩ := h2.box
      unfold negC at hb2
      have hW := h2.write hU (N' := N1) (tk := .no) hrr (by rw [hll]; exact h.l0) (by rw [hll]; exact h.l1) hi0.1 hi0.2 (by rw [hnn]; exact h.a0) (by rw [hnn]; exact h.a1) (by rw [hreq]; exact hbB)
      rw [hC] at hW
      have T3 : Tn (n :: bx) st (s2.put n [.sc (.int .i64 N.s), .sc (.int .i64 N.left), .sc (.int .i64 N.at_), .sc (.iface t pv), .sc (.int .u8 codes), .sc (.int .u8 N1.id), .sl .no (bs X), .sc (.int .i64 N.naks)]) := T2.put (.inl (by simp)) hlt
      have B3 : (s2.put n [.sc (.int .i64 N.s), .sc (.int .i64 N.left), .sc (.int .i64 N.at_), .sc (.iface t pv), .sc (.int .u8 codes), .sc (.int .u8 N1.id), .sl .no (bs X), .sc (.int .i64 N.naks)]).box f = some [.sc (.int .u8 0), .sc (.int .u8 0), .sl .nil []] := by rw [put_box_ne nf.symm]; exact B2
      simp (maxSteps := 3000000) only [go_sem, ↓reduceIte, hb2]
      generalize s2.put n [.sc (.int .i64 N.s), .sc (.int .i64 N.left), .sc (.int .i64 N.at_), .sc (.iface t pv), .sc (.int .u8 codes), .sc (.int .u8 N1.id), .sl .no (bs X), .sc (.int .i64 N.naks)] = s3 at hW T3 B3 ⊢
      refine App.mk (bytes := 1) (l := []) (ys := bs X) own_nil (allSz_bs _) (by simp only [bs_len, List.length_nil]; unfold maxLen; omega) (by simp only [bs_len, List.length_nil]; omega) ?_
      intro r4 s4 k3 k4
      have T4 := T3.app k4 noOwn hlt
      have N4 : RO 1 st.bare s4 r4 (bs X) := (RO.nil T3.bare T3.lt).app k3 k4
      obtain ⟨t4, rfl⟩ := N4.sl
      have hW4 := hW.tn hU ((Tn.refl (bx := []) T3.lt).app k4 noOwn T3.lt)
      have B4 : s4.box f = some [.sc (.int .u8 0), .sc (.int .u8 0), .sl .nil []] := by rw [k4.box]; exact B3
      obtain ⟨tk5, hb4⟩ := hW4.box
      rw [negC] at hb4
      simp (maxSteps := 3000000) only [go_sem, ↓reduceIte, B4, hb4]
      have T5 : Tn (n :: bx) st (s4.put f [.sc (.int .u8 1), .sc (.int .u8 N1.id), .sl t4 (bs X)]) := T4.put (.inr hf) hlt
      have hW5 := hW4.tnx hU ((Tn.refl (bx := [f]) T4.lt).put (b := f) (cs := [.sc (.int .u8 1), .sc (.int .u8 N1.id), .sl t4 (bs X)]) (.inl (by simp)) T4.lt) hfd
      exact ⟨_, _, Wk.agg (.cons (.refl _) (.cons (.refl _) (.cons .no .nil))), T5.lt.weak, rfl, hW5, T5⟩
end
end
section
open Go
section
variable {R : Type} {U : Rul R} {t : TypeId} {pv : Value} {SI : Nat → St → R → Prop} {bx : List Nat} {codes : Int} {n k : Nat} {st s s2 : St} {N N' : Neg R}
theorem NegI.same (hU : RulC U t pv SI bx) {iv : V} (h : NegI iv codes SI bx n k s N) (hb : s2.box = s.box) (hs : s.sz ≤ s2.sz) : NegI iv codes SI bx n k s2 N :=
  ⟨by obtain ⟨tk, hx⟩ := h.box; exact ⟨tk, by rw [hb]; exact hx⟩, hU.stay k s s2 _ h.si (fun b cs hc _ => by rw [hb]; exact hc) hs, h.nn, h.l0, h.l1, h.i0, h.i1, h.a0, h.a1, h.rb⟩
structure DnI (st : St) (iv : V) (codes : Int) (SI : Nat → St → R → Prop) (bx : List Nat) (n k : Nat) (a r o : Nat) (w : List V) (u d v : Bool) (s : St) (N : Neg R) (P : List Ctl) : Prop where
  neg : NegI iv codes SI bx n k s N
  tn : Tn (n :: bx) st s
  ba : s.box a = some w
  br : s.box r = some [.sl .nil [], .sc (.bool false), .sc (.bool false), .sc (.bool false)]
  bo : ∃ tv, s.box o = some [.sl tv (ctls P), .sc (.bool u), .sc (.bool d), .sc (.bool v)] ∧ RO 3 st.bare s (.sl tv (ctls P)) (ctls P)
  sa : st.sz ≤ a
  sr : st.sz ≤ r
  so : st.sz ≤ o
  ao : a ≠ o
  ro : r ≠ o
  ar : a ≠ r
  below : ∀ b ∈ n :: bx, b < st.sz
variable {iv : V} {a r o : Nat} {w : List V} {u d v : Bool} {P : List Ctl}
theorem DnI.step (D : DnI st iv codes SI bx n k a r o w u d v s N P) (hN : NegI iv codes SI bx n k s2 N') (T : Tn (n :: bx) s s2) : DnI st iv codes SI bx n k a r o w u d v s2 N' P :=
  have ne : ∀ b, st.sz ≤ b → b ∉ n :: bx := fun b hb hm => by have := D.below b hm; omega
  ⟨hN, D.tn.trans T, T.box a _ D.ba (ne a D.sa), T.box r _ D.br (ne r D.sr), by
    obtain ⟨tv, h1, h2⟩ := D.bo
    exact ⟨tv, T.box o _ h1 (ne o D.so), h2.tn T (fun _ _ => rfl)⟩, D.sa, D.sr, D.so, D.ao, D.ro, D.ar, D.below⟩
theorem DnI.push (hU : RulC U t pv SI bx) (D : DnI st iv codes SI bx n k a r o w u d v s N P) (hl : st.Lt) {tv : Tk} (R : RO 3 st.bare s (.sl tv (ctls P)) (ctls P)) {c : Ctl} {r2 : V}
    (k1 : Own 3 s2 r2 (ctls P ++ ctls [c])) (k2 : AppSt s (.sl tv (ctls P)) s2 r2) : DnI st iv codes SI bx n k a r o w u d v (s2.put o [r2, .sc (.bool u), .sc (.bool d), .sc (.bool v)]) N (P ++ [c]) := by
  have ne : ∀ b, st.sz ≤ b → b ∉ n :: bx := fun b hb hm => by have := D.below b hm; omega
  have R2 := R.app k1 k2
  rw [ctls_append] at R2
  have T2 : Tn (n :: bx) st s2 := D.tn.app k2 R.tok hl
  have h2 := D.neg.same hU k2.box k2.sz
  have R3 := R2.put (c := o) (cs := [r2, .sc (.bool u), .sc (.bool d), .sc (.bool v)]) D.so
  obtain ⟨t2, rfl⟩ := R2.sl
  refine ⟨h2.tnx hU ((Tn.refl (bx := [o]) R2.lt).put (.inl (by simp)) R2.lt) (fun b hb hm => ?_), T2.put (.inr D.so) hl, ?_, ?_, ⟨t2, put_box_same, R3⟩, D.sa, D.sr, D.so, D.ao, D.ro, D.ar, D.below⟩
  · simp only [List.mem_singleton] at hm
    subst hm
    exact ne _ D.so hb
  · rw [put_box_ne D.ao, k2.box]; exact D.ba
  · rw [put_box_ne D.ro, k2.box]; exact D.br
def NOut (st : St) (iv : V) (codes : Int) (SI : Nat → St → R → Prop) (bx : List Nat) (n k m : Nat) (X : Neg R × Nout) (r : V) (s : St) : Prop :=
  ∃ tv, r = .agg [.sl tv (ctls X.2.P), .sc (.bool X.2.up), .sc (.bool X.2.down), .sc (.bool X.2.over)] ∧ RO 3 st.bare s (.sl tv (ctls X.2.P)) (ctls X.2.P) ∧ NegI iv codes SI bx n k s X.1 ∧ Tn (n :: bx) st s ∧ X.2.P.length ≤ m
set_option maxRecDepth 100000 in
set_option maxHeartbeats 16000000 in
theorem negDone_v (hU : RulC U t pv SI bx) (h : NegI (.sc (.iface t pv)) codes SI bx n k st N) {act : Int} {again : Bool} {p back : Ctl} (hp : p.Good) {tp tb : Tk} :
    VCalls Tryz.prog 76 [ptrV n, .sc (.int .u16 act), .sc (.bool again), .agg [.sc (.int .u8 p.code), .sc (.int .u8 p.id), .sl tp (bs p.data), .sc (.int .u8 back.code), .sc (.int .u8 back.id), .sl tb (bs back.data)]] st
      (NOut st (.sc (.iface t pv)) codes SI bx n k 5 (N.done U act again p back)) := by
  obtain ⟨P5, hP5⟩ : ∃ X, X = N.done U act again p back := ⟨_, rfl⟩
  rw [← hP5]
  refine vcalls_enter vc76 (Nat.le_of_ble_eq_true rfl) fun hwf hok => ?_
  show Run _ Vc76.body (.fin (finQ Vc76.res _)) _ _
  unfold Vc76 zn zo
  have hlt := hwf.lt
  simp (maxSteps := 3000000) only [go_sem, ↓reduceIte]
  intro a ha r hr
  refine Cal.mk actHasB_v ?_
  rintro _ _ ⟨rfl, rfl⟩ -
  simp (maxSteps := 3000000) only [go_sem, ↓reduceIte]
  refine Cal.mk actHasB_v ?_
  rintro _ _ ⟨rfl, rfl⟩ -
  simp (maxSteps := 3000000) only [go_sem, ↓reduceIte]
  refine Cal.mk actHasB_v ?_
  rintro _ _ ⟨rfl, rfl⟩ -
  simp (maxSteps := 3000000) only [go_sem, ↓reduceIte]
  intro o ho
  have D0 : DnI st (.sc (.iface t pv)) codes SI bx n k a r o [.sc (.int .u8 p.code), .sc (.int .u8 p.id), .sl tp (bs p.data), .sc (.int .u8 back.code), .sc (.int .u8 back.id), .sl tb (bs back.data)] (hasA act 1) (hasA act 2) (hasA act 8) (((st.put a [.sc (.int .u8 p.code), .sc (.int .u8 p.id), .sl tp (bs p.data), .sc (.int .u8 back.code), .sc (.int .u8 back.id), .sl tb (bs back.data)]).put r [.sl .nil [], .sc (.bool false), .sc (.bool false), .sc (.bool false)]).put o [.sl .nil [], .sc (.bool (hasA act 1)), .sc (.bool (hasA act 2)), .sc (.bool (hasA act 8))]) N [] := by
    have ar : a ≠ r := by omega
    have ao : a ≠ o := by omega
    have ro : r ≠ o := by omega
    have sr : st.sz ≤ r := by omega
    have so : st.sz ≤ o := by omega
    have T : Tn [] st (((st.put a [.sc (.int .u8 p.code), .sc (.int .u8 p.id), .sl tp (bs p.data), .sc (.int .u8 back.code), .sc (.int .u8 back.id), .sl tb (bs back.data)]).put r [.sl .nil [], .sc (.bool false), .sc (.bool false), .sc (.bool false)]).put o [.sl .nil [], .sc (.bool (hasA act 1)), .sc (.bool (hasA act 2)), .sc (.bool (hasA act 8))]) :=
      ((tn_new hlt ha).put (.inr sr) hlt).put (.inr so) hlt
    refine ⟨h.tn hU T, T.wide (by simp), ?_, ?_, ⟨.nil, put_box_same, RO.nil T.bare T.lt⟩, ha, sr, so, ao, ro, ar, h.lt hU hlt⟩
    · rw [put_box_ne ao, put_box_ne ar, put_box_same]
    · rw [put_box_ne ro, put_box_same]
  generalize ((st.put a _).put r _).put o _ = s0 at D0 ⊢
  clear ha hr ho
  have hP5 : P5 = ((((N.d1 U act again).1.d3 act (Neg.d2 act back (N.d1 U act again).2)).1.d5 act p (Neg.d4 act p ((N.d1 U act again).1.d3 act (Neg.d2 act back (N.d1 U act again).2)).2)).1.d6 act, ⟨(((N.d1 U act again).1.d3 act (Neg.d2 act back (N.d1 U act again).2)).1.d5 act p (Neg.d4 act p ((N.d1 U act again).1.d3 act (Neg.d2 act back (N.d1 U act again).2)).2)).2, hasA act 1, hasA act 2, hasA act 8⟩) := hP5
  refine Cal.mk actHasB_v ?_
  rintro _ _ ⟨rfl, rfl⟩ -
  simp (maxSteps := 3000000) only [go_sem, ↓reduceIte]
  refine If.cut [19, 20, 21, 22, 23, 24, 25, 26] (fun _ s => DnI st (.sc (.iface t pv)) codes SI bx n k a r o [.sc (.int .u8 p.code), .sc (.int .u8 p.id), .sl tp (bs p.data), .sc (.int .u8 back.code), .sc (.int .u8 back.id), .sl tb (bs back.data)] (hasA act 1) (hasA act 2) (hasA act 8) s ((N.d1 U act again).1) ((N.d1 U act again).2) ∧ ((N.d1 U act again).2).length ≤ 1) rfl ?_ ?_
  · refine If.mk (fun e => ?_) (fun e => ?_)
    · obtain ⟨tv, hbo, R⟩ := D0.bo
      simp (maxSteps := 3000000) only [go_sem, ↓reduceIte, hbo]
      refine Cal.mk (negAsked_v hU D0.neg) ?_
      rintro _ s1 ⟨rfl, h1, T1⟩ -
      have D1 := D0.step h1 T1
      have hb1 := T1.box o _ hbo (fun hm => by have := D0.below o hm; have := D0.so; omega)
      have R1 := R.tn T1 (fun _ _ => rfl)
      simp (maxSteps := 3000000) only [go_sem, ↓reduceIte, hb1, Ctl.v]
      repeat (apply And.intro; focus (first | omega | (simp; done)))
      refine App.mk (bytes := 32) (l := ctls ([])) (ys := ctls [⟨1, (N.asked U again).id, buildO (U.request N.r)⟩]) R1.own (allSz_ctls _) (by simp only [ctls_len, List.length_cons, List.length_nil]; unfold maxLen; omega) (by simp only [ctls_len, List.length_cons, List.length_nil]; omega) ?_
      intro r2 s2 k1 k2
      obtain ⟨t2, rfl⟩ := own_sl k1
      have hb2 := hb1
      rw [← k2.box] at hb2
      simp (maxSteps := 3000000) only [go_sem, ↓reduceIte, hb2, at_cutk_n]
      have D2 := D1.push hU hlt R1 k1 k2
      simp only [Neg.d1, e, ↓reduceIte]
      exact ⟨D2, by simp⟩
    · simp (maxSteps := 3000000) only [go_sem, at_cutk_n]
      simp only [Neg.d1, e, Bool.false_eq_true, ↓reduceIte]
      exact ⟨D0, by simp⟩
  rintro _ s1 ⟨D1, L1⟩
  clear D0
  generalize (N.d1 U act again).1 = N1 at D1 hP5
  generalize (N.d1 U act again).2 = P1 at D1 hP5 L1
  simp (maxSteps := 3000000) only [go_sem, ↓reduceIte]
  refine Cal.mk actHasB_v ?_
  rintro _ _ ⟨rfl, rfl⟩ -
  simp (maxSteps := 3000000) only [go_sem, ↓reduceIte]
  refine If.cut [29, 30, 31, 32, 33, 34, 35] (fun _ s => DnI st (.sc (.iface t pv)) codes SI bx n k a r o [.sc (.int .u8 p.code), .sc (.int .u8 p.id), .sl tp (bs p.data), .sc (.int .u8 back.code), .sc (.int .u8 back.id), .sl tb (bs back.data)] (hasA act 1) (hasA act 2) (hasA act 8) s (N1) (Neg.d2 act back P1) ∧ (Neg.d2 act back P1).length ≤ 2) rfl ?_ ?_
  · refine If.mk (fun e => ?_) (fun e => ?_)
    · obtain ⟨tv, hbo, R⟩ := D1.bo
      have hba := D1.ba
      simp (maxSteps := 3000000) only [go_sem, ↓reduceIte, hbo, hba]
      repeat (apply And.intro; focus (first | omega | (simp; done)))
      refine App.mk (bytes := 32) (l := ctls (P1)) (ys := ctls [back]) R.own (allSz_ctls _) (by simp only [ctls_len, List.length_cons, List.length_nil]; unfold maxLen; omega) (by simp only [ctls_len, List.length_cons, List.length_nil]; omega) ?_
      intro r2 s2 k1 k2
      obtain ⟨t2, rfl⟩ := own_sl k1
      have hb2 := hbo
      rw [← k2.box] at hb2
      simp (maxSteps := 3000000) only [go_sem, ↓reduceIte, hb2, at_cutk_n]
      have D2 := D1.push hU hlt R k1 k2
      simp only [Neg.d2, e, ↓reduceIte]
      exact ⟨D2, by simp only [List.length_append, List.length_cons, List.length_nil]; omega⟩
    · simp (maxSteps := 3000000) only [go_sem, at_cutk_n]
      simp only [Neg.d2, e, Bool.false_eq_true, ↓reduceIte]
      exact ⟨D1, by omega⟩
  rintro _ s2 ⟨D2, L2⟩
  clear D1
  generalize Neg.d2 act back P1 = P2 at D2 hP5 L2
  simp (maxSteps := 3000000) only [go_sem, ↓reduceIte]
  refine Cal.mk actHasB_v ?_
  rintro _ _ ⟨rfl, rfl⟩ -
  simp (maxSteps := 3000000) only [go_sem, ↓reduceIte]
  refine If.cut [38, 39, 40, 41, 42, 43, 44, 45] (fun _ s => DnI st (.sc (.iface t pv)) codes SI bx n k a r o [.sc (.int .u8 p.code), .sc (.int .u8 p.id), .sl tp (bs p.data), .sc (.int .u8 back.code), .sc (.int .u8 back.id), .sl tb (bs back.data)] (hasA act 1) (hasA act 2) (hasA act 8) s ((N1.d3 act P2).1) ((N1.d3 act P2).2) ∧ ((N1.d3 act P2).2).length ≤ 3) rfl ?_ ?_
  · refine If.mk (fun e => ?_) (fun e => ?_)
    · obtain ⟨tv, hbo, R⟩ := D2.bo
      simp (maxSteps := 3000000) only [go_sem, ↓reduceIte, hbo]
      refine Cal.mk (negFresh_v hU D2.neg) ?_
      rintro _ s1 ⟨rfl, h1, T1⟩ -
      have D3 := D2.step h1 T1
      have hb1 := T1.box o _ hbo (fun hm => by have := D2.below o hm; have := D2.so; omega)
      have R1 := R.tn T1 (fun _ _ => rfl)
      simp (maxSteps := 3000000) only [go_sem, ↓reduceIte, hb1]
      repeat (apply And.intro; focus (first | omega | (simp; done)))
      refine App.mk (bytes := 32) (l := ctls (P2)) (ys := ctls [⟨5, N1.bump.id, []⟩]) R1.own (allSz_ctls _) (by simp only [ctls_len, List.length_cons, List.length_nil]; unfold maxLen; omega) (by simp only [ctls_len, List.length_cons, List.length_nil]; omega) ?_
      intro r2 s2 k1 k2
      obtain ⟨t2, rfl⟩ := own_sl k1
      have hb2 := hb1
      rw [← k2.box] at hb2
      simp (maxSteps := 3000000) only [go_sem, ↓reduceIte, hb2, at_cutk_n]
      have D4 := D3.push hU hlt R1 k1 k2
      simp only [Neg.d3, e, ↓reduceIte]
      exact ⟨D4, by simp only [List.length_append, List.length_cons, List.length_nil]; omega⟩
    · simp (maxSteps := 3000000) only [go_sem, at_cutk_n]
      simp only [Neg.d3, e, Bool.false_eq_true, ↓reduceIte]
      exact ⟨D2, by omega⟩
  rintro _ s3 ⟨D3, L3⟩
  clear D2
  generalize (N1.d3 act P2).1 = N3 at D3 hP5
  generalize (N1.d3 act P2).2 = P3 at D3 hP5 L3
  simp (maxSteps := 3000000) only [go_sem, ↓reduceIte]
  refine Cal.mk actHasB_v ?_
  rintro _ _ ⟨rfl, rfl⟩ -
  simp (maxSteps := 3000000) only [go_sem, ↓reduceIte]
  refine If.cut [48, 49, 50, 51, 52, 53, 54, 55, 56] (fun _ s => DnI st (.sc (.iface t pv)) codes SI bx n k a r o [.sc (.int .u8 p.code), .sc (.int .u8 p.id), .sl tp (bs p.data), .sc (.int .u8 back.code), .sc (.int .u8 back.id), .sl tb (bs back.data)] (hasA act 1) (hasA act 2) (hasA act 8) s (N3) (Neg.d4 act p P3) ∧ (Neg.d4 act p P3).length ≤ 4) rfl ?_ ?_
  · refine If.mk (fun e => ?_) (fun e => ?_)
    · obtain ⟨tv, hbo, R⟩ := D3.bo
      have hba := D3.ba
      simp (maxSteps := 3000000) only [go_sem, ↓reduceIte, hbo, hba]
      repeat (apply And.intro; focus (first | omega | (simp; done)))
      refine App.mk (bytes := 32) (l := ctls (P3)) (ys := ctls [⟨6, p.id, []⟩]) R.own (allSz_ctls _) (by simp only [ctls_len, List.length_cons, List.length_nil]; unfold maxLen; omega) (by simp only [ctls_len, List.length_cons, List.length_nil]; omega) ?_
      intro r2 s2 k1 k2
      obtain ⟨t2, rfl⟩ := own_sl k1
      have hb2 := hbo
      rw [← k2.box] at hb2
      simp (maxSteps := 3000000) only [go_sem, ↓reduceIte, hb2, at_cutk_n]
      have D4 := D3.push hU hlt R k1 k2
      simp only [Neg.d4, e, ↓reduceIte]
      exact ⟨D4, by simp only [List.length_append, List.length_cons, List.length_nil]; omega⟩
    · simp (maxSteps := 3000000) only [go_sem, at_cutk_n]
      simp only [Neg.d4, e, Bool.false_eq_true, ↓reduceIte]
      exact ⟨D3, by omega⟩
  rintro _ s4 ⟨D4, L4⟩
  clear D3
  generalize Neg.d4 act p P3 = P4 at D4 hP5 L4
  simp (maxSteps := 3000000) only [go_sem, ↓reduceIte]
  refine Cal.mk actHasB_v ?_
  rintro _ _ ⟨rfl, rfl⟩ -
  simp (maxSteps := 3000000) only [go_sem, ↓reduceIte]
  refine If.cut [58, 59, 60, 61, 62, 63, 64, 65, 66, 67, 68] (fun _ s => DnI st (.sc (.iface t pv)) codes SI bx n k a r o [.sc (.int .u8 p.code), .sc (.int .u8 p.id), .sl tp (bs p.data), .sc (.int .u8 back.code), .sc (.int .u8 back.id), .sl tb (bs back.data)] (hasA act 1) (hasA act 2) (hasA act 8) s ((N3.d5 act p P4).1) ((N3.d5 act p P4).2) ∧ ((N3.d5 act p P4).2).length ≤ 5) rfl ?_ ?_
  · refine If.mk (fun e => ?_) (fun e => ?_)
    · obtain ⟨tv, hbo, R⟩ := D4.bo
      have hba := D4.ba
      simp (maxSteps := 3000000) only [go_sem, ↓reduceIte, hbo, hba]
      refine Cal.mk (negFresh_v hU D4.neg) ?_
      rintro _ s1 ⟨rfl, h1, T1⟩ -
      have D5 := D4.step h1 T1
      have hb1 := T1.box o _ hbo (fun hm => by have := D4.below o hm; have := D4.so; omega)
      have ha1 := T1.box a _ hba (fun hm => by have := D4.below a hm; have := D4.sa; omega)
      have R1 := R.tn T1 (fun _ _ => rfl)
      simp (maxSteps := 3000000) only [go_sem, ↓reduceIte, hb1, ha1]
      repeat (apply And.intro; focus (first | omega | (simp; done)))
      refine Cal.mk (cpReject_v (tk := tp) hp) ?_
      rintro _ _ ⟨rfl, rfl⟩ -
      simp (maxSteps := 3000000) only [go_sem, ↓reduceIte, hb1, Ctl.v]
      repeat (apply And.intro; focus (first | omega | (simp; done)))
      refine App.mk (bytes := 32) (l := ctls (P4)) (ys := ctls [rejC N3.bump.id p 1400]) R1.own (allSz_ctls _) (by simp only [ctls_len, List.length_cons, List.length_nil]; unfold maxLen; omega) (by simp only [ctls_len, List.length_cons, List.length_nil]; omega) ?_
      intro r2 s2 k1 k2
      obtain ⟨t2, rfl⟩ := own_sl k1
      have hb2 := hb1
      rw [← k2.box] at hb2
      simp (maxSteps := 3000000) only [go_sem, ↓reduceIte, hb2, at_cutk_n]
      have D6 := D5.push hU hlt R1 k1 k2
      simp only [Neg.d5, e, ↓reduceIte]
      exact ⟨D6, by simp only [List.length_append, List.length_cons, List.length_nil]; omega⟩
    · simp (maxSteps := 3000000) only [go_sem, at_cutk_n]
      simp only [Neg.d5, e, Bool.false_eq_true, ↓reduceIte]
      exact ⟨D4, by omega⟩
  rintro _ s5 ⟨D5, L5⟩
  clear D4
  generalize (N3.d5 act p P4).1 = N5 at D5 hP5
  generalize (N3.d5 act p P4).2 = P5' at D5 hP5 L5
  simp (maxSteps := 3000000) only [go_sem, ↓reduceIte]
  refine Cal.mk actHasB_v ?_
  rintro _ _ ⟨rfl, rfl⟩ -
  obtain ⟨tv, hbo, R⟩ := D5.bo
  have hbr := D5.br
  obtain ⟨tk, hbn⟩ := D5.neg.box
  unfold negC at hbn
  have hno : n ≠ o := fun e => by subst e; have := D5.below n (by simp); have := D5.so; omega
  have hnr : n ≠ r := fun e => by subst e; have := D5.below n (by simp); have := D5.sr; omega
  have hro := D5.ro
  have T6 := fun (q : St) (hq : Tn (n :: bx) st q) => hq.put (b := r) (cs := [.sl tv (ctls P5'), .sc (.bool (hasA act 1)), .sc (.bool (hasA act 2)), .sc (.bool (hasA act 8))]) (.inr D5.sr) hlt
  have hrd : ∀ b ∈ n :: bx, b ∉ [r] := fun b hb hm => by
    simp only [List.mem_singleton] at hm
    subst hm
    have := D5.below _ hb
    have := D5.sr
    omega
  subst hP5
  cases e : hasA act 2
  · simp (maxSteps := 3000000) only [go_sem, ↓reduceIte, hbo, hbr]
    have T7 := T6 s5 D5.tn
    have h7 := D5.neg.tnx hU ((Tn.refl (bx := [r]) D5.tn.lt).put (b := r) (cs := [.sl tv (ctls P5'), .sc (.bool (hasA act 1)), .sc (.bool (hasA act 2)), .sc (.bool (hasA act 8))]) (.inl (by simp)) D5.tn.lt) hrd
    refine ⟨_, _, Wk.refl _, T7.lt.weak, tv, by rw [e], R.put D5.sr, ?_, T7, by show P5'.length ≤ 5; omega⟩
    simp only [Neg.d6, e, Bool.false_eq_true, ↓reduceIte]
    rw [e] at h7
    exact h7
  · have T6' := (D5.tn.put (b := n) (cs := [.sc (.int .i64 N5.s), .sc (.int .i64 N5.left), .sc (.int .i64 N5.at_), .sc (.iface t pv), .sc (.int .u8 codes), .sc (.int .u8 N5.id), .sl tk (bs N5.req), .sc (.int .i64 0)]) (.inl (by simp)) hlt)
    have hw := D5.neg.write hU (N' := { N5 with naks := 0 }) (tk := tk) rfl D5.neg.l0 D5.neg.l1 D5.neg.i0 D5.neg.i1 (Int.le_refl 0) (by simp only; omega) D5.neg.rb
    unfold negC at hw
    have R6 : RO 3 st.bare (s5.put n [.sc (.int .i64 N5.s), .sc (.int .i64 N5.left), .sc (.int .i64 N5.at_), .sc (.iface t pv), .sc (.int .u8 codes), .sc (.int .u8 N5.id), .sl tk (bs N5.req), .sc (.int .i64 0)]) (.sl tv (ctls P5')) (ctls P5') := R.tn ((Tn.refl (bx := [n]) R.lt).put (.inl (by simp)) R.lt) (fun _ _ => rfl)
    simp (maxSteps := 3000000) only [go_sem, ↓reduceIte, hbn, hbo, hbr, put_box_ne hno.symm, put_box_ne hnr.symm]
    generalize s5.put n _ = s6 at T6' hw R6 ⊢
    have T7 := T6 s6 T6'
    have h7 := hw.tnx hU ((Tn.refl (bx := [r]) T6'.lt).put (b := r) (cs := [.sl tv (ctls P5'), .sc (.bool (hasA act 1)), .sc (.bool (hasA act 2)), .sc (.bool (hasA act 8))]) (.inl (by simp)) T6'.lt) hrd
    refine ⟨_, _, Wk.refl _, T7.lt.weak, tv, by rw [e], R6.put D5.sr, ?_, T7, by show P5'.length ≤ 5; omega⟩
    simp only [Neg.d6, e, ↓reduceIte]
    rw [e] at h7
    exact h7
end
end
section
open Go
structure Ex (base st s : St) : Prop where
  box : ∀ b cs, st.box b = some cs → s.box b = some cs
  own : ∀ g m, st.own g = some m → g < base.sz → s.own g = some m
  sz : st.sz ≤ s.sz
  lt : s.Lt
theorem Tn.ex {bx : List Nat} {base s0 st s : St} (h : Tn bx s0 st) (k : Ex base st s) (hs : s0.sz ≤ base.sz) (hl : s0.Lt) : Tn bx s0 s :=
  ⟨fun b cs hb hn => k.box b cs (h.box b cs hb hn), fun g m hg => k.own g m (h.own g m hg) (by have := hl.own g m hg; omega), Nat.le_trans h.sz k.sz, k.lt⟩
theorem RO.down {size : Nat} {st s1 s : St} {r : V} {l : List V} (h : RO size s1.bare s r l) (hs : st.sz ≤ s1.sz) : RO size st.bare s r l :=
  ⟨h.own, bare_weak (by have := h.weak.sz; exact Nat.le_trans hs this), h.lt, fun g k l' e => Nat.le_trans hs (h.tok g k l' e)⟩
def outV (tv : Tk) (X : Nout) : V := .agg [.sl tv (ctls X.P), .sc (.bool X.up), .sc (.bool X.down), .sc (.bool X.over)]
theorem IsB.nil' : IsB [] := fun x h => by cases h
theorem zeroC_good : zeroC.Good := ⟨by decide, by decide, by decide, by decide, IsB.nil', by simp [zeroC]⟩
section
variable {R : Type} {U : Rul R} {t : TypeId} {pv : Value} {SI : Nat → St → R → Prop} {bx : List Nat} {codes : Int} {n k m : Nat} {st s s2 base : St} {N N' : Neg R}
theorem NegI.ex (hU : RulC U t pv SI bx) {iv : V} (h : NegI iv codes SI bx n k st N) (E : Ex base st s) : NegI iv codes SI bx n k s N :=
  ⟨by obtain ⟨tk, hx⟩ := h.box; exact ⟨tk, E.box n _ hx⟩, hU.stay k st s _ h.si (fun b cs hc _ => E.box b cs hc) E.sz, h.nn, h.l0, h.l1, h.i0, h.i1, h.a0, h.a1, h.rb⟩
set_option maxRecDepth 100000 in
set_option maxHeartbeats 4000000 in
theorem negJoin_v {X Y : Nout} {ta tb : Tk} (hR : RO 3 base st (.sl ta (ctls X.P)) (ctls X.P)) (hb : ∀ b, base.box b = none) (hx : X.P.length ≤ 1000) (hy : Y.P.length ≤ 1000) :
    VCalls Tryz.prog 84 [outV ta X, outV tb Y] st fun r s => ∃ tv, r = outV tv (X.both Y) ∧ RO 3 base s (.sl tv (ctls (X.both Y).P)) (ctls (X.both Y).P) ∧ Ex base st s := by
  obtain ⟨P, u, d, v⟩ := X
  obtain ⟨P2, u2, d2, v2⟩ := Y
  simp only at hR hx hy
  show VCalls Tryz.prog 84 [.agg [.sl ta (ctls P), .sc (.bool u), .sc (.bool d), .sc (.bool v)], .agg [.sl tb (ctls P2), .sc (.bool u2), .sc (.bool d2), .sc (.bool v2)]] st fun r s => ∃ tv, r = .agg [.sl tv (ctls (P ++ P2)), .sc (.bool (u || u2)), .sc (.bool (d || d2)), .sc (.bool (v || v2))] ∧ RO 3 base s (.sl tv (ctls (P ++ P2))) (ctls (P ++ P2)) ∧ Ex base st s
  refine vcalls_enter vc84 (Nat.le_of_ble_eq_true rfl) fun hwf hok => ?_
  show Run _ Vc84.body (.fin (finQ Vc84.res _)) _ _
  unfold Vc84 zg zn zo
  have hlt := hwf.lt
  simp (maxSteps := 3000000) only [go_sem, ↓reduceIte]
  intro a ha b hb' q hq
  have ab : a ≠ b := by omega
  have aq : a ≠ q := by omega
  have bq : b ≠ q := by omega
  have sb : st.sz ≤ b := by omega
  have sq : st.sz ≤ q := by omega
  have T0 : Tn [] st (((st.put a [.sl ta (ctls P), .sc (.bool u), .sc (.bool d), .sc (.bool v)]).put b [.sl tb (ctls P2), .sc (.bool u2), .sc (.bool d2), .sc (.bool v2)]).put q [.sl .nil [], .sc (.bool false), .sc (.bool false), .sc (.bool false)]) :=
    ((tn_new hlt ha).put (.inr sb) hlt).put (.inr sq) hlt
  have Ba : (((st.put a [.sl ta (ctls P), .sc (.bool u), .sc (.bool d), .sc (.bool v)]).put b [.sl tb (ctls P2), .sc (.bool u2), .sc (.bool d2), .sc (.bool v2)]).put q [.sl .nil [], .sc (.bool false), .sc (.bool false), .sc (.bool false)]).box a = some [.sl ta (ctls P), .sc (.bool u), .sc (.bool d), .sc (.bool v)] := by
    rw [put_box_ne aq, put_box_ne ab, put_box_same]
  have Bb : (((st.put a [.sl ta (ctls P), .sc (.bool u), .sc (.bool d), .sc (.bool v)]).put b [.sl tb (ctls P2), .sc (.bool u2), .sc (.bool d2), .sc (.bool v2)]).put q [.sl .nil [], .sc (.bool false), .sc (.bool false), .sc (.bool false)]).box b = some [.sl tb (ctls P2), .sc (.bool u2), .sc (.bool d2), .sc (.bool v2)] := by
    rw [put_box_ne bq, put_box_same]
  have Bq : (((st.put a [.sl ta (ctls P), .sc (.bool u), .sc (.bool d), .sc (.bool v)]).put b [.sl tb (ctls P2), .sc (.bool u2), .sc (.bool d2), .sc (.bool v2)]).put q [.sl .nil [], .sc (.bool false), .sc (.bool false), .sc (.bool false)]).box q = some [.sl .nil [], .sc (.bool false), .sc (.bool false), .sc (.bool false)] := put_box_same
  have R0 := hR.tn T0 (by simp)
  generalize ((st.put a _).put b _).put q _ = s0 at T0 Ba Bb Bq R0 ⊢
  have fin : ∀ (r2 : V) (s2 : St) (cs : List V), Own 3 s2 r2 (ctls (P ++ P2)) → AppSt s0 (.sl ta (ctls P)) s2 r2 → RO 3 base (s2.put q cs) r2 (ctls (P ++ P2)) ∧ Ex base st (s2.put q cs) := fun r2 s2 cs k1 k2 => by
    have R2 := R0.app k1 k2
    have bsz := hR.weak.sz
    refine ⟨R2.put (c := q) (by omega), fun c ds hc => ?_, fun g m hg hl => ?_, ?_, R2.lt.put⟩
    · have := hlt.box c ds hc
      rw [put_box_ne (by omega), k2.box]
      exact T0.box c ds hc (by simp)
    · exact k2.own g m (T0.own g m hg) (fun l k e => by have := R0.tok g k l e; omega)
    · have := T0.sz; have := k2.sz; simp only [put_sz]; omega
  cases u <;> cases d <;> cases v
  all_goals
    simp (maxSteps := 3000000) only [go_sem, ↓reduceIte, Ba, Bb]
    refine App.mk (bytes := 32) (l := ctls P) (ys := ctls P2) R0.own (allSz_ctls _) (by simp only [ctls_len]; unfold maxLen; omega) (by simp only [ctls_len]; omega) ?_
    intro r2 s2 k1 k2
    have b1 := Ba
    have b2 := Bb
    have b3 := Bq
    rw [← k2.box] at b1 b2 b3
    rw [ctls_append] at k1
    obtain ⟨t2, rfl⟩ := own_sl k1
    simp (maxSteps := 3000000) only [go_sem, ↓reduceIte, b1, b2, b3]
    obtain ⟨f1, f2⟩ := fin _ s2 _ k1 k2
    exact ⟨_, _, Wk.refl _, f1.lt.weak, t2, rfl, f1, f2⟩
theorem NOut.put (hU : RulC U t pv SI bx) {iv : V} {s1 : St} {X : Neg R × Nout} {tv : Tk} (hlt : st.Lt) {q : Nat} {cs : List V} (hq : st.sz ≤ q) (hq' : q ∉ n :: bx) (hs : st.sz ≤ s1.sz)
    (R2 : RO 3 s1.bare s2 (.sl tv (ctls X.2.P)) (ctls X.2.P)) (h2 : NegI iv codes SI bx n k s2 X.1) (T : Tn (n :: bx) st s2) (L : X.2.P.length ≤ m) :
    NOut st iv codes SI bx n k m X (outV tv X.2) (s2.put q cs) :=
  ⟨tv, rfl, (R2.down hs).put (c := q) hq, h2.tnx hU ((Tn.refl (bx := [q]) T.lt).put (.inl (by simp)) T.lt) (fun b hb hm => by
    simp only [List.mem_singleton] at hm
    subst hm
    exact hq' hb), T.put (.inr hq) hlt, L⟩
theorem NOut.lt {iv : V} {X : Neg R × Nout} {r : V} (h : NOut st iv codes SI bx n k m X r s) : s.Lt := by
  obtain ⟨_, _, _, _, T, _⟩ := h
  exact T.lt
set_option maxRecDepth 100000 in
set_option maxHeartbeats 4000000 in
theorem negClose_v (hU : RulC U t pv SI bx) (h : NegI (.sc (.iface t pv)) codes SI bx n k st N) {now : Int} (hn : 0 ≤ now) (hn2 : now ≤ 1000000000) :
    VCalls Tryz.prog 61 [ptrV n, .sc (.int .i64 now)] st (NOut st (.sc (.iface t pv)) codes SI bx n k 5 (N.close U now)) := by
  refine vcalls_enter vc61 (Nat.le_of_ble_eq_true rfl) fun hwf hok => ?_
  show Run _ Vc61.body (.fin (finQ Vc61.res _)) _ _
  unfold Vc61 zn zo
  have hlt := hwf.lt
  simp (maxSteps := 3000000) only [go_sem, ↓reduceIte]
  intro q hq
  have T0 : Tn [] st (st.put q [.sl .nil [], .sc (.bool false), .sc (.bool false), .sc (.bool false)]) := tn_new hlt hq
  have h0 := h.tn hU T0
  have Bq : (st.put q [.sl .nil [], .sc (.bool false), .sc (.bool false), .sc (.bool false)]).box q = some [.sl .nil [], .sc (.bool false), .sc (.bool false), .sc (.bool false)] := put_box_same
  generalize st.put q [.sl .nil [], .sc (.bool false), .sc (.bool false), .sc (.bool false)] = s0 at T0 h0 Bq ⊢
  have hq' : q ∉ n :: bx := fun hm => by have := h.lt hU hlt q hm; omega
  refine Cal.mk (negDo_v hU h0 hn hn2) ?_
  rintro _ s1 ⟨rfl, h1, T1⟩ -
  simp (maxSteps := 3000000) only [go_sem, ↓reduceIte]
  refine Cal.mk (negDone_v hU h1 (p := zeroC) (back := zeroC) (tp := .nil) (tb := .nil) zeroC_good) ?_
  rintro _ s2 ⟨tv, rfl, R2, h2, T2, L2⟩ -
  have B2 := T2.box q _ (T1.box q _ Bq hq') hq'
  simp (maxSteps := 3000000) only [go_sem, ↓reduceIte, B2]
  have T3 : Tn (n :: bx) st s2 := ((T0.wide (by simp)).trans T1).trans T2
  have O := NOut.put hU hlt hq hq' (by have := T0.sz; have := T1.sz; omega) R2 h2 T3 L2 (X := N.close U now) (cs := [.sl tv (ctls (N.close U now).2.P), .sc (.bool (N.close U now).2.up), .sc (.bool (N.close U now).2.down), .sc (.bool (N.close U now).2.over)])
  exact ⟨_, _, Wk.refl _, O.lt.weak, O⟩
set_option maxRecDepth 100000 in
set_option maxHeartbeats 4000000 in
theorem negStart_v (hU : RulC U t pv SI bx) (h : NegI (.sc (.iface t pv)) codes SI bx n k st N) {now : Int} (hn : 0 ≤ now) (hn2 : now ≤ 1000000000) :
    VCalls Tryz.prog 63 [ptrV n, .sc (.int .i64 now)] st (NOut st (.sc (.iface t pv)) codes SI bx n k 10 (N.start U now)) := by
  refine vcalls_enter vc63 (Nat.le_of_ble_eq_true rfl) fun hwf hok => ?_
  show Run _ Vc63.body (.fin (finQ Vc63.res _)) _ _
  unfold Vc63 zn zo
  have hlt := hwf.lt
  simp (maxSteps := 3000000) only [go_sem, ↓reduceIte]
  intro q hq
  have T0 : Tn [] st (st.put q [.sl .nil [], .sc (.bool false), .sc (.bool false), .sc (.bool false)]) := tn_new hlt hq
  have h0 := h.tn hU T0
  have Bq : (st.put q [.sl .nil [], .sc (.bool false), .sc (.bool false), .sc (.bool false)]).box q = some [.sl .nil [], .sc (.bool false), .sc (.bool false), .sc (.bool false)] := put_box_same
  generalize st.put q [.sl .nil [], .sc (.bool false), .sc (.bool false), .sc (.bool false)] = s0 at T0 h0 Bq ⊢
  have hq' : q ∉ n :: bx := fun hm => by have := h.lt hU hlt q hm; omega
  refine Cal.mk (negDo_v hU h0 hn hn2) ?_
  rintro _ s1 ⟨rfl, h1, T1⟩ -
  simp (maxSteps := 3000000) only [go_sem, ↓reduceIte]
  refine Cal.mk (negDone_v hU h1 (p := zeroC) (back := zeroC) (tp := .nil) (tb := .nil) zeroC_good) ?_
  rintro _ s2 ⟨tv, rfl, R2, h2, T2, L2⟩ -
  have B2 := T2.box q _ (T1.box q _ Bq hq') hq'
  have T02 : Tn (n :: bx) st s2 := ((T0.wide (by simp)).trans T1).trans T2
  have R2' := R2.down (st := st) (by have := T0.sz; have := T1.sz; omega)
  have ea : Neg.done U (N.step now 0) (stepF N.s 0).2 false zeroC zeroC = N.event U now 0 zeroC zeroC := rfl
  obtain ⟨A, hA⟩ : ∃ A, A = N.event U now 0 zeroC zeroC := ⟨_, rfl⟩
  rw [ea, ← hA] at R2 h2 L2 R2' ⊢
  simp (maxSteps := 3000000) only [go_sem, ↓reduceIte]
  intro c hc
  have hcs : st.sz ≤ c := by have := T02.sz; omega
  have qc : q ≠ c := by have := T02.lt.box q _ B2; omega
  have hc' : c ∉ n :: bx := fun hm => by have := h.lt hU hlt c hm; omega
  have T3 : Tn [] s2 (s2.put c [.sl tv (ctls A.2.P), .sc (.bool A.2.up), .sc (.bool A.2.down), .sc (.bool A.2.over)]) := tn_new T2.lt hc
  have h3 := h2.tn hU T3
  have B3 : (s2.put c [.sl tv (ctls A.2.P), .sc (.bool A.2.up), .sc (.bool A.2.down), .sc (.bool A.2.over)]).box q = some [.sl .nil [], .sc (.bool false), .sc (.bool false), .sc (.bool false)] := by rw [put_box_ne qc]; exact B2
  have C3 : (s2.put c [.sl tv (ctls A.2.P), .sc (.bool A.2.up), .sc (.bool A.2.down), .sc (.bool A.2.over)]).box c = some [.sl tv (ctls A.2.P), .sc (.bool A.2.up), .sc (.bool A.2.down), .sc (.bool A.2.over)] := put_box_same
  have T03 := T02.trans (T3.wide (by simp))
  have R3 := R2'.put (c := c) (cs := [.sl tv (ctls A.2.P), .sc (.bool A.2.up), .sc (.bool A.2.down), .sc (.bool A.2.over)]) hcs
  generalize s2.put c [.sl tv (ctls A.2.P), .sc (.bool A.2.up), .sc (.bool A.2.down), .sc (.bool A.2.over)] = s3 at T3 h3 B3 C3 T03 R3 ⊢
  refine Cal.mk (negDo_v hU h3 hn hn2) ?_
  rintro _ s4 ⟨rfl, h4, T4⟩ -
  have C4 := T4.box c _ C3 hc'
  simp (maxSteps := 3000000) only [go_sem, ↓reduceIte, C4]
  refine Cal.mk (negDone_v hU h4 (p := zeroC) (back := zeroC) (tp := .nil) (tb := .nil) zeroC_good) ?_
  rintro _ s5 ⟨tw, rfl, R5, h5, T5, L5⟩ -
  have C5 := T5.box c _ C4 hc'
  have B5 := T5.box q _ (T4.box q _ B3 hq') hq'
  have T05 := (T03.trans T4).trans T5
  have RA := (R3.tn T4 (fun _ _ => rfl)).tn T5 (fun _ _ => rfl)
  have eb : Neg.done U (A.1.step now 2) (stepF A.1.s 2).2 false zeroC zeroC = A.1.event U now 2 zeroC zeroC := rfl
  obtain ⟨D, hD⟩ : ∃ D, D = A.1.event U now 2 zeroC zeroC := ⟨_, rfl⟩
  rw [eb, ← hD] at R5 h5 L5 ⊢
  have hst : N.start U now = (D.1, A.2.both D.2) := by rw [hD, hA]; rfl
  rw [hst]
  simp (maxSteps := 3000000) only [go_sem, ↓reduceIte, C5]
  repeat (apply And.intro; focus (first | omega | (simp; done)))
  refine Cal.mk (negJoin_v (X := A.2) (Y := D.2) (tb := tw) RA (fun _ => rfl) (by omega) (by omega)) ?_
  rintro _ s6 ⟨tx, rfl, R6, E6⟩ -
  have T06 := T05.ex E6 (Nat.le_refl _) hlt
  have h6 := h5.ex hU E6
  have B6 := E6.box q _ B5
  have O := NOut.put (m := 10) (X := (D.1, A.2.both D.2)) hU hlt hq hq' (Nat.le_refl _) R6 h6 T06 (by simp only [Nout.both, List.length_append]; omega) (cs := [.sl tx (ctls (A.2.both D.2).P), .sc (.bool (A.2.both D.2).up), .sc (.bool (A.2.both D.2).down), .sc (.bool (A.2.both D.2).over)])
  simp (maxSteps := 3000000) only [go_sem, ↓reduceIte, B6, outV]
  exact ⟨_, _, Wk.refl _, O.lt.weak, O⟩
end
end
section
open Go
theorem theirsO_snoc {l like : List Opt} {i : Nat} {o : Opt} (h : l[i]? = some o) : theirsO (l.take (i + 1)) like = theirsO (l.take i) like ++ if (findO like o.1).isSome = true then [o] else [] := by
  rw [take_snoc h]
  simp only [theirsO, List.filter_append]
  congr 1
  cases e : (findO like o.1).isSome <;> simp [e]
theorem theirsO_len (l like : List Opt) : (theirsO l like).length ≤ l.length := List.length_filter_le _ _
theorem theirsO_good {l like : List Opt} (h : GoodO l) : GoodO (theirsO l like) := fun o ho => h o (List.mem_filter.1 ho).1
section
variable {st : St} {l like : List Opt} {tk tk2 : Tk}
set_option maxRecDepth 100000 in
set_option maxHeartbeats 4000000 in
theorem negTheirs_v (hl : l.length ≤ 1000000) (hm : like.length ≤ 1000000) (hG : GoodO like) (hGl : GoodO l) : VCalls Tryz.prog 123 [.sl tk (opts l), .sl tk2 (opts like)] st fun r s => r = .sl .no (opts (theirsO l like)) ∧ st = s := by
  refine vcalls_enter vc123 (Nat.le_of_ble_eq_true rfl) fun hwf hok => ?_
  show Run _ Vc123.body (.fin (finQ Vc123.res _)) _ _
  unfold Vc123 zn zo
  simp (maxSteps := 3000000) only [go_sem, ↓reduceIte]
  refine run_loop [5, 7, 8, 9, 12, 13, 14, 15, 16, 17, 18, 19, 20, 21, 22, 23, 24, 25, 26, 27, 28] (fun B s => ∃ (i : Nat) (v : V), i ≤ l.length ∧ B 12 = .sc (.int .i64 i) ∧ B 5 = v ∧ RO 2 st s v (opts (theirsO (l.take i) like))) (fun B _ => l.length - vnat (B 12)) rfl ?_ ?_
  · exact ⟨0, .sl .nil [], by omega, rfl, rfl, RO.nil hwf.weak hwf.lt⟩
  · rintro B s ⟨i, v, hi, h12, h5, R⟩
    obtain ⟨tv, hv⟩ := R.sl
    rw [hv] at h5 R
    by_cases c1 : i < l.length
    · obtain ⟨o, ho⟩ := get_ex c1
      have hsn := theirsO_snoc (like := like) ho
      have htl := theirsO_len (l.take i) like
      have htl2 : (l.take i).length ≤ l.length := by simp only [List.length_take]; omega
      simp (maxSteps := 3000000) only [go_sem, ↓reduceIte, h12, opts_len, opts_at ho, decide_eq_true (show (i : Int) < (l.length : Int) by omega)]
      repeat (apply And.intro; focus (first | omega | (simp; done)))
      intro a ha
      have sa : st.sz ≤ a := by have := R.weak.sz; omega
      have R1 := R.put (c := a) (cs := [.sc (.int .u8 o.1), .sl .no (bs o.2)]) sa
      have Ba : (s.put a [.sc (.int .u8 o.1), .sl .no (bs o.2)]).box a = some [.sc (.int .u8 o.1), .sl .no (bs o.2)] := put_box_same
      generalize s.put a [.sc (.int .u8 o.1), .sl .no (bs o.2)] = s1 at R1 Ba ⊢
      refine Cal.mk (optFind_v hm hG) ?_
      rintro _ _ ⟨rfl, rfl⟩ -
      cases hf : (findO like o.1).isSome
      · rw [hf] at hsn
        simp only [Bool.false_eq_true, ↓reduceIte, List.append_nil] at hsn
        simp (maxSteps := 3000000) only [go_sem, ↓reduceIte, Bool.false_eq_true]
        intro c hc
        have sc : st.sz ≤ c := by have := R1.weak.sz; omega
        simp (maxSteps := 3000000) only [go_sem, ↓reduceIte, h12]
        repeat (apply And.intro; focus (first | omega | (simp; done)))
        exact ⟨⟨i + 1, _, by omega, by simp, h5, by rw [hsn]; exact R1.put sc⟩, by omega⟩
      · rw [hf] at hsn
        simp only [↓reduceIte] at hsn
        simp (maxSteps := 3000000) only [go_sem, ↓reduceIte]
        intro c hc
        have sc : st.sz ≤ c := by have := R1.weak.sz; omega
        have ac : a ≠ c := by have := R1.lt.box a _ Ba; omega
        simp (maxSteps := 3000000) only [go_sem, ↓reduceIte, put_box_ne ac, Ba, h5]
        refine App.mk (bytes := 32) (l := opts (theirsO (l.take i) like)) (ys := opts [o]) (R1.put sc).own (allSz_opts _) (by simp only [opts_len, List.length_cons, List.length_nil]; unfold maxLen; omega) (by simp only [opts_len, List.length_cons, List.length_nil]; omega) ?_
        intro r2 s2 k1 k2
        have R2 := (R1.put sc).app k1 k2
        rw [opts_append, ← hsn] at R2
        simp (maxSteps := 3000000) only [go_sem, ↓reduceIte, h12]
        repeat (apply And.intro; focus (first | omega | (simp; done)))
        exact ⟨⟨i + 1, _, by omega, by simp, rfl, R2⟩, by omega⟩
    · obtain rfl : i = l.length := by omega
      rw [List.take_length] at R h5
      simp (maxSteps := 3000000) only [go_sem, ↓reduceIte, h12, h5, opts_len]
      exact ⟨_, _, Wk.no, R.weak, rfl, rfl⟩
end
section
variable {R : Type} {U : Rul R} {t : TypeId} {pv : Value} {SI : Nat → St → R → Prop} {bx : List Nat} {codes : Int} {n k m : Nat} {st s s2 base : St} {N N' : Neg R}
theorem NegI.rules {iv : V} {r : R} {k' : Nat} (h : NegI iv codes SI bx n k st N) (T : Tn bx st s) (hs : SI k' s r) (hk : k ≤ k') : NegI iv codes SI bx n k' s { N with r := r } :=
  ⟨by obtain ⟨tk, hb⟩ := h.box; exact ⟨tk, T.box n _ hb h.nn⟩, hs, h.nn, h.l0, h.l1, h.i0, h.i1, h.a0, by have := h.a1; simp only; omega, h.rb⟩
set_option maxRecDepth 100000 in
set_option maxHeartbeats 4000000 in
theorem negJudge_v (hU : RulC U t pv SI bx) (h : NegI (.sc (.iface t pv)) codes SI bx n k st N) (hk : k ≤ 1000000000) {p : Ctl} (hp : p.Good) {tp tk : Tk} {l : List Opt} (hG : GoodO l) (hl : l.length ≤ 1000000) :
    VCalls Tryz.prog 106 [ptrV n, p.v tp, .sl tk (opts l)] st fun r s => r = .tup [(N.judge U p l).2.1.v, .sc (.bool (N.judge U p l).2.2)] ∧ NegI (.sc (.iface t pv)) codes SI bx n (k + 1) s (N.judge U p l).1 ∧ Tn (n :: bx) st s := by
  obtain ⟨fj, hm, hc, hj⟩ := hU.judge
  obtain ⟨c, i, D⟩ := p
  show VCalls Tryz.prog 106 [ptrV n, .agg [.sc (.int .u8 c), .sc (.int .u8 i), .sl tp (bs D)], .sl tk (opts l)] st _
  refine vcalls_enter vc106 (Nat.le_of_ble_eq_true rfl) fun hwf hok => ?_
  show Run _ Vc106.body (.fin (finQ Vc106.res _)) _ _
  unfold Vc106 zn zo
  have hlt := hwf.lt
  simp (maxSteps := 3000000) only [go_sem, ↓reduceIte]
  intro a ha q hq
  have aq : a ≠ q := by omega
  have sq : st.sz ≤ q := by omega
  have had : a ∉ n :: bx := fun hm => by have := h.lt hU hlt a hm; omega
  have hqd : q ∉ n :: bx := fun hm => by have := h.lt hU hlt q hm; omega
  have T0 : Tn [] st ((st.put a [.sc (.int .u8 c), .sc (.int .u8 i), .sl tp (bs D)]).put q [.sc (.int .u8 0), .sc (.int .u8 0), .sl .nil []]) := (tn_new hlt ha).put (.inr sq) hlt
  have h0 := h.tn hU T0
  have Ba : ((st.put a [.sc (.int .u8 c), .sc (.int .u8 i), .sl tp (bs D)]).put q [.sc (.int .u8 0), .sc (.int .u8 0), .sl .nil []]).box a = some [.sc (.int .u8 c), .sc (.int .u8 i), .sl tp (bs D)] := by rw [put_box_ne aq, put_box_same]
  have Bq : ((st.put a [.sc (.int .u8 c), .sc (.int .u8 i), .sl tp (bs D)]).put q [.sc (.int .u8 0), .sc (.int .u8 0), .sl .nil []]).box q = some [.sc (.int .u8 0), .sc (.int .u8 0), .sl .nil []] := put_box_same
  generalize (st.put a _).put q _ = s0 at T0 h0 Ba Bq ⊢
  obtain ⟨tn, hbn⟩ := h0.box
  unfold negC at hbn
  simp (maxSteps := 3000000) only [go_sem, ↓reduceIte, hbn]
  refine Ivk.mk hm hc hU.one ?_
  refine Cal.mk (hj k s0 N.r l tk h0.si hk hG hl) ?_
  rintro _ s1 ⟨⟨t2, rfl⟩, hsi, T1⟩ -
  obtain ⟨g1, g2, g3, g4⟩ := hU.judgeG k s0 N.r l h0.si hG hl
  have h1 := h0.rules (k' := k + 1) T1 hsi (by omega)
  have hbn1 := T1.box n _ hbn h.nn
  have Ba1 := T1.box a _ Ba (fun hm => had (by simp [hm]))
  have Bq1 := T1.box q _ Bq (fun hm => hqd (by simp [hm]))
  have T01 : Tn (n :: bx) st s1 := (T0.wide (by simp)).trans (T1.wide (fun b hb => List.mem_cons_of_mem _ hb))
  obtain ⟨J, hJ⟩ : ∃ J, J = N.judge U ⟨c, i, D⟩ l := ⟨_, rfl⟩
  rw [← hJ]
  unfold Neg.judge at hJ
  simp only at hJ
  generalize U.judge N.r l = j at hsi g1 g2 g3 g4 h1 hJ ⊢
  obtain ⟨rr, code, out⟩ := j
  simp only at hsi g1 g2 g3 g4 h1 hJ ⊢
  have fin : ∀ (N2 : Neg R) (s2 : St) (c2 : Int) (o2 : List Opt) (cs : List V), J = (N2, ⟨c2, i, buildO o2⟩, decide (c2 = 2)) → NegI (.sc (.iface t pv)) codes SI bx n (k + 1) s2 N2 → Tn (n :: bx) st s2 →
      ∃ (r : V) (st' : St), Wk (.tup [.agg [.sc (.int .u8 c2), .sc (.int .u8 i), .sl .no (bs (buildO o2))], .sc (.bool (decide (c2 = 2)))]) r ∧ st'.weak (s2.put q cs) ∧ r = .tup [J.2.1.v, .sc (.bool J.2.2)] ∧ NegI (.sc (.iface t pv)) codes SI bx n (k + 1) st' J.1 ∧ Tn (n :: bx) st st' := fun N2 s2 c2 o2 cs e hn hT => by
    rw [e]
    have T9 := hT.put (b := q) (cs := cs) (.inr sq) hlt
    refine ⟨_, _, Wk.refl _, T9.lt.weak, rfl, hn.tnx hU ((Tn.refl (bx := [q]) hT.lt).put (.inl (by simp)) hT.lt) (fun b hb hm => ?_), T9⟩
    simp only [List.mem_singleton] at hm
    subst hm
    exact hqd hb
  have a0 := h.a0
  have a1 := h.a1
  have hnq : n ≠ q := fun e => hqd (by simp [e])
  have hna : n ≠ a := fun e => had (by simp [e])
  by_cases c3 : code = 3
  · subst c3
    have d33 : decide ((3 : Int) = 3) = true := rfl
    have d32 : decide ((3 : Int) = 2) = false := rfl
    have d42 : decide ((4 : Int) = 2) = false := rfl
    have h2 := h1.write hU (N' := { N with r := rr, naks := N.naks + 1 }) (tk := tn) rfl h.l0 h.l1 h.i0 h.i1 (by simp only; omega) (by simp only; omega) h.rb
    unfold negC at h2
    simp only at h2
    have T2 := T01.put (b := n) (cs := [.sc (.int .i64 N.s), .sc (.int .i64 N.left), .sc (.int .i64 N.at_), .sc (.iface t pv), .sc (.int .u8 codes), .sc (.int .u8 N.id), .sl tn (bs N.req), .sc (.int .i64 (N.naks + 1))]) (.inl (by simp)) hlt
    have Ba2 : (s1.put n [.sc (.int .i64 N.s), .sc (.int .i64 N.left), .sc (.int .i64 N.at_), .sc (.iface t pv), .sc (.int .u8 codes), .sc (.int .u8 N.id), .sl tn (bs N.req), .sc (.int .i64 (N.naks + 1))]).box a = _ := (put_box_ne hna.symm).trans Ba1
    have Bq2 : (s1.put n [.sc (.int .i64 N.s), .sc (.int .i64 N.left), .sc (.int .i64 N.at_), .sc (.iface t pv), .sc (.int .u8 codes), .sc (.int .u8 N.id), .sl tn (bs N.req), .sc (.int .i64 (N.naks + 1))]).box q = _ := (put_box_ne hnq.symm).trans Bq1
    by_cases c5 : 5 < N.naks + 1
    · simp (maxSteps := 3000000) only [go_sem, ↓reduceIte, hbn1, decide_eq_true c5]
      repeat (apply And.intro; focus (first | omega | (simp; done)))
      generalize s1.put n _ = s2 at T2 h2 Ba2 Bq2 ⊢
      refine Cal.mk (negTheirs_v hl g4 g3 hG) ?_
      rintro _ _ ⟨rfl, rfl⟩ -
      have htl := theirsO_len l out
      simp (maxSteps := 3000000) only [go_sem, ↓reduceIte, Ba2]
      refine Cal.mk (optBuild_v (theirsO_good hG) (by omega)) ?_
      rintro _ _ ⟨rfl, rfl⟩ -
      simp (maxSteps := 3000000) only [go_sem, ↓reduceIte, Ba2, Bq2]
      exact fin _ s2 4 (theirsO l out) _ (by rw [hJ]; simp [c5]) h2 T2
    · simp (maxSteps := 3000000) only [go_sem, ↓reduceIte, hbn1, decide_eq_false c5, Ba2]
      repeat (apply And.intro; focus (first | omega | (simp; done)))
      generalize s1.put n _ = s2 at T2 h2 Ba2 Bq2 ⊢
      refine Cal.mk (optBuild_v g3 (by omega)) ?_
      rintro _ _ ⟨rfl, rfl⟩ -
      simp (maxSteps := 3000000) only [go_sem, ↓reduceIte, Ba2, Bq2]
      exact fin _ s2 3 out _ (by rw [hJ]; simp [c5]) h2 T2
  · by_cases c2 : code = 2
    · subst c2
      have d22 : decide ((2 : Int) = 2) = true := rfl
      have d23 : decide ((2 : Int) = 3) = false := rfl
      have h2 := h1.write hU (N' := { N with r := rr, naks := 0 }) (tk := tn) rfl h.l0 h.l1 h.i0 h.i1 (Int.le_refl 0) (by simp only; omega) h.rb
      unfold negC at h2
      simp only at h2
      have T2 := T01.put (b := n) (cs := [.sc (.int .i64 N.s), .sc (.int .i64 N.left), .sc (.int .i64 N.at_), .sc (.iface t pv), .sc (.int .u8 codes), .sc (.int .u8 N.id), .sl tn (bs N.req), .sc (.int .i64 0)]) (.inl (by simp)) hlt
      have Ba2 : (s1.put n [.sc (.int .i64 N.s), .sc (.int .i64 N.left), .sc (.int .i64 N.at_), .sc (.iface t pv), .sc (.int .u8 codes), .sc (.int .u8 N.id), .sl tn (bs N.req), .sc (.int .i64 0)]).box a = _ := (put_box_ne hna.symm).trans Ba1
      have Bq2 : (s1.put n [.sc (.int .i64 N.s), .sc (.int .i64 N.left), .sc (.int .i64 N.at_), .sc (.iface t pv), .sc (.int .u8 codes), .sc (.int .u8 N.id), .sl tn (bs N.req), .sc (.int .i64 0)]).box q = _ := (put_box_ne hnq.symm).trans Bq1
      simp (maxSteps := 3000000) only [go_sem, ↓reduceIte, hbn1, Ba2]
      generalize s1.put n _ = s2 at T2 h2 Ba2 Bq2 ⊢
      refine Cal.mk (optBuild_v g3 (by omega)) ?_
      rintro _ _ ⟨rfl, rfl⟩ -
      simp (maxSteps := 3000000) only [go_sem, ↓reduceIte, Ba2, Bq2]
      exact fin _ s2 2 out _ (by rw [hJ]; simp) h2 T2
    · have h2 : NegI (.sc (.iface t pv)) codes SI bx n (k + 1) s1 { N with r := rr, naks := N.naks } := h1
      simp (maxSteps := 3000000) only [go_sem, ↓reduceIte, decide_eq_false c3, decide_eq_false c2, Ba1]
      refine Cal.mk (optBuild_v g3 (by omega)) ?_
      rintro _ _ ⟨rfl, rfl⟩ -
      simp (maxSteps := 3000000) only [go_sem, ↓reduceIte, Ba1, Bq1]
      have hd : decide (code = 2) = false := decide_eq_false c2
      have := fin _ s1 code out [.sc (.int .u8 code), .sc (.int .u8 i), .sl .no (bs (buildO out))] (by rw [hJ]; simp [c3, c2]) h2 T01
      rw [hd] at this
      exact this
end
end
section
open Go
section
variable {R : Type} {U : Rul R} {t : TypeId} {pv : Value} {SI : Nat → St → R → Prop} {bx : List Nat} {codes : Int} {n k m : Nat} {st s s2 base : St} {N N' : Neg R}
structure TkI (st : St) (iv : V) (codes : Int) (SI : Nat → St → R → Prop) (bx : List Nat) (n k a q : Nat) (w : List V) (s : St) (N : Neg R) : Prop where
  neg : NegI iv codes SI bx n k s N
  tn : Tn (n :: bx) st s
  ba : s.box a = some w
  bq : s.box q = some [.sl .nil [], .sc (.bool false), .sc (.bool false), .sc (.bool false)]
  sa : st.sz ≤ a
  sq : st.sz ≤ q
  aq : a ≠ q
  ha : a ∉ n :: bx
  hq : q ∉ n :: bx
variable {iv : V} {a q : Nat} {w : List V}
theorem TkI.step (I : TkI st iv codes SI bx n k a q w s N) {k' : Nat} (h : NegI iv codes SI bx n k' s2 N') (T : Tn (n :: bx) s s2) : TkI st iv codes SI bx n k' a q w s2 N' :=
  ⟨h, I.tn.trans T, T.box a _ I.ba I.ha, T.box q _ I.bq I.hq, I.sa, I.sq, I.aq, I.ha, I.hq⟩
theorem TkI.fin (hU : RulC U t pv SI bx) {iv : V} (hlt : st.Lt) {s1 : St} {N1 : Neg R} {X Y : Neg R × Nout} {r : V} {k0 : Nat} (I : TkI st iv codes SI bx n k0 a q w s1 N1) (O : NOut s1 iv codes SI bx n k m X r s2) (e : X = Y) :
    ∃ tv, r = outV tv Y.2 ∧ s2.box q = some [.sl .nil [], .sc (.bool false), .sc (.bool false), .sc (.bool false)] ∧ ∀ cs, NOut st iv codes SI bx n k m Y (outV tv Y.2) (s2.put q cs) := by
  subst e
  obtain ⟨tv, rfl, R2, h2, T2, L2⟩ := O
  exact ⟨tv, rfl, T2.box q _ I.bq I.hq, fun cs => NOut.put hU hlt I.sq I.hq I.tn.sz R2 h2 (I.tn.trans T2) L2⟩
theorem TkI.none (hU : RulC U t pv SI bx) {iv : V} (hlt : st.Lt) (I : TkI st iv codes SI bx n k a q w s N) {cs : List V} : NOut st iv codes SI bx n k 5 (N, .no) (outV .nil .no) (s.put q cs) :=
  NOut.put (X := (N, .no)) (s1 := st) hU hlt I.sq I.hq (Nat.le_refl _) (RO.nil I.tn.bare I.tn.lt) I.neg I.tn (by simp [Nout.no])
theorem NOut.up (hU : RulC U t pv SI bx) {iv : V} {X : Neg R × Nout} {r : V} (O : NOut st iv codes SI bx n k m X r s) {m' : Nat} (hm : m ≤ m') : NOut st iv codes SI bx n (k + 1) m' X r s := by
  obtain ⟨tv, h1, h2, h3, h4, h5⟩ := O
  exact ⟨tv, h1, h2, h3.more hU, h4, by omega⟩
theorem TkI.start (hU : RulC U t pv SI bx) (h : NegI iv codes SI bx n k st N) (hlt : st.Lt) (ha : st.sz ≤ a) (hq : st.sz ≤ q) (aq : a ≠ q) : TkI st iv codes SI bx n k a q w ((st.put a w).put q [.sl .nil [], .sc (.bool false), .sc (.bool false), .sc (.bool false)]) N := by
  have T0 : Tn [] st ((st.put a w).put q [.sl .nil [], .sc (.bool false), .sc (.bool false), .sc (.bool false)]) := (tn_new hlt ha).put (.inr hq) hlt
  refine ⟨h.tn hU T0, T0.wide (by simp), ?_, put_box_same, ha, hq, aq, fun hm => ?_, fun hm => ?_⟩
  · rw [put_box_ne aq, put_box_same]
  · have := h.lt hU hlt a hm; omega
  · have := h.lt hU hlt q hm; omega
set_option maxRecDepth 100000 in
set_option maxHeartbeats 16000000 in
theorem negRequest_v (hU : RulC U t pv SI bx) (h : NegI (.sc (.iface t pv)) codes SI bx n k st N) (hk : k + 1 ≤ 1000000000) {now : Int} (hn : 0 ≤ now) (hn2 : now ≤ 1000000000) {p : Ctl} (hp : p.Good) {tp : Tk} :
    VCalls Tryz.prog 86 [ptrV n, .sc (.int .i64 now), p.v tp] st (NOut st (.sc (.iface t pv)) codes SI bx n (k + 1) 5 (N.request U now p)) := by
  obtain ⟨fa, hma, hca, hag⟩ := hU.agreed
  obtain ⟨X, hX⟩ : ∃ X, X = N.request U now p := ⟨_, rfl⟩
  rw [← hX]
  show VCalls Tryz.prog 86 [ptrV n, .sc (.int .i64 now), .agg [.sc (.int .u8 p.code), .sc (.int .u8 p.id), .sl tp (bs p.data)]] st _
  refine vcalls_enter vc86 (Nat.le_of_ble_eq_true rfl) fun hwf hok => ?_
  show Run _ Vc86.body (.fin (finQ Vc86.res _)) _ _
  unfold Vc86 zg zn zo
  have hlt := hwf.lt
  have hpb := hp.b
  have hpl := hp.l
  simp (maxSteps := 3000000) only [go_sem, ↓reduceIte]
  intro a ha q hq
  have I0 : TkI st (.sc (.iface t pv)) codes SI bx n k a q [.sc (.int .u8 p.code), .sc (.int .u8 p.id), .sl tp (bs p.data)] ((st.put a [.sc (.int .u8 p.code), .sc (.int .u8 p.id), .sl tp (bs p.data)]).put q [.sl .nil [], .sc (.bool false), .sc (.bool false), .sc (.bool false)]) N := TkI.start hU h hlt ha (by omega) (by omega)
  generalize (st.put a _).put q _ = s0 at I0 ⊢
  clear ha hq
  have ba := I0.ba
  have bq := I0.bq
  simp (maxSteps := 3000000) only [go_sem, ↓reduceIte, ba]
  refine Cal.mk (optParse_v hpb hpl) ?_
  rintro _ _ ⟨rfl, rfl⟩ -
  obtain ⟨L, hL⟩ : ∃ L, L = parseO p.data := ⟨_, rfl⟩
  have hLg : GoodO L.1 := by rw [hL]; exact parseO_good hpb
  have hLl : L.1.length ≤ 1000000 := by rw [hL]; have := parseO_len (L := p.data); omega
  unfold Neg.request at hX
  simp only at hX
  rw [← hL] at hX ⊢
  by_cases c1 : L.2 = 0
  rotate_left
  · rw [if_pos c1] at hX
    subst hX
    simp (maxSteps := 3000000) only [go_sem, ↓reduceIte, decide_eq_true c1, bq]
    have O := (I0.none hU hlt (cs := [.sl .nil [], .sc (.bool false), .sc (.bool false), .sc (.bool false)])).up hU (Nat.le_refl _)
    exact ⟨_, _, Wk.refl _, O.lt.weak, O⟩
  rw [if_neg (show ¬ L.2 ≠ 0 from fun e => e c1)] at hX
  simp (maxSteps := 3000000) only [go_sem, ↓reduceIte, decide_eq_false (show ¬ L.2 ≠ 0 from fun e => e c1)]
  refine Cal.mk (negState_v I0.neg) ?_
  rintro _ _ ⟨rfl, rfl⟩ -
  by_cases c2 : N.s = 4 ∨ N.s = 5 ∨ N.s < 3
  · rw [if_pos c2] at hX
    by_cases e4 : N.s = 4
    · simp (maxSteps := 3000000) only [go_sem, ↓reduceIte, decide_eq_true e4, ba]
      refine Cal.mk (negDo_v hU I0.neg hn hn2) ?_
      rintro _ s8 ⟨rfl, h8, T8⟩ -
      have I8 := I0.step h8 T8
      have ba8 := I8.ba
      simp (maxSteps := 3000000) only [go_sem, ↓reduceIte, ba8]
      refine Cal.mk (negDone_v hU h8 (p := p) (back := zeroC) (tp := tp) (tb := .nil) hp) ?_
      rintro _ s9 O -
      obtain ⟨tv, rfl, bq9, O9⟩ := I8.fin hU hlt O hX.symm
      simp (maxSteps := 3000000) only [go_sem, ↓reduceIte, bq9, outV]
      exact ⟨_, _, Wk.refl _, (O9 _).lt.weak, (O9 _).up hU (Nat.le_refl _)⟩
    by_cases e5 : N.s = 5
    · simp (maxSteps := 3000000) only [go_sem, ↓reduceIte, decide_eq_false e4, decide_eq_true e5, ba]
      refine Cal.mk (negDo_v hU I0.neg hn hn2) ?_
      rintro _ s8 ⟨rfl, h8, T8⟩ -
      have I8 := I0.step h8 T8
      have ba8 := I8.ba
      simp (maxSteps := 3000000) only [go_sem, ↓reduceIte, ba8]
      refine Cal.mk (negDone_v hU h8 (p := p) (back := zeroC) (tp := tp) (tb := .nil) hp) ?_
      rintro _ s9 O -
      obtain ⟨tv, rfl, bq9, O9⟩ := I8.fin hU hlt O hX.symm
      simp (maxSteps := 3000000) only [go_sem, ↓reduceIte, bq9, outV]
      exact ⟨_, _, Wk.refl _, (O9 _).lt.weak, (O9 _).up hU (Nat.le_refl _)⟩
    · have e3 : N.s < 3 := by omega
      simp (maxSteps := 3000000) only [go_sem, ↓reduceIte, decide_eq_false e4, decide_eq_false e5, decide_eq_true e3, ba]
      refine Cal.mk (negDo_v hU I0.neg hn hn2) ?_
      rintro _ s8 ⟨rfl, h8, T8⟩ -
      have I8 := I0.step h8 T8
      have ba8 := I8.ba
      simp (maxSteps := 3000000) only [go_sem, ↓reduceIte, ba8]
      refine Cal.mk (negDone_v hU h8 (p := p) (back := zeroC) (tp := tp) (tb := .nil) hp) ?_
      rintro _ s9 O -
      obtain ⟨tv, rfl, bq9, O9⟩ := I8.fin hU hlt O hX.symm
      simp (maxSteps := 3000000) only [go_sem, ↓reduceIte, bq9, outV]
      exact ⟨_, _, Wk.refl _, (O9 _).lt.weak, (O9 _).up hU (Nat.le_refl _)⟩
  · rw [if_neg c2] at hX
    have e4 : ¬ N.s = 4 := fun e => c2 (.inl e)
    have e5 : ¬ N.s = 5 := fun e => c2 (.inr (.inl e))
    have e3 : ¬ N.s < 3 := fun e => c2 (.inr (.inr e))
    simp (maxSteps := 3000000) only [go_sem, ↓reduceIte, decide_eq_false e4, decide_eq_false e5, decide_eq_false e3, ba]
    refine Cal.mk (negJudge_v hU I0.neg (by omega) hp hLg hLl) ?_
    rintro _ s1 ⟨rfl, h1, T1⟩ -
    have I1 := I0.step h1 T1
    obtain ⟨J, hJ⟩ : ∃ J, J = N.judge U p L.1 := ⟨_, rfl⟩
    rw [← hJ] at hX h1 I1 ⊢
    have ba1 := I1.ba
    have bq1 := I1.bq
    have hsz1 := I1.tn.sz
    cases e1 : J.2.2
    · rw [if_pos e1] at hX
      simp (maxSteps := 3000000) only [go_sem, ↓reduceIte, Ctl.v]
      intro c hc
      have T2 : Tn [] s1 (s1.put c [.sc (.int .u8 J.2.1.code), .sc (.int .u8 J.2.1.id), .sl .no (bs J.2.1.data)]) := tn_new T1.lt hc
      have I2 := I1.step (h1.tn hU T2) (T2.wide (by simp))
      have bc2 : (s1.put c [.sc (.int .u8 J.2.1.code), .sc (.int .u8 J.2.1.id), .sl .no (bs J.2.1.data)]).box c = some [.sc (.int .u8 J.2.1.code), .sc (.int .u8 J.2.1.id), .sl .no (bs J.2.1.data)] := put_box_same
      generalize s1.put c _ = s2 at T2 I2 bc2 ⊢
      have hcn : c ∉ n :: bx := fun hm => by have := h.lt hU hlt c hm; omega
      have ba2 := I2.ba
      simp (maxSteps := 3000000) only [go_sem, ↓reduceIte, ba2, bc2]
      refine Cal.mk (negDo_v hU I2.neg hn hn2) ?_
      rintro _ s8 ⟨rfl, h8, T8⟩ -
      have I8 := I2.step h8 T8
      have ba8 := I8.ba
      have bc8 := T8.box c _ bc2 hcn
      simp (maxSteps := 3000000) only [go_sem, ↓reduceIte, ba8, bc8]
      refine Cal.mk (negDone_v hU h8 (p := p) (back := J.2.1) (tp := tp) (tb := .no) hp) ?_
      rintro _ s9 O -
      obtain ⟨tv, rfl, bq9, O9⟩ := I8.fin hU hlt O hX.symm
      simp (maxSteps := 3000000) only [go_sem, ↓reduceIte, bq9, outV]
      exact ⟨_, _, Wk.refl _, (O9 _).lt.weak, O9 _⟩
    · rw [if_neg (show ¬ J.2.2 = false by rw [e1]; simp)] at hX
      simp (maxSteps := 3000000) only [go_sem, ↓reduceIte, Ctl.v]
      intro c hc
      have T2 : Tn [] s1 (s1.put c [.sc (.int .u8 J.2.1.code), .sc (.int .u8 J.2.1.id), .sl .no (bs J.2.1.data)]) := tn_new T1.lt hc
      have I2 := I1.step (h1.tn hU T2) (T2.wide (by simp))
      have bc2 : (s1.put c [.sc (.int .u8 J.2.1.code), .sc (.int .u8 J.2.1.id), .sl .no (bs J.2.1.data)]).box c = some [.sc (.int .u8 J.2.1.code), .sc (.int .u8 J.2.1.id), .sl .no (bs J.2.1.data)] := put_box_same
      generalize s1.put c _ = s2 at T2 I2 bc2 ⊢
      have hcn : c ∉ n :: bx := fun hm => by have := h.lt hU hlt c hm; omega
      obtain ⟨tn, hbn⟩ := I2.neg.box
      unfold negC at hbn
      simp (maxSteps := 3000000) only [go_sem, ↓reduceIte, hbn]
      refine Ivk.mk hma hca hU.one ?_
      refine Cal.mk (hag (k + 1) s2 J.1.r L.1 .no I2.neg.si (by omega) hLg hLl) ?_
      rintro _ s3 ⟨rfl, si3, T3⟩ -
      have T3' : Tn (n :: bx) s2 s3 := T3.wide (fun b hb => List.mem_cons_of_mem _ hb)
      have I3 := I2.step (I2.neg.rules T3 si3 (Nat.le_refl _)) T3'
      have ba3 := I3.ba
      have bc3 := T3'.box c _ bc2 hcn
      simp (maxSteps := 3000000) only [go_sem, ↓reduceIte, ba3, bc3]
      refine Cal.mk (negDo_v hU I3.neg hn hn2) ?_
      rintro _ s8 ⟨rfl, h8, T8⟩ -
      have I8 := I3.step h8 T8
      have ba8 := I8.ba
      have bc8 := T8.box c _ bc3 hcn
      simp (maxSteps := 3000000) only [go_sem, ↓reduceIte, ba8, bc8]
      refine Cal.mk (negDone_v hU h8 (p := p) (back := J.2.1) (tp := tp) (tb := .no) hp) ?_
      rintro _ s9 O -
      obtain ⟨tv, rfl, bq9, O9⟩ := I8.fin hU hlt O hX.symm
      simp (maxSteps := 3000000) only [go_sem, ↓reduceIte, bq9, outV]
      exact ⟨_, _, Wk.refl _, (O9 _).lt.weak, O9 _⟩
end
end
section
open Go
section
variable {R : Type} {U : Rul R} {t : TypeId} {pv : Value} {SI : Nat → St → R → Prop} {bx : List Nat} {codes : Int} {n k m : Nat} {st s s2 base : St} {N N' : Neg R}
set_option maxRecDepth 100000 in
set_option maxHeartbeats 16000000 in
theorem negAnswered_v (hU : RulC U t pv SI bx) (h : NegI (.sc (.iface t pv)) codes SI bx n k st N) (hk : k + 1 ≤ 1000000000) {now : Int} (hn : 0 ≤ now) (hn2 : now ≤ 1000000000) {p : Ctl} (hp : p.Good) {tp : Tk} :
    VCalls Tryz.prog 87 [ptrV n, .sc (.int .i64 now), p.v tp] st (NOut st (.sc (.iface t pv)) codes SI bx n (k + 1) 5 (N.answered U now p)) := by
  obtain ⟨fn, hmn, hcn, hna⟩ := hU.naked
  obtain ⟨fr, hmr, hcr, hre⟩ := hU.rejected
  obtain ⟨X, hX⟩ : ∃ X, X = N.answered U now p := ⟨_, rfl⟩
  rw [← hX]
  show VCalls Tryz.prog 87 [ptrV n, .sc (.int .i64 now), .agg [.sc (.int .u8 p.code), .sc (.int .u8 p.id), .sl tp (bs p.data)]] st _
  refine vcalls_enter vc87 (Nat.le_of_ble_eq_true rfl) fun hwf hok => ?_
  show Run _ Vc87.body (.fin (finQ Vc87.res _)) _ _
  unfold Vc87 zg zn zo
  have hlt := hwf.lt
  have hpb := hp.b
  have hpl := hp.l
  simp (maxSteps := 3000000) only [go_sem, ↓reduceIte]
  intro a ha q hq
  have I0 : TkI st (.sc (.iface t pv)) codes SI bx n k a q [.sc (.int .u8 p.code), .sc (.int .u8 p.id), .sl tp (bs p.data)] ((st.put a [.sc (.int .u8 p.code), .sc (.int .u8 p.id), .sl tp (bs p.data)]).put q [.sl .nil [], .sc (.bool false), .sc (.bool false), .sc (.bool false)]) N := TkI.start hU h hlt ha (by omega) (by omega)
  generalize (st.put a _).put q _ = s0 at I0 ⊢
  clear ha hq
  have ba := I0.ba
  have bq := I0.bq
  simp (maxSteps := 3000000) only [go_sem, ↓reduceIte, ba]
  refine Cal.mk (optParse_v hpb hpl) ?_
  rintro _ _ ⟨rfl, rfl⟩ -
  obtain ⟨L, hL⟩ : ∃ L, L = parseO p.data := ⟨_, rfl⟩
  have hLg : GoodO L.1 := by rw [hL]; exact parseO_good hpb
  have hLl : L.1.length ≤ 1000000 := by rw [hL]; have := parseO_len (L := p.data); omega
  unfold Neg.answered at hX
  simp only at hX
  rw [← hL] at hX ⊢
  obtain ⟨tn, hbn⟩ := I0.neg.box
  unfold negC at hbn
  have hinj := strOf_inj hpb h.rb
  by_cases c1 : L.2 = 0
  rotate_left
  · rw [if_pos (.inl c1)] at hX
    subst hX
    simp (maxSteps := 3000000) only [go_sem, ↓reduceIte, decide_eq_true c1, bq]
    have O := (I0.none hU hlt (cs := [.sl .nil [], .sc (.bool false), .sc (.bool false), .sc (.bool false)])).up hU (Nat.le_refl _)
    exact ⟨_, _, Wk.refl _, O.lt.weak, O⟩
  have c1' : ¬ L.2 ≠ 0 := fun e => e c1
  by_cases c2 : p.id = N.id
  rotate_left
  · rw [if_pos (.inr (.inl c2))] at hX
    subst hX
    simp (maxSteps := 3000000) only [go_sem, ↓reduceIte, decide_eq_false c1', decide_eq_true c2, bq, ba, hbn]
    have O := (I0.none hU hlt (cs := [.sl .nil [], .sc (.bool false), .sc (.bool false), .sc (.bool false)])).up hU (Nat.le_refl _)
    exact ⟨_, _, Wk.refl _, O.lt.weak, O⟩
  have c2' : ¬ p.id ≠ N.id := fun e => e c2
  by_cases c3 : p.code = 2
  · by_cases c4 : p.data = N.req
    rotate_left
    · rw [if_pos (.inr (.inr ⟨c3, c4⟩))] at hX
      subst hX
      simp (maxSteps := 3000000) only [go_sem, ↓reduceIte, decide_eq_false c1', decide_eq_false c2', decide_eq_true c3, decide_eq_true (show ¬ strOf p.data = strOf N.req from fun e => c4 (hinj.1 e)), u8sOf_bsN, bq, ba, hbn]
      have O := (I0.none hU hlt (cs := [.sl .nil [], .sc (.bool false), .sc (.bool false), .sc (.bool false)])).up hU (Nat.le_refl _)
      exact ⟨_, _, Wk.refl _, O.lt.weak, O⟩
    have e4 : ¬ strOf p.data ≠ strOf N.req := fun e => e (by rw [c4])
    rw [if_neg (fun e => e.elim c1' (fun e => e.elim c2' (fun e => e.2 c4))), if_pos c3] at hX
    simp (maxSteps := 3000000) only [go_sem, ↓reduceIte, decide_eq_false c1', decide_eq_false c2', decide_eq_true c3, decide_eq_false e4, u8sOf_bsN, ba, hbn]
    refine Cal.mk (negDo_v hU I0.neg hn hn2) ?_
    rintro _ s8 ⟨rfl, h8, T8⟩ -
    have I8 := I0.step h8 T8
    have ba8 := I8.ba
    simp (maxSteps := 3000000) only [go_sem, ↓reduceIte, ba8]
    refine Cal.mk (negDone_v hU h8 (p := p) (back := zeroC) (tp := tp) (tb := .nil) hp) ?_
    rintro _ s9 O -
    obtain ⟨tv, rfl, bq9, O9⟩ := I8.fin hU hlt O hX.symm
    simp (maxSteps := 3000000) only [go_sem, ↓reduceIte, bq9, outV]
    exact ⟨_, _, Wk.refl _, (O9 _).lt.weak, (O9 _).up hU (Nat.le_refl _)⟩
  rw [if_neg (fun e => e.elim c1' (fun e => e.elim c2' (fun e => c3 e.1))), if_neg c3] at hX
  by_cases c5 : p.code = 3
  · rw [if_pos c5] at hX
    simp (maxSteps := 3000000) only [go_sem, ↓reduceIte, decide_eq_false c1', decide_eq_false c2', decide_eq_false c3, decide_eq_true c5, ba, hbn]
    refine Ivk.mk hmn hcn hU.one ?_
    refine Cal.mk (hna k s0 N.r L.1 .no I0.neg.si (by omega) hLg hLl) ?_
    rintro _ s3 ⟨rfl, si3, T3⟩ -
    have T3' : Tn (n :: bx) s0 s3 := T3.wide (fun b hb => List.mem_cons_of_mem _ hb)
    have I3 := I0.step (I0.neg.rules T3 si3 (Nat.le_succ _)) T3'
    have ba3 := I3.ba
    simp (maxSteps := 3000000) only [go_sem, ↓reduceIte, ba3]
    refine Cal.mk (negDo_v hU I3.neg hn hn2) ?_
    rintro _ s8 ⟨rfl, h8, T8⟩ -
    have I8 := I3.step h8 T8
    have ba8 := I8.ba
    simp (maxSteps := 3000000) only [go_sem, ↓reduceIte, ba8]
    refine Cal.mk (negDone_v hU h8 (p := p) (back := zeroC) (tp := tp) (tb := .nil) hp) ?_
    rintro _ s9 O -
    obtain ⟨tv, rfl, bq9, O9⟩ := I8.fin hU hlt O hX.symm
    simp (maxSteps := 3000000) only [go_sem, ↓reduceIte, bq9, outV]
    exact ⟨_, _, Wk.refl _, (O9 _).lt.weak, O9 _⟩
  · rw [if_neg c5] at hX
    simp (maxSteps := 3000000) only [go_sem, ↓reduceIte, decide_eq_false c1', decide_eq_false c2', decide_eq_false c3, decide_eq_false c5, ba, hbn]
    refine Ivk.mk hmr hcr hU.one ?_
    refine Cal.mk (hre k s0 N.r L.1 .no I0.neg.si (by omega) hLg hLl) ?_
    rintro _ s3 ⟨rfl, si3, T3⟩ -
    have T3' : Tn (n :: bx) s0 s3 := T3.wide (fun b hb => List.mem_cons_of_mem _ hb)
    have I3 := I0.step (I0.neg.rules T3 si3 (Nat.le_refl _)) T3'
    have ba3 := I3.ba
    cases e6 : (U.rejected N.r L.1).2
    · rw [if_pos e6] at hX
      simp (maxSteps := 3000000) only [go_sem, ↓reduceIte, Bool.not_false]
      refine Cal.mk (negClose_v hU I3.neg hn hn2) ?_
      rintro _ s9 O -
      obtain ⟨tv, rfl, bq9, O9⟩ := I3.fin hU hlt O hX.symm
      simp (maxSteps := 3000000) only [go_sem, ↓reduceIte, bq9, outV]
      exact ⟨_, _, Wk.refl _, (O9 _).lt.weak, (O9 _).up hU (Nat.le_refl _)⟩
    · rw [if_neg (show ¬ (U.rejected N.r L.1).2 = false by rw [e6]; simp)] at hX
      simp (maxSteps := 3000000) only [go_sem, ↓reduceIte, Bool.not_true, ba3]
      refine Cal.mk (negDo_v hU I3.neg hn hn2) ?_
      rintro _ s8 ⟨rfl, h8, T8⟩ -
      have I8 := I3.step h8 T8
      have ba8 := I8.ba
      simp (maxSteps := 3000000) only [go_sem, ↓reduceIte, ba8]
      refine Cal.mk (negDone_v hU h8 (p := p) (back := zeroC) (tp := tp) (tb := .nil) hp) ?_
      rintro _ s9 O -
      obtain ⟨tv, rfl, bq9, O9⟩ := I8.fin hU hlt O hX.symm
      simp (maxSteps := 3000000) only [go_sem, ↓reduceIte, bq9, outV]
      exact ⟨_, _, Wk.refl _, (O9 _).lt.weak, (O9 _).up hU (Nat.le_refl _)⟩
set_option maxRecDepth 100000 in
set_option maxHeartbeats 16000000 in
theorem negTake_v (hU : RulC U t pv SI bx) (h : NegI (.sc (.iface t pv)) codes SI bx n k st N) (hk : k + 1 ≤ 1000000000) {now : Int} (hn : 0 ≤ now) (hn2 : now ≤ 1000000000) {p : Ctl} (hp : p.Good) {tp : Tk} :
    VCalls Tryz.prog 65 [ptrV n, .sc (.int .i64 now), p.v tp] st (NOut st (.sc (.iface t pv)) codes SI bx n (k + 1) 5 (N.take U codes now p)) := by
  obtain ⟨X, hX⟩ : ∃ X, X = N.take U codes now p := ⟨_, rfl⟩
  rw [← hX]
  show VCalls Tryz.prog 65 [ptrV n, .sc (.int .i64 now), .agg [.sc (.int .u8 p.code), .sc (.int .u8 p.id), .sl tp (bs p.data)]] st _
  refine vcalls_enter vc65 (Nat.le_of_ble_eq_true rfl) fun hwf hok => ?_
  show Run _ Vc65.body (.fin (finQ Vc65.res _)) _ _
  unfold Vc65 zg zn zo
  have hlt := hwf.lt
  have hpb := hp.b
  have hpl := hp.l
  simp (maxSteps := 3000000) only [go_sem, ↓reduceIte]
  intro a ha q hq
  have I0 : TkI st (.sc (.iface t pv)) codes SI bx n k a q [.sc (.int .u8 p.code), .sc (.int .u8 p.id), .sl tp (bs p.data)] ((st.put a [.sc (.int .u8 p.code), .sc (.int .u8 p.id), .sl tp (bs p.data)]).put q [.sl .nil [], .sc (.bool false), .sc (.bool false), .sc (.bool false)]) N := TkI.start hU h hlt ha (by omega) (by omega)
  generalize (st.put a _).put q _ = s0 at I0 ⊢
  clear ha hq
  have ba := I0.ba
  have bq := I0.bq
  obtain ⟨tn, hbn⟩ := I0.neg.box
  unfold negC at hbn
  unfold Neg.take at hX
  simp (maxSteps := 3000000) only [go_sem, ↓reduceIte, ba, hbn]
  refine Cal.mk cpKnown_v ?_
  rintro _ _ ⟨rfl, rfl⟩ -
  by_cases c0 : 1 ≤ p.code ∧ p.code ≤ codes
  rotate_left
  · rw [if_pos (by omega)] at hX
    have d0 := decide_eq_false c0
    simp (maxSteps := 3000000) only [go_sem, ↓reduceIte, d0, Bool.not_false, ba]
    refine Cal.mk (negDo_v hU I0.neg hn hn2) ?_
    rintro _ s8 ⟨rfl, h8, T8⟩ -
    have I8 := I0.step h8 T8
    have ba8 := I8.ba
    simp (maxSteps := 3000000) only [go_sem, ↓reduceIte, ba8]
    refine Cal.mk (negDone_v hU h8 (p := p) (back := zeroC) (tp := tp) (tb := .nil) hp) ?_
    rintro _ s9 O -
    obtain ⟨tv, rfl, bq9, O9⟩ := I8.fin hU hlt O hX.symm
    simp (maxSteps := 3000000) only [go_sem, ↓reduceIte, bq9, outV]
    exact ⟨_, _, Wk.refl _, (O9 _).lt.weak, (O9 _).up hU (Nat.le_refl _)⟩
  have d0 := decide_eq_true c0
  rw [if_neg (by omega)] at hX
  by_cases c1 : p.code = 1
  · rw [if_pos c1] at hX
    simp (maxSteps := 3000000) only [go_sem, ↓reduceIte, d0, Bool.not_true, decide_eq_true c1, ba]
    refine Cal.mk (negRequest_v hU I0.neg hk hn hn2 hp) ?_
    rintro _ s9 O -
    obtain ⟨tv, rfl, bq9, O9⟩ := I0.fin hU hlt O hX.symm
    simp (maxSteps := 3000000) only [go_sem, ↓reduceIte, bq9, outV]
    exact ⟨_, _, Wk.refl _, (O9 _).lt.weak, O9 _⟩
  rw [if_neg c1] at hX
  by_cases c4 : p.code ≤ 4
  · rw [if_pos c4] at hX
    simp (maxSteps := 3000000) only [go_sem, ↓reduceIte, d0, Bool.not_true, decide_eq_false c1, decide_eq_true c4, ba]
    refine Cal.mk (negAnswered_v hU I0.neg hk hn hn2 hp) ?_
    rintro _ s9 O -
    obtain ⟨tv, rfl, bq9, O9⟩ := I0.fin hU hlt O hX.symm
    simp (maxSteps := 3000000) only [go_sem, ↓reduceIte, bq9, outV]
    exact ⟨_, _, Wk.refl _, (O9 _).lt.weak, O9 _⟩
  rw [if_neg c4] at hX
  by_cases c5 : p.code = 5
  · rw [evOf, if_pos c5] at hX
    simp (maxSteps := 3000000) only [go_sem, ↓reduceIte, d0, Bool.not_true, decide_eq_false c1, decide_eq_false c4, decide_eq_true c5, ba]
    refine Cal.mk (negDo_v hU I0.neg hn hn2) ?_
    rintro _ s8 ⟨rfl, h8, T8⟩ -
    have I8 := I0.step h8 T8
    have ba8 := I8.ba
    simp (maxSteps := 3000000) only [go_sem, ↓reduceIte, ba8]
    refine Cal.mk (negDone_v hU h8 (p := p) (back := zeroC) (tp := tp) (tb := .nil) hp) ?_
    rintro _ s9 O -
    obtain ⟨tv, rfl, bq9, O9⟩ := I8.fin hU hlt O hX.symm
    simp (maxSteps := 3000000) only [go_sem, ↓reduceIte, bq9, outV]
    exact ⟨_, _, Wk.refl _, (O9 _).lt.weak, (O9 _).up hU (Nat.le_refl _)⟩
  by_cases c6 : p.code = 6
  · rw [evOf, if_neg c5, if_pos c6] at hX
    simp (maxSteps := 3000000) only [go_sem, ↓reduceIte, d0, Bool.not_true, decide_eq_false c1, decide_eq_false c4, decide_eq_false c5, decide_eq_true c6, ba]
    refine Cal.mk (negDo_v hU I0.neg hn hn2) ?_
    rintro _ s8 ⟨rfl, h8, T8⟩ -
    have I8 := I0.step h8 T8
    have ba8 := I8.ba
    simp (maxSteps := 3000000) only [go_sem, ↓reduceIte, ba8]
    refine Cal.mk (negDone_v hU h8 (p := p) (back := zeroC) (tp := tp) (tb := .nil) hp) ?_
    rintro _ s9 O -
    obtain ⟨tv, rfl, bq9, O9⟩ := I8.fin hU hlt O hX.symm
    simp (maxSteps := 3000000) only [go_sem, ↓reduceIte, bq9, outV]
    exact ⟨_, _, Wk.refl _, (O9 _).lt.weak, (O9 _).up hU (Nat.le_refl _)⟩
  by_cases c7 : p.code = 7
  · rcases hD : p.data with _ | ⟨x, D⟩
    · have hl0 : decide ((0 : Int) < (p.data.length : Int)) = false := by rw [hD]; rfl
      rw [evOf, if_neg c5, if_neg c6, if_neg (by rw [hD]; simp), if_pos (.inl c7)] at hX
      simp (maxSteps := 3000000) only [go_sem, ↓reduceIte, d0, Bool.not_true, decide_eq_false c1, decide_eq_false c4, decide_eq_false c5, decide_eq_false c6, decide_eq_true c7, bs_len, hl0, ba]
      refine Cal.mk (negDo_v hU I0.neg hn hn2) ?_
      rintro _ s8 ⟨rfl, h8, T8⟩ -
      have I8 := I0.step h8 T8
      have ba8 := I8.ba
      simp (maxSteps := 3000000) only [go_sem, ↓reduceIte, ba8]
      refine Cal.mk (negDone_v hU h8 (p := p) (back := zeroC) (tp := tp) (tb := .nil) hp) ?_
      rintro _ s9 O -
      obtain ⟨tv, rfl, bq9, O9⟩ := I8.fin hU hlt O hX.symm
      simp (maxSteps := 3000000) only [go_sem, ↓reduceIte, bq9, outV]
      exact ⟨_, _, Wk.refl _, (O9 _).lt.weak, (O9 _).up hU (Nat.le_refl _)⟩
    · have hl0 : decide ((0 : Int) < (p.data.length : Int)) = true := decide_eq_true (by rw [hD]; simp only [List.length_cons]; omega)
      have g0 : (bs p.data)[0]? = some (.sc (.int .u8 x)) := by rw [hD]; rfl
      have hg : p.data.getD 0 0 = x := by rw [hD]; rfl
      by_cases c8 : x ≤ 7
      · rw [evOf, if_neg c5, if_neg c6, if_pos ⟨c7, by rw [hD]; simp, by rw [hg]; exact c8⟩] at hX
        simp (maxSteps := 3000000) only [go_sem, ↓reduceIte, d0, Bool.not_true, decide_eq_false c1, decide_eq_false c4, decide_eq_false c5, decide_eq_false c6, decide_eq_true c7, bs_len, hl0, g0, decide_eq_true c8, ba]
        refine Cal.mk (negDo_v hU I0.neg hn hn2) ?_
        rintro _ s8 ⟨rfl, h8, T8⟩ -
        have I8 := I0.step h8 T8
        have ba8 := I8.ba
        simp (maxSteps := 3000000) only [go_sem, ↓reduceIte, ba8]
        refine Cal.mk (negDone_v hU h8 (p := p) (back := zeroC) (tp := tp) (tb := .nil) hp) ?_
        rintro _ s9 O -
        obtain ⟨tv, rfl, bq9, O9⟩ := I8.fin hU hlt O hX.symm
        simp (maxSteps := 3000000) only [go_sem, ↓reduceIte, bq9, outV]
        exact ⟨_, _, Wk.refl _, (O9 _).lt.weak, (O9 _).up hU (Nat.le_refl _)⟩
      · rw [evOf, if_neg c5, if_neg c6, if_neg (by rw [hg]; exact fun e => c8 e.2.2), if_pos (.inl c7)] at hX
        simp (maxSteps := 3000000) only [go_sem, ↓reduceIte, d0, Bool.not_true, decide_eq_false c1, decide_eq_false c4, decide_eq_false c5, decide_eq_false c6, decide_eq_true c7, bs_len, hl0, g0, decide_eq_false c8, ba]
        refine Cal.mk (negDo_v hU I0.neg hn hn2) ?_
        rintro _ s8 ⟨rfl, h8, T8⟩ -
        have I8 := I0.step h8 T8
        have ba8 := I8.ba
        simp (maxSteps := 3000000) only [go_sem, ↓reduceIte, ba8]
        refine Cal.mk (negDone_v hU h8 (p := p) (back := zeroC) (tp := tp) (tb := .nil) hp) ?_
        rintro _ s9 O -
        obtain ⟨tv, rfl, bq9, O9⟩ := I8.fin hU hlt O hX.symm
        simp (maxSteps := 3000000) only [go_sem, ↓reduceIte, bq9, outV]
        exact ⟨_, _, Wk.refl _, (O9 _).lt.weak, (O9 _).up hU (Nat.le_refl _)⟩
  by_cases c8 : p.code = 8
  · rw [evOf, if_neg c5, if_neg c6, if_neg (fun e => c7 e.1), if_pos (.inr c8)] at hX
    simp (maxSteps := 3000000) only [go_sem, ↓reduceIte, d0, Bool.not_true, decide_eq_false c1, decide_eq_false c4, decide_eq_false c5, decide_eq_false c6, decide_eq_false c7, decide_eq_true c8, ba]
    refine Cal.mk (negDo_v hU I0.neg hn hn2) ?_
    rintro _ s8 ⟨rfl, h8, T8⟩ -
    have I8 := I0.step h8 T8
    have ba8 := I8.ba
    simp (maxSteps := 3000000) only [go_sem, ↓reduceIte, ba8]
    refine Cal.mk (negDone_v hU h8 (p := p) (back := zeroC) (tp := tp) (tb := .nil) hp) ?_
    rintro _ s9 O -
    obtain ⟨tv, rfl, bq9, O9⟩ := I8.fin hU hlt O hX.symm
    simp (maxSteps := 3000000) only [go_sem, ↓reduceIte, bq9, outV]
    exact ⟨_, _, Wk.refl _, (O9 _).lt.weak, (O9 _).up hU (Nat.le_refl _)⟩
  · rw [evOf, if_neg c5, if_neg c6, if_neg (fun e => c7 e.1), if_neg (fun e => e.elim c7 c8)] at hX
    simp (maxSteps := 3000000) only [go_sem, ↓reduceIte, d0, Bool.not_true, decide_eq_false c1, decide_eq_false c4, decide_eq_false c5, decide_eq_false c6, decide_eq_false c7, decide_eq_false c8, ba]
    refine Cal.mk (negDo_v hU I0.neg hn hn2) ?_
    rintro _ s8 ⟨rfl, h8, T8⟩ -
    have I8 := I0.step h8 T8
    have ba8 := I8.ba
    simp (maxSteps := 3000000) only [go_sem, ↓reduceIte, ba8]
    refine Cal.mk (negDone_v hU h8 (p := p) (back := zeroC) (tp := tp) (tb := .nil) hp) ?_
    rintro _ s9 O -
    obtain ⟨tv, rfl, bq9, O9⟩ := I8.fin hU hlt O hX.symm
    simp (maxSteps := 3000000) only [go_sem, ↓reduceIte, bq9, outV]
    exact ⟨_, _, Wk.refl _, (O9 _).lt.weak, (O9 _).up hU (Nat.le_refl _)⟩
end
end
section
open Go
section
variable {q d k : Nat} {st s : St} {r r' : Lr} {l : List Opt} {tk : Tk}
end
end
section
open Go
section
variable {a n q d k m : Nat} {st s s2 : St} {N : Neg Lr}
end
section
variable {d : Nat} {st : St} {ds : List Int}
theorem negNew_v {R : Type} (r0 : R) {t : TypeId} {pv : Value} {c : Int} : VCalls Tryz.prog 29 [.sc (.iface t pv), .sc (.int .u8 c)] st fun r s => ∃ n, r = ptrV n ∧ st.sz ≤ n ∧ s = st.put n (negC (.sc (.iface t pv)) c (⟨0, 0, 0, 0, [], 0, r0⟩ : Neg R) .nil) := by
  refine vcalls_enterq pc29 (Nat.le_of_ble_eq_true rfl) rfl fun hwf hok => ?_
  show Run _ Pc29.body (.fin (finP Pc29.res _)) _ _
  unfold Pc29 zo
  simp (maxSteps := 3000000) only [go_sem, ↓reduceIte]
  intro n hn
  exact ⟨_, _, Wk.refl _, hwf.lt.put.weak, n, rfl, hn, rfl⟩
theorem NegI.new {R : Type} {U : Rul R} {t : TypeId} {pv : Value} {SI : Nat → St → R → Prop} {bx : List Nat} {codes : Int} {n k : Nat} {r : R} (hU : RulC U t pv SI bx) (h : SI k st r) (hl : st.Lt) (hn : st.sz ≤ n) :
    NegI (.sc (.iface t pv)) codes SI bx n k (st.put n (negC (.sc (.iface t pv)) codes (⟨0, 0, 0, 0, [], 0, r⟩ : Neg R) .nil)) (⟨0, 0, 0, 0, [], 0, r⟩ : Neg R) :=
  ⟨⟨.nil, put_box_same⟩, hU.stay k st _ r h (fun b cs hb _ => (tn_new hl hn).box b cs hb (by simp)) (tn_new (cs := []) hl hn).sz, fun hm => by have := hU.lt k st r h n hm; omega, Int.le_refl 0, (show (0 : Int) ≤ 10 by decide), Int.le_refl 0, (show (0 : Int) < 256 by decide), Int.le_refl 0, Int.natCast_nonneg k, IsB.nil'⟩
end
end
section
open Go
section
variable {R : Type} {U : Rul R} {N : Neg R}
theorem done_keep {act : Int} {again : Bool} {p back : Ctl} : (N.done U act again p back).1.r = N.r ∧ (N.done U act again p back).1.s = N.s ∧ (N.done U act again p back).1.left = N.left ∧ (N.done U act again p back).1.at_ = N.at_ := by
  simp only [Neg.done, Neg.d1, Neg.d3, Neg.d5, Neg.d6, Neg.asked, Neg.bump]
  cases hasA act 64 <;> cases hasA act 512 <;> cases hasA act 2048 <;> cases hasA act 2 <;> exact ⟨rfl, rfl, rfl, rfl⟩
theorem event_keep {now e : Int} {p back : Ctl} : (N.event U now e p back).1.r = N.r ∧ (N.event U now e p back).1.s = (stepF N.s e).1 := by
  have := done_keep (U := U) (N := N.step now e) (act := (stepF N.s e).2) (again := false) (p := p) (back := back)
  exact ⟨this.1, this.2.1⟩
end
section
variable {N : Neg Lr} {x : Int}
end
end
end Go.Proofs.YtmmapbojjgpggaaGreat
