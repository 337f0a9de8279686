/- Steps of the proof, joined: VRows, VOptLaw, VFsm, VFsm2, VSortLaw, VSortW, VAuto, VNegLaw, VLcpLaw, VBe, VOpt1, VCut, VLopt1, VLopt2, VLopt3, VWk, VLopt4, VMagic, VMagic2, VStr, VNeg1, VNeg2, VNeg3, VNeg4. -/
import Derived.Test.YtmmapbojjgpggaaGreatZec
import Derived.Test.YtmmapbojjgpggaaGreatVc
import Derived.Test.YtmmapbojjgpggaaGreatPc
namespace Go.Proofs.YtmmapbojjgpggaaGreat
open Go
attribute [local go_sem] run_skip run_reg run_seq run_blk run_exit run_ret run_cond if_true if_false at_code_n at_code_x at_code_r at_blk_n at_blk_x at_blk_r at_rnd_n at_rnd_x at_rnd_r at_fin_n at_fin_r ops_nil ops_grd grd_und grd_tt grd_ff grd_tf grd_ft ops_mv ops_pick ops_bin ops_un ops_binb ops_eqs ops_isnil ops_pnil ops_b2s ops_s2b ops_b2sB ops_s2a ops_slcA ops_aidx vaidx vb2sB vs2a vslcA ops_sidx vs2b vsidx srcX ops_appx apx_mk ops_mks ops_mko mks_int mko_int vbinb veqs visnil vpnil vb2s ops_conv ops_fld ops_ix ops_ixa ops_load ops_nilck ops_ext ops_len ops_slen ops_mn ops_mx ops_bld ops_bsl ops_slc ops_sslc ops_box ops_alc ops_alcX ops_boxX ops_bslo ops_store ops_app ops_call ev_t ev_c put_get put_none opv_mk stb_some sto_ptr over_get rel_mk vnat Bx Stp vbld vbsl put_box_same put_box_ne put_sz put_own use_box use_sz put_put args0 List.getD_cons_zero List.getD_cons_succ List.getD_nil vpick vbin vbinI vbinS vun vconv norm vfld vnil vlen vslen vext vmm vix vixa vload takeV takeB mono_nil mono_two mono_sc mono_any mono_und mono_sl mono_agg mono_ep vmlk vmlen vmnil vent vmfn allSc vslc3 kOk fitsV ops_mlk ops_mlen ops_mnil ops_ent ops_mfn ops_slc3 ops_mkm ops_mup mup_map mub_some ops_mdel mdl_nil mdl_map mdb_some ops_rng rng_none rng_map rgb_some ops_nxt ops_ment met_map meb_some ops_est est_map esb_some ops_clr clr_nil clr_box clb_some ops_calv clv_func vslc vsslc fillV splice V.cells strip strip1 allLen ptrV obsOk shAmt IntKind.bits List.map_cons List.map_nil List.length_cons List.length_nil List.getElem?_cons_zero List.getElem?_cons_succ List.take_succ_cons List.take_zero List.drop_succ_cons List.drop_zero List.cons_append List.nil_append List.append_nil List.take_nil List.drop_nil Option.map_some Option.map_none and_true true_and Int.toNat_natCast Nat.min_def Nat.zero_add Nat.add_zero Nat.zero_mul Nat.mul_one Nat.one_mul vret rvAll rvVal resv_1 resv_2 decide_true decide_false Int.lt_irrefl Bool.not_true Bool.not_false ne_eq not_true_eq_false not_false_eq_true eq_self Bool.true_eq_false Bool.false_eq_true List.contains_cons List.contains_nil Bool.false_or Bool.true_or Bool.or_false Bool.or_true List.mem_cons List.not_mem_nil or_false or_true true_or false_or mono_bs ops_aidxn vaidxn ops_fv vfv ops_mki vmki ops_inv ops_cpy cpy_box cpb_some at_finp_n at_finp_r vretp rpAll rpVal vpv resp_0 resp_1 resp_2 Nat.reduceEqDiff Nat.reduceAdd Nat.reduceMul Nat.reduceSub Nat.reduceLT Nat.reduceLeDiff Int.reduceToNat Int.reduceLE Int.reduceLT Int.reducePow Int.reduceMul Int.reduceAdd Int.reduceSub Int.reduceNeg Int.reduceEq Int.reduceMod Int.reduceDiv Nat.reducePow Nat.reduceMod Nat.reduceDiv reduceCtorEq Nat.reduceBEq
section
open Go
theorem own_nil {size : Nat} {st : St} : Own size st (.sl .nil []) [] := .inl ⟨rfl, rfl⟩
theorem own_sl {size : Nat} {st : St} {v : V} {l : List V} (h : Own size st v l) : ∃ tk, v = .sl tk l := by
  rcases h with ⟨rfl, rfl⟩ | ⟨g, rfl, _⟩
  · exact ⟨_, rfl⟩
  · exact ⟨_, rfl⟩
theorem own_put {size : Nat} {st : St} {v : V} {l : List V} (h : Own size st v l) {b : Nat} {cs : List V} : Own size (st.put b cs) v l := by
  rcases h with h | ⟨g, h1, h2, h3⟩
  · exact .inl h
  · exact .inr ⟨g, h1, h2, by simp only [put_sz]; omega⟩
theorem weak_tr {a b c : St} (h : a.weak b) (k : b.weak c) : a.weak c :=
  ⟨fun b cs hb => ⟨(k.box b cs (h.box b cs hb).1).1, (h.box b cs hb).2⟩, fun g m hg => ⟨(k.own g m (h.own g m hg).1).1, (h.own g m hg).2⟩, Nat.le_trans h.sz k.sz⟩
theorem app_keeps {s s' : St} {x r : V} (h : AppSt s x s' r) {t : St} (hw : t.weak s) (hx : ∀ g k l, x = .sl (.own g k) l → t.sz ≤ g) : t.weak s' :=
  ⟨fun b cs hb => ⟨by rw [h.box]; exact (hw.box b cs hb).1, (hw.box b cs hb).2⟩, fun g m hg => ⟨h.own g m (hw.own g m hg).1 (fun l k e => by have := hx g k l e; have := (hw.own g m hg).2; omega), (hw.own g m hg).2⟩, Nat.le_trans hw.sz h.sz⟩
theorem app_fresh {s s' : St} {x r : V} (h : AppSt s x s' r) {t : St} (hs : t.sz ≤ s.sz) (hx : ∀ g k l, x = .sl (.own g k) l → t.sz ≤ g) : ∀ g k l, r = .sl (.own g k) l → t.sz ≤ g := fun g k l e => by
  rcases h.tok g k l e with ⟨l', h1⟩ | h1
  · exact hx g k l' h1
  · omega
structure RO (size : Nat) (base s : St) (r : V) (l : List V) : Prop where
  own : Own size s r l
  weak : base.weak s
  lt : s.Lt
  tok : ∀ g k l', r = .sl (.own g k) l' → base.sz ≤ g
variable {size : Nat} {base s s' : St} {r x : V} {l l' : List V}
theorem RO.nil (hw : base.weak s) (hl : s.Lt) : RO size base s (.sl .nil []) [] := ⟨own_nil, hw, hl, fun g k l e => by cases e⟩
theorem RO.put (h : RO size base s r l) {c : Nat} {cs : List V} (hc : base.sz ≤ c) : RO size base (s.put c cs) r l :=
  ⟨own_put h.own, weak_put h.weak hc, h.lt.put, h.tok⟩
theorem RO.app (h : RO size base s x l) (ho : Own size s' r l') (k : AppSt s x s' r) : RO size base s' r l' :=
  ⟨ho, app_keeps k h.weak h.tok, h.lt.app k, app_fresh k h.weak.sz h.tok⟩
theorem RO.use (hw : base.weak s) (hl : s.Lt) {g : Nat} (hg : s.sz ≤ g) (cs : List V) : RO size base (s.use g cs.length) (.sl (.own g size) cs) cs :=
  ⟨.inr ⟨g, rfl, by simp [St.use], by simp only [use_sz]; omega⟩, weak_use hw (by have := hw.sz; omega), hl.use, fun g' k l e => by cases e; have := hw.sz; omega⟩
theorem RO.sl (h : RO size base s r l) : ∃ tk, r = .sl tk l := own_sl h.own
theorem RO.use0' {size : Nat} {st s : St} (hw : st.weak s) (hl : s.Lt) {g : Nat} (hg : s.sz ≤ g) : RO size st (s.use g 0) (.sl (.own g size) []) [] := RO.use (cs := []) hw hl hg
theorem Wk.tupT {a a' : V} {x : Value} (h : Wk a a') : Wk (.tup [a, .sc x]) (.tup [a', .sc x]) := fun G v hv => by
  cases hv with
  | tup _ vs hl hg =>
    refine .tup _ vs hl fun i c u hc hu => ?_
    match i, hc with
    | 0, hc => simp at hc; subst hc; exact h G u (hg 0 a u rfl hu)
    | 1, hc => exact hg 1 c u hc hu
def ival (x : Int) : V := .sc (.int .i64 x)
end
section
open Go
abbrev Opt := Int × List Int
def optV (o : Opt) : V := .agg [.sc (.int .u8 o.1), .sl .no (bs o.2)]
def opts (l : List Opt) : List V := l.map optV
theorem opts_len (l : List Opt) : (opts l).length = l.length := by simp [opts]
theorem opts_append (l m : List Opt) : opts l ++ opts m = opts (l ++ m) := by simp [opts]
theorem opts_get (l : List Opt) (i : Nat) : (opts l)[i]? = (l[i]?).map optV := by simp [opts]
theorem allSz_opts (l : List Opt) : allSz 2 (opts l) := fun d hd => by
  obtain ⟨x, _, rfl⟩ := List.mem_map.1 hd; rfl
def oneO (o : Opt) : List Int := o.1 :: (((o.2.take 253).length : Int) + 2) :: o.2.take 253
def buildO (l : List Opt) : List Int := l.flatMap oneO
theorem buildO_nil : buildO [] = [] := rfl
theorem buildO_append (l m : List Opt) : buildO (l ++ m) = buildO l ++ buildO m := by simp [buildO]
theorem oneO_len (o : Opt) : (oneO o).length ≤ 255 := by
  simp only [oneO, List.length_cons, List.length_take]; omega
theorem buildO_len (l : List Opt) : (buildO l).length ≤ 255 * l.length := by
  induction l with
  | nil => simp [buildO]
  | cons o l ih =>
    have := oneO_len o
    simp only [buildO, List.flatMap_cons, List.length_append, List.length_cons] at ih ⊢
    omega
def parseF : Nat → List Int → List Opt → List Opt × Int
  | 0, _, out => (out, 0)
  | _ + 1, [], out => (out, 0)
  | _ + 1, [_], _ => ([], 10)
  | k + 1, t :: n :: M, out => if n < 2 then ([], 11) else if (M.length : Int) + 2 < n then ([], 10) else parseF k (M.drop (n - 2).toNat) (out ++ [(t, M.take (n - 2).toNat)])
def parseO (L : List Int) : List Opt × Int := parseF L.length L []
theorem parseF_nil {k : Nat} {out : List Opt} : parseF k [] out = (out, 0) := by cases k <;> rfl
def GoodO (l : List Opt) : Prop := ∀ o ∈ l, 0 ≤ o.1 ∧ o.1 < 256 ∧ IsB o.2 ∧ o.2.length ≤ 1000000
theorem GoodO.nil : GoodO [] := fun o h => by cases h
theorem GoodO.append {l m : List Opt} (h : GoodO l) (k : GoodO m) : GoodO (l ++ m) := fun o ho => by
  rcases List.mem_append.1 ho with ho | ho
  · exact h o ho
  · exact k o ho
theorem GoodO.one {o : Opt} (h1 : 0 ≤ o.1) (h2 : o.1 < 256) (h3 : IsB o.2) (h4 : o.2.length ≤ 1000000) : GoodO [o] := fun x hx => by
  simp only [List.mem_singleton] at hx; subst hx; exact ⟨h1, h2, h3, h4⟩
theorem GoodO.get {l : List Opt} (h : GoodO l) {i : Nat} {o : Opt} (ho : l[i]? = some o) : 0 ≤ o.1 ∧ o.1 < 256 ∧ IsB o.2 ∧ o.2.length ≤ 1000000 := h o (List.mem_of_getElem? ho)
theorem IsB.cons' {x : Int} {L : List Int} (h : IsB (x :: L)) : 0 ≤ x ∧ x < 256 := h x (List.mem_cons_self ..)
theorem IsB.tail' {x : Int} {L : List Int} (h : IsB (x :: L)) : IsB L := fun y hy => h y (List.mem_cons_of_mem _ hy)
theorem parseF_good : ∀ {k : Nat} {L : List Int} {out : List Opt}, IsB L → GoodO out → GoodO (parseF k L out).1
  | 0, _, _, _, h => h
  | _ + 1, [], _, _, h => h
  | _ + 1, [_], _, _, _ => GoodO.nil
  | k + 1, t :: n :: M, out, hB, h => by
    unfold parseF
    have h1 := hB.cons'
    have h2 := hB.tail'.cons'
    have h3 := hB.tail'.tail'
    split
    · exact GoodO.nil
    split
    · exact GoodO.nil
    · exact parseF_good (h3.drop _) (h.append (.one h1.1 h1.2 (h3.take _) (by simp only [List.length_take]; omega)))
theorem parseO_good {L : List Int} (h : IsB L) : GoodO (parseO L).1 := parseF_good h .nil
theorem parseF_len : ∀ {k : Nat} {L : List Int} {out : List Opt}, (parseF k L out).1.length ≤ out.length + L.length
  | 0, _, _ => by simp [parseF]
  | _ + 1, [], _ => by simp [parseF]
  | _ + 1, [_], _ => by simp [parseF]
  | k + 1, t :: n :: M, out => by
    unfold parseF
    split
    · simp
    split
    · simp
    · have := @parseF_len k (M.drop (n - 2).toNat) (out ++ [(t, M.take (n - 2).toNat)])
      simp only [List.length_append, List.length_cons, List.length_nil, List.length_drop] at this ⊢
      omega
theorem parseO_len {L : List Int} : (parseO L).1.length ≤ L.length := by
  have := @parseF_len L.length L []
  simpa [parseO] using this
theorem oneO_isB {o : Opt} (h0 : 0 ≤ o.1) (h1 : o.1 < 256) (hB : IsB o.2) : IsB (oneO o) := fun x hx => by
  unfold oneO at hx
  rcases List.mem_cons.1 hx with rfl | hx
  · exact ⟨h0, h1⟩
  rcases List.mem_cons.1 hx with rfl | hx
  · have : (o.2.take 253).length ≤ 253 := by simp only [List.length_take]; omega
    exact ⟨by omega, by omega⟩
  · exact hB.take _ x hx
theorem buildO_isB {l : List Opt} (h : GoodO l) : IsB (buildO l) := fun x hx => by
  obtain ⟨o, ho, hx⟩ := List.mem_flatMap.1 hx
  obtain ⟨h0, h1, h2, _⟩ := h o ho
  exact oneO_isB h0 h1 h2 x hx
def findO (l : List Opt) (t : Int) : Option (List Int) := (l.find? fun o => decide (o.1 = t)).map (·.2)
structure Ctl where
  code : Int
  id : Int
  data : List Int
  deriving DecidableEq
instance : Inhabited Ctl := ⟨⟨0, 0, []⟩⟩
def Ctl.v (p : Ctl) (tk : Tk := .no) : V := .agg [.sc (.int .u8 p.code), .sc (.int .u8 p.id), .sl tk (bs p.data)]
def ctls (l : List Ctl) : List V := l.map fun p => p.v
theorem ctls_len (l : List Ctl) : (ctls l).length = l.length := by simp [ctls]
theorem ctls_append (l m : List Ctl) : ctls l ++ ctls m = ctls (l ++ m) := by simp [ctls]
theorem ctls_get (l : List Ctl) (i : Nat) : (ctls l)[i]? = (l[i]?).map fun p => p.v := by simp [ctls]
theorem ctls_nil : ctls [] = [] := rfl
theorem allSz_ctls (l : List Ctl) : allSz 3 (ctls l) := fun d hd => by
  obtain ⟨x, _, rfl⟩ := List.mem_map.1 hd; rfl
structure Ctl.Good (p : Ctl) : Prop where
  c0 : 0 ≤ p.code
  c1 : p.code < 256
  i0 : 0 ≤ p.id
  i1 : p.id < 256
  b : IsB p.data
  l : p.data.length ≤ 1000000
def St.bare (s : St) : St := ⟨fun _ => none, fun _ => none, s.sz⟩
theorem bare_weak {s t : St} (h : s.sz ≤ t.sz) : s.bare.weak t := ⟨fun b cs h => by simp [St.bare] at h, fun g m h => by simp [St.bare] at h, h⟩
structure Tn (bx : List Nat) (s t : St) : Prop where
  box : ∀ b cs, s.box b = some cs → b ∉ bx → t.box b = some cs
  own : ∀ g m, s.own g = some m → t.own g = some m
  sz : s.sz ≤ t.sz
  lt : t.Lt
theorem Tn.refl {bx : List Nat} {s : St} (h : s.Lt) : Tn bx s s := ⟨fun _ _ h _ => h, fun _ _ h => h, Nat.le_refl _, h⟩
theorem Tn.trans {bx : List Nat} {s t u : St} (h : Tn bx s t) (k : Tn bx t u) : Tn bx s u :=
  ⟨fun b cs hb hn => k.box b cs (h.box b cs hb hn) hn, fun g m hg => k.own g m (h.own g m hg), Nat.le_trans h.sz k.sz, k.lt⟩
theorem Tn.wide {bx by' : List Nat} {s t : St} (h : Tn bx s t) (hs : ∀ b ∈ bx, b ∈ by') : Tn by' s t :=
  ⟨fun b cs hb hn => h.box b cs hb fun k => hn (hs b k), h.own, h.sz, h.lt⟩
theorem Tn.ofWeak {bx : List Nat} {s t : St} (h : s.weak t) (hl : t.Lt) : Tn bx s t := ⟨fun b cs hb _ => (h.box b cs hb).1, fun g m hg => (h.own g m hg).1, h.sz, hl⟩
theorem Tn.put {bx : List Nat} {s t : St} (h : Tn bx s t) {b : Nat} {cs : List V} (hb : b ∈ bx ∨ s.sz ≤ b) (hs : s.Lt) : Tn bx s (t.put b cs) :=
  ⟨fun c ds hc hn => by
    have hne : c ≠ b := fun e => by
      subst e
      rcases hb with hb | hb
      · exact hn hb
      · have := hs.box c ds hc; omega
    rw [put_box_ne hne]; exact h.box c ds hc hn, h.own, by have := h.sz; simp only [put_sz]; omega, h.lt.put⟩
theorem Tn.bare {bx : List Nat} {s t : St} (h : Tn bx s t) : s.bare.weak t := bare_weak h.sz
theorem Tn.weak {s t : St} (h : Tn [] s t) (hs : s.Lt) : s.weak t := ⟨fun b cs hb => ⟨h.box b cs hb (by simp), hs.box b cs hb⟩, fun g m hg => ⟨h.own g m hg, hs.own g m hg⟩, h.sz⟩
theorem Tn.app {bx : List Nat} {s t u : St} {x r : V} (h : Tn bx s t) (k : AppSt t x u r) (hx : ∀ g k l, x = .sl (.own g k) l → s.sz ≤ g) (hs : s.Lt) : Tn bx s u :=
  ⟨fun b cs hb hn => by rw [k.box]; exact h.box b cs hb hn, fun g m hg => k.own g m (h.own g m hg) (fun l k e => by have := hx g k l e; have := hs.own g m hg; omega), Nat.le_trans h.sz k.sz, h.lt.app k⟩
theorem weak_tn {bx : List Nat} {base s t : St} (h : base.weak s) (k : Tn bx s t) (hb : ∀ b ∈ bx, base.box b = none) : base.weak t :=
  ⟨fun b cs hc => ⟨k.box b cs (h.box b cs hc).1 (fun hm => by rw [hb b hm] at hc; cases hc), (h.box b cs hc).2⟩, fun g m hg => ⟨k.own g m (h.own g m hg).1, (h.own g m hg).2⟩, Nat.le_trans h.sz k.sz⟩
theorem own_tn {size : Nat} {bx : List Nat} {s t : St} {v : V} {l : List V} (h : Own size s v l) (k : Tn bx s t) : Own size t v l := by
  rcases h with h | ⟨g, h1, h2, h3⟩
  · exact .inl h
  · exact .inr ⟨g, h1, k.own g _ h2, by have := k.sz; omega⟩
theorem RO.tn {size : Nat} {bx : List Nat} {base s t : St} {r : V} {l : List V} (h : RO size base s r l) (k : Tn bx s t) (hb : ∀ b ∈ bx, base.box b = none) : RO size base t r l :=
  ⟨own_tn h.own k, weak_tn h.weak k hb, k.lt, h.tok⟩
theorem RO.beside {size : Nat} {base s t : St} {x r r' : V} {l : List V} (h : RO size base s r l) (k : AppSt s x t r') (hx : ∀ g k l, x = .sl (.own g k) l → s.sz ≤ g) : RO size base t r l :=
  h.tn ((Tn.refl (bx := []) h.lt).app k hx h.lt) (by simp)
def WkL (cs ds : List V) : Prop := cs.length = ds.length ∧ ∀ (i : Nat) (c d : V), cs[i]? = some c → ds[i]? = some d → Wk c d
theorem WkL.nil : WkL [] [] := ⟨rfl, fun i c d h => by simp at h⟩
theorem WkL.cons {c d : V} {cs ds : List V} (h : Wk c d) (k : WkL cs ds) : WkL (c :: cs) (d :: ds) :=
  ⟨by simp only [List.length_cons, k.1], fun i x y hx hy => by
    cases i with
    | zero => simp at hx hy; subst hx hy; exact h
    | succ i => exact k.2 i x y (by simpa using hx) (by simpa using hy)⟩
theorem Wk.agg {cs ds : List V} (h : WkL cs ds) : Wk (.agg cs) (.agg ds) := fun G v hv => by
  cases hv with
  | agg _ vs hl h1 hg =>
    refine .agg _ vs (by rw [hl, h.1]) h1 fun i d u hd hu => ?_
    have hi : i < cs.length := by rw [h.1]; exact (List.getElem?_eq_some_iff.1 hd).1
    have hc := List.getElem?_eq_getElem hi
    exact h.2 i _ d hc hd G u (hg i _ u hc hu)
theorem Wk.tup {cs ds : List V} (h : WkL cs ds) : Wk (.tup cs) (.tup ds) := fun G v hv => by
  cases hv with
  | tup _ vs hl hg =>
    refine .tup _ vs (by rw [hl, h.1]) fun i d u hd hu => ?_
    have hi : i < cs.length := by rw [h.1]; exact (List.getElem?_eq_some_iff.1 hd).1
    have hc := List.getElem?_eq_getElem hi
    exact h.2 i _ d hc hd G u (hg i _ u hc hu)
theorem noOwn {s : St} : ∀ g k l, V.sl Tk.nil [] = .sl (.own g k) l → s.sz ≤ g := fun g k l e => by cases e
end
section
open Go
def fsmT : List (List (Int × Int)) := [[(2, 0), (6, 80), (2, 0), (3, 0), (4, 0), (5, 0), (6, 0), (7, 0), (8, 0), (9, 0)],
  [(0, 0), (1, 0), (0, 0), (1, 4), (0, 0), (1, 0), (1, 0), (1, 0), (1, 0), (1, 2)],
  [(1, 4), (1, 0), (6, 80), (3, 0), (5, 0), (5, 0), (6, 0), (7, 0), (8, 0), (9, 0)],
  [(0, 0), (0, 8), (2, 0), (2, 0), (4, 0), (4, 0), (4, 528), (4, 528), (4, 528), (4, 530)],
  [(0, 0), (1, 0), (2, 0), (3, 0), (4, 512), (5, 512), (6, 64), (6, 64), (8, 64), (9, 0)],
  [(0, 0), (1, 0), (2, 0), (3, 0), (2, 8), (3, 8), (3, 8), (3, 8), (3, 8), (9, 0)],
  [(0, 0), (1, 0), (2, 1024), (8, 208), (4, 0), (5, 0), (8, 128), (9, 129), (8, 128), (8, 194)],
  [(0, 0), (1, 0), (2, 1024), (6, 336), (4, 0), (5, 0), (6, 256), (7, 256), (6, 256), (6, 322)],
  [(0, 0), (1, 0), (2, 1024), (3, 1024), (4, 0), (5, 0), (7, 16), (6, 64), (9, 17), (6, 66)],
  [(0, 0), (1, 0), (2, 1024), (3, 1024), (4, 0), (5, 0), (6, 80), (6, 64), (8, 80), (6, 66)],
  [(0, 0), (1, 0), (2, 1024), (3, 1024), (4, 1024), (5, 1024), (6, 1024), (6, 1024), (6, 1024), (5, 1058)],
  [(0, 0), (1, 0), (2, 0), (3, 0), (2, 8), (3, 8), (6, 0), (6, 0), (8, 0), (6, 66)],
  [(0, 0), (1, 0), (2, 2048), (3, 2048), (4, 2048), (5, 2048), (6, 2048), (7, 2048), (8, 2048), (9, 2048)],
  [(0, 0), (1, 0), (2, 0), (3, 0), (4, 0), (5, 0), (6, 0), (6, 0), (8, 0), (9, 0)],
  [(0, 0), (1, 0), (2, 8), (3, 8), (2, 8), (3, 8), (3, 8), (3, 8), (3, 8), (5, 530)],
  [(0, 0), (1, 0), (2, 0), (3, 0), (4, 0), (5, 0), (6, 0), (7, 0), (8, 0), (9, 4096)]]
def fsmR (e : Nat) : List (Int × Int) := (fsmT[e]?).getD []
def cellsF (l : List (Int × Int)) : List V := l.flatMap fun p => [.sc (.int .i64 p.1), .sc (.int .u16 p.2)]
def stepF (s e : Int) : Int × Int := if s < 0 ∨ 9 < s ∨ e < 0 ∨ 15 < e then (s, 0) else ((fsmR e.toNat)[s.toNat]?).getD (s, 0)
section
variable {st : St}
theorem fsmNo_v {s : Int} : VCalls Tryz.prog 138 [.sc (.int .i64 s)] st fun r s' => r = .agg [.sc (.int .i64 s), .sc (.int .u16 0)] ∧ st = s' := by
  refine vcalls_enter vc138 (Nat.le_of_ble_eq_true rfl) fun hwf hok => ?_
  show Run _ Vc138.body (.fin (finQ Vc138.res _)) _ _
  unfold Vc138 zn zo
  simp (maxSteps := 3000000) only [go_sem, ↓reduceIte]
  intro b hb
  exact ⟨_, _, Wk.refl _, weak_put hwf.weak hb, rfl, rfl⟩
set_option maxRecDepth 100000 in
theorem fsmRow_v {a0 b0 a1 b1 a2 b2 a3 b3 a4 b4 a5 b5 a6 b6 a7 b7 : Int} : VCalls Tryz.prog 139 [.agg [.sc (.int .i64 a0), .sc (.int .u16 b0), .sc (.int .i64 a1), .sc (.int .u16 b1), .sc (.int .i64 a2), .sc (.int .u16 b2), .sc (.int .i64 a3), .sc (.int .u16 b3), .sc (.int .i64 a4), .sc (.int .u16 b4), .sc (.int .i64 a5), .sc (.int .u16 b5), .sc (.int .i64 a6), .sc (.int .u16 b6), .sc (.int .i64 a7), .sc (.int .u16 b7)]] st fun r s' => r = .agg [.sc (.int .i64 0), .sc (.int .u16 0), .sc (.int .i64 1), .sc (.int .u16 0), .sc (.int .i64 a0), .sc (.int .u16 b0), .sc (.int .i64 a1), .sc (.int .u16 b1), .sc (.int .i64 a2), .sc (.int .u16 b2), .sc (.int .i64 a3), .sc (.int .u16 b3), .sc (.int .i64 a4), .sc (.int .u16 b4), .sc (.int .i64 a5), .sc (.int .u16 b5), .sc (.int .i64 a6), .sc (.int .u16 b6), .sc (.int .i64 a7), .sc (.int .u16 b7)] ∧ st = s' := by
  refine vcalls_enter vc139 (Nat.le_of_ble_eq_true rfl) fun hwf hok => ?_
  show Run _ Vc139.body (.fin (finQ Vc139.res _)) _ _
  unfold Vc139 zn zo
  simp (maxSteps := 3000000) only [go_sem]
  intro b hb c hc
  have c1 : b < c := by omega
  have c2 : st.sz ≤ c := by omega
  clear hc
  refine Cal.mk fsmNo_v ?_
  rintro _ _ ⟨rfl, rfl⟩ -
  simp (maxSteps := 3000000) only [go_sem]
  refine Cal.mk fsmNo_v ?_
  rintro _ _ ⟨rfl, rfl⟩ -
  simp (maxSteps := 3000000) only [go_sem, ↓reduceIte]
  intro d hd
  have d1 : b < d := by omega
  have d2 : c < d := by omega
  have d3 : st.sz ≤ d := by omega
  clear hd
  have i1 : (2 : Int) < ((10 : Nat) : Int) := by decide
  have i2 : (0 : Int) < ((8 : Nat) : Int) := by decide
  simp (maxSteps := 3000000) only [go_sem, ↓reduceIte, i1, put_box_ne (Nat.ne_of_lt c1), put_box_ne (Nat.ne_of_lt d1), put_box_ne (Nat.ne_of_lt d2)]
  exact ⟨_, _, Wk.refl _, weak_put (weak_put (weak_put (weak_put hwf.weak hb) c2) d3) c2, rfl, rfl⟩
set_option maxRecDepth 100000 in
theorem fsm0_v : VCalls Tryz.prog 129 [.sc (.int .i64 0)] st fun r s' => r = .agg [.sc (.int .i64 2), .sc (.int .u16 0), .sc (.int .i64 6), .sc (.int .u16 80), .sc (.int .i64 2), .sc (.int .u16 0), .sc (.int .i64 3), .sc (.int .u16 0), .sc (.int .i64 4), .sc (.int .u16 0), .sc (.int .i64 5), .sc (.int .u16 0), .sc (.int .i64 6), .sc (.int .u16 0), .sc (.int .i64 7), .sc (.int .u16 0), .sc (.int .i64 8), .sc (.int .u16 0), .sc (.int .i64 9), .sc (.int .u16 0)] ∧ st = s' := by
  refine vcalls_enter vc129 (Nat.le_of_ble_eq_true rfl) fun hwf hok => ?_
  show Run _ Vc129.body (.fin (finQ Vc129.res _)) _ _
  unfold Vc129 zn zo
  simp (maxSteps := 3000000) only [go_sem, ↓reduceIte]
  intro b hb
  repeat (refine Cal.mk fsmNo_v ?_; rintro _ _ ⟨rfl, rfl⟩ -; simp (maxSteps := 3000000) only [go_sem, ↓reduceIte])
  exact ⟨_, _, Wk.refl _, by first | exact weak_put hwf.weak hb | exact weak_put (weak_put hwf.weak hb) hb, rfl, rfl⟩
set_option maxRecDepth 100000 in
theorem fsmTab0_v : VCalls Tryz.prog 122 [.sc (.int .i64 0)] st fun r s' => r = .agg [.sc (.int .i64 2), .sc (.int .u16 0), .sc (.int .i64 6), .sc (.int .u16 80), .sc (.int .i64 2), .sc (.int .u16 0), .sc (.int .i64 3), .sc (.int .u16 0), .sc (.int .i64 4), .sc (.int .u16 0), .sc (.int .i64 5), .sc (.int .u16 0), .sc (.int .i64 6), .sc (.int .u16 0), .sc (.int .i64 7), .sc (.int .u16 0), .sc (.int .i64 8), .sc (.int .u16 0), .sc (.int .i64 9), .sc (.int .u16 0)] ∧ st = s' := by
  refine vcalls_enter vc122 (Nat.le_of_ble_eq_true rfl) fun hwf hok => ?_
  show Run _ Vc122.body (.fin (finQ Vc122.res _)) _ _
  unfold Vc122 zn zo
  simp (maxSteps := 3000000) only [go_sem, ↓reduceIte]
  intro b hb
  try simp (maxSteps := 3000000) only [go_sem, ↓reduceIte]
  refine Cal.mk fsm0_v ?_
  rintro _ _ ⟨rfl, rfl⟩ -
  simp (maxSteps := 3000000) only [go_sem, ↓reduceIte]
  exact ⟨_, _, Wk.refl _, by first | exact weak_put hwf.weak hb | exact weak_put (weak_put hwf.weak hb) hb, rfl, rfl⟩
set_option maxRecDepth 100000 in
theorem fsm1_v : VCalls Tryz.prog 129 [.sc (.int .i64 1)] st fun r s' => r = .agg [.sc (.int .i64 0), .sc (.int .u16 0), .sc (.int .i64 1), .sc (.int .u16 0), .sc (.int .i64 0), .sc (.int .u16 0), .sc (.int .i64 1), .sc (.int .u16 4), .sc (.int .i64 0), .sc (.int .u16 0), .sc (.int .i64 1), .sc (.int .u16 0), .sc (.int .i64 1), .sc (.int .u16 0), .sc (.int .i64 1), .sc (.int .u16 0), .sc (.int .i64 1), .sc (.int .u16 0), .sc (.int .i64 1), .sc (.int .u16 2)] ∧ st = s' := by
  refine vcalls_enter vc129 (Nat.le_of_ble_eq_true rfl) fun hwf hok => ?_
  show Run _ Vc129.body (.fin (finQ Vc129.res _)) _ _
  unfold Vc129 zn zo
  simp (maxSteps := 3000000) only [go_sem, ↓reduceIte]
  intro b hb
  repeat (refine Cal.mk fsmNo_v ?_; rintro _ _ ⟨rfl, rfl⟩ -; simp (maxSteps := 3000000) only [go_sem, ↓reduceIte])
  refine Cal.mk fsmRow_v ?_
  rintro _ _ ⟨rfl, rfl⟩ -
  simp (maxSteps := 3000000) only [go_sem, ↓reduceIte]
  exact ⟨_, _, Wk.refl _, by first | exact weak_put hwf.weak hb | exact weak_put (weak_put hwf.weak hb) hb, rfl, rfl⟩
set_option maxRecDepth 100000 in
theorem fsmTab1_v : VCalls Tryz.prog 122 [.sc (.int .i64 1)] st fun r s' => r = .agg [.sc (.int .i64 0), .sc (.int .u16 0), .sc (.int .i64 1), .sc (.int .u16 0), .sc (.int .i64 0), .sc (.int .u16 0), .sc (.int .i64 1), .sc (.int .u16 4), .sc (.int .i64 0), .sc (.int .u16 0), .sc (.int .i64 1), .sc (.int .u16 0), .sc (.int .i64 1), .sc (.int .u16 0), .sc (.int .i64 1), .sc (.int .u16 0), .sc (.int .i64 1), .sc (.int .u16 0), .sc (.int .i64 1), .sc (.int .u16 2)] ∧ st = s' := by
  refine vcalls_enter vc122 (Nat.le_of_ble_eq_true rfl) fun hwf hok => ?_
  show Run _ Vc122.body (.fin (finQ Vc122.res _)) _ _
  unfold Vc122 zn zo
  simp (maxSteps := 3000000) only [go_sem, ↓reduceIte]
  intro b hb
  try simp (maxSteps := 3000000) only [go_sem, ↓reduceIte]
  refine Cal.mk fsm1_v ?_
  rintro _ _ ⟨rfl, rfl⟩ -
  simp (maxSteps := 3000000) only [go_sem, ↓reduceIte]
  exact ⟨_, _, Wk.refl _, by first | exact weak_put hwf.weak hb | exact weak_put (weak_put hwf.weak hb) hb, rfl, rfl⟩
set_option maxRecDepth 100000 in
theorem fsm2_v : VCalls Tryz.prog 130 [.sc (.int .i64 2)] st fun r s' => r = .agg [.sc (.int .i64 1), .sc (.int .u16 4), .sc (.int .i64 1), .sc (.int .u16 0), .sc (.int .i64 6), .sc (.int .u16 80), .sc (.int .i64 3), .sc (.int .u16 0), .sc (.int .i64 5), .sc (.int .u16 0), .sc (.int .i64 5), .sc (.int .u16 0), .sc (.int .i64 6), .sc (.int .u16 0), .sc (.int .i64 7), .sc (.int .u16 0), .sc (.int .i64 8), .sc (.int .u16 0), .sc (.int .i64 9), .sc (.int .u16 0)] ∧ st = s' := by
  refine vcalls_enter vc130 (Nat.le_of_ble_eq_true rfl) fun hwf hok => ?_
  show Run _ Vc130.body (.fin (finQ Vc130.res _)) _ _
  unfold Vc130 zn zo
  simp (maxSteps := 3000000) only [go_sem, ↓reduceIte]
  intro b hb
  repeat (refine Cal.mk fsmNo_v ?_; rintro _ _ ⟨rfl, rfl⟩ -; simp (maxSteps := 3000000) only [go_sem, ↓reduceIte])
  exact ⟨_, _, Wk.refl _, by first | exact weak_put hwf.weak hb | exact weak_put (weak_put hwf.weak hb) hb, rfl, rfl⟩
set_option maxRecDepth 100000 in
theorem fsmTab2_v : VCalls Tryz.prog 122 [.sc (.int .i64 2)] st fun r s' => r = .agg [.sc (.int .i64 1), .sc (.int .u16 4), .sc (.int .i64 1), .sc (.int .u16 0), .sc (.int .i64 6), .sc (.int .u16 80), .sc (.int .i64 3), .sc (.int .u16 0), .sc (.int .i64 5), .sc (.int .u16 0), .sc (.int .i64 5), .sc (.int .u16 0), .sc (.int .i64 6), .sc (.int .u16 0), .sc (.int .i64 7), .sc (.int .u16 0), .sc (.int .i64 8), .sc (.int .u16 0), .sc (.int .i64 9), .sc (.int .u16 0)] ∧ st = s' := by
  refine vcalls_enter vc122 (Nat.le_of_ble_eq_true rfl) fun hwf hok => ?_
  show Run _ Vc122.body (.fin (finQ Vc122.res _)) _ _
  unfold Vc122 zn zo
  simp (maxSteps := 3000000) only [go_sem, ↓reduceIte]
  intro b hb
  try simp (maxSteps := 3000000) only [go_sem, ↓reduceIte]
  refine Cal.mk fsm2_v ?_
  rintro _ _ ⟨rfl, rfl⟩ -
  simp (maxSteps := 3000000) only [go_sem, ↓reduceIte]
  exact ⟨_, _, Wk.refl _, by first | exact weak_put hwf.weak hb | exact weak_put (weak_put hwf.weak hb) hb, rfl, rfl⟩
set_option maxRecDepth 100000 in
theorem fsm3_v : VCalls Tryz.prog 130 [.sc (.int .i64 3)] st fun r s' => r = .agg [.sc (.int .i64 0), .sc (.int .u16 0), .sc (.int .i64 0), .sc (.int .u16 8), .sc (.int .i64 2), .sc (.int .u16 0), .sc (.int .i64 2), .sc (.int .u16 0), .sc (.int .i64 4), .sc (.int .u16 0), .sc (.int .i64 4), .sc (.int .u16 0), .sc (.int .i64 4), .sc (.int .u16 528), .sc (.int .i64 4), .sc (.int .u16 528), .sc (.int .i64 4), .sc (.int .u16 528), .sc (.int .i64 4), .sc (.int .u16 530)] ∧ st = s' := by
  refine vcalls_enter vc130 (Nat.le_of_ble_eq_true rfl) fun hwf hok => ?_
  show Run _ Vc130.body (.fin (finQ Vc130.res _)) _ _
  unfold Vc130 zn zo
  simp (maxSteps := 3000000) only [go_sem, ↓reduceIte]
  intro b hb
  repeat (refine Cal.mk fsmNo_v ?_; rintro _ _ ⟨rfl, rfl⟩ -; simp (maxSteps := 3000000) only [go_sem, ↓reduceIte])
  exact ⟨_, _, Wk.refl _, by first | exact weak_put hwf.weak hb | exact weak_put (weak_put hwf.weak hb) hb, rfl, rfl⟩
set_option maxRecDepth 100000 in
theorem fsmTab3_v : VCalls Tryz.prog 122 [.sc (.int .i64 3)] st fun r s' => r = .agg [.sc (.int .i64 0), .sc (.int .u16 0), .sc (.int .i64 0), .sc (.int .u16 8), .sc (.int .i64 2), .sc (.int .u16 0), .sc (.int .i64 2), .sc (.int .u16 0), .sc (.int .i64 4), .sc (.int .u16 0), .sc (.int .i64 4), .sc (.int .u16 0), .sc (.int .i64 4), .sc (.int .u16 528), .sc (.int .i64 4), .sc (.int .u16 528), .sc (.int .i64 4), .sc (.int .u16 528), .sc (.int .i64 4), .sc (.int .u16 530)] ∧ st = s' := by
  refine vcalls_enter vc122 (Nat.le_of_ble_eq_true rfl) fun hwf hok => ?_
  show Run _ Vc122.body (.fin (finQ Vc122.res _)) _ _
  unfold Vc122 zn zo
  simp (maxSteps := 3000000) only [go_sem, ↓reduceIte]
  intro b hb
  try simp (maxSteps := 3000000) only [go_sem, ↓reduceIte]
  refine Cal.mk fsm3_v ?_
  rintro _ _ ⟨rfl, rfl⟩ -
  simp (maxSteps := 3000000) only [go_sem, ↓reduceIte]
  exact ⟨_, _, Wk.refl _, by first | exact weak_put hwf.weak hb | exact weak_put (weak_put hwf.weak hb) hb, rfl, rfl⟩
set_option maxRecDepth 100000 in
theorem fsm4_v : VCalls Tryz.prog 131 [.sc (.int .i64 4)] st fun r s' => r = .agg [.sc (.int .i64 0), .sc (.int .u16 0), .sc (.int .i64 1), .sc (.int .u16 0), .sc (.int .i64 2), .sc (.int .u16 0), .sc (.int .i64 3), .sc (.int .u16 0), .sc (.int .i64 4), .sc (.int .u16 512), .sc (.int .i64 5), .sc (.int .u16 512), .sc (.int .i64 6), .sc (.int .u16 64), .sc (.int .i64 6), .sc (.int .u16 64), .sc (.int .i64 8), .sc (.int .u16 64), .sc (.int .i64 9), .sc (.int .u16 0)] ∧ st = s' := by
  refine vcalls_enter vc131 (Nat.le_of_ble_eq_true rfl) fun hwf hok => ?_
  show Run _ Vc131.body (.fin (finQ Vc131.res _)) _ _
  unfold Vc131 zn zo
  simp (maxSteps := 3000000) only [go_sem, ↓reduceIte]
  intro b hb
  repeat (refine Cal.mk fsmNo_v ?_; rintro _ _ ⟨rfl, rfl⟩ -; simp (maxSteps := 3000000) only [go_sem, ↓reduceIte])
  refine Cal.mk fsmRow_v ?_
  rintro _ _ ⟨rfl, rfl⟩ -
  simp (maxSteps := 3000000) only [go_sem, ↓reduceIte]
  exact ⟨_, _, Wk.refl _, by first | exact weak_put hwf.weak hb | exact weak_put (weak_put hwf.weak hb) hb, rfl, rfl⟩
set_option maxRecDepth 100000 in
theorem fsmTab4_v : VCalls Tryz.prog 122 [.sc (.int .i64 4)] st fun r s' => r = .agg [.sc (.int .i64 0), .sc (.int .u16 0), .sc (.int .i64 1), .sc (.int .u16 0), .sc (.int .i64 2), .sc (.int .u16 0), .sc (.int .i64 3), .sc (.int .u16 0), .sc (.int .i64 4), .sc (.int .u16 512), .sc (.int .i64 5), .sc (.int .u16 512), .sc (.int .i64 6), .sc (.int .u16 64), .sc (.int .i64 6), .sc (.int .u16 64), .sc (.int .i64 8), .sc (.int .u16 64), .sc (.int .i64 9), .sc (.int .u16 0)] ∧ st = s' := by
  refine vcalls_enter vc122 (Nat.le_of_ble_eq_true rfl) fun hwf hok => ?_
  show Run _ Vc122.body (.fin (finQ Vc122.res _)) _ _
  unfold Vc122 zn zo
  simp (maxSteps := 3000000) only [go_sem, ↓reduceIte]
  intro b hb
  try simp (maxSteps := 3000000) only [go_sem, ↓reduceIte]
  refine Cal.mk fsm4_v ?_
  rintro _ _ ⟨rfl, rfl⟩ -
  simp (maxSteps := 3000000) only [go_sem, ↓reduceIte]
  exact ⟨_, _, Wk.refl _, by first | exact weak_put hwf.weak hb | exact weak_put (weak_put hwf.weak hb) hb, rfl, rfl⟩
set_option maxRecDepth 100000 in
theorem fsm5_v : VCalls Tryz.prog 131 [.sc (.int .i64 5)] st fun r s' => r = .agg [.sc (.int .i64 0), .sc (.int .u16 0), .sc (.int .i64 1), .sc (.int .u16 0), .sc (.int .i64 2), .sc (.int .u16 0), .sc (.int .i64 3), .sc (.int .u16 0), .sc (.int .i64 2), .sc (.int .u16 8), .sc (.int .i64 3), .sc (.int .u16 8), .sc (.int .i64 3), .sc (.int .u16 8), .sc (.int .i64 3), .sc (.int .u16 8), .sc (.int .i64 3), .sc (.int .u16 8), .sc (.int .i64 9), .sc (.int .u16 0)] ∧ st = s' := by
  refine vcalls_enter vc131 (Nat.le_of_ble_eq_true rfl) fun hwf hok => ?_
  show Run _ Vc131.body (.fin (finQ Vc131.res _)) _ _
  unfold Vc131 zn zo
  simp (maxSteps := 3000000) only [go_sem, ↓reduceIte]
  intro b hb
  repeat (refine Cal.mk fsmNo_v ?_; rintro _ _ ⟨rfl, rfl⟩ -; simp (maxSteps := 3000000) only [go_sem, ↓reduceIte])
  refine Cal.mk fsmRow_v ?_
  rintro _ _ ⟨rfl, rfl⟩ -
  simp (maxSteps := 3000000) only [go_sem, ↓reduceIte]
  exact ⟨_, _, Wk.refl _, by first | exact weak_put hwf.weak hb | exact weak_put (weak_put hwf.weak hb) hb, rfl, rfl⟩
set_option maxRecDepth 100000 in
theorem fsmTab5_v : VCalls Tryz.prog 122 [.sc (.int .i64 5)] st fun r s' => r = .agg [.sc (.int .i64 0), .sc (.int .u16 0), .sc (.int .i64 1), .sc (.int .u16 0), .sc (.int .i64 2), .sc (.int .u16 0), .sc (.int .i64 3), .sc (.int .u16 0), .sc (.int .i64 2), .sc (.int .u16 8), .sc (.int .i64 3), .sc (.int .u16 8), .sc (.int .i64 3), .sc (.int .u16 8), .sc (.int .i64 3), .sc (.int .u16 8), .sc (.int .i64 3), .sc (.int .u16 8), .sc (.int .i64 9), .sc (.int .u16 0)] ∧ st = s' := by
  refine vcalls_enter vc122 (Nat.le_of_ble_eq_true rfl) fun hwf hok => ?_
  show Run _ Vc122.body (.fin (finQ Vc122.res _)) _ _
  unfold Vc122 zn zo
  simp (maxSteps := 3000000) only [go_sem, ↓reduceIte]
  intro b hb
  try simp (maxSteps := 3000000) only [go_sem, ↓reduceIte]
  refine Cal.mk fsm5_v ?_
  rintro _ _ ⟨rfl, rfl⟩ -
  simp (maxSteps := 3000000) only [go_sem, ↓reduceIte]
  exact ⟨_, _, Wk.refl _, by first | exact weak_put hwf.weak hb | exact weak_put (weak_put hwf.weak hb) hb, rfl, rfl⟩
set_option maxRecDepth 100000 in
theorem fsm6_v : VCalls Tryz.prog 132 [.sc (.int .i64 6)] st fun r s' => r = .agg [.sc (.int .i64 0), .sc (.int .u16 0), .sc (.int .i64 1), .sc (.int .u16 0), .sc (.int .i64 2), .sc (.int .u16 1024), .sc (.int .i64 8), .sc (.int .u16 208), .sc (.int .i64 4), .sc (.int .u16 0), .sc (.int .i64 5), .sc (.int .u16 0), .sc (.int .i64 8), .sc (.int .u16 128), .sc (.int .i64 9), .sc (.int .u16 129), .sc (.int .i64 8), .sc (.int .u16 128), .sc (.int .i64 8), .sc (.int .u16 194)] ∧ st = s' := by
  refine vcalls_enter vc132 (Nat.le_of_ble_eq_true rfl) fun hwf hok => ?_
  show Run _ Vc132.body (.fin (finQ Vc132.res _)) _ _
  unfold Vc132 zn zo
  simp (maxSteps := 3000000) only [go_sem, ↓reduceIte]
  intro b hb
  repeat (refine Cal.mk fsmNo_v ?_; rintro _ _ ⟨rfl, rfl⟩ -; simp (maxSteps := 3000000) only [go_sem, ↓reduceIte])
  refine Cal.mk fsmRow_v ?_
  rintro _ _ ⟨rfl, rfl⟩ -
  simp (maxSteps := 3000000) only [go_sem, ↓reduceIte]
  exact ⟨_, _, Wk.refl _, by first | exact weak_put hwf.weak hb | exact weak_put (weak_put hwf.weak hb) hb, rfl, rfl⟩
set_option maxRecDepth 100000 in
theorem fsmTab6_v : VCalls Tryz.prog 122 [.sc (.int .i64 6)] st fun r s' => r = .agg [.sc (.int .i64 0), .sc (.int .u16 0), .sc (.int .i64 1), .sc (.int .u16 0), .sc (.int .i64 2), .sc (.int .u16 1024), .sc (.int .i64 8), .sc (.int .u16 208), .sc (.int .i64 4), .sc (.int .u16 0), .sc (.int .i64 5), .sc (.int .u16 0), .sc (.int .i64 8), .sc (.int .u16 128), .sc (.int .i64 9), .sc (.int .u16 129), .sc (.int .i64 8), .sc (.int .u16 128), .sc (.int .i64 8), .sc (.int .u16 194)] ∧ st = s' := by
  refine vcalls_enter vc122 (Nat.le_of_ble_eq_true rfl) fun hwf hok => ?_
  show Run _ Vc122.body (.fin (finQ Vc122.res _)) _ _
  unfold Vc122 zn zo
  simp (maxSteps := 3000000) only [go_sem, ↓reduceIte]
  intro b hb
  try simp (maxSteps := 3000000) only [go_sem, ↓reduceIte]
  refine Cal.mk fsm6_v ?_
  rintro _ _ ⟨rfl, rfl⟩ -
  simp (maxSteps := 3000000) only [go_sem, ↓reduceIte]
  exact ⟨_, _, Wk.refl _, by first | exact weak_put hwf.weak hb | exact weak_put (weak_put hwf.weak hb) hb, rfl, rfl⟩
set_option maxRecDepth 100000 in
theorem fsm7_v : VCalls Tryz.prog 132 [.sc (.int .i64 7)] st fun r s' => r = .agg [.sc (.int .i64 0), .sc (.int .u16 0), .sc (.int .i64 1), .sc (.int .u16 0), .sc (.int .i64 2), .sc (.int .u16 1024), .sc (.int .i64 6), .sc (.int .u16 336), .sc (.int .i64 4), .sc (.int .u16 0), .sc (.int .i64 5), .sc (.int .u16 0), .sc (.int .i64 6), .sc (.int .u16 256), .sc (.int .i64 7), .sc (.int .u16 256), .sc (.int .i64 6), .sc (.int .u16 256), .sc (.int .i64 6), .sc (.int .u16 322)] ∧ st = s' := by
  refine vcalls_enter vc132 (Nat.le_of_ble_eq_true rfl) fun hwf hok => ?_
  show Run _ Vc132.body (.fin (finQ Vc132.res _)) _ _
  unfold Vc132 zn zo
  simp (maxSteps := 3000000) only [go_sem, ↓reduceIte]
  intro b hb
  repeat (refine Cal.mk fsmNo_v ?_; rintro _ _ ⟨rfl, rfl⟩ -; simp (maxSteps := 3000000) only [go_sem, ↓reduceIte])
  refine Cal.mk fsmRow_v ?_
  rintro _ _ ⟨rfl, rfl⟩ -
  simp (maxSteps := 3000000) only [go_sem, ↓reduceIte]
  exact ⟨_, _, Wk.refl _, by first | exact weak_put hwf.weak hb | exact weak_put (weak_put hwf.weak hb) hb, rfl, rfl⟩
set_option maxRecDepth 100000 in
theorem fsmTab7_v : VCalls Tryz.prog 122 [.sc (.int .i64 7)] st fun r s' => r = .agg [.sc (.int .i64 0), .sc (.int .u16 0), .sc (.int .i64 1), .sc (.int .u16 0), .sc (.int .i64 2), .sc (.int .u16 1024), .sc (.int .i64 6), .sc (.int .u16 336), .sc (.int .i64 4), .sc (.int .u16 0), .sc (.int .i64 5), .sc (.int .u16 0), .sc (.int .i64 6), .sc (.int .u16 256), .sc (.int .i64 7), .sc (.int .u16 256), .sc (.int .i64 6), .sc (.int .u16 256), .sc (.int .i64 6), .sc (.int .u16 322)] ∧ st = s' := by
  refine vcalls_enter vc122 (Nat.le_of_ble_eq_true rfl) fun hwf hok => ?_
  show Run _ Vc122.body (.fin (finQ Vc122.res _)) _ _
  unfold Vc122 zn zo
  simp (maxSteps := 3000000) only [go_sem, ↓reduceIte]
  intro b hb
  try simp (maxSteps := 3000000) only [go_sem, ↓reduceIte]
  refine Cal.mk fsm7_v ?_
  rintro _ _ ⟨rfl, rfl⟩ -
  simp (maxSteps := 3000000) only [go_sem, ↓reduceIte]
  exact ⟨_, _, Wk.refl _, by first | exact weak_put hwf.weak hb | exact weak_put (weak_put hwf.weak hb) hb, rfl, rfl⟩
set_option maxRecDepth 100000 in
theorem fsm8_v : VCalls Tryz.prog 133 [.sc (.int .i64 8)] st fun r s' => r = .agg [.sc (.int .i64 0), .sc (.int .u16 0), .sc (.int .i64 1), .sc (.int .u16 0), .sc (.int .i64 2), .sc (.int .u16 1024), .sc (.int .i64 3), .sc (.int .u16 1024), .sc (.int .i64 4), .sc (.int .u16 0), .sc (.int .i64 5), .sc (.int .u16 0), .sc (.int .i64 7), .sc (.int .u16 16), .sc (.int .i64 6), .sc (.int .u16 64), .sc (.int .i64 9), .sc (.int .u16 17), .sc (.int .i64 6), .sc (.int .u16 66)] ∧ st = s' := by
  refine vcalls_enter vc133 (Nat.le_of_ble_eq_true rfl) fun hwf hok => ?_
  show Run _ Vc133.body (.fin (finQ Vc133.res _)) _ _
  unfold Vc133 zn zo
  simp (maxSteps := 3000000) only [go_sem, ↓reduceIte]
  intro b hb
  intro c hc
  have c1 : b ≠ c := by omega
  have c2 : st.sz ≤ c := by omega
  clear hc
  have i1 : (4 : Int) < ((8 : Nat) : Int) := by decide
  have i2 : (6 : Int) < ((8 : Nat) : Int) := by decide
  try simp (maxSteps := 3000000) only [go_sem, ↓reduceIte, i1, i2, if_true, put_box_ne c1, put_box_ne c1.symm]
  repeat (refine Cal.mk fsmNo_v ?_; rintro _ _ ⟨rfl, rfl⟩ -; simp (maxSteps := 3000000) only [go_sem, ↓reduceIte])
  refine Cal.mk fsmRow_v ?_
  rintro _ _ ⟨rfl, rfl⟩ -
  simp (maxSteps := 3000000) only [go_sem, ↓reduceIte, put_box_ne c1]
  exact ⟨_, _, Wk.refl _, by first | exact weak_put (weak_put (weak_put hwf.weak hb) c2) hb | exact weak_put (weak_put (weak_put (weak_put hwf.weak hb) c2) c2) hb | exact weak_put (weak_put hwf.weak hb) c2, rfl, rfl⟩
set_option maxRecDepth 100000 in
theorem fsmTab8_v : VCalls Tryz.prog 122 [.sc (.int .i64 8)] st fun r s' => r = .agg [.sc (.int .i64 0), .sc (.int .u16 0), .sc (.int .i64 1), .sc (.int .u16 0), .sc (.int .i64 2), .sc (.int .u16 1024), .sc (.int .i64 3), .sc (.int .u16 1024), .sc (.int .i64 4), .sc (.int .u16 0), .sc (.int .i64 5), .sc (.int .u16 0), .sc (.int .i64 7), .sc (.int .u16 16), .sc (.int .i64 6), .sc (.int .u16 64), .sc (.int .i64 9), .sc (.int .u16 17), .sc (.int .i64 6), .sc (.int .u16 66)] ∧ st = s' := by
  refine vcalls_enter vc122 (Nat.le_of_ble_eq_true rfl) fun hwf hok => ?_
  show Run _ Vc122.body (.fin (finQ Vc122.res _)) _ _
  unfold Vc122 zn zo
  simp (maxSteps := 3000000) only [go_sem, ↓reduceIte]
  intro b hb
  try simp (maxSteps := 3000000) only [go_sem, ↓reduceIte]
  refine Cal.mk fsm8_v ?_
  rintro _ _ ⟨rfl, rfl⟩ -
  simp (maxSteps := 3000000) only [go_sem, ↓reduceIte]
  exact ⟨_, _, Wk.refl _, by first | exact weak_put hwf.weak hb | exact weak_put (weak_put hwf.weak hb) hb, rfl, rfl⟩
set_option maxRecDepth 100000 in
theorem fsm9_v : VCalls Tryz.prog 133 [.sc (.int .i64 9)] st fun r s' => r = .agg [.sc (.int .i64 0), .sc (.int .u16 0), .sc (.int .i64 1), .sc (.int .u16 0), .sc (.int .i64 2), .sc (.int .u16 1024), .sc (.int .i64 3), .sc (.int .u16 1024), .sc (.int .i64 4), .sc (.int .u16 0), .sc (.int .i64 5), .sc (.int .u16 0), .sc (.int .i64 6), .sc (.int .u16 80), .sc (.int .i64 6), .sc (.int .u16 64), .sc (.int .i64 8), .sc (.int .u16 80), .sc (.int .i64 6), .sc (.int .u16 66)] ∧ st = s' := by
  refine vcalls_enter vc133 (Nat.le_of_ble_eq_true rfl) fun hwf hok => ?_
  show Run _ Vc133.body (.fin (finQ Vc133.res _)) _ _
  unfold Vc133 zn zo
  simp (maxSteps := 3000000) only [go_sem, ↓reduceIte]
  intro b hb
  intro c hc
  have c1 : b ≠ c := by omega
  have c2 : st.sz ≤ c := by omega
  clear hc
  have i1 : (4 : Int) < ((8 : Nat) : Int) := by decide
  have i2 : (6 : Int) < ((8 : Nat) : Int) := by decide
  try simp (maxSteps := 3000000) only [go_sem, i1, i2]
  repeat (refine Cal.mk fsmNo_v ?_; rintro _ _ ⟨rfl, rfl⟩ -; simp (maxSteps := 3000000) only [go_sem, ↓reduceIte])
  refine Cal.mk fsmRow_v ?_
  rintro _ _ ⟨rfl, rfl⟩ -
  simp (maxSteps := 3000000) only [go_sem, ↓reduceIte, put_box_ne c1]
  exact ⟨_, _, Wk.refl _, by first | exact weak_put (weak_put (weak_put hwf.weak hb) c2) hb | exact weak_put (weak_put (weak_put (weak_put hwf.weak hb) c2) c2) hb | exact weak_put (weak_put hwf.weak hb) c2, rfl, rfl⟩
set_option maxRecDepth 100000 in
theorem fsmTab9_v : VCalls Tryz.prog 122 [.sc (.int .i64 9)] st fun r s' => r = .agg [.sc (.int .i64 0), .sc (.int .u16 0), .sc (.int .i64 1), .sc (.int .u16 0), .sc (.int .i64 2), .sc (.int .u16 1024), .sc (.int .i64 3), .sc (.int .u16 1024), .sc (.int .i64 4), .sc (.int .u16 0), .sc (.int .i64 5), .sc (.int .u16 0), .sc (.int .i64 6), .sc (.int .u16 80), .sc (.int .i64 6), .sc (.int .u16 64), .sc (.int .i64 8), .sc (.int .u16 80), .sc (.int .i64 6), .sc (.int .u16 66)] ∧ st = s' := by
  refine vcalls_enter vc122 (Nat.le_of_ble_eq_true rfl) fun hwf hok => ?_
  show Run _ Vc122.body (.fin (finQ Vc122.res _)) _ _
  unfold Vc122 zn zo
  simp (maxSteps := 3000000) only [go_sem, ↓reduceIte]
  intro b hb
  try simp (maxSteps := 3000000) only [go_sem, ↓reduceIte]
  refine Cal.mk fsm9_v ?_
  rintro _ _ ⟨rfl, rfl⟩ -
  simp (maxSteps := 3000000) only [go_sem, ↓reduceIte]
  exact ⟨_, _, Wk.refl _, by first | exact weak_put hwf.weak hb | exact weak_put (weak_put hwf.weak hb) hb, rfl, rfl⟩
set_option maxRecDepth 100000 in
theorem fsm10_v : VCalls Tryz.prog 134 [.sc (.int .i64 10)] st fun r s' => r = .agg [.sc (.int .i64 0), .sc (.int .u16 0), .sc (.int .i64 1), .sc (.int .u16 0), .sc (.int .i64 2), .sc (.int .u16 1024), .sc (.int .i64 3), .sc (.int .u16 1024), .sc (.int .i64 4), .sc (.int .u16 1024), .sc (.int .i64 5), .sc (.int .u16 1024), .sc (.int .i64 6), .sc (.int .u16 1024), .sc (.int .i64 6), .sc (.int .u16 1024), .sc (.int .i64 6), .sc (.int .u16 1024), .sc (.int .i64 5), .sc (.int .u16 1058)] ∧ st = s' := by
  refine vcalls_enter vc134 (Nat.le_of_ble_eq_true rfl) fun hwf hok => ?_
  show Run _ Vc134.body (.fin (finQ Vc134.res _)) _ _
  unfold Vc134 zn zo
  simp (maxSteps := 3000000) only [go_sem, ↓reduceIte]
  intro b hb
  repeat (refine Cal.mk fsmNo_v ?_; rintro _ _ ⟨rfl, rfl⟩ -; simp (maxSteps := 3000000) only [go_sem, ↓reduceIte])
  refine Cal.mk fsmRow_v ?_
  rintro _ _ ⟨rfl, rfl⟩ -
  simp (maxSteps := 3000000) only [go_sem, ↓reduceIte]
  exact ⟨_, _, Wk.refl _, by first | exact weak_put hwf.weak hb | exact weak_put (weak_put hwf.weak hb) hb, rfl, rfl⟩
set_option maxRecDepth 100000 in
theorem fsmTab10_v : VCalls Tryz.prog 122 [.sc (.int .i64 10)] st fun r s' => r = .agg [.sc (.int .i64 0), .sc (.int .u16 0), .sc (.int .i64 1), .sc (.int .u16 0), .sc (.int .i64 2), .sc (.int .u16 1024), .sc (.int .i64 3), .sc (.int .u16 1024), .sc (.int .i64 4), .sc (.int .u16 1024), .sc (.int .i64 5), .sc (.int .u16 1024), .sc (.int .i64 6), .sc (.int .u16 1024), .sc (.int .i64 6), .sc (.int .u16 1024), .sc (.int .i64 6), .sc (.int .u16 1024), .sc (.int .i64 5), .sc (.int .u16 1058)] ∧ st = s' := by
  refine vcalls_enter vc122 (Nat.le_of_ble_eq_true rfl) fun hwf hok => ?_
  show Run _ Vc122.body (.fin (finQ Vc122.res _)) _ _
  unfold Vc122 zn zo
  simp (maxSteps := 3000000) only [go_sem, ↓reduceIte]
  intro b hb
  try simp (maxSteps := 3000000) only [go_sem, ↓reduceIte]
  refine Cal.mk fsm10_v ?_
  rintro _ _ ⟨rfl, rfl⟩ -
  simp (maxSteps := 3000000) only [go_sem, ↓reduceIte]
  exact ⟨_, _, Wk.refl _, by first | exact weak_put hwf.weak hb | exact weak_put (weak_put hwf.weak hb) hb, rfl, rfl⟩
set_option maxRecDepth 100000 in
theorem fsm11_v : VCalls Tryz.prog 134 [.sc (.int .i64 11)] st fun r s' => r = .agg [.sc (.int .i64 0), .sc (.int .u16 0), .sc (.int .i64 1), .sc (.int .u16 0), .sc (.int .i64 2), .sc (.int .u16 0), .sc (.int .i64 3), .sc (.int .u16 0), .sc (.int .i64 2), .sc (.int .u16 8), .sc (.int .i64 3), .sc (.int .u16 8), .sc (.int .i64 6), .sc (.int .u16 0), .sc (.int .i64 6), .sc (.int .u16 0), .sc (.int .i64 8), .sc (.int .u16 0), .sc (.int .i64 6), .sc (.int .u16 66)] ∧ st = s' := by
  refine vcalls_enter vc134 (Nat.le_of_ble_eq_true rfl) fun hwf hok => ?_
  show Run _ Vc134.body (.fin (finQ Vc134.res _)) _ _
  unfold Vc134 zn zo
  simp (maxSteps := 3000000) only [go_sem, ↓reduceIte]
  intro b hb
  repeat (refine Cal.mk fsmNo_v ?_; rintro _ _ ⟨rfl, rfl⟩ -; simp (maxSteps := 3000000) only [go_sem, ↓reduceIte])
  refine Cal.mk fsmRow_v ?_
  rintro _ _ ⟨rfl, rfl⟩ -
  simp (maxSteps := 3000000) only [go_sem, ↓reduceIte]
  exact ⟨_, _, Wk.refl _, by first | exact weak_put hwf.weak hb | exact weak_put (weak_put hwf.weak hb) hb, rfl, rfl⟩
set_option maxRecDepth 100000 in
theorem fsmTab11_v : VCalls Tryz.prog 122 [.sc (.int .i64 11)] st fun r s' => r = .agg [.sc (.int .i64 0), .sc (.int .u16 0), .sc (.int .i64 1), .sc (.int .u16 0), .sc (.int .i64 2), .sc (.int .u16 0), .sc (.int .i64 3), .sc (.int .u16 0), .sc (.int .i64 2), .sc (.int .u16 8), .sc (.int .i64 3), .sc (.int .u16 8), .sc (.int .i64 6), .sc (.int .u16 0), .sc (.int .i64 6), .sc (.int .u16 0), .sc (.int .i64 8), .sc (.int .u16 0), .sc (.int .i64 6), .sc (.int .u16 66)] ∧ st = s' := by
  refine vcalls_enter vc122 (Nat.le_of_ble_eq_true rfl) fun hwf hok => ?_
  show Run _ Vc122.body (.fin (finQ Vc122.res _)) _ _
  unfold Vc122 zn zo
  simp (maxSteps := 3000000) only [go_sem, ↓reduceIte]
  intro b hb
  try simp (maxSteps := 3000000) only [go_sem, ↓reduceIte]
  refine Cal.mk fsm11_v ?_
  rintro _ _ ⟨rfl, rfl⟩ -
  simp (maxSteps := 3000000) only [go_sem, ↓reduceIte]
  exact ⟨_, _, Wk.refl _, by first | exact weak_put hwf.weak hb | exact weak_put (weak_put hwf.weak hb) hb, rfl, rfl⟩
set_option maxRecDepth 100000 in
theorem fsm12_v : VCalls Tryz.prog 135 [.sc (.int .i64 12)] st fun r s' => r = .agg [.sc (.int .i64 0), .sc (.int .u16 0), .sc (.int .i64 1), .sc (.int .u16 0), .sc (.int .i64 2), .sc (.int .u16 2048), .sc (.int .i64 3), .sc (.int .u16 2048), .sc (.int .i64 4), .sc (.int .u16 2048), .sc (.int .i64 5), .sc (.int .u16 2048), .sc (.int .i64 6), .sc (.int .u16 2048), .sc (.int .i64 7), .sc (.int .u16 2048), .sc (.int .i64 8), .sc (.int .u16 2048), .sc (.int .i64 9), .sc (.int .u16 2048)] ∧ st = s' := by
  refine vcalls_enter vc135 (Nat.le_of_ble_eq_true rfl) fun hwf hok => ?_
  show Run _ Vc135.body (.fin (finQ Vc135.res _)) _ _
  unfold Vc135 zn zo
  simp (maxSteps := 3000000) only [go_sem, ↓reduceIte]
  intro b hb
  repeat (refine Cal.mk fsmNo_v ?_; rintro _ _ ⟨rfl, rfl⟩ -; simp (maxSteps := 3000000) only [go_sem, ↓reduceIte])
  refine Cal.mk fsmRow_v ?_
  rintro _ _ ⟨rfl, rfl⟩ -
  simp (maxSteps := 3000000) only [go_sem, ↓reduceIte]
  exact ⟨_, _, Wk.refl _, by first | exact weak_put hwf.weak hb | exact weak_put (weak_put hwf.weak hb) hb, rfl, rfl⟩
set_option maxRecDepth 100000 in
theorem fsmTab12_v : VCalls Tryz.prog 122 [.sc (.int .i64 12)] st fun r s' => r = .agg [.sc (.int .i64 0), .sc (.int .u16 0), .sc (.int .i64 1), .sc (.int .u16 0), .sc (.int .i64 2), .sc (.int .u16 2048), .sc (.int .i64 3), .sc (.int .u16 2048), .sc (.int .i64 4), .sc (.int .u16 2048), .sc (.int .i64 5), .sc (.int .u16 2048), .sc (.int .i64 6), .sc (.int .u16 2048), .sc (.int .i64 7), .sc (.int .u16 2048), .sc (.int .i64 8), .sc (.int .u16 2048), .sc (.int .i64 9), .sc (.int .u16 2048)] ∧ st = s' := by
  refine vcalls_enter vc122 (Nat.le_of_ble_eq_true rfl) fun hwf hok => ?_
  show Run _ Vc122.body (.fin (finQ Vc122.res _)) _ _
  unfold Vc122 zn zo
  simp (maxSteps := 3000000) only [go_sem, ↓reduceIte]
  intro b hb
  try simp (maxSteps := 3000000) only [go_sem, ↓reduceIte]
  refine Cal.mk fsm12_v ?_
  rintro _ _ ⟨rfl, rfl⟩ -
  simp (maxSteps := 3000000) only [go_sem, ↓reduceIte]
  exact ⟨_, _, Wk.refl _, by first | exact weak_put hwf.weak hb | exact weak_put (weak_put hwf.weak hb) hb, rfl, rfl⟩
set_option maxRecDepth 100000 in
theorem fsm13_v : VCalls Tryz.prog 135 [.sc (.int .i64 13)] st fun r s' => r = .agg [.sc (.int .i64 0), .sc (.int .u16 0), .sc (.int .i64 1), .sc (.int .u16 0), .sc (.int .i64 2), .sc (.int .u16 0), .sc (.int .i64 3), .sc (.int .u16 0), .sc (.int .i64 4), .sc (.int .u16 0), .sc (.int .i64 5), .sc (.int .u16 0), .sc (.int .i64 6), .sc (.int .u16 0), .sc (.int .i64 6), .sc (.int .u16 0), .sc (.int .i64 8), .sc (.int .u16 0), .sc (.int .i64 9), .sc (.int .u16 0)] ∧ st = s' := by
  refine vcalls_enter vc135 (Nat.le_of_ble_eq_true rfl) fun hwf hok => ?_
  show Run _ Vc135.body (.fin (finQ Vc135.res _)) _ _
  unfold Vc135 zn zo
  simp (maxSteps := 3000000) only [go_sem, ↓reduceIte]
  intro b hb
  repeat (refine Cal.mk fsmNo_v ?_; rintro _ _ ⟨rfl, rfl⟩ -; simp (maxSteps := 3000000) only [go_sem, ↓reduceIte])
  refine Cal.mk fsmRow_v ?_
  rintro _ _ ⟨rfl, rfl⟩ -
  simp (maxSteps := 3000000) only [go_sem, ↓reduceIte]
  exact ⟨_, _, Wk.refl _, by first | exact weak_put hwf.weak hb | exact weak_put (weak_put hwf.weak hb) hb, rfl, rfl⟩
set_option maxRecDepth 100000 in
theorem fsmTab13_v : VCalls Tryz.prog 122 [.sc (.int .i64 13)] st fun r s' => r = .agg [.sc (.int .i64 0), .sc (.int .u16 0), .sc (.int .i64 1), .sc (.int .u16 0), .sc (.int .i64 2), .sc (.int .u16 0), .sc (.int .i64 3), .sc (.int .u16 0), .sc (.int .i64 4), .sc (.int .u16 0), .sc (.int .i64 5), .sc (.int .u16 0), .sc (.int .i64 6), .sc (.int .u16 0), .sc (.int .i64 6), .sc (.int .u16 0), .sc (.int .i64 8), .sc (.int .u16 0), .sc (.int .i64 9), .sc (.int .u16 0)] ∧ st = s' := by
  refine vcalls_enter vc122 (Nat.le_of_ble_eq_true rfl) fun hwf hok => ?_
  show Run _ Vc122.body (.fin (finQ Vc122.res _)) _ _
  unfold Vc122 zn zo
  simp (maxSteps := 3000000) only [go_sem, ↓reduceIte]
  intro b hb
  try simp (maxSteps := 3000000) only [go_sem, ↓reduceIte]
  refine Cal.mk fsm13_v ?_
  rintro _ _ ⟨rfl, rfl⟩ -
  simp (maxSteps := 3000000) only [go_sem, ↓reduceIte]
  exact ⟨_, _, Wk.refl _, by first | exact weak_put hwf.weak hb | exact weak_put (weak_put hwf.weak hb) hb, rfl, rfl⟩
set_option maxRecDepth 100000 in
theorem fsm14_v : VCalls Tryz.prog 135 [.sc (.int .i64 14)] st fun r s' => r = .agg [.sc (.int .i64 0), .sc (.int .u16 0), .sc (.int .i64 1), .sc (.int .u16 0), .sc (.int .i64 2), .sc (.int .u16 8), .sc (.int .i64 3), .sc (.int .u16 8), .sc (.int .i64 2), .sc (.int .u16 8), .sc (.int .i64 3), .sc (.int .u16 8), .sc (.int .i64 3), .sc (.int .u16 8), .sc (.int .i64 3), .sc (.int .u16 8), .sc (.int .i64 3), .sc (.int .u16 8), .sc (.int .i64 5), .sc (.int .u16 530)] ∧ st = s' := by
  refine vcalls_enter vc135 (Nat.le_of_ble_eq_true rfl) fun hwf hok => ?_
  show Run _ Vc135.body (.fin (finQ Vc135.res _)) _ _
  unfold Vc135 zn zo
  simp (maxSteps := 3000000) only [go_sem, ↓reduceIte]
  intro b hb
  repeat (refine Cal.mk fsmNo_v ?_; rintro _ _ ⟨rfl, rfl⟩ -; simp (maxSteps := 3000000) only [go_sem, ↓reduceIte])
  refine Cal.mk fsmRow_v ?_
  rintro _ _ ⟨rfl, rfl⟩ -
  simp (maxSteps := 3000000) only [go_sem, ↓reduceIte]
  exact ⟨_, _, Wk.refl _, by first | exact weak_put hwf.weak hb | exact weak_put (weak_put hwf.weak hb) hb, rfl, rfl⟩
set_option maxRecDepth 100000 in
theorem fsmTab14_v : VCalls Tryz.prog 122 [.sc (.int .i64 14)] st fun r s' => r = .agg [.sc (.int .i64 0), .sc (.int .u16 0), .sc (.int .i64 1), .sc (.int .u16 0), .sc (.int .i64 2), .sc (.int .u16 8), .sc (.int .i64 3), .sc (.int .u16 8), .sc (.int .i64 2), .sc (.int .u16 8), .sc (.int .i64 3), .sc (.int .u16 8), .sc (.int .i64 3), .sc (.int .u16 8), .sc (.int .i64 3), .sc (.int .u16 8), .sc (.int .i64 3), .sc (.int .u16 8), .sc (.int .i64 5), .sc (.int .u16 530)] ∧ st = s' := by
  refine vcalls_enter vc122 (Nat.le_of_ble_eq_true rfl) fun hwf hok => ?_
  show Run _ Vc122.body (.fin (finQ Vc122.res _)) _ _
  unfold Vc122 zn zo
  simp (maxSteps := 3000000) only [go_sem, ↓reduceIte]
  intro b hb
  try simp (maxSteps := 3000000) only [go_sem, ↓reduceIte]
  refine Cal.mk fsm14_v ?_
  rintro _ _ ⟨rfl, rfl⟩ -
  simp (maxSteps := 3000000) only [go_sem, ↓reduceIte]
  exact ⟨_, _, Wk.refl _, by first | exact weak_put hwf.weak hb | exact weak_put (weak_put hwf.weak hb) hb, rfl, rfl⟩
set_option maxRecDepth 100000 in
theorem fsm15_v : VCalls Tryz.prog 135 [.sc (.int .i64 15)] st fun r s' => r = .agg [.sc (.int .i64 0), .sc (.int .u16 0), .sc (.int .i64 1), .sc (.int .u16 0), .sc (.int .i64 2), .sc (.int .u16 0), .sc (.int .i64 3), .sc (.int .u16 0), .sc (.int .i64 4), .sc (.int .u16 0), .sc (.int .i64 5), .sc (.int .u16 0), .sc (.int .i64 6), .sc (.int .u16 0), .sc (.int .i64 7), .sc (.int .u16 0), .sc (.int .i64 8), .sc (.int .u16 0), .sc (.int .i64 9), .sc (.int .u16 4096)] ∧ st = s' := by
  refine vcalls_enter vc135 (Nat.le_of_ble_eq_true rfl) fun hwf hok => ?_
  show Run _ Vc135.body (.fin (finQ Vc135.res _)) _ _
  unfold Vc135 zn zo
  simp (maxSteps := 3000000) only [go_sem, ↓reduceIte]
  intro b hb
  repeat (refine Cal.mk fsmNo_v ?_; rintro _ _ ⟨rfl, rfl⟩ -; simp (maxSteps := 3000000) only [go_sem, ↓reduceIte])
  refine Cal.mk fsmRow_v ?_
  rintro _ _ ⟨rfl, rfl⟩ -
  simp (maxSteps := 3000000) only [go_sem, ↓reduceIte]
  exact ⟨_, _, Wk.refl _, by first | exact weak_put hwf.weak hb | exact weak_put (weak_put hwf.weak hb) hb, rfl, rfl⟩
set_option maxRecDepth 100000 in
theorem fsmTab15_v : VCalls Tryz.prog 122 [.sc (.int .i64 15)] st fun r s' => r = .agg [.sc (.int .i64 0), .sc (.int .u16 0), .sc (.int .i64 1), .sc (.int .u16 0), .sc (.int .i64 2), .sc (.int .u16 0), .sc (.int .i64 3), .sc (.int .u16 0), .sc (.int .i64 4), .sc (.int .u16 0), .sc (.int .i64 5), .sc (.int .u16 0), .sc (.int .i64 6), .sc (.int .u16 0), .sc (.int .i64 7), .sc (.int .u16 0), .sc (.int .i64 8), .sc (.int .u16 0), .sc (.int .i64 9), .sc (.int .u16 4096)] ∧ st = s' := by
  refine vcalls_enter vc122 (Nat.le_of_ble_eq_true rfl) fun hwf hok => ?_
  show Run _ Vc122.body (.fin (finQ Vc122.res _)) _ _
  unfold Vc122 zn zo
  simp (maxSteps := 3000000) only [go_sem, ↓reduceIte]
  intro b hb
  try simp (maxSteps := 3000000) only [go_sem, ↓reduceIte]
  refine Cal.mk fsm15_v ?_
  rintro _ _ ⟨rfl, rfl⟩ -
  simp (maxSteps := 3000000) only [go_sem, ↓reduceIte]
  exact ⟨_, _, Wk.refl _, by first | exact weak_put hwf.weak hb | exact weak_put (weak_put hwf.weak hb) hb, rfl, rfl⟩
end
end
section
open Go
theorem cellsF_len : ∀ l : List (Int × Int), (cellsF l).length = l.length * 2
  | [] => rfl
  | p :: l => by
    have := cellsF_len l
    simp only [cellsF, List.flatMap_cons, List.length_append, List.length_cons, List.length_nil] at this ⊢
    omega
theorem cellsF_get : ∀ {l : List (Int × Int)} {i : Nat} {p : Int × Int}, l[i]? = some p → ((cellsF l).drop (i * 2)).take 2 = [.sc (.int .i64 p.1), .sc (.int .u16 p.2)]
  | [], i, p, h => by simp at h
  | q :: l, 0, p, h => by
    simp only [List.getElem?_cons_zero, Option.some.injEq] at h
    subst h; rfl
  | q :: l, i + 1, p, h => by
    rw [List.getElem?_cons_succ] at h
    have := cellsF_get h
    have e : (i + 1) * 2 = i * 2 + 2 := by omega
    rw [e]
    exact this
theorem fsmR_len : ∀ e : Nat, e < 16 → (fsmR e).length = 10 := by decide
section
variable {st : St}
theorem fsmTable_v {e : Nat} (he : e < 16) : VCalls Tryz.prog 122 [.sc (.int .i64 e)] st fun r s' => r = .agg (cellsF (fsmR e)) ∧ st = s' := by
  match e, he with
  | 0, _ => exact fsmTab0_v
  | 1, _ => exact fsmTab1_v
  | 2, _ => exact fsmTab2_v
  | 3, _ => exact fsmTab3_v
  | 4, _ => exact fsmTab4_v
  | 5, _ => exact fsmTab5_v
  | 6, _ => exact fsmTab6_v
  | 7, _ => exact fsmTab7_v
  | 8, _ => exact fsmTab8_v
  | 9, _ => exact fsmTab9_v
  | 10, _ => exact fsmTab10_v
  | 11, _ => exact fsmTab11_v
  | 12, _ => exact fsmTab12_v
  | 13, _ => exact fsmTab13_v
  | 14, _ => exact fsmTab14_v
  | 15, _ => exact fsmTab15_v
  | n + 16, h => omega
set_option maxRecDepth 100000 in
theorem fsmStep_v {s e : Int} : VCalls Tryz.prog 103 [.sc (.int .i64 s), .sc (.int .i64 e)] st fun r s' => r = .tup [.sc (.int .i64 (stepF s e).1), .sc (.int .u16 (stepF s e).2)] ∧ st = s' := by
  refine vcalls_enter vc103 (Nat.le_of_ble_eq_true rfl) fun hwf hok => ?_
  show Run _ Vc103.body (.fin (finQ Vc103.res _)) _ _
  unfold Vc103 zg zn zo
  by_cases c1 : s < 0
  · simp (maxSteps := 3000000) only [go_sem, ↓reduceIte, decide_eq_true c1]
    exact ⟨_, _, Wk.refl _, hwf.weak, by simp [stepF, c1], rfl⟩
  by_cases c2 : 9 < s
  · simp (maxSteps := 3000000) only [go_sem, ↓reduceIte, decide_eq_false c1, decide_eq_true c2]
    exact ⟨_, _, Wk.refl _, hwf.weak, by simp [stepF, c2], rfl⟩
  by_cases c3 : e < 0
  · simp (maxSteps := 3000000) only [go_sem, ↓reduceIte, decide_eq_false c1, decide_eq_false c2, decide_eq_true c3]
    exact ⟨_, _, Wk.refl _, hwf.weak, by simp [stepF, c3], rfl⟩
  by_cases c4 : 15 < e
  · simp (maxSteps := 3000000) only [go_sem, ↓reduceIte, decide_eq_false c1, decide_eq_false c2, decide_eq_false c3, decide_eq_true c4]
    exact ⟨_, _, Wk.refl _, hwf.weak, by simp [stepF, c4], rfl⟩
  obtain ⟨i, rfl⟩ : ∃ i : Nat, s = i := ⟨s.toNat, by omega⟩
  obtain ⟨k, rfl⟩ : ∃ k : Nat, e = k := ⟨e.toNat, by omega⟩
  have hl := fsmR_len k (by omega)
  obtain ⟨p, hp⟩ : ∃ p, (fsmR k)[i]? = some p := ⟨_, List.getElem?_eq_getElem (by omega)⟩
  have hs : stepF (i : Int) (k : Int) = p := by
    unfold stepF
    rw [if_neg (by omega), Int.toNat_natCast, Int.toNat_natCast, hp]; rfl
  rw [hs]
  have hg := cellsF_get hp
  have hc := cellsF_len (fsmR k)
  have h2 : i * 2 + 2 ≤ (cellsF (fsmR k)).length := by omega
  have h3 : (i : Int) < ((10 : Nat) : Int) := by omega
  have h4 : (0 : Int) ≤ (i : Int) := by omega
  simp (maxSteps := 3000000) only [go_sem, ↓reduceIte, decide_eq_false c1, decide_eq_false c2, decide_eq_false c3, decide_eq_false c4]
  refine Cal.mk (fsmTable_v (by omega)) ?_
  rintro _ _ ⟨rfl, rfl⟩ -
  simp (maxSteps := 3000000) only [go_sem, ↓reduceIte, hg, h2, h3, h4]
  intro b hb
  exact ⟨_, _, Wk.refl _, weak_put hwf.weak hb, rfl, rfl⟩
theorem actHas_v {a l : Int} : VCalls Tryz.prog 95 [.sc (.int .u16 a), .sc (.int .u16 l)] st fun r s' => r = .sc (.bool (decide (¬ ibit .and .u16 a l = 0))) ∧ st = s' := by
  refine vcalls_enter vc95 (Nat.le_of_ble_eq_true rfl) fun hwf hok => ?_
  show Run _ Vc95.body (.fin (finQ Vc95.res _)) _ _
  unfold Vc95 zo
  simp (maxSteps := 3000000) only [go_sem, ↓reduceIte]
  exact ⟨_, _, Wk.refl _, hwf.weak, rfl, rfl⟩
end
end
section
section
variable {α : Type}
theorem set_perm_cons {x y : α} : ∀ {L : List α} {j : Nat}, L[j]? = some y → (y :: L.set j x).Perm (x :: L)
  | [], j, h => by simp at h
  | z :: L, 0, h => by
    simp at h
    subst h
    exact List.Perm.swap _ _ _
  | z :: L, j + 1, h => by
    have ih := set_perm_cons (x := x) (L := L) (j := j) (by simpa using h)
    simp only [List.set_cons_succ]
    exact (List.Perm.swap _ _ _).trans ((ih.cons z).trans (List.Perm.swap _ _ _))
theorem set2_perm {L : List α} {i j : Nat} {x y : α} (hi : L[i]? = some x) (hj : L[j]? = some y) : ((L.set i y).set j x).Perm L := by
  induction L generalizing i j with
  | nil => simp at hi
  | cons z L ih =>
    cases i with
    | zero =>
      simp at hi
      subst hi
      cases j with
      | zero => simp at hj; subst hj; simp
      | succ j =>
        simp only [List.set_cons_zero, List.set_cons_succ]
        exact set_perm_cons (by simpa using hj)
    | succ i =>
      cases j with
      | zero =>
        simp at hj
        subst hj
        simp only [List.set_cons_zero, List.set_cons_succ]
        exact set_perm_cons (by simpa using hi)
      | succ j =>
        simp only [List.set_cons_succ]
        exact (ih (by simpa using hi) (by simpa using hj)).cons z
structure Ord' (lt : α → α → Bool) : Prop where
  asymm : ∀ {x y}, lt x y = true → lt y x = false
  trans : ∀ {x y z}, lt y x = false → lt z y = false → lt z x = false
theorem Ord'.irr {lt : α → α → Bool} (h : Ord' lt) (x : α) : lt x x = false := by
  cases e : lt x x with
  | false => rfl
  | true => have := h.asymm e; rw [e] at this; cases this
theorem srt_eq {lt : α → α → Bool} (O : Ord' lt) (hT : ∀ x y, lt x y = false → lt y x = false → x = y) : ∀ {L M : List α}, L.Perm M → L.Pairwise (fun x y => lt y x = false) → M.Pairwise (fun x y => lt y x = false) → L = M
  | [], M, hp, _, _ => by rw [hp.nil_eq]
  | x :: L, [], hp, _, _ => by have := hp.length_eq; simp at this
  | x :: L, y :: M, hp, h1, h2 => by
    rw [List.pairwise_cons] at h1 h2
    have exy : x = y := by
      have hx := hp.mem_iff.1 (List.mem_cons_self (a := x) (l := L))
      have hy := hp.mem_iff.2 (List.mem_cons_self (a := y) (l := M))
      rcases List.mem_cons.1 hx with e | hx
      · exact e
      · rcases List.mem_cons.1 hy with e | hy
        · exact e.symm
        · exact hT x y (h2.1 x hx) (h1.1 y hy)
    subst exy
    rw [srt_eq O hT (List.Perm.cons_inv hp) h1.2 h2.2]
end
section
variable {α : Type} [Inhabited α]
theorem bang_get {L : List α} {i : Nat} (h : i < L.length) : L[i]? = some L[i]! := by
  rw [List.getElem?_eq_getElem h, getElem!_pos L i h]
theorem bang_eq {L : List α} {i : Nat} {x : α} (h : L[i]? = some x) : L[i]! = x := by
  obtain ⟨h1, h2⟩ := List.getElem?_eq_some_iff.1 h
  rw [getElem!_pos L i h1]; exact h2
theorem ext_bang {L M : List α} (h : L.length = M.length) (he : ∀ i, i < L.length → L[i]! = M[i]!) : L = M := by
  refine List.ext_getElem h fun i h1 h2 => ?_
  have := he i h1
  rwa [getElem!_pos L i h1, getElem!_pos M i h2] at this
def exch (L : List α) (i j : Nat) : List α := (L.set i L[j]!).set j L[i]!
theorem exch_len {L : List α} {i j : Nat} : (exch L i j).length = L.length := by simp [exch]
theorem exch_get {L : List α} {i j : Nat} (hi : i < L.length) (hj : j < L.length) (k : Nat) : (exch L i j)[k]! = if k = j then L[i]! else if k = i then L[j]! else L[k]! := by
  by_cases hk : k < L.length
  · rw [getElem!_pos (exch L i j) k (by rw [exch_len]; exact hk)]
    have e : (exch L i j)[k]'(by rw [exch_len]; exact hk) = if j = k then L[i]! else if i = k then L[j]! else L[k] := by
      unfold exch
      rw [List.getElem_set, List.getElem_set]
    rw [e, getElem!_pos L k hk]
    by_cases e1 : j = k
    · rw [if_pos e1, if_pos e1.symm]
    · rw [if_neg e1]
      by_cases e2 : i = k
      · rw [if_pos e2, if_neg (show ¬ k = j from fun h => e1 h.symm), if_pos e2.symm]
      · rw [if_neg e2, if_neg (show ¬ k = j from fun h => e1 h.symm), if_neg (show ¬ k = i from fun h => e2 h.symm)]
  · rw [if_neg (by omega), if_neg (by omega), getElem!_neg (exch L i j) k (by rw [exch_len]; exact hk), getElem!_neg L k hk]
theorem exch_perm {L : List α} {i j : Nat} (hi : i < L.length) (hj : j < L.length) : (exch L i j).Perm L := set2_perm (bang_get hi) (bang_get hj)
structure Mix (a b : Nat) (L M : List α) : Prop where
  perm : M.Perm L
  out : ∀ k, k < a ∨ b ≤ k → M[k]! = L[k]!
theorem Mix.len {a b : Nat} {L M : List α} (h : Mix a b L M) : M.length = L.length := h.perm.length_eq
theorem Mix.refl {a b : Nat} {L : List α} : Mix a b L L := ⟨.refl _, fun _ _ => rfl⟩
theorem Mix.trans {a b : Nat} {L M N : List α} (h : Mix a b L M) (k : Mix a b M N) : Mix a b L N := ⟨k.perm.trans h.perm, fun i hi => (k.out i hi).trans (h.out i hi)⟩
theorem Mix.wide {a b a' b' : Nat} {L M : List α} (h : Mix a b L M) (h1 : a' ≤ a) (h2 : b ≤ b') : Mix a' b' L M := ⟨h.perm, fun k hk => h.out k (by omega)⟩
theorem Mix.exch {a b i j : Nat} {L M : List α} (h : Mix a b L M) (h1 : a ≤ i) (h2 : i < b) (h3 : a ≤ j) (h4 : j < b) (hb : b ≤ L.length) : Mix a b L (exch M i j) := by
  have hl := h.len
  refine ⟨(exch_perm (by omega) (by omega)).trans h.perm, fun k hk => ?_⟩
  rw [exch_get (by omega) (by omega), if_neg (by omega), if_neg (by omega)]
  exact h.out k hk
theorem Mix.mid {a b : Nat} {L M : List α} (h : Mix a b L M) (hab : a ≤ b) (hb : b ≤ L.length) : ((M.drop a).take (b - a)).Perm ((L.drop a).take (b - a)) := by
  have hl := h.len
  have split : ∀ X : List α, X = X.take a ++ ((X.drop a).take (b - a) ++ X.drop b) := fun X => by
    have h1 : (X.drop a).take (b - a) ++ X.drop b = X.drop a := by
      have : X.drop b = (X.drop a).drop (b - a) := by rw [List.drop_drop]; congr 1; omega
      rw [this, List.take_append_drop]
    rw [h1, List.take_append_drop]
  have h1 : M.take a = L.take a := by
    refine ext_bang (by simp [hl]) fun i hi => ?_
    simp at hi
    have := h.out i (by omega)
    rw [getElem!_pos (M.take a) i (by simp; omega), getElem!_pos (L.take a) i (by simp; omega)]
    rw [getElem!_pos M i (by omega), getElem!_pos L i (by omega)] at this
    simpa using this
  have h2 : M.drop b = L.drop b := by
    refine ext_bang (by simp [hl]) fun i hi => ?_
    simp at hi
    have := h.out (b + i) (by omega)
    rw [getElem!_pos (M.drop b) i (by simp; omega), getElem!_pos (L.drop b) i (by simp; omega)]
    rw [getElem!_pos M (b + i) (by omega), getElem!_pos L (b + i) (by omega)] at this
    simpa using this
  have hp := h.perm
  rw [split M, split L, h1, h2] at hp
  exact (List.perm_append_right_iff _).1 ((List.perm_append_left_iff _).1 hp)
theorem Mix.all {a b : Nat} {L M : List α} (h : Mix a b L M) (hb : b ≤ L.length) {Q : α → Prop} (hq : ∀ k, a ≤ k → k < b → Q L[k]!) : ∀ k, a ≤ k → k < b → Q M[k]! := fun k h1 h2 => by
  have hl := h.len
  have hp := h.mid (by omega) hb
  have hm : M[k]! ∈ (M.drop a).take (b - a) := by
    rw [getElem!_pos M k (by omega)]
    refine List.mem_iff_getElem.2 ⟨k - a, by simp; omega, ?_⟩
    simp only [List.getElem_take, List.getElem_drop]
    congr 1; omega
  have := hp.mem_iff.1 hm
  obtain ⟨i, hi, he⟩ := List.mem_iff_getElem.1 this
  simp at hi
  simp only [List.getElem_take, List.getElem_drop] at he
  rw [← he, ← getElem!_pos L (a + i) (by omega)]
  exact hq (a + i) (by omega) (by omega)
def Srt (lt : α → α → Bool) (a b : Nat) (L : List α) : Prop := ∀ i j, a ≤ i → i < j → j < b → lt L[j]! L[i]! = false
variable {lt : α → α → Bool}
theorem Srt.one {a b : Nat} {L : List α} (h : b ≤ a + 1) : Srt lt a b L := fun i j h1 h2 h3 => by omega
structure Ins (lt : α → α → Bool) (a i j : Nat) (L : List α) : Prop where
  ord : ∀ p q, a ≤ p → p < q → q ≤ i → p ≠ j → q ≠ j → lt L[q]! L[p]! = false
  up : ∀ q, j < q → q ≤ i → lt L[q]! L[j]! = false
theorem Ins.start {a i : Nat} {L : List α} (h : Srt lt a i L) : Ins lt a i i L := ⟨fun p q h1 h2 h3 h4 h5 => h p q h1 h2 (by omega), fun q h1 h2 => by omega⟩
theorem Ins.done (O : Ord' lt) {a i j : Nat} {L : List α} (h : Ins lt a i j L) (hj : j ≤ i) (hs : j = a ∨ (a < j ∧ lt L[j]! L[j - 1]! = false)) : Srt lt a (i + 1) L := fun p q h1 h2 h3 => by
  by_cases e1 : q = j
  · subst e1
    rcases hs with e | ⟨h4, h5⟩
    · omega
    · by_cases e2 : p = q - 1
      · subst e2; exact h5
      · exact O.trans (h.ord p (q - 1) h1 (by omega) (by omega) (by omega) (by omega)) h5
  · by_cases e2 : p = j
    · subst e2; exact h.up q h2 (by omega)
    · exact h.ord p q h1 h2 (by omega) e2 e1
theorem Ins.step (O : Ord' lt) {a i j : Nat} {L : List α} (h : Ins lt a i j L) (hj : a < j) (hji : j ≤ i) (hi : i < L.length) (hl : lt L[j]! L[j - 1]! = true) : Ins lt a i (j - 1) (exch L j (j - 1)) := by
  have g := fun k => exch_get (L := L) (i := j) (j := j - 1) (by omega) (by omega) k
  refine ⟨fun p q h1 h2 h3 h4 h5 => ?_, fun q h1 h2 => ?_⟩
  · rw [g q, g p, if_neg h5, if_neg h4]
    by_cases e1 : q = j
    · rw [if_pos e1, if_neg (by omega)]
      exact h.ord p (j - 1) h1 (by omega) (by omega) (by omega) (by omega)
    · rw [if_neg e1]
      by_cases e2 : p = j
      · rw [if_pos e2]; exact h.ord (j - 1) q (by omega) (by omega) h3 (by omega) e1
      · rw [if_neg e2]; exact h.ord p q h1 h2 h3 e2 e1
  · rw [g q, g (j - 1), if_neg (by omega), if_pos rfl]
    by_cases e1 : q = j
    · rw [if_pos e1]; exact O.asymm hl
    · rw [if_neg e1]; exact h.up q (by omega) h2
def kid (r c : Nat) : Prop := c = 2 * r + 1 ∨ c = 2 * r + 2
def Heap (lt : α → α → Bool) (f lo hi : Nat) (L : List α) : Prop := ∀ r c, lo ≤ r → kid r c → c < hi → lt L[f + r]! L[f + c]! = false
structure Sift (lt : α → α → Bool) (f lo hi root : Nat) (L : List α) : Prop where
  own : ∀ r c, lo ≤ r → r ≠ root → kid r c → c < hi → lt L[f + r]! L[f + c]! = false
  up : ∀ p c, lo ≤ p → kid p root → kid root c → c < hi → lt L[f + p]! L[f + c]! = false
theorem Sift.start {f lo hi : Nat} {L : List α} (h : Heap lt f (lo + 1) hi L) : Sift lt f lo hi lo L :=
  ⟨fun r c h1 h2 h3 h4 => h r c (by omega) h3 h4, fun p c h1 h2 h3 h4 => by rcases h2 with h2 | h2 <;> omega⟩
theorem Sift.done {f lo hi root : Nat} {L : List α} (h : Sift lt f lo hi root L) (hr : ∀ c, kid root c → c < hi → lt L[f + root]! L[f + c]! = false) : Heap lt f lo hi L := fun r c h1 h2 h3 => by
  by_cases e : r = root
  · subst e; exact hr c h2 h3
  · exact h.own r c h1 e h2 h3
theorem Sift.step (O : Ord' lt) {f lo hi root ch : Nat} {L : List α} (h : Sift lt f lo hi root L) (hk : kid root ch) (hc : ch < hi) (hlo : lo ≤ root) (hL : f + hi ≤ L.length) (hbig : ∀ c, kid root c → c < hi → lt L[f + ch]! L[f + c]! = false) (hl : lt L[f + root]! L[f + ch]! = true) :
    Sift lt f lo hi ch (exch L (f + root) (f + ch)) := by
  have hrc : root < ch := by rcases hk with h | h <;> omega
  have g := fun k => exch_get (L := L) (i := f + root) (j := f + ch) (by omega) (by omega) k
  refine ⟨fun r c h1 h2 h3 h4 => ?_, fun p c h1 h2 h3 h4 => ?_⟩
  · have hrc' : r < c := by rcases h3 with h | h <;> omega
    rw [g (f + r), g (f + c), if_neg (by omega)]
    by_cases e1 : r = root
    · subst e1
      rw [if_pos rfl]
      by_cases e2 : c = ch
      · subst e2; rw [if_pos rfl]; exact O.asymm hl
      · rw [if_neg (by omega), if_neg (by omega)]; exact hbig c h3 h4
    · rw [if_neg (by omega)]
      have e2 : c ≠ ch := fun e => by subst e; rcases hk with h | h <;> rcases h3 with h' | h' <;> omega
      rw [if_neg (by omega)]
      by_cases e3 : c = root
      · subst e3
        rw [if_pos rfl]
        exact h.up r ch h1 h3 hk hc
      · rw [if_neg (by omega)]; exact h.own r c h1 e1 h3 h4
  · have e : p = root := by rcases hk with h | h <;> rcases h2 with h' | h' <;> omega
    have h5 : ch < c := by rcases h3 with h | h <;> omega
    subst e
    rw [g (f + p), g (f + c), if_neg (by omega), if_pos rfl, if_neg (by omega), if_neg (by omega)]
    exact h.own ch c (by omega) (by omega) h3 h4
theorem Heap.top (O : Ord' lt) {f hi : Nat} {L : List α} (h : Heap lt f 0 hi L) : ∀ k, k < hi → lt L[f]! L[f + k]! = false := by
  intro k
  induction k using Nat.strongRecOn with
  | _ k ih =>
    intro hk
    by_cases e : k = 0
    · subst e; exact O.irr _
    · have hp : kid ((k - 1) / 2) k := by unfold kid; omega
      have h1 := ih ((k - 1) / 2) (by omega) (by omega)
      exact O.trans (h _ _ (by omega) hp hk) h1
structure Fence (lt : α → α → Bool) (a b x y : Nat) (L : List α) : Prop where
  lo : ∀ i j, a ≤ i → i < x → i < j → j < b → lt L[j]! L[i]! = false
  hi : ∀ i j, a ≤ j → j < i → y ≤ i → i < b → lt L[i]! L[j]! = false
theorem Fence.nil {a b : Nat} {L : List α} : Fence lt a b a b L := ⟨fun i j h1 h2 => by omega, fun i j h1 h2 h3 h4 => by omega⟩
theorem Fence.mix {a b x y : Nat} {L M : List α} (h : Fence lt a b x y L) (hm : Mix x y L M) (hax : a ≤ x) (hyb : y ≤ b) (hb : b ≤ L.length) : Fence lt a b x y M := by
  refine ⟨fun i j h1 h2 h3 h4 => ?_, fun i j h1 h2 h3 h4 => ?_⟩
  · rw [hm.out i (by omega)]
    by_cases hj : j < x ∨ y ≤ j
    · rw [hm.out j hj]; exact h.lo i j h1 h2 h3 h4
    · exact hm.all (by omega) (Q := fun v => lt v L[i]! = false) (fun k k1 k2 => h.lo i k h1 h2 (by omega) (by omega)) j (by omega) (by omega)
  · rw [hm.out i (by omega)]
    by_cases hj : j < x ∨ y ≤ j
    · rw [hm.out j hj]; exact h.hi i j h1 h2 h3 h4
    · exact hm.all (by omega) (Q := fun v => lt L[i]! v = false) (fun k k1 k2 => h.hi i k (by omega) (by omega) h3 h4) j (by omega) (by omega)
theorem Fence.done {a b x y : Nat} {L : List α} (h : Fence lt a b x y L) (hs : Srt lt x y L) : Srt lt a b L := fun i j h1 h2 h3 => by
  by_cases e1 : i < x
  · exact h.lo i j h1 e1 h2 h3
  · by_cases e2 : y ≤ j
    · exact h.hi j i h1 h2 e2 h3
    · exact hs i j (by omega) h2 (by omega)
theorem Fence.left (O : Ord' lt) {a b x y m : Nat} {L : List α} (h : Fence lt a b x y L) (hax : a ≤ x) (hyb : y ≤ b) (hxm : x ≤ m) (hmy : m < y) (h1 : ∀ k, x ≤ k → k < m → lt L[m]! L[k]! = false) (h2 : ∀ k, m < k → k < y → lt L[k]! L[m]! = false) (hs : Srt lt x m L) : Fence lt a b (m + 1) y L := by
  refine ⟨fun i j k1 k2 k3 k4 => ?_, h.hi⟩
  by_cases e1 : i < x
  · exact h.lo i j k1 e1 k3 k4
  · by_cases e2 : y ≤ j
    · exact h.hi j i k1 k3 e2 k4
    · by_cases e3 : i = m
      · subst e3; exact h2 j k3 (by omega)
      · by_cases e4 : j < m
        · exact hs i j (by omega) k3 e4
        · by_cases e5 : j = m
          · subst e5; exact h1 i (by omega) k3
          · exact O.trans (h1 i (by omega) (by omega)) (h2 j (by omega) (by omega))
theorem Fence.right (O : Ord' lt) {a b x y m : Nat} {L : List α} (h : Fence lt a b x y L) (hax : a ≤ x) (hyb : y ≤ b) (hxm : x ≤ m) (hmy : m < y) (h1 : ∀ k, x ≤ k → k < m → lt L[m]! L[k]! = false) (h2 : ∀ k, m < k → k < y → lt L[k]! L[m]! = false) (hs : Srt lt (m + 1) y L) : Fence lt a b x m L := by
  refine ⟨h.lo, fun i j k1 k2 k3 k4 => ?_⟩
  by_cases e1 : y ≤ i
  · exact h.hi i j k1 k2 e1 k4
  · by_cases e2 : j < x
    · exact h.lo j i k1 e2 k2 k4
    · by_cases e3 : i = m
      · subst e3; exact h1 j (by omega) k2
      · by_cases e4 : m < j
        · exact hs j i (by omega) k2 (by omega)
        · by_cases e5 : j = m
          · subst e5; exact h2 i (by omega) (by omega)
          · exact O.trans (h1 j (by omega) (by omega)) (h2 i (by omega) (by omega))
theorem Fence.least {a b x y m : Nat} {L : List α} (h : Fence lt a b x y L) (hax : a ≤ x) (hyb : y ≤ b) (hxm : x ≤ m) (hmy : m ≤ y) (h1 : ∀ k j, x ≤ k → k < m → x ≤ j → j < y → lt L[j]! L[k]! = false) : Fence lt a b m y L := by
  refine ⟨fun i j k1 k2 k3 k4 => ?_, h.hi⟩
  by_cases e1 : i < x
  · exact h.lo i j k1 e1 k3 k4
  · by_cases e2 : y ≤ j
    · exact h.hi j i k1 k3 e2 k4
    · exact h1 i j (by omega) k2 (by omega) (by omega)
def LB (lt : α → α → Bool) (a b : Nat) (L : List α) : Prop := 0 < a → ∀ k, a ≤ k → k < b → lt L[k]! L[a - 1]! = false
theorem LB.mix {a b : Nat} {L M : List α} (h : LB lt a b L) (hm : Mix a b L M) (hb : b ≤ L.length) : LB lt a b M := fun h0 => by
  rw [hm.out (a - 1) (by omega)]
  exact hm.all hb (Q := fun v => lt v L[a - 1]! = false) (h h0)
theorem Fence.lb {a b x y : Nat} {L : List α} (h : Fence lt a b x y L) (hl : LB lt a b L) (hax : a ≤ x) (hyb : y ≤ b) : LB lt x y L := fun h0 k h1 h2 => by
  by_cases e : x = a
  · subst e; exact hl h0 k h1 (by omega)
  · exact h.lo (x - 1) k (by omega) (by omega) (by omega) (by omega)
theorem Srt.pw {L : List α} (h : Srt lt 0 L.length L) : L.Pairwise (fun x y => lt y x = false) := by
  rw [List.pairwise_iff_getElem]
  intro i j hi hj hij
  have := h i j (by omega) hij hj
  rwa [getElem!_pos L j hj, getElem!_pos L i hi] at this
end
end
section
open Go
theorem put_swp {st : St} {b c : Nat} {x y z : List V} (h : b ≠ c) : ((st.put b x).put c y).put b z = (st.put b z).put c y := by
  simp only [St.put, St.mk.injEq, true_and]
  refine ⟨funext fun q => ?_, by omega⟩
  by_cases h1 : q = b
  · subst h1; simp [h]
  · by_cases h2 : q = c
    · subst h2; simp [h1]
    · simp [h1, h2]
theorem and_u64 (x : Int) {m : Nat} (h : m < 18446744073709551616) : ∃ z : Nat, ibit .and .u64 x (m : Int) = (z : Int) ∧ z ≤ m := by
  refine ⟨(BitVec.ofInt 64 x &&& BitVec.ofInt 64 (m : Int)).toNat, ?_, ?_⟩
  · show IntKind.wrap .u64 (((BitVec.ofInt 64 x &&& BitVec.ofInt 64 (m : Int)).toNat : Nat) : Int) = _
    have := (BitVec.ofInt 64 x &&& BitVec.ofInt 64 (m : Int)).isLt
    show (((BitVec.ofInt 64 x &&& BitVec.ofInt 64 (m : Int)).toNat : Nat) : Int) % 18446744073709551616 = _
    omega
  · rw [BitVec.toNat_and]
    refine Nat.le_trans Nat.and_le_right ?_
    rw [BitVec.toNat_ofInt]
    omega
def dataV (b n cap : Nat) : V := .sc (.slice (some ⟨b, 0, none⟩) n cap)
theorem weak_re {st : St} {b : Nat} {X Y : List V} (h : (st.put b X).Wf) : (st.put b Y).weak (st.put b Y) := by
  have := (h.lt.put (b := b) (cs := Y)).weak
  rwa [put_put] at this
theorem put_selfR {st : St} {b : Nat} {cs : List V} (hb : st.box b = some cs) (h : b < st.sz) : st.put b cs = st := by
  cases st with
  | mk box own sz =>
    simp only [St.put, St.mk.injEq, true_and]
    simp only at hb h
    refine ⟨?_, by omega⟩
    funext i
    by_cases e : i = b
    · subst e; simp [hb]
    · simp [e]
section
variable {α : Type} [Inhabited α] {lt : α → α → Bool}
theorem Srt.all {L M : List α} (h : Mix 0 L.length L M) (k : Srt lt 0 L.length M) : M.Perm L ∧ M.Pairwise (fun x y => lt y x = false) := ⟨h.perm, Srt.pw (by rw [h.len]; exact k)⟩
end
end
section
open Go
def hasA (a l : Int) : Bool := decide (¬ ibit .and .u16 a l = 0)
def cntA (act left : Int) : Int :=
  let l1 := if hasA act 16 && hasA act 512 then 2 else if hasA act 16 then 10 else if hasA act 32 then 0 else left
  if hasA act 576 then max (l1 - 1) 0 else l1
section
variable {st : St} {b : Nat} {s l t : Int} {rest : List V}
theorem actHasB_v {a l : Int} : VCalls Tryz.prog 95 [.sc (.int .u16 a), .sc (.int .u16 l)] st fun r s' => r = .sc (.bool (hasA a l)) ∧ st = s' := actHas_v
set_option maxRecDepth 100000 in
set_option maxHeartbeats 4000000 in
theorem autoCount_v {act : Int} (hb : st.box b = some (.sc (.int .i64 s) :: .sc (.int .i64 l) :: .sc (.int .i64 t) :: rest)) (h0 : 0 ≤ l) (h1 : l ≤ 10) :
    VCalls Tryz.prog 104 [ptrV b, .sc (.int .u16 act)] st fun r s' => r = .tup [] ∧ s' = st.put b (.sc (.int .i64 s) :: .sc (.int .i64 (cntA act l)) :: .sc (.int .i64 t) :: rest) := by
  refine vcalls_enter vc104 (Nat.le_of_ble_eq_true rfl) fun hwf hok => ?_
  show Run _ Vc104.body (.fin (finQ Vc104.res _)) _ _
  unfold Vc104 zg zn zo
  have hlt := hwf.lt
  have self : st.put b (.sc (.int .i64 s) :: .sc (.int .i64 l) :: .sc (.int .i64 t) :: rest) = st := put_selfR hb (hlt.box b _ hb)
  have hA := fun (x : Int) (s' : St) => actHasB_v (st := s') (a := act) (l := x)
  cases e1 : hasA act 16
  all_goals cases e2 : hasA act 512
  all_goals cases e3 : hasA act 32
  all_goals cases e4 : hasA act 576
  all_goals
    simp (maxSteps := 3000000) only [go_sem, ↓reduceIte]
    repeat (refine Cal.mk (hA _ _) ?_; rintro _ _ ⟨rfl, rfl⟩ -; simp (maxSteps := 3000000) only [go_sem, ↓reduceIte, e1, e2, e3, e4, hb])
  all_goals try refine ⟨by omega, ?_⟩
  all_goals first
    | exact ⟨_, _, Wk.refl _, (hlt.put (b := b)).weak, rfl, by simp [cntA, e1, e2, e3, e4]⟩
    | exact ⟨_, _, Wk.refl _, hwf.weak, rfl, by simp [cntA, e1, e2, e3, e4]; exact self.symm⟩
def atA (act now t : Int) : Int := if hasA act 608 then now + 3 else t
set_option maxRecDepth 100000 in
set_option maxHeartbeats 4000000 in
theorem autoDo_v {now e : Int} (hb : st.box b = some (.sc (.int .i64 s) :: .sc (.int .i64 l) :: .sc (.int .i64 t) :: rest)) (h0 : 0 ≤ l) (h1 : l ≤ 10) (hn : 0 ≤ now) (hn2 : now ≤ 1000000000) :
    VCalls Tryz.prog 83 [ptrV b, .sc (.int .i64 now), .sc (.int .i64 e)] st fun r s' => r = .sc (.int .u16 (stepF s e).2) ∧ s' = st.put b (.sc (.int .i64 (stepF s e).1) :: .sc (.int .i64 (cntA (stepF s e).2 l)) :: .sc (.int .i64 (atA (stepF s e).2 now t)) :: rest) := by
  refine vcalls_enter vc83 (Nat.le_of_ble_eq_true rfl) fun hwf hok => ?_
  show Run _ Vc83.body (.fin (finQ Vc83.res _)) _ _
  unfold Vc83 zn zo
  have hlt := hwf.lt
  simp (maxSteps := 3000000) only [go_sem, ↓reduceIte, hb]
  refine Cal.mk fsmStep_v ?_
  rintro _ _ ⟨rfl, rfl⟩ -
  generalize stepF s e = p
  simp (maxSteps := 3000000) only [go_sem, ↓reduceIte, hb]
  refine Cal.mk (autoCount_v put_box_same h0 h1) ?_
  rintro _ _ ⟨rfl, rfl⟩ -
  simp (maxSteps := 3000000) only [go_sem, ↓reduceIte]
  refine Cal.mk actHasB_v ?_
  rintro _ _ ⟨rfl, rfl⟩ -
  cases e1 : hasA p.2 608
  all_goals
    simp (maxSteps := 3000000) only [go_sem, ↓reduceIte]
  · exact ⟨_, _, Wk.refl _, (hlt.put (b := b)).weak, rfl, by simp [atA, e1]⟩
  · refine ⟨by omega, ?_⟩
    exact ⟨_, _, Wk.refl _, (hlt.put (b := b)).weak, rfl, by simp [atA, e1]⟩
end
end
section
open Go
structure Rul (R : Type) where
  request : R → List Opt
  judge : R → List Opt → R × Int × List Opt
  agreed : R → List Opt → R
  naked : R → List Opt → R
  rejected : R → List Opt → R × Bool
structure Neg (R : Type) where
  s : Int
  left : Int
  at_ : Int
  id : Int
  req : List Int
  naks : Int
  r : R
structure Nout where
  P : List Ctl
  up : Bool
  down : Bool
  over : Bool
  deriving DecidableEq
def Nout.no : Nout := ⟨[], false, false, false⟩
def Nout.both (a b : Nout) : Nout := ⟨a.P ++ b.P, a.up || b.up, a.down || b.down, a.over || b.over⟩
def buildC (p : Ctl) : List Int := p.code :: p.id :: (beL (((p.data.take 65531).length : Int) + 4) 2 ++ p.data.take 65531)
def rejC (id : Int) (p : Ctl) (most : Nat) : Ctl := ⟨7, id, (buildC p).take (most - 4)⟩
def tickA (s left at_ now : Int) : Int × Int × Int × Int :=
  if s < 4 ∨ 8 < s ∨ now < at_ then (s, left, at_, 0)
  else ((stepF s (if 0 < left then 4 else 5)).1, cntA (stepF s (if 0 < left then 4 else 5)).2 left, atA (stepF s (if 0 < left then 4 else 5)).2 now (now + 3), (stepF s (if 0 < left then 4 else 5)).2)
section
variable {R : Type} (U : Rul R) (N : Neg R)
def Neg.step (now e : Int) : Neg R := { N with s := (stepF N.s e).1, left := cntA (stepF N.s e).2 N.left, at_ := atA (stepF N.s e).2 now N.at_ }
def Neg.bump : Neg R := { N with id := (N.id + 1) % 256 }
def Neg.asked (again : Bool) : Neg R := { N with id := if again = true ∧ buildO (U.request N.r) = N.req then N.id else (N.id + 1) % 256, req := buildO (U.request N.r) }
def Neg.d1 (act : Int) (again : Bool) : Neg R × List Ctl := if hasA act 64 = true then (N.asked U again, [⟨1, (N.asked U again).id, buildO (U.request N.r)⟩]) else (N, [])
def Neg.d2 (act : Int) (back : Ctl) (P : List Ctl) : List Ctl := if hasA act 384 = true then P ++ [back] else P
def Neg.d3 (act : Int) (P : List Ctl) : Neg R × List Ctl := if hasA act 512 = true then (N.bump, P ++ [⟨5, N.bump.id, []⟩]) else (N, P)
def Neg.d4 (act : Int) (p : Ctl) (P : List Ctl) : List Ctl := if hasA act 1024 = true then P ++ [⟨6, p.id, []⟩] else P
def Neg.d5 (act : Int) (p : Ctl) (P : List Ctl) : Neg R × List Ctl := if hasA act 2048 = true then (N.bump, P ++ [rejC N.bump.id p 1400]) else (N, P)
def Neg.d6 (act : Int) : Neg R := if hasA act 2 = true then { N with naks := 0 } else N
def Neg.done (act : Int) (again : Bool) (p back : Ctl) : Neg R × Nout :=
  let a1 := N.d1 U act again
  let a3 := a1.1.d3 act (Neg.d2 act back a1.2)
  let a5 := a3.1.d5 act p (Neg.d4 act p a3.2)
  (a5.1.d6 act, ⟨a5.2, hasA act 1, hasA act 2, hasA act 8⟩)
def zeroC : Ctl := ⟨0, 0, []⟩
def Neg.event (now e : Int) (p back : Ctl) : Neg R × Nout := (N.step now e).done U (stepF N.s e).2 false p back
def Neg.start (now : Int) : Neg R × Nout :=
  let a := N.event U now 0 zeroC zeroC
  let b := a.1.event U now 2 zeroC zeroC
  (b.1, a.2.both b.2)
def Neg.close (now : Int) : Neg R × Nout := N.event U now 3 zeroC zeroC
def Neg.cut (now : Int) : Neg R × Nout := N.event U now 1 zeroC zeroC
def Neg.tick (now : Int) : Neg R × Nout :=
  let t := tickA N.s N.left N.at_ now
  Neg.done U { N with s := t.1, left := t.2.1, at_ := t.2.2.1 } t.2.2.2 true zeroC zeroC
def theirsO (l like : List Opt) : List Opt := l.filter fun o => (findO like o.1).isSome
def Neg.judge (p : Ctl) (l : List Opt) : Neg R × Ctl × Bool :=
  let j := U.judge N.r l
  let n1 := if j.2.1 = 3 then N.naks + 1 else N.naks
  let ov : Bool := decide (j.2.1 = 3 ∧ 5 < n1)
  let code := if ov = true then 4 else j.2.1
  let out := if ov = true then theirsO l j.2.2 else j.2.2
  ({ N with r := j.1, naks := if code = 2 then 0 else n1 }, ⟨code, p.id, buildO out⟩, decide (code = 2))
def Neg.request (now : Int) (p : Ctl) : Neg R × Nout :=
  let l := parseO p.data
  if l.2 ≠ 0 then (N, .no)
  else if N.s = 4 ∨ N.s = 5 ∨ N.s < 3 then N.event U now 6 p zeroC
  else
    let j := N.judge U p l.1
    if j.2.2 = false then j.1.event U now 7 p j.2.1
    else Neg.event U { j.1 with r := U.agreed j.1.r l.1 } now 6 p j.2.1
def Neg.answered (now : Int) (p : Ctl) : Neg R × Nout :=
  let l := parseO p.data
  if l.2 ≠ 0 ∨ p.id ≠ N.id ∨ p.code = 2 ∧ p.data ≠ N.req then (N, .no)
  else if p.code = 2 then N.event U now 8 p zeroC
  else if p.code = 3 then Neg.event U { N with r := U.naked N.r l.1 } now 9 p zeroC
  else
    let x := U.rejected N.r l.1
    if x.2 = false then Neg.close U { N with r := x.1 } now
    else Neg.event U { N with r := x.1 } now 9 p zeroC
def evOf (p : Ctl) : Int :=
  if p.code = 5 then 10 else if p.code = 6 then 11 else if p.code = 7 ∧ 0 < p.data.length ∧ p.data.getD 0 0 ≤ 7 then 14 else if p.code = 7 ∨ p.code = 8 then 13 else 15
def Neg.take (codes now : Int) (p : Ctl) : Neg R × Nout :=
  if p.code < 1 ∨ codes < p.code then N.event U now 12 p zeroC
  else if p.code = 1 then N.request U now p
  else if p.code ≤ 4 then N.answered U now p
  else N.event U now (evOf p) p zeroC
end
end
section
open Go
structure Want where
  mru : Int
  auth : Bool
  magic : Int
  pfc : Bool
  acfc : Bool
  deriving DecidableEq
def Want.cells (w : Want) : List V := [.sc (.int .u16 w.mru), .sc (.bool w.auth), .sc (.int .u32 w.magic), .sc (.bool w.pfc), .sc (.bool w.acfc)]
structure Want.Good (w : Want) : Prop where
  m0 : 0 ≤ w.mru
  m1 : w.mru < 65536
  g0 : 0 ≤ w.magic
  g1 : w.magic < 4294967296
def Want.zero : Want := ⟨0, false, 0, false, false⟩
theorem Want.zero_good : Want.zero.Good := ⟨by decide, by decide, by decide, by decide⟩
def num2 (L : List Int) : Int := if L.length < 2 then 0 else numL (L.take 2)
def num4 (L : List Int) : Int := if L.length < 4 then 0 else numL (L.take 4)
theorem num2_rng {L : List Int} (h : IsB L) : 0 ≤ num2 L ∧ num2 L < 65536 := by
  unfold num2
  split
  · exact ⟨by omega, by omega⟩
  · have e : (L.take 2).length = 2 := by simp only [List.length_take]; omega
    have := numL_range _ (L.take 2) rfl (h.take _)
    rw [e] at this
    exact this
theorem num4_rng {L : List Int} (h : IsB L) : 0 ≤ num4 L ∧ num4 L < 4294967296 := by
  unfold num4
  split
  · exact ⟨by omega, by omega⟩
  · have e : (L.take 4).length = 4 := by simp only [List.length_take]; omega
    have := numL_range _ (L.take 4) rfl (h.take _)
    rw [e] at this
    exact this
def optsW (w : Want) : List Opt :=
  (if w.mru ≠ 0 then [(1, beL w.mru 2)] else []) ++ (if w.auth = true then [(3, [194, 35, 5])] else []) ++ (if w.magic ≠ 0 then [(5, beL w.magic 4)] else []) ++ (if w.pfc = true then [(7, [])] else []) ++ (if w.acfc = true then [(8, [])] else [])
def sizeT (t : Int) : Int := if t = 1 then 2 else if t = 2 ∨ t = 5 then 4 else if t = 7 ∨ t = 8 then 0 else -1
def betterO (o : Opt) (own draw : Int) : Option Opt :=
  if o.1 = 1 ∧ (num2 o.2 < 128 ∨ 1500 < num2 o.2) then some (1, beL 1400 2) else if o.1 = 5 ∧ (num4 o.2 = 0 ∨ num4 o.2 = own) then some (5, beL draw 4) else none
def judgeStep (own draw : Int) (a : List Opt × List Opt × List Int) (o : Opt) : List Opt × List Opt × List Int :=
  if sizeT o.1 ≠ (o.2.length : Int) ∨ o.1 ∈ a.2.2 then (a.1 ++ [o], a.2.1, a.2.2)
  else (a.1, a.2.1 ++ (betterO o own draw).toList, o.1 :: a.2.2)
def judgeF (own draw : Int) (l : List Opt) : List Opt × List Opt × List Int := l.foldl (judgeStep own draw) ([], [], [])
def judgeL (l : List Opt) (own draw : Int) : Int × List Opt :=
  let a := judgeF own draw l
  if a.1 ≠ [] then (4, a.1) else if a.2.1 ≠ [] then (3, a.2.1) else (2, l)
def ofStep (w : Want) (o : Opt) : Want :=
  if o.1 = 1 then { w with mru := num2 o.2 } else if o.1 = 5 then { w with magic := num4 o.2 } else if o.1 = 7 then { w with pfc := true } else if o.1 = 8 then { w with acfc := true } else w
def ofL (l : List Opt) : Want := l.foldl ofStep .zero
def nakStep (w : Want) (o : Opt) : Want :=
  if o.1 = 1 ∧ o.2.length = 2 ∧ w.mru ≠ 0 ∧ 128 ≤ num2 o.2 ∧ num2 o.2 ≤ 1500 then { w with mru := num2 o.2 }
  else if o.1 = 5 ∧ o.2.length = 4 ∧ w.magic ≠ 0 ∧ num4 o.2 ≠ 0 then { w with magic := num4 o.2 } else w
def nakedL (w : Want) (l : List Opt) : Want := l.foldl nakStep w
def rejectedL (w : Want) : List Opt → Want × Bool
  | [] => (w, true)
  | o :: l =>
    if o.1 = 1 then rejectedL { w with mru := 0 } l
    else if o.1 = 3 then (w, !w.auth)
    else if o.1 = 5 then rejectedL { w with magic := 0 } l
    else if o.1 = 7 then rejectedL { w with pfc := false } l
    else if o.1 = 8 then rejectedL { w with acfc := false } l
    else rejectedL w l
def madeD (k : Int) : Int :=
  let x := k * 2654435761 % 4294967296
  let y := ibit .xor .u32 x (x / 32768)
  let z := y * 2246822507 % 4294967296
  ibit .xor .u32 z (z / 8192)
structure Lr where
  w : Want
  g : Want
  ds : List Int
  k : Int
  guard : Int
def Lr.next (r : Lr) : Lr × Int := match r.ds with
  | [] => ({ r with k := (r.k + 1) % 4294967296 }, madeD ((r.k + 1) % 4294967296))
  | x :: l => ({ r with ds := l, k := (r.k + 1) % 4294967296 }, x)
def Lr.draw (r : Lr) : Lr × Int := if r.next.2 ≠ 0 then r.next else if r.next.1.next.2 ≠ 0 then r.next.1.next else (r.next.1.next.1, 1)
def theirN (l : List Opt) : Int := match findO l 5 with
  | some d => num4 d
  | none => 0
def Lr.saw (r : Lr) (own x : Int) : Bool := decide (own ≠ 0 ∧ own = x)
def Lr.see (r : Lr) (own x : Int) : Lr := { r with guard := if own ≠ 0 ∧ own = x then r.guard + 1 else 0 }
def Lr.judge (r : Lr) (l : List Opt) : Lr × Int × List Opt :=
  let d := if (r.w.magic ≠ 0 ∧ r.w.magic = theirN l) ∨ theirN l = 0 then (r.see r.w.magic (theirN l)).draw else (r.see r.w.magic (theirN l), 0)
  (d.1, judgeL l r.w.magic d.2)
def Lr.naked (r : Lr) (l : List Opt) : Lr :=
  match findO l 5 with
  | none => { r with w := nakedL r.w l }
  | some d =>
    let r1 := Lr.see { r with w := nakedL r.w l } r.w.magic (num4 d)
    if r.w.magic ≠ 0 ∧ r.w.magic = num4 d then { r1.draw.1 with w := { r1.draw.1.w with magic := r1.draw.2 } } else r1
def lcpU : Rul Lr where
  request r := optsW r.w
  judge r l := r.judge l
  agreed r l := { r with g := ofL l }
  naked r l := r.naked l
  rejected r l := ({ r with w := (rejectedL r.w l).1 }, (rejectedL r.w l).2)
def lcpEcho (N : Neg Lr) (p : Ctl) (P : List Ctl) : List Ctl :=
  if p.code = 9 ∧ N.s = 9 ∧ 4 ≤ p.data.length ∧ num4 p.data ≠ N.r.w.magic then P ++ [⟨10, p.id, beL N.r.w.magic 4 ++ p.data.drop 4⟩] else P
def lcpTake (N : Neg Lr) (now : Int) (p : Ctl) : Neg Lr × Nout :=
  let a := N.take lcpU 11 now p
  let P := lcpEcho a.1 p a.2.P
  if 4 ≤ a.1.r.guard then
    let x := Neg.close lcpU { a.1 with r := { a.1.r with guard := 0 } } now
    (x.1, ⟨P ++ x.2.P, a.2.up, a.2.down || x.2.down, a.2.over || x.2.over⟩)
  else (a.1, ⟨P, a.2.up, a.2.down, a.2.over⟩)
def lcpNew (ds : List Int) : Neg Lr :=
  let d := Lr.draw ⟨.zero, .zero, ds, 0, 0⟩
  ⟨0, 0, 0, 0, [], 0, { d.1 with w := ⟨1400, true, d.2, false, false⟩ }⟩
end
section
open Go
def rdNum (L : List Int) (at_ : Nat) (bad : Bool) (size : Int) : Int × Nat × Bool :=
  if size < 1 ∨ 8 < size ∨ bad = true ∨ (L.length : Int) - at_ < size then (0, at_, true) else (numL ((L.drop at_).take size.toNat), at_ + size.toNat, false)
def rdTake (L : List Int) (at_ : Nat) (bad : Bool) (k : Int) : List Int × Nat × Bool :=
  if k < 0 ∨ bad = true ∨ (L.length : Int) - at_ < k then ([], at_, true) else ((L.drop at_).take k.toNat, at_ + k.toNat, false)
theorem rdNum_lt {L : List Int} {at_ : Nat} {bad : Bool} (hB : IsB L) {k : Nat} (hk : 1 ≤ k) : 0 ≤ (rdNum L at_ bad k).1 ∧ (rdNum L at_ bad k).1 < 256 ^ k := by
  have hp := pow256_pos k
  unfold rdNum
  split
  · simp only; omega
  · have := numL_range _ ((L.drop at_).take ((k : Int)).toNat) rfl ((hB.drop _).take _)
    have hl : ((L.drop at_).take ((k : Int)).toNat).length = k := by simp; omega
    rw [hl] at this
    exact this
def rdr (tk : Tk) (L : List Int) (at_ : Nat) (bad : Bool) : List V := [.sl tk (bs L), .sc (.int .i64 at_), .sc (.bool bad)]
theorem rdr_max {st : St} (h : st.Wf) {b : Nat} {tk : Tk} {L : List Int} {at_ : Nat} {bad : Bool} (hb : st.box b = some (rdr tk L at_ bad)) : L.length ≤ 9223372036854775807 := by
  have := vlen_max (h.ok b _ hb _ (List.mem_cons_self ..))
  rw [bs_len] at this; omega
section
variable {tk : Tk} {L : List Int} {st : St} {b at_ : Nat} {bad : Bool}
theorem Get16_v (hB : IsB L) : VCalls Tryz.prog 88 [.sl tk (bs L)] st fun r st' => r = .sc (.int .u16 (if L.length < 2 then 0 else numL (L.take 2))) ∧ st = st' := by
  refine vcalls_enter vc88 (Nat.le_of_ble_eq_true rfl) fun hwf hok => ?_
  show Run _ Vc88.body (.fin (finQ Vc88.res _)) _ _
  unfold Vc88 zo
  simp (config := {maxSteps := 3000000}) (disch := ((fail_if_success refine selfNe ?_); omega)) only [go_sem, ↓reduceIte, bs_len]
  refine If.dec (fun h => ?_) (fun h => ?_)
  · simp (config := {maxSteps := 3000000}) (disch := ((fail_if_success refine selfNe ?_); omega)) only [go_sem, ↓reduceIte]
    exact ⟨_, _, Wk.refl _, hwf.weak, by rw [if_pos (by omega)], rfl⟩
  · obtain ⟨a, h0⟩ := get_ex (L := L) (i := 0) (by omega)
    obtain ⟨b, h1⟩ := get_ex (L := L) (i := 1) (by omega)
    have b0 := hB.get h0
    have b1 := hB.get h1
    have hn : numL (L.take 2) = 256 * a + b := by
      match L, h with
      | x :: y :: L, _ => simp at h0 h1; subst h0 h1; simp [numL]
    simp (config := {maxSteps := 3000000}) (disch := ((fail_if_success refine selfNe ?_); omega)) only [go_sem, ↓reduceIte, bs_get, h0, h1, emod_small, ibit_or, u16_join]
    exact ⟨_, _, Wk.refl _, hwf.weak, by rw [if_neg (by omega), hn], rfl⟩
theorem Own.nil {size : Nat} {st : St} : Own size st (.sl .nil []) [] := .inl ⟨rfl, rfl⟩
theorem Own.sl {size : Nat} {st : St} {v : V} {l : List V} (h : Own size st v l) : ∃ tk, v = .sl tk l := by
  rcases h with ⟨rfl, rfl⟩ | ⟨g, rfl, _⟩
  · exact ⟨_, rfl⟩
  · exact ⟨_, rfl⟩
theorem u8_mod {n : Int} : norm .u8 n = (True, .sc (.int .u8 (n % 256))) := rfl
theorem Put16_v {x : V} {n : Int} (hown : Own 1 st x (bs L)) (hl : L.length ≤ 1000000000000) (h0 : 0 ≤ n) (h1 : n < 65536) : VCalls Tryz.prog 128 [x, .sc (.int .u16 n)] st fun r st' => Own 1 st' r (bs (L ++ beL n 2)) ∧ AppSt st x st' r := by
  refine vcalls_enter vc128 (Nat.le_of_ble_eq_true rfl) fun hwf hok => ?_
  show Run _ Vc128.body (.fin (finQ Vc128.res _)) _ _
  unfold Vc128 zo
  simp (config := {maxSteps := 3000000}) (disch := ((fail_if_success refine selfNe ?_); omega)) only [go_sem, ↓reduceIte]
  refine App.mk hown (by simp [allSz, V.cells]) (by rw [bs_len]; unfold maxLen; simp; omega) (by rw [bs_len]; simp; omega) ?_
  intro r st' k1 k2
  simp (config := {maxSteps := 3000000}) (disch := ((fail_if_success refine selfNe ?_); omega)) only [go_sem, ↓reduceIte]
  refine ⟨_, _, Wk.refl _, k2.weak hwf, ?_, k2⟩
  rw [← bs_append]
  have e : beL n 2 = [n / 256 % 256, n % 256] := by simp [beL]
  rw [e]; exact k1
theorem Put32_v {x : V} {n : Int} (hown : Own 1 st x (bs L)) (hl : L.length ≤ 1000000000000) (h0 : 0 ≤ n) (h1 : n < 4294967296) : VCalls Tryz.prog 46 [x, .sc (.int .u32 n)] st fun r st' => Own 1 st' r (bs (L ++ beL n 4)) ∧ AppSt st x st' r := by
  refine vcalls_enter vc46 (Nat.le_of_ble_eq_true rfl) fun hwf hok => ?_
  show Run _ Vc46.body (.fin (finQ Vc46.res _)) _ _
  unfold Vc46 zo
  simp (config := {maxSteps := 3000000}) (disch := ((fail_if_success refine selfNe ?_); omega)) only [go_sem, ↓reduceIte]
  refine App.mk hown (by simp [allSz, V.cells]) (by rw [bs_len]; unfold maxLen; simp; omega) (by rw [bs_len]; simp; omega) ?_
  intro r st' k1 k2
  simp (config := {maxSteps := 3000000}) (disch := ((fail_if_success refine selfNe ?_); omega)) only [go_sem, ↓reduceIte]
  refine ⟨_, _, Wk.refl _, k2.weak hwf, ?_, k2⟩
  rw [← bs_append]
  have e : beL n 4 = [n / 16777216 % 256, n / 65536 % 256, n / 256 % 256, n % 256] := by simp [beL]
  rw [e]; exact k1
end
end
section
open Go
theorem optV_e (o : Opt) : optV o = .agg [.sc (.int .u8 o.1), .sl .no (bs o.2)] := rfl
theorem opts_at {l : List Opt} {i : Nat} {o : Opt} (h : l[i]? = some o) : (opts l)[i]? = some (.agg [.sc (.int .u8 o.1), .sl .no (bs o.2)]) := by simp [opts, h, optV]
theorem take_snoc {α : Type} {l : List α} {i : Nat} {o : α} (h : l[i]? = some o) : l.take (i + 1) = l.take i ++ [o] := by
  rw [List.take_add_one, h]; rfl
theorem buildO_snoc {l : List Opt} {i : Nat} {o : Opt} (h : l[i]? = some o) : buildO (l.take (i + 1)) = buildO (l.take i) ++ [o.1, ((o.2.take 253).length : Int) + 2] ++ o.2.take 253 := by
  rw [take_snoc h, buildO_append]
  simp [buildO, oneO]
section
variable {st : St} {tk : Tk} {l : List Opt}
set_option maxRecDepth 100000 in
set_option maxHeartbeats 4000000 in
theorem optBuild_v (hG : GoodO l) (hl : l.length ≤ 1000000000) : VCalls Tryz.prog 118 [.sl tk (opts l)] st fun r s => r = .sl .no (bs (buildO l)) ∧ st = s := by
  refine vcalls_enter vc118 (Nat.le_of_ble_eq_true rfl) fun hwf hok => ?_
  show Run _ Vc118.body (.fin (finQ Vc118.res _)) _ _
  unfold Vc118 zn zo
  simp (maxSteps := 3000000) only [go_sem, ↓reduceIte]
  refine run_loop [3, 5, 6, 9, 10, 11, 12, 13, 14, 15, 16, 17, 18, 19, 20, 21, 22, 23, 24, 25, 26, 27, 28, 29, 30, 31] (fun B s => ∃ (i : Nat) (v : V), i ≤ l.length ∧ B 9 = .sc (.int .i64 i) ∧ B 3 = v ∧ RO 1 st s v (bs (buildO (l.take i)))) (fun B _ => l.length - vnat (B 9)) rfl ?_ ?_
  · exact ⟨0, .sl .nil [], by omega, rfl, rfl, RO.nil hwf.weak hwf.lt⟩
  · rintro B s ⟨i, v, hi, h9, h3, R⟩
    by_cases c1 : i < l.length
    · obtain ⟨o, ho⟩ := get_ex c1
      obtain ⟨g1, g2, g3, g4⟩ := hG.get ho
      have hsn := buildO_snoc ho
      have hbl := buildO_len (l.take i)
      have hbl2 : (l.take i).length ≤ l.length := by simp only [List.length_take]; omega
      obtain ⟨k, hk⟩ : ∃ k, (o.2.take 253).length = k := ⟨_, rfl⟩
      have hkl : k ≤ 253 ∧ k ≤ o.2.length := by rw [← hk]; simp only [List.length_take]; omega
      have hmin : min (o.2.length : Int) 253 = (k : Int) := by rw [← hk]; simp only [List.length_take]; omega
      have htk : o.2.take k = o.2.take 253 := by
        rw [← hk]
        rcases Nat.lt_or_ge o.2.length 253 with h | h
        · rw [List.take_of_length_le (Nat.le_of_lt h), List.take_length]
        · rw [show (o.2.take 253).length = 253 by simp only [List.length_take]; omega]
      rw [hk] at hsn
      obtain ⟨tv, hv⟩ := R.sl
      rw [hv] at h3 R
      have he : ((k : Int) + 2) % 256 = (k : Int) + 2 := by omega
      simp (maxSteps := 3000000) only [go_sem, ↓reduceIte, h9, h3, opts_len, opts_at ho, decide_eq_true (show (i : Int) < (l.length : Int) by omega), bs_len, hmin, bs_take, htk, hk, he]
      repeat (apply And.intro; focus (first | omega | (simp; done)))
      intro b hb
      have sb : st.sz ≤ b := by have := R.weak.sz; omega
      have R1 := R.put (c := b) (cs := [.sc (.int .u8 o.1), .sl .no (bs o.2)]) sb
      generalize s.put b [.sc (.int .u8 o.1), .sl .no (bs o.2)] = s1 at R1 ⊢
      refine ⟨⟨allSz_bs _, by omega, by omega⟩, ⟨by omega, by omega⟩, ?_⟩
      refine App.mk (bytes := 1) (ys := bs [o.1, (k : Int) + 2]) R1.own (allSz_bs _) (by simp only [bs_len, List.length_cons, List.length_nil]; unfold maxLen; omega) (by simp only [bs_len, List.length_cons, List.length_nil]; omega) ?_
      intro r2 s2 k1 k2
      have R2 := R1.app k1 k2
      rw [bs_append] at R2
      obtain ⟨t2, rfl⟩ := R2.sl
      simp (maxSteps := 3000000) only [go_sem, ↓reduceIte]
      refine App.mk (bytes := 1) (ys := bs (o.2.take 253)) R2.own (allSz_bs _) (by simp only [bs_len, hk, List.length_append, List.length_cons, List.length_nil]; unfold maxLen; omega) (by simp only [bs_len, hk, List.length_append, List.length_cons, List.length_nil]; omega) ?_
      intro r3 s3 k3 k4
      have R3 := R2.app k3 k4
      rw [bs_append, ← hsn] at R3
      simp (maxSteps := 3000000) only [go_sem, ↓reduceIte, h9]
      repeat (apply And.intro; focus (first | omega | (simp; done)))
      exact ⟨⟨i + 1, _, by omega, by simp, rfl, R3⟩, by omega⟩
    · obtain rfl : i = l.length := by omega
      rw [List.take_length] at R
      obtain ⟨tv, rfl⟩ := R.sl
      simp (maxSteps := 3000000) only [go_sem, ↓reduceIte, h9, h3, opts_len]
      exact ⟨_, _, Wk.no, R.weak, rfl, rfl⟩
set_option maxRecDepth 100000 in
set_option maxHeartbeats 4000000 in
theorem optParse_v {L : List Int} (hB : IsB L) (hl : L.length ≤ 1000000) : VCalls Tryz.prog 105 [.sl tk (bs L)] st fun r s => r = .tup [.sl .no (opts (parseO L).1), .sc (.int .i64 (parseO L).2)] ∧ st = s := by
  refine vcalls_enter vc105 (Nat.le_of_ble_eq_true rfl) fun hwf hok => ?_
  show Run _ Vc105.body (.fin (finQ Vc105.res _)) _ _
  unfold Vc105 zo
  simp (maxSteps := 3000000) only [go_sem]
  refine run_loop [0, 2, 3, 4, 5, 6, 7, 8, 9, 10, 11, 12, 13, 14, 15, 16, 17, 18, 19, 20, 21, 22, 23, 24, 25, 26, 27, 28, 29, 30, 31, 32, 33, 34, 35, 36, 37, 38, 39, 40, 41, 42, 43] (fun B s => ∃ (k : Nat) (M : List Int) (out : List Opt) (v : V) (t2 : Tk), parseO L = parseF k M out ∧ M.length ≤ k ∧ out.length + M.length ≤ L.length ∧ IsB M ∧ B 0 = .sl t2 (bs M) ∧ B 4 = v ∧ RO 2 st s v (opts out)) (fun B _ => match B 0 with | .sl _ l => l.length | _ => 0) rfl ?_ ?_
  · exact ⟨L.length, L, [], .sl .nil [], tk, rfl, Nat.le_refl _, by simp, hB, rfl, rfl, RO.nil hwf.weak hwf.lt⟩
  · rintro B s ⟨k, M, out, v, t2, hp, hMk, hlen, hBM, h0, h4, R⟩
    obtain ⟨tv, rfl⟩ := R.sl
    match M, k, hp, hMk, hlen, hBM, h0 with
    | [], k, hp, hMk, hlen, hBM, h0 =>
      rw [parseF_nil] at hp
      simp (maxSteps := 3000000) only [go_sem, ↓reduceIte, h0, h4, bs_len, List.length_nil, decide_eq_false (show ¬ (0 : Int) < ((0 : Nat) : Int) by decide)]
      rw [hp]
      exact ⟨_, _, Wk.tupT Wk.no, R.weak, rfl, rfl⟩
    | [x], 0, hp, hMk, hlen, hBM, h0 => exact absurd hMk (by simp)
    | [x], k + 1, hp, hMk, hlen, hBM, h0 =>
      have hp' : parseO L = ([], 10) := hp
      have l1 : (bs [x]).length = 1 := rfl
      simp (maxSteps := 3000000) only [go_sem, ↓reduceIte, h0, l1, decide_eq_true (show (0 : Int) < ((1 : Nat) : Int) by decide), decide_eq_true (show ((1 : Nat) : Int) < 2 by decide)]
      rw [hp']
      exact ⟨_, _, Wk.tupT Wk.no, R.weak, rfl, rfl⟩
    | t :: n :: M, 0, hp, hMk, hlen, hBM, h0 => exact absurd hMk (by simp)
    | t :: n :: M, k + 1, hp, hMk, hlen, hBM, h0 =>
      obtain ⟨t0, t1⟩ := hBM.cons'
      obtain ⟨n0, n1⟩ := hBM.tail'.cons'
      have hBM2 := hBM.tail'.tail'
      have g0 : (bs (t :: n :: M))[0]? = some (.sc (.int .u8 t)) := rfl
      have g1 : (bs (t :: n :: M))[1]? = some (.sc (.int .u8 n)) := rfl
      simp only [List.length_cons] at hMk hlen
      by_cases c1 : n < 2
      · have hp' : parseO L = ([], 11) := by rw [hp, parseF, if_pos c1]
        simp (maxSteps := 3000000) only [go_sem, ↓reduceIte, h0, bs_len, List.length_cons, g1, decide_eq_true (show (0 : Int) < ((M.length + 1 + 1 : Nat) : Int) by omega), decide_eq_false (show ¬ ((M.length + 1 + 1 : Nat) : Int) < 2 by omega), decide_eq_true c1]
        rw [hp']
        exact ⟨_, _, Wk.tupT Wk.no, R.weak, rfl, rfl⟩
      by_cases c2 : (M.length : Int) + 2 < n
      · have hp' : parseO L = ([], 10) := by rw [hp, parseF, if_neg c1, if_pos c2]
        simp (maxSteps := 3000000) only [go_sem, ↓reduceIte, h0, bs_len, List.length_cons, g1, decide_eq_true (show (0 : Int) < ((M.length + 1 + 1 : Nat) : Int) by omega), decide_eq_false (show ¬ ((M.length + 1 + 1 : Nat) : Int) < 2 by omega), decide_eq_false c1, decide_eq_true (show ((M.length + 1 + 1 : Nat) : Int) < n by omega)]
        repeat (apply And.intro; focus (first | omega | (simp; done)))
        rw [hp']
        exact ⟨_, _, Wk.tupT Wk.no, R.weak, rfl, rfl⟩
      have hp' : parseO L = parseF k (M.drop (n - 2).toNat) (out ++ [(t, M.take (n - 2).toNat)]) := by rw [hp, parseF, if_neg c1, if_neg c2]
      obtain ⟨q, hq⟩ : ∃ q : Nat, (n - 2).toNat = q := ⟨_, rfl⟩
      have hnq : n = ((q + 2 : Nat) : Int) := by omega
      rw [hq] at hp'
      have e1 : ((bs (t :: n :: M)).take (q + 2)).drop 2 = bs (M.take q) := by rw [bs_take, bs_drop]; rfl
      have e2 : (bs (t :: n :: M)).drop (q + 2) = bs (M.drop q) := by rw [bs_drop]; rfl
      have hqM : q ≤ M.length := by omega
      clear hq
      subst hnq
      simp (maxSteps := 3000000) only [go_sem, ↓reduceIte, h0, h4, bs_len, List.length_cons, g0, g1, decide_eq_true (show (0 : Int) < ((M.length + 1 + 1 : Nat) : Int) by omega), decide_eq_false (show ¬ ((M.length + 1 + 1 : Nat) : Int) < 2 by omega), decide_eq_false c1, decide_eq_false (show ¬ ((M.length + 1 + 1 : Nat) : Int) < ((q + 2 : Nat) : Int) by omega), e1]
      refine ⟨⟨by omega, by omega⟩, ⟨by omega, by omega⟩, ⟨allSz_bs _, by omega, by omega⟩, ?_⟩
      have htq : (M.take q).length ≤ M.length := by simp only [List.length_take]; omega
      refine App.mk (bytes := 1) (l := []) (ys := bs (M.take q)) own_nil (allSz_bs _) (by simp only [bs_len, List.length_nil]; unfold maxLen; omega) (by simp only [bs_len, List.length_nil]; omega) ?_
      intro r2 s2 k1 k2
      have N2 : RO 1 st.bare s2 r2 (bs (M.take q)) := (RO.nil (bare_weak (by have := R.weak.sz; exact this)) R.lt).app k1 k2
      have R2 : RO 2 st s2 (.sl tv (opts out)) (opts out) := R.beside k2 noOwn
      obtain ⟨t3, rfl⟩ := N2.sl
      simp (maxSteps := 3000000) only [go_sem, ↓reduceIte]
      refine App.mk (bytes := 32) (l := opts out) (ys := opts [(t, M.take q)]) R2.own (allSz_opts _) (by simp only [opts_len, List.length_cons, List.length_nil]; unfold maxLen; omega) (by simp only [opts_len, List.length_cons, List.length_nil]; omega) ?_
      intro r4 s4 k3 k4
      have R4 := R2.app k3 k4
      rw [opts_append] at R4
      simp (maxSteps := 3000000) only [go_sem, ↓reduceIte, h0, e2]
      refine ⟨⟨allSz_bs _, by omega, by rw [bs_len]; simp only [List.length_cons]; omega⟩, ?_⟩
      refine ⟨⟨k, M.drop q, out ++ [(t, M.take q)], _, _, hp', by simp only [List.length_drop]; omega, by simp only [List.length_append, List.length_cons, List.length_nil, List.length_drop]; omega, hBM2.drop _, rfl, rfl, R4⟩, ?_⟩
      simp only [bs_len, List.length_drop]
      omega
set_option maxRecDepth 100000 in
set_option maxHeartbeats 4000000 in
theorem optFind_v {t : Int} (hl : l.length ≤ 1000000) (hG : GoodO l) : VCalls Tryz.prog 136 [.sl tk (opts l), .sc (.int .u8 t)] st fun r s =>
    r = .tup [.agg [.sc (.int .u8 (if (findO l t).isSome = true then t else 0)), .sl .no (bs ((findO l t).getD []))], .sc (.bool (findO l t).isSome)] ∧ st = s := by
  refine vcalls_enter vc136 (Nat.le_of_ble_eq_true rfl) fun hwf hok => ?_
  show Run _ Vc136.body (.fin (finQ Vc136.res _)) _ _
  unfold Vc136 zn zo
  have hlt := hwf.lt
  simp (maxSteps := 3000000) only [go_sem, ↓reduceIte]
  intro f hf
  have W0 : st.weak (st.put f [.sc (.int .u8 0), .sl .nil []]) := weak_put hwf.weak hf
  have B0 : (st.put f [.sc (.int .u8 0), .sl .nil []]).box f = some [.sc (.int .u8 0), .sl .nil []] := put_box_same
  have L0 : (st.put f [.sc (.int .u8 0), .sl .nil []]).Lt := hlt.put
  generalize st.put f [.sc (.int .u8 0), .sl .nil []] = s0 at W0 B0 L0 ⊢
  refine run_loop [5, 7, 10, 11, 12, 13, 14, 15, 16, 17, 18, 19, 20, 21, 22, 23, 24] (fun B s => ∃ (i : Nat), i ≤ l.length ∧ B 10 = .sc (.int .i64 i) ∧ findO l t = findO (l.drop i) t ∧ s0.weak s ∧ s.Lt) (fun B _ => l.length - vnat (B 10)) rfl ?_ ?_
  · exact ⟨0, by omega, rfl, rfl, L0.weak, L0⟩
  · rintro B s ⟨i, hi, h10, hfi, W, L⟩
    have hbf := (W.box f _ B0).1
    by_cases c1 : i < l.length
    · obtain ⟨o, ho⟩ := get_ex c1
      obtain ⟨g1, g2, g3, g4⟩ := hG.get ho
      have hd : l.drop i = o :: l.drop (i + 1) := by
        obtain ⟨h, rfl⟩ := List.getElem?_eq_some_iff.1 ho
        exact List.drop_eq_getElem_cons h
      rw [hd] at hfi
      by_cases c2 : o.1 = t
      · have hfo : findO l t = some o.2 := by rw [hfi]; simp [findO, c2]
        simp (maxSteps := 3000000) only [go_sem, ↓reduceIte, h10, opts_len, opts_at ho, decide_eq_true (show (i : Int) < (l.length : Int) by omega), decide_eq_true c2]
        repeat (apply And.intro; focus (first | omega | (simp; done)))
        intro b hb
        have bf : f ≠ b := by have := (W.box f _ B0).2; have := W.sz; omega
        have sb : s0.sz ≤ b := by have := W.sz; omega
        refine App.mk (bytes := 1) (l := []) (ys := bs o.2) own_nil (allSz_bs _) (by simp only [bs_len, List.length_nil]; unfold maxLen; omega) (by simp only [bs_len, List.length_nil]; omega) ?_
        intro r2 s2 k1 k2
        have N2 : RO 1 st.bare s2 r2 (bs o.2) := (RO.nil (bare_weak (by have := W0.sz; have := W.sz; simp only [put_sz]; omega)) L.put).app k1 k2
        obtain ⟨t3, rfl⟩ := N2.sl
        have W2 : s0.weak s2 := app_keeps k2 (weak_put W sb) (fun g k l e => by cases e)
        have B2 := (W2.box f _ B0).1
        have bl : f < s0.sz := (W2.box f _ B0).2
        have Bb : s2.box b = some [.sc (.int .u8 t), .sl .no (bs o.2)] := by rw [k2.box, put_box_same, c2]
        simp (maxSteps := 3000000) only [go_sem, ↓reduceIte, B2, Bb]
        refine ⟨by rw [c2], _, _, Wk.tup (.cons (.agg (.cons (.refl _) (.cons .no .nil))) (.cons (.refl _) .nil)), weak_put (weak_tr W0 W2) hf, ?_, rfl⟩
        rw [hfo, c2]; rfl
      · have hfo : findO l t = findO (l.drop (i + 1)) t := by rw [hfi]; simp [findO, c2]
        simp (maxSteps := 3000000) only [go_sem, ↓reduceIte, h10, opts_len, opts_at ho, decide_eq_true (show (i : Int) < (l.length : Int) by omega), decide_eq_false c2]
        repeat (apply And.intro; focus (first | omega | (simp; done)))
        intro b hb
        have sb : s0.sz ≤ b := by have := W.sz; omega
        repeat (apply And.intro; focus (first | omega | (simp; done)))
        exact ⟨⟨i + 1, by omega, by simp, hfo, weak_put W sb, L.put⟩, by omega⟩
    · obtain rfl : i = l.length := by omega
      have hfo : findO l t = none := by rw [hfi, List.drop_length]; rfl
      have self : s.put f [.sc (.int .u8 0), .sl .nil []] = s := put_selfR hbf (L.box f _ hbf)
      simp (maxSteps := 3000000) only [go_sem, ↓reduceIte, h10, opts_len, hbf]
      refine ⟨_, _, Wk.tup (.cons (.agg (.cons (.refl _) (.cons .no .nil))) (.cons (.refl _) .nil)), ?_, ?_, rfl⟩
      · rw [self]; exact weak_tr W0 W
      · rw [hfo]; rfl
section
variable {p : Ctl} {most : Nat} {id : Int}
set_option maxRecDepth 100000 in
theorem cpBuild_v (hG : p.Good) : VCalls Tryz.prog 119 [p.v tk] st fun r s => r = .sl .no (bs (buildC p)) ∧ st = s := by
  obtain ⟨c, i, D⟩ := p
  obtain ⟨g1, g2, g3, g4, g5, g6⟩ := hG
  simp only at g1 g2 g3 g4 g5 g6
  show VCalls Tryz.prog 119 [.agg [.sc (.int .u8 c), .sc (.int .u8 i), .sl tk (bs D)]] st _
  refine vcalls_enter vc119 (Nat.le_of_ble_eq_true rfl) fun hwf hok => ?_
  show Run _ Vc119.body (.fin (finQ Vc119.res _)) _ _
  unfold Vc119 zo
  have hlt := hwf.lt
  obtain ⟨k, hk⟩ : ∃ k, (D.take 65531).length = k := ⟨_, rfl⟩
  have hkl : k ≤ 65531 ∧ k ≤ D.length := by rw [← hk]; simp only [List.length_take]; omega
  have hmin : min (D.length : Int) 65531 = (k : Int) := by rw [← hk]; simp only [List.length_take]; omega
  have htk : D.take k = D.take 65531 := by
    rw [← hk]
    rcases Nat.lt_or_ge D.length 65531 with h | h
    · rw [List.take_of_length_le (Nat.le_of_lt h), List.take_length]
    · rw [show (D.take 65531).length = 65531 by simp only [List.length_take]; omega]
  have he : ((k : Int) + 4) % 65536 = (k : Int) + 4 := by omega
  simp (maxSteps := 3000000) only [go_sem, ↓reduceIte, bs_len, hmin, bs_take, htk]
  intro b hb
  refine ⟨⟨allSz_bs _, by omega, by omega⟩, ?_⟩
  refine Bo.own (by simp [allLen, V.cells]) ?_
  intro g hg
  simp only [put_sz] at hg
  have R0 : RO 1 st ((st.put b [.sc (.int .u8 c), .sc (.int .u8 i), .sl tk (bs D)]).use g 2) (.sl (.own g 1) (bs [c, i])) (bs [c, i]) := RO.use (cs := bs [c, i]) (weak_put hwf.weak hb) hlt.put (by simp only [put_sz]; exact hg)
  generalize (st.put b [.sc (.int .u8 c), .sc (.int .u8 i), .sl tk (bs D)]).use g 2 = s1 at R0 ⊢
  simp (maxSteps := 3000000) only [go_sem, ↓reduceIte, bs_len, hk, he]
  refine ⟨⟨by omega, by omega⟩, ?_⟩
  refine Cal.mk (Put16_v (L := [c, i]) R0.own (by simp) (by omega) (by omega)) ?_
  rintro r2 s2 ⟨k1, k2⟩ -
  have R2 := R0.app k1 k2
  obtain ⟨t2, rfl⟩ := R2.sl
  simp (maxSteps := 3000000) only [go_sem, ↓reduceIte]
  refine App.mk (bytes := 1) (ys := bs (D.take 65531)) R2.own (allSz_bs _) (by simp only [bs_len, hk, List.length_append, List.length_cons, List.length_nil, beL_len]; unfold maxLen; omega) (by simp only [bs_len, hk, List.length_append, List.length_cons, List.length_nil, beL_len]; omega) ?_
  intro r3 s3 k3 k4
  have R3 := R2.app k3 k4
  rw [bs_append] at R3
  obtain ⟨t3, rfl⟩ := R3.sl
  simp (maxSteps := 3000000) only [go_sem, ↓reduceIte]
  refine ⟨_, _, Wk.no, R3.weak, ?_, rfl⟩
  simp only [buildC, hk]
theorem buildC_len (p : Ctl) : (buildC p).length ≤ 65535 := by
  simp only [buildC, List.length_cons, List.length_append, beL_len, List.length_take]; omega
theorem cpReject_v (hG : p.Good) : VCalls Tryz.prog 98 [.sc (.int .u8 id), p.v tk, .sc (.int .i64 1400)] st fun r s => r = (rejC id p 1400).v ∧ st = s := by
  have hG' := hG
  obtain ⟨c, i, D⟩ := p
  show VCalls Tryz.prog 98 [.sc (.int .u8 id), .agg [.sc (.int .u8 c), .sc (.int .u8 i), .sl tk (bs D)], .sc (.int .i64 1400)] st _
  refine vcalls_enter vc98 (Nat.le_of_ble_eq_true rfl) fun hwf hok => ?_
  show Run _ Vc98.body (.fin (finQ Vc98.res _)) _ _
  unfold Vc98 zn zo
  have hlt := hwf.lt
  simp (maxSteps := 3000000) only [go_sem, ↓reduceIte]
  intro b hb f hf
  have W0 : st.weak ((st.put b [.sc (.int .u8 c), .sc (.int .u8 i), .sl tk (bs D)]).put f [.sc (.int .u8 0), .sc (.int .u8 0), .sl .nil []]) := weak_put (weak_put hwf.weak hb) (by omega)
  have B0 : ((st.put b [.sc (.int .u8 c), .sc (.int .u8 i), .sl tk (bs D)]).put f [.sc (.int .u8 0), .sc (.int .u8 0), .sl .nil []]).box f = some [.sc (.int .u8 0), .sc (.int .u8 0), .sl .nil []] := put_box_same
  have bf : b ≠ f := by omega
  have hbl := buildC_len ⟨c, i, D⟩
  simp (maxSteps := 3000000) only [go_sem, ↓reduceIte, put_box_ne bf]
  refine Cal.mk (cpBuild_v (p := ⟨c, i, D⟩) (tk := tk) hG') ?_
  rintro _ _ ⟨rfl, rfl⟩ -
  have hrej : (rejC id ⟨c, i, D⟩ 1400).v = .agg [.sc (.int .u8 7), .sc (.int .u8 id), .sl .no (bs ((buildC ⟨c, i, D⟩).take 1396))] := rfl
  rw [hrej]
  generalize buildC ⟨c, i, D⟩ = X at hbl ⊢
  obtain ⟨k, hk⟩ : ∃ k, (X.take 1396).length = k := ⟨_, rfl⟩
  have hkl : k ≤ 1396 ∧ k ≤ X.length := by rw [← hk]; simp only [List.length_take]; omega
  have hmax : max (1396 : Int) 0 = 1396 := rfl
  have hmin : min (X.length : Int) 1396 = (k : Int) := by rw [← hk]; simp only [List.length_take]; omega
  have htk : X.take k = X.take 1396 := by
    rw [← hk]
    rcases Nat.lt_or_ge X.length 1396 with h | h
    · rw [List.take_of_length_le (Nat.le_of_lt h), List.take_length]
    · rw [show (X.take 1396).length = 1396 by simp only [List.length_take]; omega]
  simp (maxSteps := 3000000) only [go_sem, ↓reduceIte, B0, bs_len, hmax, hmin, bs_take, htk]
  exact ⟨⟨allSz_bs _, by omega, by omega⟩, _, _, Wk.refl _, weak_put (weak_put hwf.weak hb) (by omega), rfl, rfl⟩
def rejP (id proto : Int) (D : List Int) (most : Int) : Ctl := ⟨8, id, (beL proto 2 ++ D).take (most - 4).toNat⟩
theorem cpKnown_v {c m : Int} : VCalls Tryz.prog 85 [.sc (.int .u8 c), .sc (.int .u8 m)] st fun r s => r = .sc (.bool (decide (1 ≤ c ∧ c ≤ m))) ∧ st = s := by
  refine vcalls_enter vc85 (Nat.le_of_ble_eq_true rfl) fun hwf hok => ?_
  show Run _ Vc85.body (.fin (finQ Vc85.res _)) _ _
  unfold Vc85 zg zo
  by_cases h1 : 1 ≤ c
  · simp (maxSteps := 3000000) only [go_sem, ↓reduceIte, decide_eq_true h1]
    exact ⟨_, _, Wk.refl _, hwf.weak, by simp [h1], rfl⟩
  · simp (maxSteps := 3000000) only [go_sem, ↓reduceIte, decide_eq_false h1]
    exact ⟨_, _, Wk.refl _, hwf.weak, by simp [h1], rfl⟩
end
end
end
section
open Go
def cutQ (I : (Nat → V) → St → Prop) : VQ
  | .normal, A, st => I A st
  | _, _, _ => False
def cutK (I : (Nat → V) → St → Prop) (Q : VQ) : VQ
  | .normal, A, st => I A st
  | e, A, st => Q e A st
section
variable {P : Program} {k : Kt} {A : Nat → V} {st : St}
theorem at_cutk_n {I : (Nat → V) → St → Prop} {Q : VQ} : At P (.fin (cutK I Q)) .normal A st = I A st := _root_.id rfl
theorem at_cutk_r {I : (Nat → V) → St → Prop} : At P (.fin (cutK I (k.q P))) .ret A st = At P k .ret A st := _root_.id rfl
theorem at_cutk_x {I : (Nat → V) → St → Prop} {i : Nat} : At P (.fin (cutK I (k.q P))) (.exit i) A st = At P k (.exit i) A st := _root_.id rfl
theorem at_cut {I : (Nat → V) → St → Prop} : At P (.fin (cutQ I)) .normal A st = I A st := _root_.id rfl
theorem cut_same {I : (Nat → V) → Prop} : (fun (B : Nat → V) (s : St) => s = st ∧ I B) A st = I A := by simp
theorem over_same {ws : List Nat} {B : Nat → V} (h : ∀ t, t ∉ ws → B t = A t) : over ws B A = B := funext fun t => by
  simp only [over]
  split
  · rfl
  · rename_i ht; exact (h t ht).symm
theorem Grd.cut {v : V} {w : Bool} {o : VO} {rest : List VO} {c : VC} (ws : List Nat) (I : (Nat → V) → Prop) (hw : (((o :: rest).flatMap VO.w).all fun t => ws.contains t) = true)
    (h1 : Grd P v w o rest (.fin (cutQ fun B s => s = st ∧ I B)) A st) (h2 : ∀ B, I B → Run P c k (over ws B A) st) : Grd P v w o rest (.code c k) A st := by
  have hw' : ∀ t ∈ (o :: rest).flatMap VO.w, t ∈ ws := fun t ht => by
    have := List.all_eq_true.1 hw t ht
    simpa using this
  have hk : ∀ B s, (∀ t, t ∉ ws → B t = A t) → (s = st ∧ I B) → At P (.code c k) .normal B s := fun B s hB hI => by
    have := h2 B hI.2
    rw [over_same hB] at this
    rw [hI.1]
    exact this
  have hwr : ∀ t ∈ rest.flatMap VO.w, t ∈ ws := fun t ht => hw' t (by simp only [List.flatMap_cons, List.mem_append]; exact .inr ht)
  have hput : ∀ r, ∀ t, t ∉ ws → putV A o.dst r t = A t := fun r t ht => by
    cases hd : o.dst with
    | none => rfl
    | some d =>
      simp only [putV]
      rw [if_neg (fun e => ht (hw' t (by subst e; simp [VO.w, hd])))]
  unfold Grd at h1 ⊢
  split at h1
  · exact ⟨fun e => vops_writes ws A (fun B s hB hI => hk B s hB hI) (o :: rest) hw' (fun t _ => rfl) (h1.1 e), fun e => vops_writes ws A (fun B s hB hI => hk B s hB hI) rest hwr (hput _) (h1.2 e)⟩
  · exact vops_writes ws A (fun B s hB hI => hk B s hB hI) rest hwr (hput _) h1
  · exact h1
theorem Run.cut {c rest : VC} (ws : List Nat) (I : (Nat → V) → St → Prop) (hw : (c.writes.all fun t => ws.contains t) = true)
    (h1 : Run P c (.fin (cutK I (k.q P))) A st) (h2 : ∀ B s, I B s → Run P rest k (over ws B A) s) : Run P c (.code rest k) A st := by
  have hw' : ∀ t ∈ c.writes, t ∈ ws := fun t ht => by
    have := List.all_eq_true.1 hw t ht
    simpa using this
  refine vwp_writes ws A c hw' (fun e B s hB hq => ?_) (fun t _ => rfl) h1
  cases e with
  | normal =>
    have := h2 B s hq
    rw [over_same hB] at this
    exact this
  | exit id => exact hq
  | ret => exact hq
theorem If.cut {v : V} {a b rest : VC} (ws : List Nat) (I : (Nat → V) → St → Prop) (hw : ((a.writes ++ b.writes).all fun t => ws.contains t) = true)
    (h1 : If P v a b (.fin (cutK I (k.q P))) A st) (h2 : ∀ B s, I B s → Run P rest k (over ws B A) s) : If P v a b (.code rest k) A st := by
  rw [List.all_append, Bool.and_eq_true] at hw
  unfold If at h1 ⊢
  split at h1
  · exact ⟨fun e => Run.cut ws I hw.1 (h1.1 e) h2, fun e => Run.cut ws I hw.2 (h1.2 e) h2⟩
  · exact h1
end
end
section
open Go
theorem Get16_n {tk : Tk} {L : List Int} {st : St} (hB : IsB L) : VCalls Tryz.prog 88 [.sl tk (bs L)] st fun r s => r = .sc (.int .u16 (num2 L)) ∧ st = s := Get16_v hB
section
variable {st : St} {w : Want} {tk : Tk} {l : List Opt} {own draw : Int}
set_option maxRecDepth 100000 in
theorem loptMethod_v : VCalls Tryz.prog 169 [] st fun r s => r = .sl .no (bs [194, 35, 5]) ∧ st = s := by
  refine vcalls_enter vc169 (Nat.le_of_ble_eq_true rfl) fun hwf hok => ?_
  show Run _ Vc169.body (.fin (finQ Vc169.res _)) _ _
  unfold Vc169 zo
  simp (maxSteps := 3000000) only [go_sem]
  refine Bo.own (by simp [allLen, V.cells]) ?_
  intro g hg
  simp (maxSteps := 3000000) only [go_sem, ↓reduceIte]
  exact ⟨_, _, Wk.no, weak_use hwf.weak hg, rfl, rfl⟩
theorem optsW_len (w : Want) : (optsW w).length ≤ 5 := by
  unfold optsW
  simp only [List.length_append]
  have e : ∀ (c : Prop) [Decidable c] (x : Opt), (if c then [x] else []).length ≤ 1 := fun c _ x => by split <;> simp
  have h1 := e (w.mru ≠ 0) (1, beL w.mru 2)
  have h2 := e (w.auth = true) (3, [194, 35, 5])
  have h3 := e (w.magic ≠ 0) (5, beL w.magic 4)
  have h4 := e (w.pfc = true) (7, [])
  have h5 := e (w.acfc = true) (8, [])
  omega
theorem beL_lenI (n : Int) (k : Nat) : (beL n k).length = k := beL_len n k
theorem optsW_good (w : Want) : GoodO (optsW w) := by
  unfold optsW
  have e : ∀ (c : Prop) [Decidable c] (x : Int) (L : List Int), 0 ≤ x → x < 256 → IsB L → L.length ≤ 1000000 → GoodO (if c then [(x, L)] else []) := fun c _ x L h1 h2 h3 h4 => by
    split
    · exact .one h1 h2 h3 h4
    · exact .nil
  refine GoodO.append (GoodO.append (GoodO.append (GoodO.append ?_ ?_) ?_) ?_) ?_
  · exact e _ _ _ (by decide) (by decide) (beL_isB _ _) (by rw [beL_len]; decide)
  · exact e _ _ _ (by decide) (by decide) (by intro x hx; simp at hx; omega) (by decide)
  · exact e _ _ _ (by decide) (by decide) (beL_isB _ _) (by rw [beL_len]; decide)
  · exact e _ _ _ (by decide) (by decide) (fun x hx => by cases hx) (by decide)
  · exact e _ _ _ (by decide) (by decide) (fun x hx => by cases hx) (by decide)
theorem loptSize_v {t : Int} : VCalls Tryz.prog 167 [.sc (.int .u8 t)] st fun r s => r = .sc (.int .i64 (sizeT t)) ∧ st = s := by
  refine vcalls_enter vc167 (Nat.le_of_ble_eq_true rfl) fun hwf hok => ?_
  show Run _ Vc167.body (.fin (finQ Vc167.res _)) _ _
  unfold Vc167 zo
  by_cases c1 : t = 1
  · simp (maxSteps := 3000000) only [go_sem, ↓reduceIte, decide_eq_true c1]
    exact ⟨_, _, Wk.refl _, hwf.weak, by rw [sizeT, if_pos c1], rfl⟩
  by_cases c2 : t = 2
  · simp (maxSteps := 3000000) only [go_sem, ↓reduceIte, decide_eq_false c1, decide_eq_true c2]
    exact ⟨_, _, Wk.refl _, hwf.weak, by rw [sizeT, if_neg c1, if_pos (.inl c2)], rfl⟩
  by_cases c5 : t = 5
  · simp (maxSteps := 3000000) only [go_sem, ↓reduceIte, decide_eq_false c1, decide_eq_false c2, decide_eq_true c5]
    exact ⟨_, _, Wk.refl _, hwf.weak, by rw [sizeT, if_neg c1, if_pos (.inr c5)], rfl⟩
  have c25 : ¬ (t = 2 ∨ t = 5) := fun e => e.elim c2 c5
  by_cases c7 : t = 7
  · simp (maxSteps := 3000000) only [go_sem, ↓reduceIte, decide_eq_false c1, decide_eq_false c2, decide_eq_false c5, decide_eq_true c7]
    exact ⟨_, _, Wk.refl _, hwf.weak, by rw [sizeT, if_neg c1, if_neg c25, if_pos (.inl c7)], rfl⟩
  by_cases c8 : t = 8
  · simp (maxSteps := 3000000) only [go_sem, ↓reduceIte, decide_eq_false c1, decide_eq_false c2, decide_eq_false c5, decide_eq_false c7, decide_eq_true c8]
    exact ⟨_, _, Wk.refl _, hwf.weak, by rw [sizeT, if_neg c1, if_neg c25, if_pos (.inr c8)], rfl⟩
  · simp (maxSteps := 3000000) only [go_sem, ↓reduceIte, decide_eq_false c1, decide_eq_false c2, decide_eq_false c5, decide_eq_false c7, decide_eq_false c8]
    exact ⟨_, _, Wk.refl _, hwf.weak, by rw [sizeT, if_neg c1, if_neg c25, if_neg (fun e => e.elim c7 c8)], rfl⟩
set_option maxRecDepth 100000 in
set_option maxHeartbeats 16000000 in
theorem loptOptions_v (hw : w.Good) : VCalls Tryz.prog 166 [.agg w.cells] st fun r s => r = .sl .no (opts (optsW w)) ∧ st = s := by
  obtain ⟨mru, auth, magic, pfc, acfc⟩ := w
  obtain ⟨m0, m1, g0, g1⟩ := hw
  simp only at m0 m1 g0 g1
  show VCalls Tryz.prog 166 [.agg [.sc (.int .u16 mru), .sc (.bool auth), .sc (.int .u32 magic), .sc (.bool pfc), .sc (.bool acfc)]] st _
  refine vcalls_enter vc166 (Nat.le_of_ble_eq_true rfl) fun hwf hok => ?_
  show Run _ Vc166.body (.fin (finQ Vc166.res _)) _ _
  unfold Vc166 zo
  have hlt := hwf.lt
  simp (maxSteps := 3000000) only [go_sem, ↓reduceIte]
  intro b hb
  obtain ⟨W, hW⟩ : ∃ W, W = optsW ⟨mru, auth, magic, pfc, acfc⟩ := ⟨_, rfl⟩
  rw [← hW]
  unfold optsW at hW
  simp only at hW
  have Bb : (st.put b [.sc (.int .u16 mru), .sc (.bool auth), .sc (.int .u32 magic), .sc (.bool pfc), .sc (.bool acfc)]).box b = some [.sc (.int .u16 mru), .sc (.bool auth), .sc (.int .u32 magic), .sc (.bool pfc), .sc (.bool acfc)] := put_box_same
  have R0 : RO 2 st (st.put b [.sc (.int .u16 mru), .sc (.bool auth), .sc (.int .u32 magic), .sc (.bool pfc), .sc (.bool acfc)]) (.sl .nil []) (opts []) := RO.nil (weak_put hwf.weak hb) hlt.put
  generalize st.put b _ = s0 at Bb R0 ⊢
  obtain ⟨W1, hW1⟩ : ∃ X : List Opt, X = if mru ≠ 0 then [(1, beL mru 2)] else [] := ⟨_, rfl⟩
  obtain ⟨W2, hW2⟩ : ∃ X : List Opt, X = if auth = true then [(3, [194, 35, 5])] else [] := ⟨_, rfl⟩
  obtain ⟨W3, hW3⟩ : ∃ X : List Opt, X = if magic ≠ 0 then [(5, beL magic 4)] else [] := ⟨_, rfl⟩
  obtain ⟨W4, hW4⟩ : ∃ X : List Opt, X = if pfc = true then [(7, [])] else [] := ⟨_, rfl⟩
  obtain ⟨W5, hW5⟩ : ∃ X : List Opt, X = if acfc = true then [(8, [])] else [] := ⟨_, rfl⟩
  rw [← hW1, ← hW2, ← hW3, ← hW4, ← hW5] at hW
  subst hW
  have e : ∀ (c : Prop) [Decidable c] (x : Opt), (if c then [x] else []).length ≤ 1 := fun c _ x => by split <;> simp
  have l1 : W1.length ≤ 1 := by rw [hW1]; exact e _ _
  have l2 : W2.length ≤ 1 := by rw [hW2]; exact e _ _
  have l3 : W3.length ≤ 1 := by rw [hW3]; exact e _ _
  have l4 : W4.length ≤ 1 := by rw [hW4]; exact e _ _
  have l5 : W5.length ≤ 1 := by rw [hW5]; exact e _ _
  clear e
  refine If.cut [3, 7, 8, 9, 10, 11, 12, 13] (fun B s => ∃ tv, B 3 = .sl tv (opts W1) ∧ RO 2 st s (.sl tv (opts W1)) (opts W1) ∧ s.box b = some [.sc (.int .u16 mru), .sc (.bool auth), .sc (.int .u32 magic), .sc (.bool pfc), .sc (.bool acfc)]) rfl ?_ ?_
  · refine If.dec (fun e => ?_) (fun e => ?_)
    · rw [if_pos e] at hW1
      simp (maxSteps := 3000000) only [go_sem, ↓reduceIte, Bb]
      refine Cal.mk (Put16_v (L := []) own_nil (by simp) m0 m1) ?_
      rintro r1 s1 ⟨k3, k4⟩ -
      have R1 := R0.beside k4 noOwn
      rw [List.nil_append] at k3
      obtain ⟨t3, rfl⟩ := own_sl k3
      have bb1 := Bb
      rw [← k4.box] at bb1
      simp (maxSteps := 3000000) only [go_sem, ↓reduceIte]
      refine App.mk (bytes := 32) (l := opts []) (ys := opts [(1, beL mru 2)]) R1.own (allSz_opts _) (by simp only [opts_len, List.length_cons, List.length_nil]; unfold maxLen; omega) (by simp only [opts_len, List.length_cons, List.length_nil]; omega) ?_
      intro r2 s2 k1 k2
      have R2 := R1.app k1 k2
      have bb2 := bb1
      rw [← k2.box] at bb2
      rw [opts_append, ← hW1] at R2
      obtain ⟨t2, rfl⟩ := R2.sl
      simp (maxSteps := 3000000) only [go_sem, ↓reduceIte, at_cutk_n]
      exact ⟨t2, rfl, R2, bb2⟩
    · rw [if_neg e] at hW1
      simp (maxSteps := 3000000) only [go_sem, ↓reduceIte, at_cutk_n]
      rw [hW1]
      exact ⟨.nil, rfl, R0, Bb⟩
  clear R0 Bb
  rintro B s ⟨tv, h3, R, Bb⟩
  simp (maxSteps := 3000000) only [go_sem, ↓reduceIte, Bb]
  refine If.cut [3, 16, 17, 18, 19, 20] (fun B s => ∃ tv, B 3 = .sl tv (opts (W1 ++ W2)) ∧ RO 2 st s (.sl tv (opts (W1 ++ W2))) (opts (W1 ++ W2)) ∧ s.box b = some [.sc (.int .u16 mru), .sc (.bool auth), .sc (.int .u32 magic), .sc (.bool pfc), .sc (.bool acfc)]) rfl ?_ ?_
  · refine If.mk (fun e => ?_) (fun e => ?_)
    · rw [if_pos e] at hW2
      simp (maxSteps := 3000000) only [go_sem, ↓reduceIte, h3]
      refine Cal.mk loptMethod_v ?_
      rintro _ _ ⟨rfl, rfl⟩ -
      simp (maxSteps := 3000000) only [go_sem, ↓reduceIte]
      refine App.mk (bytes := 32) (l := opts W1) (ys := opts [(3, [194, 35, 5])]) R.own (allSz_opts _) (by simp only [opts_len, List.length_cons, List.length_nil]; unfold maxLen; omega) (by simp only [opts_len, List.length_cons, List.length_nil]; omega) ?_
      intro r2 s2 k1 k2
      have R2 := R.app k1 k2
      have bb2 := Bb
      rw [← k2.box] at bb2
      rw [opts_append, ← hW2] at R2
      obtain ⟨t2, rfl⟩ := R2.sl
      simp (maxSteps := 3000000) only [go_sem, ↓reduceIte, at_cutk_n]
      exact ⟨t2, rfl, R2, bb2⟩
    · rw [if_neg (show ¬ _ = true from by rw [e]; simp)] at hW2
      simp (maxSteps := 3000000) only [go_sem, ↓reduceIte, h3, at_cutk_n]
      rw [hW2]
      rw [List.append_nil]
      exact ⟨tv, rfl, R, Bb⟩
  clear R Bb h3
  rintro B s ⟨tv, h3, R, Bb⟩
  simp (maxSteps := 3000000) only [go_sem, ↓reduceIte, Bb]
  refine If.cut [3, 24, 25, 26, 27, 28, 29, 30] (fun B s => ∃ tv, B 3 = .sl tv (opts (W1 ++ W2 ++ W3)) ∧ RO 2 st s (.sl tv (opts (W1 ++ W2 ++ W3))) (opts (W1 ++ W2 ++ W3)) ∧ s.box b = some [.sc (.int .u16 mru), .sc (.bool auth), .sc (.int .u32 magic), .sc (.bool pfc), .sc (.bool acfc)]) rfl ?_ ?_
  · refine If.dec (fun e => ?_) (fun e => ?_)
    · rw [if_pos e] at hW3
      simp (maxSteps := 3000000) only [go_sem, ↓reduceIte, h3, Bb]
      refine Cal.mk (Put32_v (L := []) own_nil (by simp) g0 g1) ?_
      rintro r1 s1 ⟨k3, k4⟩ -
      have R1 := R.beside k4 noOwn
      rw [List.nil_append] at k3
      obtain ⟨t3, rfl⟩ := own_sl k3
      have bb1 := Bb
      rw [← k4.box] at bb1
      simp (maxSteps := 3000000) only [go_sem, ↓reduceIte]
      refine App.mk (bytes := 32) (l := opts (W1 ++ W2)) (ys := opts [(5, beL magic 4)]) R1.own (allSz_opts _) (by simp only [opts_len, List.length_append, List.length_cons, List.length_nil]; unfold maxLen; omega) (by simp only [opts_len, List.length_append, List.length_cons, List.length_nil]; omega) ?_
      intro r2 s2 k1 k2
      have R2 := R1.app k1 k2
      have bb2 := bb1
      rw [← k2.box] at bb2
      rw [opts_append, ← hW3] at R2
      obtain ⟨t2, rfl⟩ := R2.sl
      simp (maxSteps := 3000000) only [go_sem, ↓reduceIte, at_cutk_n]
      exact ⟨t2, rfl, R2, bb2⟩
    · rw [if_neg e] at hW3
      simp (maxSteps := 3000000) only [go_sem, ↓reduceIte, h3, at_cutk_n]
      rw [hW3]
      rw [List.append_nil]
      exact ⟨tv, rfl, R, Bb⟩
  clear R Bb h3
  rintro B s ⟨tv, h3, R, Bb⟩
  simp (maxSteps := 3000000) only [go_sem, ↓reduceIte, Bb]
  refine If.cut [3, 33, 34, 35, 36] (fun B s => ∃ tv, B 3 = .sl tv (opts (W1 ++ W2 ++ W3 ++ W4)) ∧ RO 2 st s (.sl tv (opts (W1 ++ W2 ++ W3 ++ W4))) (opts (W1 ++ W2 ++ W3 ++ W4)) ∧ s.box b = some [.sc (.int .u16 mru), .sc (.bool auth), .sc (.int .u32 magic), .sc (.bool pfc), .sc (.bool acfc)]) rfl ?_ ?_
  · refine If.mk (fun e => ?_) (fun e => ?_)
    · rw [if_pos e] at hW4
      simp (maxSteps := 3000000) only [go_sem, ↓reduceIte, h3]
      refine App.mk (bytes := 32) (l := opts (W1 ++ W2 ++ W3)) (ys := opts [(7, [])]) R.own (allSz_opts _) (by simp only [opts_len, List.length_append, List.length_cons, List.length_nil]; unfold maxLen; omega) (by simp only [opts_len, List.length_append, List.length_cons, List.length_nil]; omega) ?_
      intro r2 s2 k1 k2
      have R2 := R.app k1 k2
      have bb2 := Bb
      rw [← k2.box] at bb2
      rw [opts_append, ← hW4] at R2
      obtain ⟨t2, rfl⟩ := R2.sl
      simp (maxSteps := 3000000) only [go_sem, ↓reduceIte, at_cutk_n]
      exact ⟨t2, rfl, R2, bb2⟩
    · rw [if_neg (show ¬ _ = true from by rw [e]; simp)] at hW4
      simp (maxSteps := 3000000) only [go_sem, ↓reduceIte, h3, at_cutk_n]
      rw [hW4]
      rw [List.append_nil]
      exact ⟨tv, rfl, R, Bb⟩
  clear R Bb h3
  rintro B s ⟨tv, h3, R, Bb⟩
  simp (maxSteps := 3000000) only [go_sem, ↓reduceIte, Bb]
  refine If.cut [3, 39, 40, 41, 42] (fun B s => ∃ tv, B 3 = .sl tv (opts (W1 ++ W2 ++ W3 ++ W4 ++ W5)) ∧ RO 2 st s (.sl tv (opts (W1 ++ W2 ++ W3 ++ W4 ++ W5))) (opts (W1 ++ W2 ++ W3 ++ W4 ++ W5)) ∧ s.box b = some [.sc (.int .u16 mru), .sc (.bool auth), .sc (.int .u32 magic), .sc (.bool pfc), .sc (.bool acfc)]) rfl ?_ ?_
  · refine If.mk (fun e => ?_) (fun e => ?_)
    · rw [if_pos e] at hW5
      simp (maxSteps := 3000000) only [go_sem, ↓reduceIte, h3]
      refine App.mk (bytes := 32) (l := opts (W1 ++ W2 ++ W3 ++ W4)) (ys := opts [(8, [])]) R.own (allSz_opts _) (by simp only [opts_len, List.length_append, List.length_cons, List.length_nil]; unfold maxLen; omega) (by simp only [opts_len, List.length_append, List.length_cons, List.length_nil]; omega) ?_
      intro r2 s2 k1 k2
      have R2 := R.app k1 k2
      have bb2 := Bb
      rw [← k2.box] at bb2
      rw [opts_append, ← hW5] at R2
      obtain ⟨t2, rfl⟩ := R2.sl
      simp (maxSteps := 3000000) only [go_sem, ↓reduceIte, at_cutk_n]
      exact ⟨t2, rfl, R2, bb2⟩
    · rw [if_neg (show ¬ _ = true from by rw [e]; simp)] at hW5
      simp (maxSteps := 3000000) only [go_sem, ↓reduceIte, h3, at_cutk_n]
      rw [hW5]
      rw [List.append_nil]
      exact ⟨tv, rfl, R, Bb⟩
  clear R Bb h3
  rintro B s ⟨tv, h3, R, Bb⟩
  simp (maxSteps := 3000000) only [go_sem, ↓reduceIte, h3]
  exact ⟨_, _, Wk.no, R.weak, rfl, rfl⟩
end
end
section
open Go
section
variable {st : St} {tk : Tk} {l : List Opt} {own draw : Int} {o : Opt}
set_option maxRecDepth 100000 in
theorem Get32_n {L : List Int} (hB : IsB L) : VCalls Tryz.prog 66 [.sl tk (bs L)] st fun r s => r = .sc (.int .u32 (num4 L)) ∧ st = s := by
  refine vcalls_enter vc66 (Nat.le_of_ble_eq_true rfl) fun hwf hok => ?_
  show Run _ Vc66.body (.fin (finQ Vc66.res _)) _ _
  unfold Vc66 zo
  by_cases h : L.length < 4
  · simp (maxSteps := 3000000) only [go_sem, ↓reduceIte, bs_len, decide_eq_true (show (L.length : Int) < 4 by omega)]
    exact ⟨_, _, Wk.refl _, hwf.weak, by rw [num4, if_pos h], rfl⟩
  have r0 := num2_rng hB
  have r2 := num2_rng (hB.drop 2)
  have hj := u32_join (num2 L) (num2 (L.drop 2)) r0.1 r0.2 r2.1 r2.2
  have hsp : num4 L = 65536 * num2 L + num2 (L.drop 2) := by
    match L, h with
    | a :: b :: c :: d :: L, _ =>
      have n4 : num4 (a :: b :: c :: d :: L) = numL [a, b, c, d] := by rw [num4, if_neg (by simp only [List.length_cons]; omega)]; rfl
      have n2 : num2 (a :: b :: c :: d :: L) = numL [a, b] := by rw [num2, if_neg (by simp only [List.length_cons]; omega)]; rfl
      have n2' : num2 ((a :: b :: c :: d :: L).drop 2) = numL [c, d] := by
        show num2 (c :: d :: L) = _
        rw [num2, if_neg (by simp only [List.length_cons]; omega)]; rfl
      rw [n4, n2, n2']
      simp [numL]; omega
    | [], h | [_], h | [_, _], h | [_, _, _], h => exact absurd (by simp) h
  rw [hsp]
  have g0 := fun s => Get16_n (tk := tk) (st := s) hB
  have g2 := fun s => Get16_n (tk := .no) (st := s) (hB.drop 2)
  generalize num2 L = a at *
  generalize num2 (L.drop 2) = c at *
  have e1 : a * 65536 % 4294967296 = a * 65536 := by omega
  have e2 : a % 4294967296 = a := by omega
  have e3 : c % 4294967296 = c := by omega
  simp (maxSteps := 3000000) only [go_sem, ↓reduceIte, bs_len, decide_eq_false (show ¬ (L.length : Int) < 4 by omega), bs_drop, allSz_bs']
  repeat (apply And.intro; focus (first | omega | (simp; done)))
  refine Cal.mk (g0 _) ?_
  rintro _ _ ⟨rfl, rfl⟩ -
  simp (maxSteps := 3000000) only [go_sem, ↓reduceIte, e1, e2]
  refine Cal.mk (g2 _) ?_
  rintro _ _ ⟨rfl, rfl⟩ -
  simp (maxSteps := 3000000) only [go_sem, ↓reduceIte, e3, ibit_or, hj]
  exact ⟨_, _, Wk.refl _, hwf.weak, rfl, rfl⟩
def betV (x : Option Opt) : V := match x with
  | some o => optV o
  | none => .agg [.sc (.int .u8 0), .sl .nil []]
set_option maxRecDepth 100000 in
set_option maxHeartbeats 4000000 in
theorem loptBetter_v (hB : IsB o.2) (d0 : 0 ≤ draw) (d1 : draw < 4294967296) : VCalls Tryz.prog 168 [optV o, .sc (.int .u32 own), .sc (.int .u32 draw)] st fun r s =>
    r = .tup [betV (betterO o own draw), .sc (.bool (betterO o own draw).isSome)] ∧ st = s := by
  obtain ⟨t, D⟩ := o
  simp only at hB
  show VCalls Tryz.prog 168 [.agg [.sc (.int .u8 t), .sl .no (bs D)], .sc (.int .u32 own), .sc (.int .u32 draw)] st _
  refine vcalls_enter vc168 (Nat.le_of_ble_eq_true rfl) fun hwf hok => ?_
  show Run _ Vc168.body (.fin (finQ Vc168.res _)) _ _
  unfold Vc168 zg zn zo
  have hlt := hwf.lt
  simp (maxSteps := 3000000) only [go_sem, ↓reduceIte]
  intro b hb q hq
  have bq : b ≠ q := by omega
  have W0 : st.weak ((st.put b [.sc (.int .u8 t), .sl .no (bs D)]).put q [.sc (.int .u8 0), .sl .nil []]) := weak_put (weak_put hwf.weak hb) (by omega)
  have Bb : ((st.put b [.sc (.int .u8 t), .sl .no (bs D)]).put q [.sc (.int .u8 0), .sl .nil []]).box b = some [.sc (.int .u8 t), .sl .no (bs D)] := by rw [put_box_ne bq, put_box_same]
  have Bq : ((st.put b [.sc (.int .u8 t), .sl .no (bs D)]).put q [.sc (.int .u8 0), .sl .nil []]).box q = some [.sc (.int .u8 0), .sl .nil []] := put_box_same
  have L0 : ((st.put b [.sc (.int .u8 t), .sl .no (bs D)]).put q [.sc (.int .u8 0), .sl .nil []]).Lt := hlt.put.put
  have hqs : st.sz ≤ q := by omega
  generalize (st.put b _).put q _ = s0 at W0 Bb Bq L0 ⊢
  simp (maxSteps := 3000000) only [go_sem, ↓reduceIte, Bb]
  refine Cal.mk (Get16_n hB) ?_
  rintro _ _ ⟨rfl, rfl⟩ -
  simp (maxSteps := 3000000) only [go_sem, ↓reduceIte, Bb]
  refine Cal.mk (Get32_n hB) ?_
  rintro _ _ ⟨rfl, rfl⟩ -
  have fin : ∀ (L1 : List Int) (x : Int) (r2 : V) (s2 : St) (tv : Tk), r2 = .sl tv (bs L1) → AppSt s0 (.sl .nil []) s2 r2 → betterO (t, D) own draw = some (x, L1) →
      ∃ (r : V) (st' : St), Wk (.tup [.agg [.sc (.int .u8 x), r2], .sc (.bool true)]) r ∧ st'.weak (s2.put q [.sc (.int .u8 x), r2]) ∧ r = .tup [betV (betterO (t, D) own draw), .sc (.bool (betterO (t, D) own draw).isSome)] ∧ st = st' := fun L1 x r2 s2 tv hr k2 e => by
    subst hr
    refine ⟨_, _, Wk.tup (.cons (.agg (.cons (.refl _) (.cons .no .nil))) (.cons (.refl _) .nil)), weak_put (weak_tr W0 (app_keeps k2 L0.weak (fun g k l e => by cases e))) hqs, by rw [e]; rfl, rfl⟩
  by_cases c1 : t = 1
  · by_cases c2 : num2 D < 128
    · have e : betterO (t, D) own draw = some (1, beL 1400 2) := if_pos ⟨c1, .inl c2⟩
      simp (maxSteps := 3000000) only [go_sem, ↓reduceIte, Bb, decide_eq_true c1, decide_eq_true c2]
      refine Cal.mk (Put16_v (L := []) own_nil (by simp) (by decide) (by decide)) ?_
      rintro r2 s2 ⟨k1, k2⟩ -
      obtain ⟨t2, rfl⟩ := own_sl k1
      have b2 := Bq
      rw [← k2.box] at b2
      simp (maxSteps := 3000000) only [go_sem, ↓reduceIte, b2]
      exact fin _ _ _ _ _ rfl k2 e
    by_cases c3 : 1500 < num2 D
    · have e : betterO (t, D) own draw = some (1, beL 1400 2) := if_pos ⟨c1, .inr c3⟩
      simp (maxSteps := 3000000) only [go_sem, ↓reduceIte, Bb, decide_eq_true c1, decide_eq_false c2, decide_eq_true c3]
      refine Cal.mk (Put16_v (L := []) own_nil (by simp) (by decide) (by decide)) ?_
      rintro r2 s2 ⟨k1, k2⟩ -
      obtain ⟨t2, rfl⟩ := own_sl k1
      have b2 := Bq
      rw [← k2.box] at b2
      simp (maxSteps := 3000000) only [go_sem, ↓reduceIte, b2]
      exact fin _ _ _ _ _ rfl k2 e
    · have e : betterO (t, D) own draw = none := by rw [betterO, if_neg (fun h => h.2.elim c2 c3), if_neg (fun h => by simp only at h; omega)]
      have c5 : ¬ t = 5 := by omega
      simp (maxSteps := 3000000) only [go_sem, ↓reduceIte, Bb, Bq, decide_eq_true c1, decide_eq_false c2, decide_eq_false c3, decide_eq_false c5]
      rw [e]
      exact ⟨_, _, Wk.refl _, weak_put W0 hqs, rfl, rfl⟩
  by_cases c5 : t = 5
  · by_cases c6 : num4 D = 0
    · have e : betterO (t, D) own draw = some (5, beL draw 4) := by rw [betterO, if_neg (fun h => c1 h.1), if_pos ⟨c5, .inl c6⟩]
      simp (maxSteps := 3000000) only [go_sem, ↓reduceIte, Bb, decide_eq_false c1, decide_eq_true c5, decide_eq_true c6]
      refine Cal.mk (Put32_v (L := []) own_nil (by simp) d0 d1) ?_
      rintro r2 s2 ⟨k1, k2⟩ -
      obtain ⟨t2, rfl⟩ := own_sl k1
      have b2 := Bq
      rw [← k2.box] at b2
      simp (maxSteps := 3000000) only [go_sem, ↓reduceIte, b2]
      exact fin _ _ _ _ _ rfl k2 e
    by_cases c7 : num4 D = own
    · have e : betterO (t, D) own draw = some (5, beL draw 4) := by rw [betterO, if_neg (fun h => c1 h.1), if_pos ⟨c5, .inr c7⟩]
      simp (maxSteps := 3000000) only [go_sem, ↓reduceIte, Bb, decide_eq_false c1, decide_eq_true c5, decide_eq_false c6, decide_eq_true c7]
      refine Cal.mk (Put32_v (L := []) own_nil (by simp) d0 d1) ?_
      rintro r2 s2 ⟨k1, k2⟩ -
      obtain ⟨t2, rfl⟩ := own_sl k1
      have b2 := Bq
      rw [← k2.box] at b2
      simp (maxSteps := 3000000) only [go_sem, ↓reduceIte, b2]
      exact fin _ _ _ _ _ rfl k2 e
    · have e : betterO (t, D) own draw = none := by rw [betterO, if_neg (fun h => c1 h.1), if_neg (fun h => h.2.elim c6 c7)]
      simp (maxSteps := 3000000) only [go_sem, ↓reduceIte, Bb, Bq, decide_eq_false c1, decide_eq_true c5, decide_eq_false c6, decide_eq_false c7]
      rw [e]
      exact ⟨_, _, Wk.refl _, weak_put W0 hqs, rfl, rfl⟩
  · have e : betterO (t, D) own draw = none := by rw [betterO, if_neg (fun h => c1 h.1), if_neg (fun h => c5 h.1)]
    simp (maxSteps := 3000000) only [go_sem, ↓reduceIte, Bb, Bq, decide_eq_false c1, decide_eq_false c5]
    rw [e]
    exact ⟨_, _, Wk.refl _, weak_put W0 hqs, rfl, rfl⟩
end
end
section
open Go
def seenC (seen : List Int) : List V := (List.range 256).map fun (i : Nat) => .sc (.bool (decide ((i : Int) ∈ seen)))
theorem seenC_len (seen : List Int) : (seenC seen).length = 256 := by simp [seenC]
set_option maxRecDepth 100000 in
theorem seenC_nil : seenC [] = List.replicate 256 (.sc (.bool false)) := by
  refine List.ext_getElem (by rw [seenC_len, List.length_replicate]) fun i h1 h2 => ?_
  rw [List.getElem_replicate]
  simp only [seenC, List.getElem_map, List.not_mem_nil, decide_false]
theorem seenC_get {seen : List Int} {i : Nat} (h : i < 256) : (seenC seen)[i]? = some (.sc (.bool (decide ((i : Int) ∈ seen)))) := by
  simp [seenC, h]
theorem seenC_set {seen : List Int} {i : Nat} (h : i < 256) : (seenC seen).take i ++ [.sc (.bool true)] ++ (seenC seen).drop (i + 1) = seenC ((i : Int) :: seen) := by
  rw [List.append_assoc]
  refine List.ext_getElem? fun k => ?_
  rcases Nat.lt_trichotomy k i with e | e | e
  · rw [List.getElem?_append_left (by simp only [List.length_take, seenC_len]; omega), List.getElem?_take, if_pos e, seenC_get (by omega), seenC_get (by omega)]
    have : ¬ (k : Int) = i := by omega
    simp [this]
  · subst e
    rw [List.getElem?_append_right (by simp only [List.length_take, seenC_len]; omega), seenC_get h]
    simp [seenC_len, Nat.min_eq_left (Nat.le_of_lt h)]
  · rw [List.getElem?_append_right (by simp only [List.length_take, seenC_len]; omega)]
    have e1 : ((seenC seen).take i).length = i := by simp only [List.length_take, seenC_len]; omega
    rw [e1, List.getElem?_append_right (by simp; omega)]
    simp only [List.length_cons, List.length_nil, List.getElem?_drop]
    have e2 : i + 1 + (k - i - (0 + 1)) = k := by omega
    rw [e2]
    rcases Nat.lt_or_ge k 256 with hk | hk
    · rw [seenC_get hk, seenC_get hk]
      have : ¬ (k : Int) = i := by omega
      simp [this]
    · rw [List.getElem?_eq_none (by rw [seenC_len]; omega), List.getElem?_eq_none (by rw [seenC_len]; omega)]
theorem judgeF_snoc {own draw : Int} {l : List Opt} {i : Nat} {o : Opt} (h : l[i]? = some o) : judgeF own draw (l.take (i + 1)) = judgeStep own draw (judgeF own draw (l.take i)) o := by
  rw [take_snoc h]
  simp only [judgeF, List.foldl_append, List.foldl_cons, List.foldl_nil]
theorem judgeStep_len {own draw : Int} {a : List Opt × List Opt × List Int} {o : Opt} : (judgeStep own draw a o).1.length ≤ a.1.length + 1 ∧ (judgeStep own draw a o).2.1.length ≤ a.2.1.length + 1 := by
  unfold judgeStep
  split
  · simp
  · refine ⟨by simp, ?_⟩
    simp only [List.length_append]
    cases betterO o own draw <;> simp
theorem judgeF_len {own draw : Int} (l : List Opt) : ∀ i, i ≤ l.length → (judgeF own draw (l.take i)).1.length ≤ i ∧ (judgeF own draw (l.take i)).2.1.length ≤ i
  | 0, _ => by simp [judgeF]
  | i + 1, h => by
    obtain ⟨o, ho⟩ := get_ex (L := l) (i := i) (by omega)
    have h1 := judgeF_len (own := own) (draw := draw) l i (by omega)
    have h2 := judgeStep_len (own := own) (draw := draw) (a := judgeF own draw (l.take i)) (o := o)
    rw [judgeF_snoc ho]
    omega
def Apart (u v : Tk) : Prop := ∀ g k k', u = .own g k → v ≠ .own g k'
theorem Apart.nil {v : Tk} : Apart .nil v := fun g k k' e => by cases e
theorem Apart.symm {u v : Tk} (h : Apart u v) : Apart v u := fun g k k' e e' => h g k' k e' e
theorem RO.two {n m : Nat} {st s s2 : St} {u v t2 : Tk} {L L' M : List V} (RU : RO n st s (.sl u L) L) (RV : RO m st s (.sl v M) M) (h : Apart u v) (k1 : Own n s2 (.sl t2 L') L') (k2 : AppSt s (.sl u L) s2 (.sl t2 L')) :
    RO n st s2 (.sl t2 L') L' ∧ RO m st s2 (.sl v M) M ∧ Apart t2 v := by
  have R2 := RU.app k1 k2
  refine ⟨R2, ⟨?_, R2.weak, R2.lt, RV.tok⟩, fun g k k' e e' => ?_⟩
  · rcases RV.own with o | ⟨g, h1, h2, h3⟩
    · exact .inl o
    · refine .inr ⟨g, h1, k2.own g _ h2 (fun l k e => ?_), by have := k2.sz; omega⟩
      simp only [V.sl.injEq] at h1 e
      exact h g k m e.1 h1.1
  · subst e e'
    rcases k2.tok g k L' rfl with ⟨l', e1⟩ | e1
    · simp only [V.sl.injEq] at e1
      exact h g k k' e1.1 rfl
    · rcases RV.own with ⟨o, _⟩ | ⟨g', h1, h2, h3⟩
      · cases o
      · simp only [V.sl.injEq, Tk.own.injEq] at h1
        obtain ⟨⟨rfl, _⟩, _⟩ := h1
        omega
theorem mono_256 {cs : List V} (h : cs.length = 256) : _root_.Go.Proofs.YtmmapbojjgpggaaGreat.mono cs := by
  match cs, h with
  | a :: b :: l, _ => trivial
section
variable {st : St} {tk : Tk} {l : List Opt} {own draw : Int}
set_option maxRecDepth 100000 in
set_option maxHeartbeats 16000000 in
theorem loptJudge_v (hG : GoodO l) (hl : l.length ≤ 1000000) (d0 : 0 ≤ draw) (d1 : draw < 4294967296) : VCalls Tryz.prog 163 [.sl tk (opts l), .sc (.int .u32 own), .sc (.int .u32 draw)] st fun r s =>
    (∃ t2, r = .tup [.sc (.int .u8 (judgeL l own draw).1), .sl t2 (opts (judgeL l own draw).2)]) ∧ st = s := by
  refine vcalls_enter vc163 (Nat.le_of_ble_eq_true rfl) fun hwf hok => ?_
  show Run _ Vc163.body (.fin (finQ Vc163.res _)) _ _
  unfold Vc163 zg zn zo
  have hlt := hwf.lt
  simp (maxSteps := 3000000) only [go_sem, ↓reduceIte]
  intro b hb
  generalize hs : st.put b _ = s0
  have Bb : s0.box b = some (seenC []) := by
    rw [← hs, seenC_nil]
    exact put_box_same
  have W0 : st.weak s0 := by rw [← hs]; exact weak_put hwf.weak hb
  have L0 : s0.Lt := by rw [← hs]; exact hlt.put
  clear hs
  refine run_loop [8, 9, 12, 13, 14, 17, 18, 19, 20, 21, 22, 23, 24, 25, 26, 27, 28, 29, 30, 31, 32, 33, 34, 35, 36, 37, 38, 39, 40, 41, 42, 43, 44, 45, 46, 47, 48, 49, 50, 51, 52, 53] (fun B s => ∃ (i : Nat) (u v : Tk), i ≤ l.length ∧ B 17 = .sc (.int .i64 i) ∧ B 8 = .sl u (opts (judgeF own draw (l.take i)).1) ∧ B 9 = .sl v (opts (judgeF own draw (l.take i)).2.1) ∧
    RO 2 st s (.sl u (opts (judgeF own draw (l.take i)).1)) (opts (judgeF own draw (l.take i)).1) ∧ RO 2 st s (.sl v (opts (judgeF own draw (l.take i)).2.1)) (opts (judgeF own draw (l.take i)).2.1) ∧ Apart u v ∧
    s.box b = some (seenC (judgeF own draw (l.take i)).2.2)) (fun B _ => l.length - vnat (B 17)) rfl ?_ ?_
  · exact ⟨0, .nil, .nil, by omega, rfl, rfl, rfl, RO.nil W0 L0, RO.nil W0 L0, .nil, Bb⟩
  · rintro B s ⟨i, u, v, hi, h17, h8, h9, RU, RV, hap, hbx⟩
    have hFl := judgeF_len (own := own) (draw := draw) l i hi
    by_cases c1 : i < l.length
    · obtain ⟨o, ho⟩ := get_ex c1
      obtain ⟨o0, o1, oB, oL⟩ := hG.get ho
      have hsn := judgeF_snoc (own := own) (draw := draw) ho
      obtain ⟨⟨rej, nak, seen⟩, hF⟩ : ∃ F, F = judgeF own draw (l.take i) := ⟨_, rfl⟩
      rw [← hF] at hFl h8 h9 RU RV hbx hsn
      simp only at hFl h8 h9 RU RV hbx
      obtain ⟨t, D⟩ := o
      simp only at o0 o1 oB oL
      obtain ⟨tn, rfl⟩ : ∃ tn : Nat, t = (tn : Int) := ⟨t.toNat, by omega⟩
      have htl : tn < 256 := by omega
      have hget := seenC_get (seen := seen) htl
      simp (maxSteps := 3000000) only [go_sem, ↓reduceIte, h17, opts_len, opts_at ho, decide_eq_true (show (i : Int) < (l.length : Int) by omega)]
      repeat (apply And.intro; focus (first | omega | (simp; done)))
      intro c hc
      have sc : st.sz ≤ c := by have := RU.weak.sz; omega
      have bc : b ≠ c := by have := RU.lt.box b _ hbx; omega
      have RU1 := RU.put (c := c) (cs := [.sc (.int .u8 (tn : Int)), .sl .no (bs D)]) sc
      have RV1 := RV.put (c := c) (cs := [.sc (.int .u8 (tn : Int)), .sl .no (bs D)]) sc
      have hbx1 : (s.put c [.sc (.int .u8 (tn : Int)), .sl .no (bs D)]).box b = some (seenC seen) := by rw [put_box_ne bc]; exact hbx
      have hcx1 : (s.put c [.sc (.int .u8 (tn : Int)), .sl .no (bs D)]).box c = some [.sc (.int .u8 (tn : Int)), .sl .no (bs D)] := put_box_same
      generalize s.put c _ = s1 at RU1 RV1 hbx1 hcx1 ⊢
      refine Cal.mk loptSize_v ?_
      rintro _ _ ⟨rfl, rfl⟩ -
      by_cases c2 : sizeT (tn : Int) = (D.length : Int)
      rotate_left
      · have hj : judgeStep own draw (rej, nak, seen) ((tn : Int), D) = (rej ++ [((tn : Int), D)], nak, seen) := if_pos (.inl c2)
        rw [hj] at hsn
        simp (maxSteps := 3000000) only [go_sem, ↓reduceIte, hcx1, bs_len, decide_eq_true c2, h8]
        refine App.mk (bytes := 32) (l := opts rej) (ys := opts [((tn : Int), D)]) RU1.own (allSz_opts _) (by simp only [opts_len, List.length_cons, List.length_nil]; unfold maxLen; omega) (by simp only [opts_len, List.length_cons, List.length_nil]; omega) ?_
        intro r2 s2 k1 k2
        rw [opts_append] at k1
        obtain ⟨t2, rfl⟩ := own_sl k1
        obtain ⟨RU2, RV2, hap2⟩ := RU1.two RV1 hap k1 k2
        have hbx2 := hbx1
        rw [← k2.box] at hbx2
        simp (maxSteps := 3000000) only [go_sem, ↓reduceIte, h17, h9]
        repeat (apply And.intro; focus (first | omega | (simp; done)))
        exact ⟨⟨i + 1, t2, v, by omega, by simp, by rw [hsn], by rw [hsn], by rw [hsn]; exact RU2, by rw [hsn]; exact RV2, hap2, by rw [hsn]; exact hbx2⟩, by omega⟩
      by_cases c3 : (tn : Int) ∈ seen
      · have hj : judgeStep own draw (rej, nak, seen) ((tn : Int), D) = (rej ++ [((tn : Int), D)], nak, seen) := if_pos (.inr c3)
        rw [hj] at hsn
        simp (maxSteps := 3000000) only [go_sem, ↓reduceIte, hcx1, bs_len, decide_eq_false (show ¬ sizeT (tn : Int) ≠ (D.length : Int) from fun e => e c2), hbx1, hget, decide_eq_true c3, h8]
        repeat (apply And.intro; focus (first | omega | (simp; done)))
        refine App.mk (bytes := 32) (l := opts rej) (ys := opts [((tn : Int), D)]) RU1.own (allSz_opts _) (by simp only [opts_len, List.length_cons, List.length_nil]; unfold maxLen; omega) (by simp only [opts_len, List.length_cons, List.length_nil]; omega) ?_
        intro r2 s2 k1 k2
        rw [opts_append] at k1
        obtain ⟨t2, rfl⟩ := own_sl k1
        obtain ⟨RU2, RV2, hap2⟩ := RU1.two RV1 hap k1 k2
        have hbx2 := hbx1
        rw [← k2.box] at hbx2
        simp (maxSteps := 3000000) only [go_sem, ↓reduceIte, h17, h9]
        repeat (apply And.intro; focus (first | omega | (simp; done)))
        exact ⟨⟨i + 1, t2, v, by omega, by simp, by rw [hsn], by rw [hsn], by rw [hsn]; exact RU2, by rw [hsn]; exact RV2, hap2, by rw [hsn]; exact hbx2⟩, by omega⟩
      · have hj : judgeStep own draw (rej, nak, seen) ((tn : Int), D) = (rej, nak ++ (betterO ((tn : Int), D) own draw).toList, (tn : Int) :: seen) := if_neg (fun e => e.elim (fun e => e c2) c3)
        rw [hj] at hsn
        have hset := seenC_set (seen := seen) htl
        simp (maxSteps := 3000000) only [go_sem, ↓reduceIte, hcx1, bs_len, decide_eq_false (show ¬ sizeT (tn : Int) ≠ (D.length : Int) from fun e => e c2), hbx1, hget, decide_eq_false c3, hset, put_box_ne bc.symm]
        refine ⟨⟨by omega, by omega⟩, ⟨by omega, by omega⟩, by rw [seenC_len]; omega, mono_256 (seenC_len _), ?_⟩
        have RU2 := RU1.put (c := b) (cs := seenC ((tn : Int) :: seen)) hb
        have RV2 := RV1.put (c := b) (cs := seenC ((tn : Int) :: seen)) hb
        have hbx2 : (s1.put b (seenC ((tn : Int) :: seen))).box b = some (seenC ((tn : Int) :: seen)) := put_box_same
        generalize s1.put b _ = s2 at RU2 RV2 hbx2 ⊢
        refine Cal.mk (loptBetter_v (o := ((tn : Int), D)) oB d0 d1) ?_
        rintro _ _ ⟨rfl, rfl⟩ -
        cases hx : betterO ((tn : Int), D) own draw with
        | none =>
          rw [hx] at hsn
          simp only [Option.toList_none, List.append_nil] at hsn
          simp (maxSteps := 3000000) only [go_sem, ↓reduceIte, betV, Option.isSome_none]
          intro e he
          have se : st.sz ≤ e := by have := RU2.weak.sz; omega
          have be : b ≠ e := by have := RU2.lt.box b _ hbx2; omega
          simp (maxSteps := 3000000) only [go_sem, ↓reduceIte, h17, h8, h9]
          repeat (apply And.intro; focus (first | omega | (simp; done)))
          exact ⟨⟨i + 1, u, v, by omega, by simp, by rw [hsn], by rw [hsn], by rw [hsn]; exact RU2.put se, by rw [hsn]; exact RV2.put se, hap, by rw [hsn, put_box_ne be]; exact hbx2⟩, by omega⟩
        | some x =>
          rw [hx] at hsn
          simp only [Option.toList_some] at hsn
          simp (maxSteps := 3000000) only [go_sem, ↓reduceIte, betV, optV, Option.isSome_some]
          intro e he
          have se : st.sz ≤ e := by have := RU2.weak.sz; omega
          have be : b ≠ e := by have := RU2.lt.box b _ hbx2; omega
          have RU3 := RU2.put (c := e) (cs := [.sc (.int .u8 x.1), .sl .no (bs x.2)]) se
          have RV3 := RV2.put (c := e) (cs := [.sc (.int .u8 x.1), .sl .no (bs x.2)]) se
          have hbx3 : (s2.put e [.sc (.int .u8 x.1), .sl .no (bs x.2)]).box b = some (seenC ((tn : Int) :: seen)) := by rw [put_box_ne be]; exact hbx2
          generalize s2.put e _ = s3 at RU3 RV3 hbx3 ⊢
          simp (maxSteps := 3000000) only [go_sem, h9]
          refine App.mk (bytes := 32) (l := opts nak) (ys := opts [x]) RV3.own (allSz_opts _) (by simp only [opts_len, List.length_cons, List.length_nil]; unfold maxLen; omega) (by simp only [opts_len, List.length_cons, List.length_nil]; omega) ?_
          intro r2 s4 k1 k2
          rw [opts_append] at k1
          obtain ⟨t2, rfl⟩ := own_sl k1
          obtain ⟨RV4, RU4, hap2⟩ := RV3.two RU3 hap.symm k1 k2
          have hbx4 := hbx3
          rw [← k2.box] at hbx4
          simp (maxSteps := 3000000) only [go_sem, ↓reduceIte, h17, h8]
          repeat (apply And.intro; focus (first | omega | (simp; done)))
          exact ⟨⟨i + 1, u, t2, by omega, by simp, by rw [hsn], by rw [hsn], by rw [hsn]; exact RU4, by rw [hsn]; exact RV4, hap2.symm, by rw [hsn]; exact hbx4⟩, by omega⟩
    · obtain rfl : i = l.length := by omega
      rw [List.take_length] at h8 h9 RU RV hFl
      unfold judgeL
      simp only
      generalize judgeF own draw l = F at h8 h9 RU RV hFl ⊢
      obtain ⟨rej, nak, seen⟩ := F
      simp only at h8 h9 RU RV hFl ⊢
      cases rej with
      | cons x rej =>
        simp (maxSteps := 3000000) only [go_sem, ↓reduceIte, h17, h8, opts_len, List.length_cons, decide_eq_true (show (0 : Int) < ((rej.length + 1 : Nat) : Int) by omega)]
        exact ⟨_, _, Wk.refl _, RU.weak, ⟨u, rfl⟩, rfl⟩
      | nil =>
        cases nak with
        | cons x nak =>
          simp (maxSteps := 3000000) only [go_sem, ↓reduceIte, h17, h8, h9, opts_len, List.length_cons, List.length_nil, decide_eq_false (show ¬ (0 : Int) < ((0 : Nat) : Int) by decide), decide_eq_true (show (0 : Int) < ((nak.length + 1 : Nat) : Int) by omega)]
          exact ⟨_, _, Wk.refl _, RU.weak, ⟨v, rfl⟩, rfl⟩
        | nil =>
          simp (maxSteps := 3000000) only [go_sem, ↓reduceIte, h17, h8, h9, opts_len, List.length_nil, decide_eq_false (show ¬ (0 : Int) < ((0 : Nat) : Int) by decide)]
          exact ⟨_, _, Wk.refl _, RU.weak, ⟨tk, rfl⟩, rfl⟩
end
end
section
open Go
section
variable {P : Program} {k : Kt} {A : Nat → V} {st : St}
theorem Grd.decd {p : Prop} {_ : Decidable p} {w : Bool} {o : VO} {rest : List VO} (h1 : p → Grd P (.sc (.bool (decide p))) w o rest k A st) (h2 : ¬ p → Grd P (.sc (.bool (decide p))) w o rest k A st) : Grd P (.sc (.bool (decide p))) w o rest k A st := by
  by_cases h : p
  · exact h1 h
  · exact h2 h
theorem Grd.two {b : Bool} {w : Bool} {o : VO} {rest : List VO} (h1 : b = true → Grd P (.sc (.bool b)) w o rest k A st) (h2 : b = false → Grd P (.sc (.bool b)) w o rest k A st) : Grd P (.sc (.bool b)) w o rest k A st := by
  cases h : b
  · exact h2 h |> fun x => by rw [h] at x; exact x
  · exact h1 h |> fun x => by rw [h] at x; exact x
end
end
section
open Go
theorem foldl_snoc {α β : Type} {f : β → α → β} {a : β} {l : List α} {i : Nat} {o : α} (h : l[i]? = some o) : (l.take (i + 1)).foldl f a = f ((l.take i).foldl f a) o := by
  rw [take_snoc h]
  simp only [List.foldl_append, List.foldl_cons, List.foldl_nil]
section
variable {st : St} {tk : Tk} {l : List Opt} {w0 : Want}
theorem ofStep_good {w : Want} {o : Opt} (h : w.Good) (hB : IsB o.2) : (ofStep w o).Good := by
  have h2 := num2_rng hB
  have h4 := num4_rng hB
  unfold ofStep
  split
  · exact ⟨h2.1, h2.2, h.g0, h.g1⟩
  split
  · exact ⟨h.m0, h.m1, h4.1, h4.2⟩
  split
  · exact ⟨h.m0, h.m1, h.g0, h.g1⟩
  split
  · exact ⟨h.m0, h.m1, h.g0, h.g1⟩
  · exact h
theorem nakStep_good {w : Want} {o : Opt} (h : w.Good) (hB : IsB o.2) : (nakStep w o).Good := by
  have h2 := num2_rng hB
  have h4 := num4_rng hB
  unfold nakStep
  split
  · exact ⟨h2.1, h2.2, h.g0, h.g1⟩
  split
  · exact ⟨h.m0, h.m1, h4.1, h4.2⟩
  · exact h
theorem fold_good {f : Want → Opt → Want} (hf : ∀ w o, w.Good → IsB o.2 → (f w o).Good) : ∀ {l : List Opt} {w : Want}, w.Good → GoodO l → (l.foldl f w).Good
  | [], _, h, _ => h
  | o :: l, w, h, hG => fold_good hf (l := l) (hf w o h (hG o (by simp)).2.2.1) (fun x hx => hG x (by simp [hx]))
theorem ofL_good (h : GoodO l) : (ofL l).Good := fold_good (fun _ _ => ofStep_good) Want.zero_good h
theorem nakedL_good (hw : w0.Good) (h : GoodO l) : (nakedL w0 l).Good := fold_good (fun _ _ => nakStep_good) hw h
theorem rejectedL_good : ∀ {l : List Opt} {w : Want}, w.Good → (rejectedL w l).1.Good
  | [], _, h => h
  | o :: l, w, h => by
    unfold rejectedL
    split
    · exact rejectedL_good ⟨Int.le_refl 0, by show (0 : Int) < 65536; decide, h.g0, h.g1⟩
    split
    · exact h
    split
    · exact rejectedL_good ⟨h.m0, h.m1, Int.le_refl 0, by show (0 : Int) < 4294967296; decide⟩
    split
    · exact rejectedL_good ⟨h.m0, h.m1, h.g0, h.g1⟩
    split
    · exact rejectedL_good ⟨h.m0, h.m1, h.g0, h.g1⟩
    · exact rejectedL_good h
set_option maxRecDepth 100000 in
set_option maxHeartbeats 16000000 in
theorem loptOf_v (hG : GoodO l) (hl : l.length ≤ 1000000) : VCalls Tryz.prog 161 [.sl tk (opts l)] st fun r s => r = .agg (ofL l).cells ∧ st = s := by
  refine vcalls_enterq pc161 (Nat.le_of_ble_eq_true rfl) rfl fun hwf hok => ?_
  show Run _ Pc161.body (.fin (finP Pc161.res _)) _ _
  unfold Pc161 zn zo
  simp (maxSteps := 3000000) only [go_sem, ↓reduceIte]
  refine run_loop [3, 5, 8, 9, 10, 11, 13, 14, 15, 17, 18, 20, 21, 23, 24, 26, 27, 29, 30, 32] (fun B s => s = st ∧ ∃ (i : Nat), i ≤ l.length ∧ B 8 = .sc (.int .i64 i) ∧ B 3 = .agg ((l.take i).foldl ofStep .zero).cells) (fun B _ => l.length - vnat (B 8)) rfl ?_ ?_
  · exact ⟨rfl, 0, by omega, rfl, rfl⟩
  · rintro B s ⟨rfl, i, hi, h8, h3⟩
    by_cases c1 : i < l.length
    · obtain ⟨o, ho⟩ := get_ex c1
      obtain ⟨o0, o1, oB, oL⟩ := hG.get ho
      have hsn := foldl_snoc (f := ofStep) (a := .zero) ho
      generalize (l.take i).foldl ofStep .zero = X at h3 hsn
      obtain ⟨t, D⟩ := o
      obtain ⟨mru, auth, magic, pfc, acfc⟩ := X
      simp only [Want.cells] at h3
      simp only at o0 o1 oB oL
      repeat' first | simp (maxSteps := 3000000) only [go_sem, ↓reduceIte, h8, h3, opts_len, opts_at ho, decide_eq_true (show (i : Int) < (l.length : Int) by omega)] | (refine If.dec (fun h => ?_) (fun h => ?_) <;> first | simp only [decide_eq_true h] | simp only [decide_eq_false h] | skip) | (refine Grd.decd (fun h => ?_) (fun h => ?_) <;> first | simp only [decide_eq_true h] | simp only [decide_eq_false h] | skip) | (refine If.mk (fun h => ?_) (fun h => ?_) <;> first | simp only [h] | skip) | (refine Grd.two (fun h => ?_) (fun h => ?_) <;> first | simp only [h] | skip) | (apply And.intro; focus (first | omega | (simp; done))) | (refine Cal.mk (Get16_n oB) ?_; rintro _ _ ⟨rfl, rfl⟩ -) | (refine Cal.mk (Get32_n oB) ?_; rintro _ _ ⟨rfl, rfl⟩ -)
      all_goals refine ⟨⟨i + 1, by omega, by simp, ?_⟩, by omega⟩
      all_goals (rw [hsn, ofStep]; simp [Want.cells, *])
    · obtain rfl : i = l.length := by omega
      rw [List.take_length] at h3
      simp (maxSteps := 3000000) only [go_sem, ↓reduceIte, h8, h3, opts_len, Want.cells]
      exact ⟨_, _, Wk.refl _, hwf.weak, rfl, rfl⟩
set_option maxRecDepth 100000 in
set_option maxHeartbeats 16000000 in
theorem loptNaked_v (hG : GoodO l) (hl : l.length ≤ 1000000) : VCalls Tryz.prog 164 [.agg w0.cells, .sl tk (opts l)] st fun r s => r = .agg (nakedL w0 l).cells ∧ st = s := by
  refine vcalls_enterq pc164 (Nat.le_of_ble_eq_true rfl) rfl fun hwf hok => ?_
  show Run _ Pc164.body (.fin (finP Pc164.res _)) _ _
  unfold Pc164 zg zn zo
  simp (maxSteps := 3000000) only [go_sem, ↓reduceIte, Want.cells]
  refine run_loop [2, 6, 9, 10, 11, 12, 13, 15, 16, 19, 20, 21, 22, 25, 26, 27, 30, 31, 32, 33, 36, 37, 38, 39, 41, 42, 44, 46, 47, 50, 51, 52, 53, 56, 57, 58, 61, 62, 63, 64, 66, 67, 69] (fun B s => s = st ∧ ∃ (i : Nat), i ≤ l.length ∧ B 9 = .sc (.int .i64 i) ∧ B 2 = .agg ((l.take i).foldl nakStep w0).cells) (fun B _ => l.length - vnat (B 9)) rfl ?_ ?_
  · exact ⟨rfl, 0, by omega, rfl, rfl⟩
  · rintro B s ⟨rfl, i, hi, h9, h2⟩
    by_cases c1 : i < l.length
    · obtain ⟨o, ho⟩ := get_ex c1
      obtain ⟨o0, o1, oB, oL⟩ := hG.get ho
      have hsn := foldl_snoc (f := nakStep) (a := w0) ho
      generalize (l.take i).foldl nakStep w0 = X at h2 hsn
      obtain ⟨t, D⟩ := o
      obtain ⟨mru, auth, magic, pfc, acfc⟩ := X
      simp only [Want.cells] at h2
      simp only at o0 o1 oB oL
      repeat' first | simp (maxSteps := 3000000) only [go_sem, ↓reduceIte, h9, h2, opts_len, bs_len, opts_at ho, decide_eq_true (show (i : Int) < (l.length : Int) by omega)] | (refine If.dec (fun h => ?_) (fun h => ?_) <;> first | simp only [decide_eq_true h] | simp only [decide_eq_false h] | skip) | (refine Grd.decd (fun h => ?_) (fun h => ?_) <;> first | simp only [decide_eq_true h] | simp only [decide_eq_false h] | skip) | (refine If.mk (fun h => ?_) (fun h => ?_) <;> first | simp only [h] | skip) | (refine Grd.two (fun h => ?_) (fun h => ?_) <;> first | simp only [h] | skip) | (apply And.intro; focus (first | omega | (simp; done))) | (refine Cal.mk (Get16_n oB) ?_; rintro _ _ ⟨rfl, rfl⟩ -) | (refine Cal.mk (Get32_n oB) ?_; rintro _ _ ⟨rfl, rfl⟩ -)
      all_goals first | omega | (refine ⟨⟨i + 1, by omega, by simp, ?_⟩, by omega⟩; rw [hsn, nakStep]; (try dsimp only); (repeat' split) <;> first | rfl | (exfalso; omega) | simp_all)
    · obtain rfl : i = l.length := by omega
      rw [List.take_length] at h2
      simp (maxSteps := 3000000) only [go_sem, ↓reduceIte, h9, h2, opts_len, Want.cells]
      exact ⟨_, _, Wk.refl _, hwf.weak, rfl, rfl⟩
theorem rejectedL_drop {w : Want} {l : List Opt} {i : Nat} {o : Opt} (h : l[i]? = some o) : rejectedL w (l.drop i) = rejectedL w (o :: l.drop (i + 1)) := by
  rw [(List.drop_eq_getElem_cons (List.getElem?_eq_some_iff.1 h).1), (List.getElem?_eq_some_iff.1 h).2]
set_option maxRecDepth 100000 in
set_option maxHeartbeats 16000000 in
theorem loptRejected_v (hG : GoodO l) (hl : l.length ≤ 1000000) : VCalls Tryz.prog 165 [.agg w0.cells, .sl tk (opts l)] st fun r s => r = .tup [.agg (rejectedL w0 l).1.cells, .sc (.bool (rejectedL w0 l).2)] ∧ st = s := by
  refine vcalls_enterq pc165 (Nat.le_of_ble_eq_true rfl) rfl fun hwf hok => ?_
  show Run _ Pc165.body (.fin (finP Pc165.res _)) _ _
  unfold Pc165 zn zo
  simp (maxSteps := 3000000) only [go_sem, ↓reduceIte, Want.cells]
  refine run_loop [2, 4, 5, 7, 10, 11, 12, 13, 15, 16, 17, 19, 20, 21, 23, 24, 25, 26, 28, 29, 31, 32, 34] (fun B s => s = st ∧ ∃ (i : Nat) (w : Want), i ≤ l.length ∧ B 10 = .sc (.int .i64 i) ∧ B 2 = .agg w.cells ∧ B 4 = .agg [.sc (.int .u16 0), .sc (.bool false), .sc (.int .u32 0), .sc (.bool false), .sc (.bool false)] ∧ rejectedL w0 l = rejectedL w (l.drop i)) (fun B _ => l.length - vnat (B 10)) rfl ?_ ?_
  · exact ⟨rfl, 0, w0, by omega, rfl, rfl, rfl, rfl⟩
  · rintro B s ⟨rfl, i, ⟨mru, auth, magic, pfc, acfc⟩, hi, h10, h2, h4, hr⟩
    rw [hr]
    simp only [Want.cells] at h2
    by_cases c1 : i < l.length
    · obtain ⟨⟨t, D⟩, ho⟩ := get_ex c1
      rw [rejectedL_drop ho]
      rw [rejectedL_drop ho] at hr
      clear hr
      repeat' first | simp (maxSteps := 3000000) only [go_sem, ↓reduceIte, h10, h2, h4, opts_len, opts_at ho, decide_eq_true (show (i : Int) < (l.length : Int) by omega)] | (refine If.dec (fun h => ?_) (fun h => ?_) <;> first | simp only [decide_eq_true h] | simp only [decide_eq_false h] | skip) | (refine Grd.decd (fun h => ?_) (fun h => ?_) <;> first | simp only [decide_eq_true h] | simp only [decide_eq_false h] | skip) | (refine If.mk (fun h => ?_) (fun h => ?_) <;> first | simp only [h] | skip) | (refine Grd.two (fun h => ?_) (fun h => ?_) <;> first | simp only [h] | skip) | (apply And.intro; focus (first | omega | (simp; done)))
      all_goals try (refine ⟨_, _, Wk.refl _, hwf.weak, ?_, rfl⟩; rw [rejectedL]; (try dsimp only); (repeat' split) <;> first | rfl | (exfalso; omega) | simp_all; done)
      all_goals (refine ⟨⟨i + 1, ⟨_, _, _, _, _⟩, by omega, by simp, rfl, ?_⟩, by omega⟩; rw [rejectedL]; (try dsimp only); (repeat' split) <;> first | rfl | (exfalso; omega) | simp_all)
    · obtain rfl : i = l.length := by omega
      rw [List.drop_length]
      simp (maxSteps := 3000000) only [go_sem, ↓reduceIte, h10, h2, h4, opts_len, Want.cells, rejectedL]
      exact ⟨_, _, Wk.refl _, hwf.weak, rfl, rfl⟩
end
end
section
open Go
section
variable {st : St} {b n : Nat} {pre post : List V}
set_option maxRecDepth 100000 in
theorem guardSee_v {c0 c1 c2 c3 c4 c5 c6 c7 c8 c9 c10 : V} {g own x : Int} (hb : st.box b = some [c0, c1, c2, c3, c4, c5, c6, c7, c8, c9, c10, .sc (.int .i64 g)]) (h0 : 0 ≤ g) (h1 : g ≤ 2000000000) :
    VCalls Tryz.prog 162 [.sc (.pointer (some ⟨b, 11, none⟩)), .sc (.int .u32 own), .sc (.int .u32 x)] st fun r s' => r = .sc (.bool (decide (own ≠ 0 ∧ own = x))) ∧ s' = st.put b [c0, c1, c2, c3, c4, c5, c6, c7, c8, c9, c10, .sc (.int .i64 (if own ≠ 0 ∧ own = x then g + 1 else 0))] := by
  refine vcalls_enter vc162 (Nat.le_of_ble_eq_true rfl) fun hwf hok => ?_
  show Run _ Vc162.body (.fin (finQ Vc162.res _)) _ _
  unfold Vc162 zg zn zo
  have hlt := hwf.lt
  by_cases c : own = 0
  · simp (maxSteps := 3000000) only [go_sem, ↓reduceIte, decide_eq_true c, hb]
    exact ⟨_, _, Wk.refl _, (hlt.put (b := b)).weak, by simp [c], by simp [c]⟩
  by_cases d : own = x
  · simp (maxSteps := 3000000) only [go_sem, ↓reduceIte, decide_eq_false c, decide_eq_false (show ¬ own ≠ x from fun k => k d), hb]
    repeat (apply And.intro; focus (first | omega | (simp; done)))
    exact ⟨_, _, Wk.refl _, (hlt.put (b := b)).weak, by rw [decide_eq_true ⟨c, d⟩], by rw [if_pos ⟨c, d⟩]⟩
  · simp (maxSteps := 3000000) only [go_sem, ↓reduceIte, decide_eq_false c, decide_eq_true (show ¬ own = x from d), hb]
    exact ⟨_, _, Wk.refl _, (hlt.put (b := b)).weak, by rw [decide_eq_false (fun k => d k.2)], by rw [if_neg (fun k => d k.2)]⟩
theorem guardLoop_v {c0 c1 c2 c3 c4 c5 c6 c7 c8 c9 c10 : V} {g : Int} (hb : st.box b = some [c0, c1, c2, c3, c4, c5, c6, c7, c8, c9, c10, .sc (.int .i64 g)]) :
    VCalls Tryz.prog 67 [.sc (.pointer (some ⟨b, 11, none⟩))] st fun r s' => r = .sc (.bool (decide (4 ≤ g))) ∧ s' = st := by
  refine vcalls_enter vc67 (Nat.le_of_ble_eq_true rfl) fun hwf hok => ?_
  show Run _ Vc67.body (.fin (finQ Vc67.res _)) _ _
  unfold Vc67 zo
  simp (maxSteps := 3000000) only [go_sem, ↓reduceIte, hb]
  exact ⟨_, _, Wk.refl _, hwf.weak, rfl, rfl⟩
end
end
section
open Go
def w4s (L : List Int) : List V := L.map fun n => .sc (.int .u32 n)
theorem w4s_len (L : List Int) : (w4s L).length = L.length := by simp [w4s]
theorem allSz_w4s (L : List Int) : allSz 1 (w4s L) := fun d hd => by
  obtain ⟨x, _, rfl⟩ := List.mem_map.1 hd; rfl
theorem w4s_append (L M : List Int) : w4s L ++ w4s M = w4s (L ++ M) := by simp [w4s]
theorem ibit_xor_rng (a b : Int) : 0 ≤ ibit .xor .u32 a b ∧ ibit .xor .u32 a b < 4294967296 := by
  have : ∃ z : Int, ibit .xor .u32 a b = z % 4294967296 := ⟨_, rfl⟩
  obtain ⟨z, hz⟩ := this
  omega
theorem madeD_rng (k : Int) : 0 ≤ madeD k ∧ madeD k < 4294967296 := ibit_xor_rng _ _
def DrB (s : St) (d : Nat) (ds : List Int) (k : Int) : Prop := ∃ tk, s.box d = some [.sl tk (w4s ds), .sc (.int .u32 k)]
structure DrG (ds : List Int) (k : Int) : Prop where
  r : ∀ x ∈ ds, 0 ≤ x ∧ x < 4294967296
  l : ds.length ≤ 1000000
  k0 : 0 ≤ k
  k1 : k < 4294967296
section
variable {st : St} {d : Nat} {r : Lr}
theorem next_good (h : DrG r.ds r.k) : DrG r.next.1.ds r.next.1.k ∧ 0 ≤ r.next.2 ∧ r.next.2 < 4294967296 := by
  have h1 := h.r
  have h2 := h.l
  cases hd : r.ds with
  | nil =>
    have hn : r.next = ({ r with k := (r.k + 1) % 4294967296 }, madeD ((r.k + 1) % 4294967296)) := by unfold Lr.next; rw [hd]
    rw [hn]
    exact ⟨⟨h1, h2, (by simp only; omega), (by simp only; omega)⟩, madeD_rng _⟩
  | cons x l =>
    have hn : r.next = ({ r with ds := l, k := (r.k + 1) % 4294967296 }, x) := by unfold Lr.next; rw [hd]
    rw [hn]
    rw [hd] at h1 h2
    simp only [List.length_cons] at h2
    exact ⟨⟨fun y hy => h1 y (by simp only at hy; simp [hy]), (by simp only; omega), (by simp only; omega), (by simp only; omega)⟩, h1 x (by simp)⟩
set_option maxRecDepth 100000 in
set_option maxHeartbeats 4000000 in
theorem drNext_v (hb : DrB st d r.ds r.k) (hG : DrG r.ds r.k) : VCalls Tryz.prog 55 [ptrV d] st fun v s => v = .sc (.int .u32 r.next.2) ∧ DrB s d r.next.1.ds r.next.1.k ∧ Tn [d] st s := by
  obtain ⟨tk, hb⟩ := hb
  refine vcalls_enter vc55 (Nat.le_of_ble_eq_true rfl) fun hwf hok => ?_
  show Run _ Vc55.body (.fin (finQ Vc55.res _)) _ _
  unfold Vc55 zn zo
  have hlt := hwf.lt
  have k0 := hG.k0
  have k1 := hG.k1
  have T1 := (Tn.refl (bx := [d]) hlt).put (b := d) (cs := [.sl tk (w4s r.ds), .sc (.int .u32 ((r.k + 1) % 4294967296))]) (.inl (by simp)) hlt
  cases hd : r.ds with
  | nil =>
    rw [hd] at hb T1
    have hn : r.next = ({ r with k := (r.k + 1) % 4294967296 }, madeD ((r.k + 1) % 4294967296)) := by unfold Lr.next; rw [hd]
    simp (maxSteps := 3000000) only [go_sem, ↓reduceIte, hb, w4s_len, List.length_nil, decide_eq_false (show ¬ (0 : Int) < ((0 : Nat) : Int) by decide)]
    rw [hn, hd]
    exact ⟨_, _, Wk.refl _, T1.lt.weak, rfl, ⟨tk, put_box_same⟩, T1⟩
  | cons x l =>
    have hl := hG.l
    rw [hd] at hb T1 hl
    simp only [List.length_cons] at hl
    have hn : r.next = ({ r with ds := l, k := (r.k + 1) % 4294967296 }, x) := by unfold Lr.next; rw [hd]
    have g0 : (w4s (x :: l))[0]? = some (.sc (.int .u32 x)) := rfl
    have e1 : (w4s (x :: l)).drop 1 = w4s l := rfl
    simp (maxSteps := 3000000) only [go_sem, ↓reduceIte, hb, w4s_len, List.length_cons, decide_eq_true (show (0 : Int) < ((l.length + 1 : Nat) : Int) by omega), g0, e1]
    refine ⟨allSz_w4s _, ?_⟩
    have hb1 : (st.put d [.sl tk (w4s (x :: l)), .sc (.int .u32 ((r.k + 1) % 4294967296))]).box d = some [.sl tk (w4s (x :: l)), .sc (.int .u32 ((r.k + 1) % 4294967296))] := put_box_same
    generalize st.put d _ = s1 at T1 hb1 ⊢
    refine App.mk (bytes := 4) (l := []) (ys := w4s l) own_nil (allSz_w4s _) (by simp only [w4s_len, List.length_nil]; unfold maxLen; omega) (by simp only [w4s_len, List.length_nil]; omega) ?_
    intro r2 s2 k1 k2
    have T2 := T1.app k2 noOwn hlt
    obtain ⟨t2, rfl⟩ := own_sl k1
    rw [List.nil_append] at k1 k2 ⊢
    have hb2 := hb1
    rw [← k2.box] at hb2
    simp (maxSteps := 3000000) only [go_sem, ↓reduceIte, hb2]
    have T3 := T2.put (b := d) (cs := [.sl t2 (w4s l), .sc (.int .u32 ((r.k + 1) % 4294967296))]) (.inl (by simp)) hlt
    rw [hn]
    exact ⟨_, _, Wk.refl _, T3.lt.weak, rfl, ⟨t2, put_box_same⟩, T3⟩
theorem draw_good (h : DrG r.ds r.k) : DrG r.draw.1.ds r.draw.1.k ∧ 0 < r.draw.2 ∧ r.draw.2 < 4294967296 := by
  have h1 := next_good h
  have h2 := next_good h1.1
  unfold Lr.draw
  split
  · rename_i c; exact ⟨h1.1, by have := h1.2; omega, h1.2.2⟩
  split
  · rename_i c; exact ⟨h2.1, by have := h2.2; omega, h2.2.2⟩
  · exact ⟨h2.1, (show (0 : Int) < 1 by decide), (show (1 : Int) < 4294967296 by decide)⟩
theorem next_keep : r.next.1.w = r.w ∧ r.next.1.g = r.g ∧ r.next.1.guard = r.guard := by
  unfold Lr.next
  split <;> exact ⟨rfl, rfl, rfl⟩
theorem draw_keep : r.draw.1.w = r.w ∧ r.draw.1.g = r.g ∧ r.draw.1.guard = r.guard := by
  have h1 := next_keep (r := r)
  have h2 := next_keep (r := r.next.1)
  unfold Lr.draw
  split
  · exact h1
  split
  · exact ⟨h2.1.trans h1.1, h2.2.1.trans h1.2.1, h2.2.2.trans h1.2.2⟩
  · exact ⟨h2.1.trans h1.1, h2.2.1.trans h1.2.1, h2.2.2.trans h1.2.2⟩
set_option maxRecDepth 100000 in
set_option maxHeartbeats 4000000 in
theorem drSome_v (hb : DrB st d r.ds r.k) (hG : DrG r.ds r.k) : VCalls Tryz.prog 28 [ptrV d] st fun v s => v = .sc (.int .u32 r.draw.2) ∧ DrB s d r.draw.1.ds r.draw.1.k ∧ Tn [d] st s := by
  refine vcalls_enter vc28 (Nat.le_of_ble_eq_true rfl) fun hwf hok => ?_
  show Run _ Vc28.body (.fin (finQ Vc28.res _)) _ _
  unfold Vc28 zo
  have hlt := hwf.lt
  simp (maxSteps := 3000000) only [go_sem]
  refine run_loop [2, 3, 4, 5, 6, 7, 8, 9, 10, 11] (fun B s => ∃ (i : Nat) (q : Lr), B 4 = .sc (.int .i64 i) ∧ DrB s d q.ds q.k ∧ DrG q.ds q.k ∧ Tn [d] st s ∧ (i = 0 ∧ q = r ∨ i = 1 ∧ r.next.2 = 0 ∧ q = r.next.1 ∨ i = 2 ∧ r.next.2 = 0 ∧ r.next.1.next.2 = 0 ∧ q = r.next.1.next.1)) (fun B _ => 2 - vnat (B 4)) rfl ?_ ?_
  · exact ⟨0, r, rfl, hb, hG, Tn.refl hlt, .inl ⟨rfl, rfl⟩⟩
  · rintro B s ⟨i, q, h4, hq, hg, T, h⟩
    have hng := (next_good hg).1
    rcases h with ⟨rfl, rfl⟩ | ⟨rfl, e1, rfl⟩ | ⟨rfl, e1, e2, rfl⟩
    · simp (maxSteps := 3000000) only [go_sem, ↓reduceIte, h4, decide_eq_true (show ((0 : Nat) : Int) < 2 by decide)]
      refine Cal.mk (drNext_v hq hg) ?_
      rintro _ s1 ⟨rfl, h1, T1⟩ -
      by_cases c : q.next.2 = 0
      · simp (maxSteps := 3000000) only [go_sem, ↓reduceIte, h4, decide_eq_false (show ¬ q.next.2 ≠ 0 from fun e => e c)]
        repeat (apply And.intro; focus (first | omega | (simp; done)))
        exact ⟨⟨1, _, rfl, h1, hng, T.trans T1, .inr (.inl ⟨rfl, c, rfl⟩)⟩, by omega⟩
      · simp (maxSteps := 3000000) only [go_sem, ↓reduceIte, decide_eq_true (show q.next.2 ≠ 0 from c)]
        exact ⟨_, _, Wk.refl _, T1.lt.weak, by rw [Lr.draw, if_pos c], by rw [Lr.draw, if_pos c]; exact h1, T.trans T1⟩
    · simp (maxSteps := 3000000) only [go_sem, ↓reduceIte, h4, decide_eq_true (show ((1 : Nat) : Int) < 2 by decide)]
      refine Cal.mk (drNext_v hq hg) ?_
      rintro _ s1 ⟨rfl, h1, T1⟩ -
      by_cases c : r.next.1.next.2 = 0
      · simp (maxSteps := 3000000) only [go_sem, ↓reduceIte, h4, decide_eq_false (show ¬ r.next.1.next.2 ≠ 0 from fun e => e c)]
        repeat (apply And.intro; focus (first | omega | (simp; done)))
        exact ⟨⟨2, _, rfl, h1, hng, T.trans T1, .inr (.inr ⟨rfl, e1, c, rfl⟩)⟩, by omega⟩
      · simp (maxSteps := 3000000) only [go_sem, ↓reduceIte, decide_eq_true (show r.next.1.next.2 ≠ 0 from c)]
        have e : r.draw = r.next.1.next := by rw [Lr.draw, if_neg (fun x => x e1), if_pos c]
        exact ⟨_, _, Wk.refl _, T1.lt.weak, by rw [e], by rw [e]; exact h1, T.trans T1⟩
    · simp (maxSteps := 3000000) only [go_sem, ↓reduceIte, h4, decide_eq_false (show ¬ ((2 : Nat) : Int) < 2 by decide)]
      have e : r.draw = (r.next.1.next.1, 1) := by rw [Lr.draw, if_neg (fun x => x e1), if_neg (fun x => x e2)]
      exact ⟨_, _, Wk.refl _, T.lt.weak, by rw [e], by rw [e]; exact hq, T⟩
end
end
section
open Go
theorem ba_ext {a b : ByteArray} (h : a.data.toList = b.data.toList) : a = b := by
  cases a; cases b
  simp only [ByteArray.mk.injEq]
  exact Array.toList_inj.1 h
theorem foldl_push_list : ∀ (L : List Int) (r : ByteArray), (L.foldl (fun r n => r.push (UInt8.ofNat n.toNat)) r).data.toList = r.data.toList ++ L.map fun n => UInt8.ofNat n.toNat
  | [], r => by simp
  | x :: L, r => by rw [List.foldl_cons, foldl_push_list L, List.map_cons]; simp [ByteArray.push]
theorem strOf_list (L : List Int) : (strOf L).data.toList = L.map fun n => UInt8.ofNat n.toNat := by
  unfold strOf
  rw [foldl_push_list]
  rfl
theorem strOf_size (L : List Int) : (strOf L).size = L.length := by
  have := congrArg List.length (strOf_list L)
  simpa using this
theorem strOf_append (L M : List Int) : strOf L ++ strOf M = strOf (L ++ M) := ba_ext (by
  rw [ByteArray.data_append, Array.toList_append, strOf_list, strOf_list, strOf_list, List.map_append])
theorem bytesOf_isB (s : ByteArray) : IsB (bytesOf s) := by
  intro x hx
  obtain ⟨b, _, rfl⟩ := List.mem_map.1 hx
  have := b.toNat_lt
  omega
theorem bytesOf_len (s : ByteArray) : (bytesOf s).length = s.size := by
  rw [bytesOf, List.length_map, Array.length_toList]; rfl
theorem bytesOf_strOf {L : List Int} (h : IsB L) : bytesOf (strOf L) = L := by
  unfold bytesOf
  rw [strOf_list, List.map_map]
  refine (List.map_congr_left fun x hx => ?_).trans (List.map_id _)
  obtain ⟨h0, h1⟩ := h x hx
  simp only [Function.comp, id_eq]
  rw [UInt8.toNat_ofNat']
  omega
theorem strOf_bytesOf (s : ByteArray) : strOf (bytesOf s) = s := ba_ext (by
  rw [strOf_list, bytesOf, List.map_map]
  refine (List.map_congr_left fun x _ => ?_).trans (List.map_id _)
  simp [Function.comp])
theorem strOf_inj {L M : List Int} (h : IsB L) (k : IsB M) : strOf L = strOf M ↔ L = M :=
  ⟨fun e => by rw [← bytesOf_strOf h, ← bytesOf_strOf k, e], fun e => by rw [e]⟩
theorem strOf_eq_dec {L M : List Int} (h : IsB L) (k : IsB M) : decide (strOf L = strOf M) = decide (L = M) := decide_eq_decide.2 (strOf_inj h k)
theorem strOf_nil : (⟨#[]⟩ : ByteArray) = strOf [] := rfl
theorem strOf_ext (L : List Int) (a b : Nat) : (strOf L).extract a b = strOf ((L.take b).drop a) := ba_ext (by
  rw [ByteArray.data_extract, strOf_list]
  rw [Array.toList_extract, strOf_list]
  simp only [List.extract, List.map_drop, List.map_take]
  rw [List.drop_take])
theorem byL_strOf {L : List Int} (h : IsB L) : byL (strOf L) = bs L := by
  show bs (bytesOf (strOf L)) = bs L
  rw [bytesOf_strOf h]
theorem byL_bs (s : ByteArray) : byL s = bs (bytesOf s) := rfl
theorem isB_one {x : Int} (h0 : 0 ≤ x) (h1 : x < 256) : IsB [x] := by
  intro y hy
  simp at hy
  subst hy
  exact ⟨h0, h1⟩
theorem isB_nil : IsB [] := by intro x hx; cases hx
def digs : Nat → Nat → List Int
  | 0, n => [48 + (n : Int)]
  | k + 1, n => if n < 10 then [48 + (n : Int)] else digs k (n / 10) ++ [48 + ((n % 10 : Nat) : Int)]
theorem digs_len : ∀ (k n : Nat), (digs k n).length ≤ k + 1
  | 0, n => by simp [digs]
  | k + 1, n => by
    unfold digs
    split
    · simp
    · have := digs_len k (n / 10)
      simp; omega
theorem digs_isB : ∀ (k n : Nat), n < 10 ^ (k + 1) → IsB (digs k n)
  | 0, n, h => by simp only [Nat.zero_add, Nat.pow_one] at h; exact isB_one (by omega) (by omega)
  | k + 1, n, h => by
    unfold digs
    split
    · exact isB_one (by omega) (by omega)
    · refine (digs_isB k (n / 10) ?_).append (isB_one (by omega) (by omega))
      rw [Nat.pow_succ] at h
      omega
def digOk (c : Int) : Bool := decide (48 ≤ c) && decide (c ≤ 57)
def valL (L : List Int) : Int := L.foldl (fun v c => 10 * v + c - 48) 0
theorem valL_snoc (L : List Int) (c : Int) : valL (L ++ [c]) = 10 * valL L + c - 48 := by simp [valL]
theorem valL_bound : ∀ (L : List Int) (v : Int) (m : Nat), L.all digOk = true → 0 ≤ v → v < (10 : Int) ^ m → 0 ≤ L.foldl (fun v c => 10 * v + c - 48) v ∧ L.foldl (fun v c => 10 * v + c - 48) v < (10 : Int) ^ (m + L.length)
  | [], v, m, _, h0, h1 => ⟨h0, h1⟩
  | c :: L, v, m, h, h0, h1 => by
    simp only [List.all_cons, Bool.and_eq_true, digOk, decide_eq_true_eq] at h
    rw [List.foldl_cons, List.length_cons, show m + (L.length + 1) = (m + 1) + L.length by omega]
    refine valL_bound L _ (m + 1) (by simpa [digOk] using h.2) (by omega) ?_
    rw [Int.pow_succ]; omega
theorem pow10_le {k : Nat} (h : k ≤ 13) : (10 : Int) ^ k ≤ 10000000000000 := by
  have h13 : ∀ k : Nat, k ≤ 13 → (10 : Int) ^ k ≤ 10000000000000 := by decide
  exact h13 _ h
theorem valL_le {L : List Int} (h : L.all digOk = true) (hl : L.length ≤ 13) : 0 ≤ valL L ∧ valL L < 10000000000000 := by
  have := valL_bound L 0 0 h (Int.le_refl _) (by decide)
  have h2 := pow10_le hl
  rw [Nat.zero_add] at this
  exact ⟨this.1, by have := this.2; unfold valL; omega⟩
def rdN (L : List Int) : Int × Bool :=
  if 13 < L.length then (0, false) else if L.all digOk = true then (if digs 13 (valL L).toNat = L ∧ valL L ≤ 1099511627776 then (valL L, true) else (0, false)) else (0, false)
def ss (LL : List (List Int)) : List V := LL.map fun L => .sc (.string (strOf L))
theorem ss_len (LL : List (List Int)) : (ss LL).length = LL.length := by simp [ss]
theorem ss_get (LL : List (List Int)) (i : Nat) : (ss LL)[i]? = (LL[i]?).map fun L => .sc (.string (strOf L)) := by simp [ss]
theorem ss_append (A B : List (List Int)) : ss A ++ ss B = ss (A ++ B) := by simp [ss]
theorem allSz_ss (LL : List (List Int)) : allSz 1 (ss LL) := fun d hd => by
  obtain ⟨x, _, rfl⟩ := List.mem_map.1 hd; rfl
def splS (c : Int) (s : List (List Int) × List Int) (x : Int) : List (List Int) × List Int := if x = c then (s.1 ++ [s.2], []) else (s.1, s.2 ++ [x])
def splF (c : Int) (L : List Int) : List (List Int) × List Int := L.foldl (splS c) ([], [])
def splL (c : Int) (L : List Int) : List (List Int) := (splF c L).1 ++ [(splF c L).2]
theorem splF_snoc (c : Int) (L : List Int) (x : Int) : splF c (L ++ [x]) = splS c (splF c L) x := by simp [splF]
theorem splF_ok (c : Int) : ∀ (L : List Int) (s : List (List Int) × List Int), IsB L → (∀ M ∈ s.1, IsB M) → IsB s.2 → (∀ M ∈ (L.foldl (splS c) s).1, IsB M) ∧ IsB (L.foldl (splS c) s).2
  | [], s, _, h1, h2 => ⟨h1, h2⟩
  | x :: L, s, h, h1, h2 => by
    rw [List.foldl_cons]
    have hx := h x (by simp)
    refine splF_ok c L _ (fun y hy => h y (by simp [hy])) ?_ ?_
    · unfold splS
      split
      · intro M hM
        rcases List.mem_append.1 hM with hM | hM
        · exact h1 M hM
        · simp at hM; subst hM; exact h2
      · exact h1
    · unfold splS
      split
      · exact isB_nil
      · exact h2.append (isB_one hx.1 hx.2)
theorem splF_len (c : Int) : ∀ (L : List Int) (s : List (List Int) × List Int), (L.foldl (splS c) s).1.length ≤ s.1.length + L.length ∧ (L.foldl (splS c) s).2.length ≤ s.2.length + L.length
  | [], s => ⟨by simp, by simp⟩
  | x :: L, s => by
    rw [List.foldl_cons]
    obtain ⟨h1, h2⟩ := splF_len c L (splS c s x)
    have : (splS c s x).1.length ≤ s.1.length + 1 ∧ (splS c s x).2.length ≤ s.2.length + 1 := by
      unfold splS
      split
      · exact ⟨by simp, by simp⟩
      · exact ⟨by simp, by simp⟩
    simp only [List.length_cons]
    omega
theorem splL_isB {c : Int} {L : List Int} (h : IsB L) : ∀ M ∈ splL c L, IsB M := by
  obtain ⟨h1, h2⟩ := splF_ok c L ([], []) h (by intro M hM; cases hM) isB_nil
  intro M hM
  rcases List.mem_append.1 hM with hM | hM
  · exact h1 M hM
  · simp at hM; subst hM; exact h2
theorem splL_len (c : Int) (L : List Int) : (splL c L).length ≤ L.length + 1 := by
  have := (splF_len c L ([], [])).1
  unfold splL splF
  simp at this ⊢
  exact this
def wordsL (L : List Int) : List (List Int) := (splL 32 L).filter fun M => M ≠ []
theorem wordsL_isB {L : List Int} (h : IsB L) : ∀ M ∈ wordsL L, IsB M := fun M hM => splL_isB h M (List.mem_filter.1 hM).1
end
section
open Go
theorem VCalls.wf {P : Program} {f : FuncId} {args : List V} {st : St} {Q : V → St → Prop} (h : st.Wf → VCalls P f args st Q) : VCalls P f args st Q := fun w0 G w us hw hus hr =>
  h ⟨fun b cs hb => (hw.box b cs hb).1, fun g m hg => (hw.own g m hg).1, fun b cs hb => (hw.box b cs hb).2.2.2.2.ok⟩ w0 G w us hw hus hr
structure RulC {R : Type} (U : Rul R) (t : TypeId) (pv : Value) (SI : Nat → St → R → Prop) (bx : List Nat) : Prop where
  one : pv.oneCell' = true
  req : ∃ f, methOf Tryz.prog t "Request" = some f ∧ callable Tryz.prog f = true ∧ ∀ (k : Nat) (st : St) (r : R), SI k st r → VCalls Tryz.prog f [.sc pv] st fun x s => x = .sl .no (opts (U.request r)) ∧ st = s
  reqG : ∀ (k : Nat) (st : St) (r : R), SI k st r → GoodO (U.request r) ∧ (U.request r).length ≤ 100
  judge : ∃ f, methOf Tryz.prog t "Judge" = some f ∧ callable Tryz.prog f = true ∧ ∀ (k : Nat) (st : St) (r : R) (l : List Opt) (tk : Tk), SI k st r → k ≤ 1000000000 → GoodO l → l.length ≤ 1000000 →
    VCalls Tryz.prog f [.sc pv, .sl tk (opts l)] st fun x s => (∃ t2, x = .tup [.sc (.int .u8 (U.judge r l).2.1), .sl t2 (opts (U.judge r l).2.2)]) ∧ SI (k + 1) s (U.judge r l).1 ∧ Tn bx st s
  judgeG : ∀ (k : Nat) (st : St) (r : R) (l : List Opt), SI k st r → GoodO l → l.length ≤ 1000000 → 0 ≤ (U.judge r l).2.1 ∧ (U.judge r l).2.1 < 256 ∧ GoodO (U.judge r l).2.2 ∧ (U.judge r l).2.2.length ≤ 1000000
  agreed : ∃ f, methOf Tryz.prog t "Agreed" = some f ∧ callable Tryz.prog f = true ∧ ∀ (k : Nat) (st : St) (r : R) (l : List Opt) (tk : Tk), SI k st r → k ≤ 1000000000 → GoodO l → l.length ≤ 1000000 →
    VCalls Tryz.prog f [.sc pv, .sl tk (opts l)] st fun x s => x = .tup [] ∧ SI k s (U.agreed r l) ∧ Tn bx st s
  naked : ∃ f, methOf Tryz.prog t "Naked" = some f ∧ callable Tryz.prog f = true ∧ ∀ (k : Nat) (st : St) (r : R) (l : List Opt) (tk : Tk), SI k st r → k ≤ 1000000000 → GoodO l → l.length ≤ 1000000 →
    VCalls Tryz.prog f [.sc pv, .sl tk (opts l)] st fun x s => x = .tup [] ∧ SI (k + 1) s (U.naked r l) ∧ Tn bx st s
  rejected : ∃ f, methOf Tryz.prog t "Rejected" = some f ∧ callable Tryz.prog f = true ∧ ∀ (k : Nat) (st : St) (r : R) (l : List Opt) (tk : Tk), SI k st r → k ≤ 1000000000 → GoodO l → l.length ≤ 1000000 →
    VCalls Tryz.prog f [.sc pv, .sl tk (opts l)] st fun x s => x = .sc (.bool (U.rejected r l).2) ∧ SI k s (U.rejected r l).1 ∧ Tn bx st s
  stay : ∀ (k : Nat) (st s : St) (r : R), SI k st r → (∀ b cs, st.box b = some cs → b ∈ bx → s.box b = some cs) → st.sz ≤ s.sz → SI k s r
  more : ∀ (k : Nat) (st : St) (r : R), SI k st r → SI (k + 1) st r
  lt : ∀ (k : Nat) (st : St) (r : R), SI k st r → ∀ b ∈ bx, b < st.sz
def negC {R : Type} (iv : V) (codes : Int) (N : Neg R) (tk : Tk) : List V :=
  [.sc (.int .i64 N.s), .sc (.int .i64 N.left), .sc (.int .i64 N.at_), iv, .sc (.int .u8 codes), .sc (.int .u8 N.id), .sl tk (bs N.req), .sc (.int .i64 N.naks)]
structure NegI {R : Type} (iv : V) (codes : Int) (SI : Nat → St → R → Prop) (bx : List Nat) (n k : Nat) (st : St) (N : Neg R) : Prop where
  box : ∃ tk, st.box n = some (negC iv codes N tk)
  si : SI k st N.r
  nn : n ∉ bx
  l0 : 0 ≤ N.left
  l1 : N.left ≤ 10
  i0 : 0 ≤ N.id
  i1 : N.id < 256
  a0 : 0 ≤ N.naks
  a1 : N.naks ≤ k
  rb : IsB N.req
theorem cntA_rng {act left : Int} (h0 : 0 ≤ left) (h1 : left ≤ 10) : 0 ≤ cntA act left ∧ cntA act left ≤ 10 := by
  unfold cntA
  simp only
  split <;> split <;> (try split) <;> (try split) <;> omega
section
variable {R : Type} {U : Rul R} {t : TypeId} {pv : Value} {SI : Nat → St → R → Prop} {bx : List Nat} {codes : Int} {n k : Nat} {st : St} {N : Neg R}
theorem NegI.write (hU : RulC U t pv SI bx) {iv : V} (h : NegI iv codes SI bx n k st N) {N' : Neg R} {tk : Tk} (hr : N'.r = N.r) (l0 : 0 ≤ N'.left) (l1 : N'.left ≤ 10) (i0 : 0 ≤ N'.id) (i1 : N'.id < 256) (a0 : 0 ≤ N'.naks) (a1 : N'.naks ≤ k) (rb : IsB N'.req) :
    NegI iv codes SI bx n k (st.put n (negC iv codes N' tk)) N' :=
  ⟨⟨tk, put_box_same⟩, by
    rw [hr]
    refine hU.stay k st _ _ h.si (fun b cs hb hm => ?_) (by simp only [put_sz]; omega)
    rw [put_box_ne (fun e => h.nn (by subst e; exact hm))]; exact hb, h.nn, l0, l1, i0, i1, a0, a1, rb⟩
theorem NegI.tnx (hU : RulC U t pv SI bx) {iv : V} (h : NegI iv codes SI bx n k st N) {s : St} {cs : List Nat} (T : Tn cs st s) (hd : ∀ b ∈ n :: bx, b ∉ cs) : NegI iv codes SI bx n k s N :=
  ⟨by obtain ⟨tk, hb⟩ := h.box; exact ⟨tk, T.box n _ hb (hd n (by simp))⟩, hU.stay k st s _ h.si (fun b cs hb hm => T.box b cs hb (hd b (by simp [hm]))) T.sz, h.nn, h.l0, h.l1, h.i0, h.i1, h.a0, h.a1, h.rb⟩
theorem NegI.tn (hU : RulC U t pv SI bx) {iv : V} (h : NegI iv codes SI bx n k st N) {s : St} (T : Tn [] st s) : NegI iv codes SI bx n k s N :=
  ⟨by obtain ⟨tk, hb⟩ := h.box; exact ⟨tk, T.box n _ hb (by simp)⟩, hU.stay k st s _ h.si (fun b cs hb _ => T.box b cs hb (by simp)) T.sz, h.nn, h.l0, h.l1, h.i0, h.i1, h.a0, h.a1, h.rb⟩
theorem NegI.lt (hU : RulC U t pv SI bx) {iv : V} (h : NegI iv codes SI bx n k st N) (hs : st.Lt) : ∀ b ∈ n :: bx, b < st.sz := fun b hb => by
  rcases List.mem_cons.1 hb with rfl | hb
  · obtain ⟨tk, hx⟩ := h.box; exact hs.box b _ hx
  · exact hU.lt k st _ h.si b hb
theorem NegI.more (hU : RulC U t pv SI bx) {iv : V} (h : NegI iv codes SI bx n k st N) : NegI iv codes SI bx n (k + 1) st N :=
  { h with si := hU.more _ _ _ h.si, a1 := by have := h.a1; omega }
theorem tn_new {s : St} (h : s.Lt) {b : Nat} {cs : List V} (hb : s.sz ≤ b) : Tn [] s (s.put b cs) := (Tn.refl h).put (.inr hb) h
set_option maxRecDepth 100000 in
theorem negFresh_v (hU : RulC U t pv SI bx) (h : NegI (.sc (.iface t pv)) codes SI bx n k st N) :
    VCalls Tryz.prog 97 [ptrV n] st fun r s => r = .sc (.int .u8 N.bump.id) ∧ NegI (.sc (.iface t pv)) codes SI bx n k s N.bump ∧ Tn (n :: bx) st s := by
  refine vcalls_enter vc97 (Nat.le_of_ble_eq_true rfl) fun hwf hok => ?_
  show Run _ Vc97.body (.fin (finQ Vc97.res _)) _ _
  unfold Vc97 zn zo
  have hlt := hwf.lt
  obtain ⟨tk, hb⟩ := h.box
  unfold negC at hb
  have hid : N.bump.id = (N.id + 1) % 256 := rfl
  have hW := h.write hU (N' := N.bump) (tk := tk) rfl h.l0 h.l1 (by rw [hid]; omega) (by rw [hid]; omega) h.a0 h.a1 h.rb
  unfold negC at hW
  rw [hid] at hW
  have hT : Tn (n :: bx) st (st.put n [.sc (.int .i64 N.bump.s), .sc (.int .i64 N.bump.left), .sc (.int .i64 N.bump.at_), .sc (.iface t pv), .sc (.int .u8 codes), .sc (.int .u8 ((N.id + 1) % 256)), .sl tk (bs N.bump.req), .sc (.int .i64 N.bump.naks)]) :=
    (Tn.refl hlt).put (.inl (by simp)) hlt
  simp (maxSteps := 3000000) only [go_sem, ↓reduceIte, hb]
  exact ⟨_, _, Wk.refl _, hT.lt.weak, rfl, hW, hT⟩
theorem negState_v (h : NegI (.sc (.iface t pv)) codes SI bx n k st N) : VCalls Tryz.prog 68 [ptrV n] st fun r s => r = .sc (.int .i64 N.s) ∧ st = s := by
  refine vcalls_enter vc68 (Nat.le_of_ble_eq_true rfl) fun hwf hok => ?_
  show Run _ Vc68.body (.fin (finQ Vc68.res _)) _ _
  unfold Vc68 zo
  obtain ⟨tk, hb⟩ := h.box
  unfold negC at hb
  simp (maxSteps := 3000000) only [go_sem, ↓reduceIte, hb]
  exact ⟨_, _, Wk.refl _, hwf.weak, rfl, rfl⟩
theorem negDo_v (hU : RulC U t pv SI bx) (h : NegI (.sc (.iface t pv)) codes SI bx n k st N) {now e : Int} (hn : 0 ≤ now) (hn2 : now ≤ 1000000000) :
    VCalls Tryz.prog 83 [ptrV n, .sc (.int .i64 now), .sc (.int .i64 e)] st fun r s => r = .sc (.int .u16 (stepF N.s e).2) ∧ NegI (.sc (.iface t pv)) codes SI bx n k s (N.step now e) ∧ Tn (n :: bx) st s := by
  obtain ⟨tk, hb⟩ := h.box
  refine VCalls.wf fun hwf => (autoDo_v (e := e) hb h.l0 h.l1 hn hn2).mono fun r s ⟨e1, e2⟩ => ⟨e1, ?_, ?_⟩
  · have hc := cntA_rng (act := (stepF N.s e).2) h.l0 h.l1
    rw [e2]
    exact h.write hU (N' := N.step now e) (tk := tk) rfl hc.1 hc.2 h.i0 h.i1 h.a0 h.a1 h.rb
  · rw [e2]
    exact (Tn.refl hwf.lt).put (.inl (by simp)) hwf.lt
theorem u8sOf_bsN : ∀ L : List Int, u8sOf (bs L) = some L
  | [] => rfl
  | x :: L => by
    rw [bs_cons]
    simp only [u8sOf, u8sOf_bsN L]
    all_goals rfl
set_option maxRecDepth 100000 in
set_option maxHeartbeats 4000000 in
theorem negAsked_v (hU : RulC U t pv SI bx) (h : NegI (.sc (.iface t pv)) codes SI bx n k st N) {again : Bool} :
    VCalls Tryz.prog 96 [ptrV n, .sc (.bool again)] st fun r s => r = (⟨1, (N.asked U again).id, buildO (U.request N.r)⟩ : Ctl).v ∧ NegI (.sc (.iface t pv)) codes SI bx n k s (N.asked U again) ∧ Tn (n :: bx) st s := by
  obtain ⟨fq, hm, hc, hq⟩ := hU.req
  refine vcalls_enter vc96 (Nat.le_of_ble_eq_true rfl) fun hwf hok => ?_
  show Run _ Vc96.body (.fin (finQ Vc96.res _)) _ _
  unfold Vc96 zg zn zo
  have hlt := hwf.lt
  obtain ⟨tk, hb⟩ := h.box
  have hb' := hb
  unfold negC at hb
  have hnl := hlt.box n _ hb
  obtain ⟨gG, gl⟩ := hU.reqG k st N.r h.si
  have hbB := buildO_isB gG
  have hbl := buildO_len (U.request N.r)
  simp (maxSteps := 3000000) only [go_sem, ↓reduceIte]
  intro f hf
  have nf : n ≠ f := by omega
  have T0 : Tn [] st (st.put f [.sc (.int .u8 0), .sc (.int .u8 0), .sl .nil []]) := tn_new hlt hf
  have h0 := h.tn hU T0
  have B0 : (st.put f [.sc (.int .u8 0), .sc (.int .u8 0), .sl .nil []]).box f = some [.sc (.int .u8 0), .sc (.int .u8 0), .sl .nil []] := put_box_same
  have hb0 := T0.box n _ hb (by simp)
  generalize st.put f [.sc (.int .u8 0), .sc (.int .u8 0), .sl .nil []] = s0 at T0 h0 B0 hb0 ⊢
  have L0 := T0.lt
  simp (maxSteps := 3000000) only [go_sem, ↓reduceIte, hb0]
  refine Ivk.mk hm hc hU.one ?_
  refine Cal.mk (hq k s0 N.r h0.si) ?_
  rintro _ _ ⟨rfl, rfl⟩ -
  simp (maxSteps := 3000000) only [go_sem, ↓reduceIte]
  refine Cal.mk (optBuild_v gG (by omega)) ?_
  rintro _ _ ⟨rfl, rfl⟩ -
  generalize hX : buildO (U.request N.r) = X at hbB hbl ⊢
  have hinj := strOf_inj hbB h.rb
  obtain ⟨N1, hN1⟩ : ∃ N1, N1 = N.asked U again := ⟨_, rfl⟩
  have hreq : N1.req = X := by rw [hN1, ← hX]; rfl
  have hrr : N1.r = N.r := by rw [hN1]; rfl
  have hll : N1.left = N.left := by rw [hN1]; rfl
  have hss : N1.s = N.s := by rw [hN1]; rfl
  have haa : N1.at_ = N.at_ := by rw [hN1]; rfl
  have hnn : N1.naks = N.naks := by rw [hN1]; rfl
  have hid : N1.id = if again = true ∧ X = N.req then N.id else (N.id + 1) % 256 := by rw [hN1, ← hX]; rfl
  rw [← hN1]
  have hi0 : 0 ≤ N1.id ∧ N1.id < 256 := by
    rw [hid]
    split
    · exact ⟨h.i0, h.i1⟩
    · omega
  have TW : Tn (n :: bx) st s0 := T0.wide (by simp)
  have hC : negC (.sc (.iface t pv)) codes N1 .no = [.sc (.int .i64 N.s), .sc (.int .i64 N.left), .sc (.int .i64 N.at_), .sc (.iface t pv), .sc (.int .u8 codes), .sc (.int .u8 N1.id), .sl .no (bs X), .sc (.int .i64 N.naks)] := by
    unfold negC; rw [hss, hll, haa, hreq, hnn]
  have hfd : ∀ b ∈ n :: bx, b ∉ [f] := fun b hb hm => by
    have := h.lt hU hlt b hb
    simp only [List.mem_singleton] at hm
    omega
  by_cases c1 : again = true ∧ X = N.req
  · obtain ⟨rfl, c2⟩ := c1
    rw [if_pos ⟨rfl, c2⟩] at hid
    have h2 : NegI (.sc (.iface t pv)) codes SI bx n k s0 { N with id := N1.id } := by rw [hid]; exact h0
    have T2 := TW
    have B2 := B0
    have e1 : decide (strOf X ≠ strOf N.req) = false := by rw [c2]; simp
    rw [← hid] at hb0
    simp (maxSteps := 3000000) only [go_sem, ↓reduceIte, hb0, u8sOf_bsN, e1]
    generalize s0 = s2 at h2 T2 B2 hb0 ⊢
    obtain ⟨tk2, hb2⟩ := h2.box
    unfold negC at hb2
    have hW := h2.write hU (N' := N1) (tk := .no) hrr (by rw [hll]; exact h.l0) (by rw [hll]; exact h.l1) hi0.1 hi0.2 (by rw [hnn]; exact h.a0) (by rw [hnn]; exact h.a1) (by rw [hreq]; exact hbB)
    rw [hC] at hW
    have T3 : Tn (n :: bx) st (s2.put n [.sc (.int .i64 N.s), .sc (.int .i64 N.left), .sc (.int .i64 N.at_), .sc (.iface t pv), .sc (.int .u8 codes), .sc (.int .u8 N1.id), .sl .no (bs X), .sc (.int .i64 N.naks)]) := T2.put (.inl (by simp)) hlt
    have B3 : (s2.put n [.sc (.int .i64 N.s), .sc (.int .i64 N.left), .sc (.int .i64 N.at_), .sc (.iface t pv), .sc (.int .u8 codes), .sc (.int .u8 N1.id), .sl .no (bs X), .sc (.int .i64 N.naks)]).box f = some [.sc (.int .u8 0), .sc (.int .u8 0), .sl .nil []] := by rw [put_box_ne nf.symm]; exact B2
    generalize s2.put n [.sc (.int .i64 N.s), .sc (.int .i64 N.left), .sc (.int .i64 N.at_), .sc (.iface t pv), .sc (.int .u8 codes), .sc (.int .u8 N1.id), .sl .no (bs X), .sc (.int .i64 N.naks)] = s3 at hW T3 B3 ⊢
    refine App.mk (bytes := 1) (l := []) (ys := bs X) own_nil (allSz_bs _) (by simp only [bs_len, List.length_nil]; unfold maxLen; omega) (by simp only [bs_len, List.length_nil]; omega) ?_
    intro r4 s4 k3 k4
    have T4 := T3.app k4 noOwn hlt
    have N4 : RO 1 st.bare s4 r4 (bs X) := (RO.nil T3.bare T3.lt).app k3 k4
    obtain ⟨t4, rfl⟩ := N4.sl
    have hW4 := hW.tn hU ((Tn.refl (bx := []) T3.lt).app k4 noOwn T3.lt)
    have B4 : s4.box f = some [.sc (.int .u8 0), .sc (.int .u8 0), .sl .nil []] := by rw [k4.box]; exact B3
    obtain ⟨tk5, hb4⟩ := hW4.box
    rw [negC] at hb4
    simp (maxSteps := 3000000) only [go_sem, ↓reduceIte, B4, hb4]
    have T5 : Tn (n :: bx) st (s4.put f [.sc (.int .u8 1), .sc (.int .u8 N1.id), .sl t4 (bs X)]) := T4.put (.inr hf) hlt
    have hW5 := hW4.tnx hU ((Tn.refl (bx := [f]) T4.lt).put (b := f) (cs := [.sc (.int .u8 1), .sc (.int .u8 N1.id), .sl t4 (bs X)]) (.inl (by simp)) T4.lt) hfd
    exact ⟨_, _, Wk.agg (.cons (.refl _) (.cons (.refl _) (.cons .no .nil))), T5.lt.weak, rfl, hW5, T5⟩
  · rw [if_neg c1] at hid
    have hcond : again = false ∨ again = true ∧ ¬ X = N.req := by
      cases again
      · exact .inl rfl
      · exact .inr ⟨rfl, fun e => c1 ⟨rfl, e⟩⟩
    have hNb : { N with id := N1.id } = N.bump := by rw [hid]; rfl
    have key : ∀ (r : V) (s2 : St), r = .sc (.int .u8 N.bump.id) ∧ NegI (.sc (.iface t pv)) codes SI bx n k s2 N.bump ∧ Tn (n :: bx) s0 s2 → NegI (.sc (.iface t pv)) codes SI bx n k s2 { N with id := N1.id } ∧ Tn (n :: bx) st s2 ∧ s2.box f = some [.sc (.int .u8 0), .sc (.int .u8 0), .sl .nil []] := fun r s2 ⟨_, q2, q3⟩ => by
      refine ⟨by rw [hNb]; exact q2, TW.trans q3, q3.box f _ B0 (fun hm => ?_)⟩
      have := h.lt hU hlt f hm
      omega
    rcases hcond with rfl | ⟨rfl, c2⟩
    · simp (maxSteps := 3000000) only [go_sem, ↓reduceIte]
      refine Cal.mk (negFresh_v hU h0) ?_
      intro r s2 hq2 _
      obtain ⟨h2, T2, B2⟩ := key r s2 hq2
      obtain ⟨tk2, hb2⟩ := h2.box
      unfold negC at hb2
      have hW := h2.write hU (N' := N1) (tk := .no) hrr (by rw [hll]; exact h.l0) (by rw [hll]; exact h.l1) hi0.1 hi0.2 (by rw [hnn]; exact h.a0) (by rw [hnn]; exact h.a1) (by rw [hreq]; exact hbB)
      rw [hC] at hW
      have T3 : Tn (n :: bx) st (s2.put n [.sc (.int .i64 N.s), .sc (.int .i64 N.left), .sc (.int .i64 N.at_), .sc (.iface t pv), .sc (.int .u8 codes), .sc (.int .u8 N1.id), .sl .no (bs X), .sc (.int .i64 N.naks)]) := T2.put (.inl (by simp)) hlt
      have B3 : (s2.put n [.sc (.int .i64 N.s), .sc (.int .i64 N.left), .sc (.int .i64 N.at_), .sc (.iface t pv), .sc (.int .u8 codes), .sc (.int .u8 N1.id), .sl .no (bs X), .sc (.int .i64 N.naks)]).box f = some [.sc (.int .u8 0), .sc (.int .u8 0), .sl .nil []] := by rw [put_box_ne nf.symm]; exact B2
      simp (maxSteps := 3000000) only [go_sem, ↓reduceIte, hb2]
      generalize s2.put n [.sc (.int .i64 N.s), .sc (.int .i64 N.left), .sc (.int .i64 N.at_), .sc (.iface t pv), .sc (.int .u8 codes), .sc (.int .u8 N1.id), .sl .no (bs X), .sc (.int .i64 N.naks)] = s3 at hW T3 B3 ⊢
      refine App.mk (bytes := 1) (l := []) (ys := bs X) own_nil (allSz_bs _) (by simp only [bs_len, List.length_nil]; unfold maxLen; omega) (by simp only [bs_len, List.length_nil]; omega) ?_
      intro r4 s4 k3 k4
      have T4 := T3.app k4 noOwn hlt
      have N4 : RO 1 st.bare s4 r4 (bs X) := (RO.nil T3.bare T3.lt).app k3 k4
      obtain ⟨t4, rfl⟩ := N4.sl
      have hW4 := hW.tn hU ((Tn.refl (bx := []) T3.lt).app k4 noOwn T3.lt)
      have B4 : s4.box f = some [.sc (.int .u8 0), .sc (.int .u8 0), .sl .nil []] := by rw [k4.box]; exact B3
      obtain ⟨tk5, hb4⟩ := hW4.box
      rw [negC] at hb4
      simp (maxSteps := 3000000) only [go_sem, ↓reduceIte, B4, hb4]
      have T5 : Tn (n :: bx) st (s4.put f [.sc (.int .u8 1), .sc (.int .u8 N1.id), .sl t4 (bs X)]) := T4.put (.inr hf) hlt
      have hW5 := hW4.tnx hU ((Tn.refl (bx := [f]) T4.lt).put (b := f) (cs := [.sc (.int .u8 1), .sc (.int .u8 N1.id), .sl t4 (bs X)]) (.inl (by simp)) T4.lt) hfd
      exact ⟨_, _, Wk.agg (.cons (.refl _) (.cons (.refl _) (.cons .no .nil))), T5.lt.weak, rfl, hW5, T5⟩
    · have e1 : decide (strOf X ≠ strOf N.req) = true := decide_eq_true (fun e => c2 (hinj.1 e))
      simp (maxSteps := 3000000) only [go_sem, ↓reduceIte, hb0, u8sOf_bsN, e1]
      refine Cal.mk (negFresh_v hU h0) ?_
      intro r s2 hq2 _
      obtain ⟨h2, T2, B2⟩ := key r s2 hq2
      obtain ⟨tk2, hb2⟩ := h2.box
      unfold negC at hb2
      have hW := h2.write hU (N' := N1) (tk := .no) hrr (by rw [hll]; exact h.l0) (by rw [hll]; exact h.l1) hi0.1 hi0.2 (by rw [hnn]; exact h.a0) (by rw [hnn]; exact h.a1) (by rw [hreq]; exact hbB)
      rw [hC] at hW
      have T3 : Tn (n :: bx) st (s2.put n [.sc (.int .i64 N.s), .sc (.int .i64 N.left), .sc (.int .i64 N.at_), .sc (.iface t pv), .sc (.int .u8 codes), .sc (.int .u8 N1.id), .sl .no (bs X), .sc (.int .i64 N.naks)]) := T2.put (.inl (by simp)) hlt
      have B3 : (s2.put n [.sc (.int .i64 N.s), .sc (.int .i64 N.left), .sc (.int .i64 N.at_), .sc (.iface t pv), .sc (.int .u8 codes), .sc (.int .u8 N1.id), .sl .no (bs X), .sc (.int .i64 N.naks)]).box f = some [.sc (.int .u8 0), .sc (.int .u8 0), .sl .nil []] := by rw [put_box_ne nf.symm]; exact B2
      simp (maxSteps := 3000000) only [go_sem, ↓reduceIte, hb2]
      generalize s2.put n [.sc (.int .i64 N.s), .sc (.int .i64 N.left), .sc (.int .i64 N.at_), .sc (.iface t pv), .sc (.int .u8 codes), .sc (.int .u8 N1.id), .sl .no (bs X), .sc (.int .i64 N.naks)] = s3 at hW T3 B3 ⊢
      refine App.mk (bytes := 1) (l := []) (ys := bs X) own_nil (allSz_bs _) (by simp only [bs_len, List.length_nil]; unfold maxLen; omega) (by simp only [bs_len, List.length_nil]; omega) ?_
      intro r4 s4 k3 k4
      have T4 := T3.app k4 noOwn hlt
      have N4 : RO 1 st.bare s4 r4 (bs X) := (RO.nil T3.bare T3.lt).app k3 k4
      obtain ⟨t4, rfl⟩ := N4.sl
      have hW4 := hW.tn hU ((Tn.refl (bx := []) T3.lt).app k4 noOwn T3.lt)
      have B4 : s4.box f = some [.sc (.int .u8 0), .sc (.int .u8 0), .sl .nil []] := by rw [k4.box]; exact B3
      obtain ⟨tk5, hb4⟩ := hW4.box
      rw [negC] at hb4
      simp (maxSteps := 3000000) only [go_sem, ↓reduceIte, B4, hb4]
      have T5 : Tn (n :: bx) st (s4.put f [.sc (.int .u8 1), .sc (.int .u8 N1.id), .sl t4 (bs X)]) := T4.put (.inr hf) hlt
      have hW5 := hW4.tnx hU ((Tn.refl (bx := [f]) T4.lt).put (b := f) (cs := [.sc (.int .u8 1), .sc (.int .u8 N1.id), .sl t4 (bs X)]) (.inl (by simp)) T4.lt) hfd
      exact ⟨_, _, Wk.agg (.cons (.refl _) (.cons (.refl _) (.cons .no .nil))), T5.lt.weak, rfl, hW5, T5⟩
end
end
section
open Go
section
variable {R : Type} {U : Rul R} {t : TypeId} {pv : Value} {SI : Nat → St → R → Prop} {bx : List Nat} {codes : Int} {n k : Nat} {st s s2 : St} {N N' : Neg R}
theorem NegI.same (hU : RulC U t pv SI bx) {iv : V} (h : NegI iv codes SI bx n k s N) (hb : s2.box = s.box) (hs : s.sz ≤ s2.sz) : NegI iv codes SI bx n k s2 N :=
  ⟨by obtain ⟨tk, hx⟩ := h.box; exact ⟨tk, by rw [hb]; exact hx⟩, hU.stay k s s2 _ h.si (fun b cs hc _ => by rw [hb]; exact hc) hs, h.nn, h.l0, h.l1, h.i0, h.i1, h.a0, h.a1, h.rb⟩
structure DnI (st : St) (iv : V) (codes : Int) (SI : Nat → St → R → Prop) (bx : List Nat) (n k : Nat) (a r o : Nat) (w : List V) (u d v : Bool) (s : St) (N : Neg R) (P : List Ctl) : Prop where
  neg : NegI iv codes SI bx n k s N
  tn : Tn (n :: bx) st s
  ba : s.box a = some w
  br : s.box r = some [.sl .nil [], .sc (.bool false), .sc (.bool false), .sc (.bool false)]
  bo : ∃ tv, s.box o = some [.sl tv (ctls P), .sc (.bool u), .sc (.bool d), .sc (.bool v)] ∧ RO 3 st.bare s (.sl tv (ctls P)) (ctls P)
  sa : st.sz ≤ a
  sr : st.sz ≤ r
  so : st.sz ≤ o
  ao : a ≠ o
  ro : r ≠ o
  ar : a ≠ r
  below : ∀ b ∈ n :: bx, b < st.sz
variable {iv : V} {a r o : Nat} {w : List V} {u d v : Bool} {P : List Ctl}
theorem DnI.step (D : DnI st iv codes SI bx n k a r o w u d v s N P) (hN : NegI iv codes SI bx n k s2 N') (T : Tn (n :: bx) s s2) : DnI st iv codes SI bx n k a r o w u d v s2 N' P :=
  have ne : ∀ b, st.sz ≤ b → b ∉ n :: bx := fun b hb hm => by have := D.below b hm; omega
  ⟨hN, D.tn.trans T, T.box a _ D.ba (ne a D.sa), T.box r _ D.br (ne r D.sr), by
    obtain ⟨tv, h1, h2⟩ := D.bo
    exact ⟨tv, T.box o _ h1 (ne o D.so), h2.tn T (fun _ _ => rfl)⟩, D.sa, D.sr, D.so, D.ao, D.ro, D.ar, D.below⟩
theorem DnI.push (hU : RulC U t pv SI bx) (D : DnI st iv codes SI bx n k a r o w u d v s N P) (hl : st.Lt) {tv : Tk} (R : RO 3 st.bare s (.sl tv (ctls P)) (ctls P)) {c : Ctl} {r2 : V}
    (k1 : Own 3 s2 r2 (ctls P ++ ctls [c])) (k2 : AppSt s (.sl tv (ctls P)) s2 r2) : DnI st iv codes SI bx n k a r o w u d v (s2.put o [r2, .sc (.bool u), .sc (.bool d), .sc (.bool v)]) N (P ++ [c]) := by
  have ne : ∀ b, st.sz ≤ b → b ∉ n :: bx := fun b hb hm => by have := D.below b hm; omega
  have R2 := R.app k1 k2
  rw [ctls_append] at R2
  have T2 : Tn (n :: bx) st s2 := D.tn.app k2 R.tok hl
  have h2 := D.neg.same hU k2.box k2.sz
  have R3 := R2.put (c := o) (cs := [r2, .sc (.bool u), .sc (.bool d), .sc (.bool v)]) D.so
  obtain ⟨t2, rfl⟩ := R2.sl
  refine ⟨h2.tnx hU ((Tn.refl (bx := [o]) R2.lt).put (.inl (by simp)) R2.lt) (fun b hb hm => ?_), T2.put (.inr D.so) hl, ?_, ?_, ⟨t2, put_box_same, R3⟩, D.sa, D.sr, D.so, D.ao, D.ro, D.ar, D.below⟩
  · simp only [List.mem_singleton] at hm
    subst hm
    exact ne _ D.so hb
  · rw [put_box_ne D.ao, k2.box]; exact D.ba
  · rw [put_box_ne D.ro, k2.box]; exact D.br
def NOut (st : St) (iv : V) (codes : Int) (SI : Nat → St → R → Prop) (bx : List Nat) (n k m : Nat) (X : Neg R × Nout) (r : V) (s : St) : Prop :=
  ∃ tv, r = .agg [.sl tv (ctls X.2.P), .sc (.bool X.2.up), .sc (.bool X.2.down), .sc (.bool X.2.over)] ∧ RO 3 st.bare s (.sl tv (ctls X.2.P)) (ctls X.2.P) ∧ NegI iv codes SI bx n k s X.1 ∧ Tn (n :: bx) st s ∧ X.2.P.length ≤ m
set_option maxRecDepth 100000 in
set_option maxHeartbeats 16000000 in
theorem negDone_v (hU : RulC U t pv SI bx) (h : NegI (.sc (.iface t pv)) codes SI bx n k st N) {act : Int} {again : Bool} {p back : Ctl} (hp : p.Good) {tp tb : Tk} :
    VCalls Tryz.prog 76 [ptrV n, .sc (.int .u16 act), .sc (.bool again), .agg [.sc (.int .u8 p.code), .sc (.int .u8 p.id), .sl tp (bs p.data), .sc (.int .u8 back.code), .sc (.int .u8 back.id), .sl tb (bs back.data)]] st
      (NOut st (.sc (.iface t pv)) codes SI bx n k 5 (N.done U act again p back)) := by
  obtain ⟨P5, hP5⟩ : ∃ X, X = N.done U act again p back := ⟨_, rfl⟩
  rw [← hP5]
  refine vcalls_enter vc76 (Nat.le_of_ble_eq_true rfl) fun hwf hok => ?_
  show Run _ Vc76.body (.fin (finQ Vc76.res _)) _ _
  unfold Vc76 zn zo
  have hlt := hwf.lt
  simp (maxSteps := 3000000) only [go_sem, ↓reduceIte]
  intro a ha r hr
  refine Cal.mk actHasB_v ?_
  rintro _ _ ⟨rfl, rfl⟩ -
  simp (maxSteps := 3000000) only [go_sem, ↓reduceIte]
  refine Cal.mk actHasB_v ?_
  rintro _ _ ⟨rfl, rfl⟩ -
  simp (maxSteps := 3000000) only [go_sem, ↓reduceIte]
  refine Cal.mk actHasB_v ?_
  rintro _ _ ⟨rfl, rfl⟩ -
  simp (maxSteps := 3000000) only [go_sem, ↓reduceIte]
  intro o ho
  have D0 : DnI st (.sc (.iface t pv)) codes SI bx n k a r o [.sc (.int .u8 p.code), .sc (.int .u8 p.id), .sl tp (bs p.data), .sc (.int .u8 back.code), .sc (.int .u8 back.id), .sl tb (bs back.data)] (hasA act 1) (hasA act 2) (hasA act 8) (((st.put a [.sc (.int .u8 p.code), .sc (.int .u8 p.id), .sl tp (bs p.data), .sc (.int .u8 back.code), .sc (.int .u8 back.id), .sl tb (bs back.data)]).put r [.sl .nil [], .sc (.bool false), .sc (.bool false), .sc (.bool false)]).put o [.sl .nil [], .sc (.bool (hasA act 1)), .sc (.bool (hasA act 2)), .sc (.bool (hasA act 8))]) N [] := by
    have ar : a ≠ r := by omega
    have ao : a ≠ o := by omega
    have ro : r ≠ o := by omega
    have sr : st.sz ≤ r := by omega
    have so : st.sz ≤ o := by omega
    have T : Tn [] st (((st.put a [.sc (.int .u8 p.code), .sc (.int .u8 p.id), .sl tp (bs p.data), .sc (.int .u8 back.code), .sc (.int .u8 back.id), .sl tb (bs back.data)]).put r [.sl .nil [], .sc (.bool false), .sc (.bool false), .sc (.bool false)]).put o [.sl .nil [], .sc (.bool (hasA act 1)), .sc (.bool (hasA act 2)), .sc (.bool (hasA act 8))]) :=
      ((tn_new hlt ha).put (.inr sr) hlt).put (.inr so) hlt
    refine ⟨h.tn hU T, T.wide (by simp), ?_, ?_, ⟨.nil, put_box_same, RO.nil T.bare T.lt⟩, ha, sr, so, ao, ro, ar, h.lt hU hlt⟩
    · rw [put_box_ne ao, put_box_ne ar, put_box_same]
    · rw [put_box_ne ro, put_box_same]
  generalize ((st.put a _).put r _).put o _ = s0 at D0 ⊢
  clear ha hr ho
  have hP5 : P5 = ((((N.d1 U act again).1.d3 act (Neg.d2 act back (N.d1 U act again).2)).1.d5 act p (Neg.d4 act p ((N.d1 U act again).1.d3 act (Neg.d2 act back (N.d1 U act again).2)).2)).1.d6 act, ⟨(((N.d1 U act again).1.d3 act (Neg.d2 act back (N.d1 U act again).2)).1.d5 act p (Neg.d4 act p ((N.d1 U act again).1.d3 act (Neg.d2 act back (N.d1 U act again).2)).2)).2, hasA act 1, hasA act 2, hasA act 8⟩) := hP5
  refine Cal.mk actHasB_v ?_
  rintro _ _ ⟨rfl, rfl⟩ -
  simp (maxSteps := 3000000) only [go_sem, ↓reduceIte]
  refine If.cut [19, 20, 21, 22, 23, 24, 25, 26] (fun _ s => DnI st (.sc (.iface t pv)) codes SI bx n k a r o [.sc (.int .u8 p.code), .sc (.int .u8 p.id), .sl tp (bs p.data), .sc (.int .u8 back.code), .sc (.int .u8 back.id), .sl tb (bs back.data)] (hasA act 1) (hasA act 2) (hasA act 8) s ((N.d1 U act again).1) ((N.d1 U act again).2) ∧ ((N.d1 U act again).2).length ≤ 1) rfl ?_ ?_
  · refine If.mk (fun e => ?_) (fun e => ?_)
    · obtain ⟨tv, hbo, R⟩ := D0.bo
      simp (maxSteps := 3000000) only [go_sem, ↓reduceIte, hbo]
      refine Cal.mk (negAsked_v hU D0.neg) ?_
      rintro _ s1 ⟨rfl, h1, T1⟩ -
      have D1 := D0.step h1 T1
      have hb1 := T1.box o _ hbo (fun hm => by have := D0.below o hm; have := D0.so; omega)
      have R1 := R.tn T1 (fun _ _ => rfl)
      simp (maxSteps := 3000000) only [go_sem, ↓reduceIte, hb1, Ctl.v]
      repeat (apply And.intro; focus (first | omega | (simp; done)))
      refine App.mk (bytes := 32) (l := ctls ([])) (ys := ctls [⟨1, (N.asked U again).id, buildO (U.request N.r)⟩]) R1.own (allSz_ctls _) (by simp only [ctls_len, List.length_cons, List.length_nil]; unfold maxLen; omega) (by simp only [ctls_len, List.length_cons, List.length_nil]; omega) ?_
      intro r2 s2 k1 k2
      obtain ⟨t2, rfl⟩ := own_sl k1
      have hb2 := hb1
      rw [← k2.box] at hb2
      simp (maxSteps := 3000000) only [go_sem, ↓reduceIte, hb2, at_cutk_n]
      have D2 := D1.push hU hlt R1 k1 k2
      simp only [Neg.d1, e, ↓reduceIte]
      exact ⟨D2, by simp⟩
    · simp (maxSteps := 3000000) only [go_sem, at_cutk_n]
      simp only [Neg.d1, e, Bool.false_eq_true, ↓reduceIte]
      exact ⟨D0, by simp⟩
  rintro _ s1 ⟨D1, L1⟩
  clear D0
  generalize (N.d1 U act again).1 = N1 at D1 hP5
  generalize (N.d1 U act again).2 = P1 at D1 hP5 L1
  simp (maxSteps := 3000000) only [go_sem, ↓reduceIte]
  refine Cal.mk actHasB_v ?_
  rintro _ _ ⟨rfl, rfl⟩ -
  simp (maxSteps := 3000000) only [go_sem, ↓reduceIte]
  refine If.cut [29, 30, 31, 32, 33, 34, 35] (fun _ s => DnI st (.sc (.iface t pv)) codes SI bx n k a r o [.sc (.int .u8 p.code), .sc (.int .u8 p.id), .sl tp (bs p.data), .sc (.int .u8 back.code), .sc (.int .u8 back.id), .sl tb (bs back.data)] (hasA act 1) (hasA act 2) (hasA act 8) s (N1) (Neg.d2 act back P1) ∧ (Neg.d2 act back P1).length ≤ 2) rfl ?_ ?_
  · refine If.mk (fun e => ?_) (fun e => ?_)
    · obtain ⟨tv, hbo, R⟩ := D1.bo
      have hba := D1.ba
      simp (maxSteps := 3000000) only [go_sem, ↓reduceIte, hbo, hba]
      repeat (apply And.intro; focus (first | omega | (simp; done)))
      refine App.mk (bytes := 32) (l := ctls (P1)) (ys := ctls [back]) R.own (allSz_ctls _) (by simp only [ctls_len, List.length_cons, List.length_nil]; unfold maxLen; omega) (by simp only [ctls_len, List.length_cons, List.length_nil]; omega) ?_
      intro r2 s2 k1 k2
      obtain ⟨t2, rfl⟩ := own_sl k1
      have hb2 := hbo
      rw [← k2.box] at hb2
      simp (maxSteps := 3000000) only [go_sem, ↓reduceIte, hb2, at_cutk_n]
      have D2 := D1.push hU hlt R k1 k2
      simp only [Neg.d2, e, ↓reduceIte]
      exact ⟨D2, by simp only [List.length_append, List.length_cons, List.length_nil]; omega⟩
    · simp (maxSteps := 3000000) only [go_sem, at_cutk_n]
      simp only [Neg.d2, e, Bool.false_eq_true, ↓reduceIte]
      exact ⟨D1, by omega⟩
  rintro _ s2 ⟨D2, L2⟩
  clear D1
  generalize Neg.d2 act back P1 = P2 at D2 hP5 L2
  simp (maxSteps := 3000000) only [go_sem, ↓reduceIte]
  refine Cal.mk actHasB_v ?_
  rintro _ _ ⟨rfl, rfl⟩ -
  simp (maxSteps := 3000000) only [go_sem, ↓reduceIte]
  refine If.cut [38, 39, 40, 41, 42, 43, 44, 45] (fun _ s => DnI st (.sc (.iface t pv)) codes SI bx n k a r o [.sc (.int .u8 p.code), .sc (.int .u8 p.id), .sl tp (bs p.data), .sc (.int .u8 back.code), .sc (.int .u8 back.id), .sl tb (bs back.data)] (hasA act 1) (hasA act 2) (hasA act 8) s ((N1.d3 act P2).1) ((N1.d3 act P2).2) ∧ ((N1.d3 act P2).2).length ≤ 3) rfl ?_ ?_
  · refine If.mk (fun e => ?_) (fun e => ?_)
    · obtain ⟨tv, hbo, R⟩ := D2.bo
      simp (maxSteps := 3000000) only [go_sem, ↓reduceIte, hbo]
      refine Cal.mk (negFresh_v hU D2.neg) ?_
      rintro _ s1 ⟨rfl, h1, T1⟩ -
      have D3 := D2.step h1 T1
      have hb1 := T1.box o _ hbo (fun hm => by have := D2.below o hm; have := D2.so; omega)
      have R1 := R.tn T1 (fun _ _ => rfl)
      simp (maxSteps := 3000000) only [go_sem, ↓reduceIte, hb1]
      repeat (apply And.intro; focus (first | omega | (simp; done)))
      refine App.mk (bytes := 32) (l := ctls (P2)) (ys := ctls [⟨5, N1.bump.id, []⟩]) R1.own (allSz_ctls _) (by simp only [ctls_len, List.length_cons, List.length_nil]; unfold maxLen; omega) (by simp only [ctls_len, List.length_cons, List.length_nil]; omega) ?_
      intro r2 s2 k1 k2
      obtain ⟨t2, rfl⟩ := own_sl k1
      have hb2 := hb1
      rw [← k2.box] at hb2
      simp (maxSteps := 3000000) only [go_sem, ↓reduceIte, hb2, at_cutk_n]
      have D4 := D3.push hU hlt R1 k1 k2
      simp only [Neg.d3, e, ↓reduceIte]
      exact ⟨D4, by simp only [List.length_append, List.length_cons, List.length_nil]; omega⟩
    · simp (maxSteps := 3000000) only [go_sem, at_cutk_n]
      simp only [Neg.d3, e, Bool.false_eq_true, ↓reduceIte]
      exact ⟨D2, by omega⟩
  rintro _ s3 ⟨D3, L3⟩
  clear D2
  generalize (N1.d3 act P2).1 = N3 at D3 hP5
  generalize (N1.d3 act P2).2 = P3 at D3 hP5 L3
  simp (maxSteps := 3000000) only [go_sem, ↓reduceIte]
  refine Cal.mk actHasB_v ?_
  rintro _ _ ⟨rfl, rfl⟩ -
  simp (maxSteps := 3000000) only [go_sem, ↓reduceIte]
  refine If.cut [48, 49, 50, 51, 52, 53, 54, 55, 56] (fun _ s => DnI st (.sc (.iface t pv)) codes SI bx n k a r o [.sc (.int .u8 p.code), .sc (.int .u8 p.id), .sl tp (bs p.data), .sc (.int .u8 back.code), .sc (.int .u8 back.id), .sl tb (bs back.data)] (hasA act 1) (hasA act 2) (hasA act 8) s (N3) (Neg.d4 act p P3) ∧ (Neg.d4 act p P3).length ≤ 4) rfl ?_ ?_
  · refine If.mk (fun e => ?_) (fun e => ?_)
    · obtain ⟨tv, hbo, R⟩ := D3.bo
      have hba := D3.ba
      simp (maxSteps := 3000000) only [go_sem, ↓reduceIte, hbo, hba]
      repeat (apply And.intro; focus (first | omega | (simp; done)))
      refine App.mk (bytes := 32) (l := ctls (P3)) (ys := ctls [⟨6, p.id, []⟩]) R.own (allSz_ctls _) (by simp only [ctls_len, List.length_cons, List.length_nil]; unfold maxLen; omega) (by simp only [ctls_len, List.length_cons, List.length_nil]; omega) ?_
      intro r2 s2 k1 k2
      obtain ⟨t2, rfl⟩ := own_sl k1
      have hb2 := hbo
      rw [← k2.box] at hb2
      simp (maxSteps := 3000000) only [go_sem, ↓reduceIte, hb2, at_cutk_n]
      have D4 := D3.push hU hlt R k1 k2
      simp only [Neg.d4, e, ↓reduceIte]
      exact ⟨D4, by simp only [List.length_append, List.length_cons, List.length_nil]; omega⟩
    · simp (maxSteps := 3000000) only [go_sem, at_cutk_n]
      simp only [Neg.d4, e, Bool.false_eq_true, ↓reduceIte]
      exact ⟨D3, by omega⟩
  rintro _ s4 ⟨D4, L4⟩
  clear D3
  generalize Neg.d4 act p P3 = P4 at D4 hP5 L4
  simp (maxSteps := 3000000) only [go_sem, ↓reduceIte]
  refine Cal.mk actHasB_v ?_
  rintro _ _ ⟨rfl, rfl⟩ -
  simp (maxSteps := 3000000) only [go_sem, ↓reduceIte]
  refine If.cut [58, 59, 60, 61, 62, 63, 64, 65, 66, 67, 68] (fun _ s => DnI st (.sc (.iface t pv)) codes SI bx n k a r o [.sc (.int .u8 p.code), .sc (.int .u8 p.id), .sl tp (bs p.data), .sc (.int .u8 back.code), .sc (.int .u8 back.id), .sl tb (bs back.data)] (hasA act 1) (hasA act 2) (hasA act 8) s ((N3.d5 act p P4).1) ((N3.d5 act p P4).2) ∧ ((N3.d5 act p P4).2).length ≤ 5) rfl ?_ ?_
  · refine If.mk (fun e => ?_) (fun e => ?_)
    · obtain ⟨tv, hbo, R⟩ := D4.bo
      have hba := D4.ba
      simp (maxSteps := 3000000) only [go_sem, ↓reduceIte, hbo, hba]
      refine Cal.mk (negFresh_v hU D4.neg) ?_
      rintro _ s1 ⟨rfl, h1, T1⟩ -
      have D5 := D4.step h1 T1
      have hb1 := T1.box o _ hbo (fun hm => by have := D4.below o hm; have := D4.so; omega)
      have ha1 := T1.box a _ hba (fun hm => by have := D4.below a hm; have := D4.sa; omega)
      have R1 := R.tn T1 (fun _ _ => rfl)
      simp (maxSteps := 3000000) only [go_sem, ↓reduceIte, hb1, ha1]
      repeat (apply And.intro; focus (first | omega | (simp; done)))
      refine Cal.mk (cpReject_v (tk := tp) hp) ?_
      rintro _ _ ⟨rfl, rfl⟩ -
      simp (maxSteps := 3000000) only [go_sem, ↓reduceIte, hb1, Ctl.v]
      repeat (apply And.intro; focus (first | omega | (simp; done)))
      refine App.mk (bytes := 32) (l := ctls (P4)) (ys := ctls [rejC N3.bump.id p 1400]) R1.own (allSz_ctls _) (by simp only [ctls_len, List.length_cons, List.length_nil]; unfold maxLen; omega) (by simp only [ctls_len, List.length_cons, List.length_nil]; omega) ?_
      intro r2 s2 k1 k2
      obtain ⟨t2, rfl⟩ := own_sl k1
      have hb2 := hb1
      rw [← k2.box] at hb2
      simp (maxSteps := 3000000) only [go_sem, ↓reduceIte, hb2, at_cutk_n]
      have D6 := D5.push hU hlt R1 k1 k2
      simp only [Neg.d5, e, ↓reduceIte]
      exact ⟨D6, by simp only [List.length_append, List.length_cons, List.length_nil]; omega⟩
    · simp (maxSteps := 3000000) only [go_sem, at_cutk_n]
      simp only [Neg.d5, e, Bool.false_eq_true, ↓reduceIte]
      exact ⟨D4, by omega⟩
  rintro _ s5 ⟨D5, L5⟩
  clear D4
  generalize (N3.d5 act p P4).1 = N5 at D5 hP5
  generalize (N3.d5 act p P4).2 = P5' at D5 hP5 L5
  simp (maxSteps := 3000000) only [go_sem, ↓reduceIte]
  refine Cal.mk actHasB_v ?_
  rintro _ _ ⟨rfl, rfl⟩ -
  obtain ⟨tv, hbo, R⟩ := D5.bo
  have hbr := D5.br
  obtain ⟨tk, hbn⟩ := D5.neg.box
  unfold negC at hbn
  have hno : n ≠ o := fun e => by subst e; have := D5.below n (by simp); have := D5.so; omega
  have hnr : n ≠ r := fun e => by subst e; have := D5.below n (by simp); have := D5.sr; omega
  have hro := D5.ro
  have T6 := fun (q : St) (hq : Tn (n :: bx) st q) => hq.put (b := r) (cs := [.sl tv (ctls P5'), .sc (.bool (hasA act 1)), .sc (.bool (hasA act 2)), .sc (.bool (hasA act 8))]) (.inr D5.sr) hlt
  have hrd : ∀ b ∈ n :: bx, b ∉ [r] := fun b hb hm => by
    simp only [List.mem_singleton] at hm
    subst hm
    have := D5.below _ hb
    have := D5.sr
    omega
  subst hP5
  cases e : hasA act 2
  · simp (maxSteps := 3000000) only [go_sem, ↓reduceIte, hbo, hbr]
    have T7 := T6 s5 D5.tn
    have h7 := D5.neg.tnx hU ((Tn.refl (bx := [r]) D5.tn.lt).put (b := r) (cs := [.sl tv (ctls P5'), .sc (.bool (hasA act 1)), .sc (.bool (hasA act 2)), .sc (.bool (hasA act 8))]) (.inl (by simp)) D5.tn.lt) hrd
    refine ⟨_, _, Wk.refl _, T7.lt.weak, tv, by rw [e], R.put D5.sr, ?_, T7, by show P5'.length ≤ 5; omega⟩
    simp only [Neg.d6, e, Bool.false_eq_true, ↓reduceIte]
    rw [e] at h7
    exact h7
  · have T6' := (D5.tn.put (b := n) (cs := [.sc (.int .i64 N5.s), .sc (.int .i64 N5.left), .sc (.int .i64 N5.at_), .sc (.iface t pv), .sc (.int .u8 codes), .sc (.int .u8 N5.id), .sl tk (bs N5.req), .sc (.int .i64 0)]) (.inl (by simp)) hlt)
    have hw := D5.neg.write hU (N' := { N5 with naks := 0 }) (tk := tk) rfl D5.neg.l0 D5.neg.l1 D5.neg.i0 D5.neg.i1 (Int.le_refl 0) (by simp only; omega) D5.neg.rb
    unfold negC at hw
    have R6 : RO 3 st.bare (s5.put n [.sc (.int .i64 N5.s), .sc (.int .i64 N5.left), .sc (.int .i64 N5.at_), .sc (.iface t pv), .sc (.int .u8 codes), .sc (.int .u8 N5.id), .sl tk (bs N5.req), .sc (.int .i64 0)]) (.sl tv (ctls P5')) (ctls P5') := R.tn ((Tn.refl (bx := [n]) R.lt).put (.inl (by simp)) R.lt) (fun _ _ => rfl)
    simp (maxSteps := 3000000) only [go_sem, ↓reduceIte, hbn, hbo, hbr, put_box_ne hno.symm, put_box_ne hnr.symm]
    generalize s5.put n _ = s6 at T6' hw R6 ⊢
    have T7 := T6 s6 T6'
    have h7 := hw.tnx hU ((Tn.refl (bx := [r]) T6'.lt).put (b := r) (cs := [.sl tv (ctls P5'), .sc (.bool (hasA act 1)), .sc (.bool (hasA act 2)), .sc (.bool (hasA act 8))]) (.inl (by simp)) T6'.lt) hrd
    refine ⟨_, _, Wk.refl _, T7.lt.weak, tv, by rw [e], R6.put D5.sr, ?_, T7, by show P5'.length ≤ 5; omega⟩
    simp only [Neg.d6, e, ↓reduceIte]
    rw [e] at h7
    exact h7
end
end
section
open Go
structure Ex (base st s : St) : Prop where
  box : ∀ b cs, st.box b = some cs → s.box b = some cs
  own : ∀ g m, st.own g = some m → g < base.sz → s.own g = some m
  sz : st.sz ≤ s.sz
  lt : s.Lt
theorem Tn.ex {bx : List Nat} {base s0 st s : St} (h : Tn bx s0 st) (k : Ex base st s) (hs : s0.sz ≤ base.sz) (hl : s0.Lt) : Tn bx s0 s :=
  ⟨fun b cs hb hn => k.box b cs (h.box b cs hb hn), fun g m hg => k.own g m (h.own g m hg) (by have := hl.own g m hg; omega), Nat.le_trans h.sz k.sz, k.lt⟩
theorem RO.down {size : Nat} {st s1 s : St} {r : V} {l : List V} (h : RO size s1.bare s r l) (hs : st.sz ≤ s1.sz) : RO size st.bare s r l :=
  ⟨h.own, bare_weak (by have := h.weak.sz; exact Nat.le_trans hs this), h.lt, fun g k l' e => Nat.le_trans hs (h.tok g k l' e)⟩
def outV (tv : Tk) (X : Nout) : V := .agg [.sl tv (ctls X.P), .sc (.bool X.up), .sc (.bool X.down), .sc (.bool X.over)]
theorem IsB.nil' : IsB [] := fun x h => by cases h
theorem zeroC_good : zeroC.Good := ⟨by decide, by decide, by decide, by decide, IsB.nil', by simp [zeroC]⟩
section
variable {R : Type} {U : Rul R} {t : TypeId} {pv : Value} {SI : Nat → St → R → Prop} {bx : List Nat} {codes : Int} {n k m : Nat} {st s s2 base : St} {N N' : Neg R}
theorem NegI.ex (hU : RulC U t pv SI bx) {iv : V} (h : NegI iv codes SI bx n k st N) (E : Ex base st s) : NegI iv codes SI bx n k s N :=
  ⟨by obtain ⟨tk, hx⟩ := h.box; exact ⟨tk, E.box n _ hx⟩, hU.stay k st s _ h.si (fun b cs hc _ => E.box b cs hc) E.sz, h.nn, h.l0, h.l1, h.i0, h.i1, h.a0, h.a1, h.rb⟩
set_option maxRecDepth 100000 in
set_option maxHeartbeats 4000000 in
theorem negJoin_v {X Y : Nout} {ta tb : Tk} (hR : RO 3 base st (.sl ta (ctls X.P)) (ctls X.P)) (hb : ∀ b, base.box b = none) (hx : X.P.length ≤ 1000) (hy : Y.P.length ≤ 1000) :
    VCalls Tryz.prog 84 [outV ta X, outV tb Y] st fun r s => ∃ tv, r = outV tv (X.both Y) ∧ RO 3 base s (.sl tv (ctls (X.both Y).P)) (ctls (X.both Y).P) ∧ Ex base st s := by
  obtain ⟨P, u, d, v⟩ := X
  obtain ⟨P2, u2, d2, v2⟩ := Y
  simp only at hR hx hy
  show VCalls Tryz.prog 84 [.agg [.sl ta (ctls P), .sc (.bool u), .sc (.bool d), .sc (.bool v)], .agg [.sl tb (ctls P2), .sc (.bool u2), .sc (.bool d2), .sc (.bool v2)]] st fun r s => ∃ tv, r = .agg [.sl tv (ctls (P ++ P2)), .sc (.bool (u || u2)), .sc (.bool (d || d2)), .sc (.bool (v || v2))] ∧ RO 3 base s (.sl tv (ctls (P ++ P2))) (ctls (P ++ P2)) ∧ Ex base st s
  refine vcalls_enter vc84 (Nat.le_of_ble_eq_true rfl) fun hwf hok => ?_
  show Run _ Vc84.body (.fin (finQ Vc84.res _)) _ _
  unfold Vc84 zg zn zo
  have hlt := hwf.lt
  simp (maxSteps := 3000000) only [go_sem, ↓reduceIte]
  intro a ha b hb' q hq
  have ab : a ≠ b := by omega
  have aq : a ≠ q := by omega
  have bq : b ≠ q := by omega
  have sb : st.sz ≤ b := by omega
  have sq : st.sz ≤ q := by omega
  have T0 : Tn [] st (((st.put a [.sl ta (ctls P), .sc (.bool u), .sc (.bool d), .sc (.bool v)]).put b [.sl tb (ctls P2), .sc (.bool u2), .sc (.bool d2), .sc (.bool v2)]).put q [.sl .nil [], .sc (.bool false), .sc (.bool false), .sc (.bool false)]) :=
    ((tn_new hlt ha).put (.inr sb) hlt).put (.inr sq) hlt
  have Ba : (((st.put a [.sl ta (ctls P), .sc (.bool u), .sc (.bool d), .sc (.bool v)]).put b [.sl tb (ctls P2), .sc (.bool u2), .sc (.bool d2), .sc (.bool v2)]).put q [.sl .nil [], .sc (.bool false), .sc (.bool false), .sc (.bool false)]).box a = some [.sl ta (ctls P), .sc (.bool u), .sc (.bool d), .sc (.bool v)] := by
    rw [put_box_ne aq, put_box_ne ab, put_box_same]
  have Bb : (((st.put a [.sl ta (ctls P), .sc (.bool u), .sc (.bool d), .sc (.bool v)]).put b [.sl tb (ctls P2), .sc (.bool u2), .sc (.bool d2), .sc (.bool v2)]).put q [.sl .nil [], .sc (.bool false), .sc (.bool false), .sc (.bool false)]).box b = some [.sl tb (ctls P2), .sc (.bool u2), .sc (.bool d2), .sc (.bool v2)] := by
    rw [put_box_ne bq, put_box_same]
  have Bq : (((st.put a [.sl ta (ctls P), .sc (.bool u), .sc (.bool d), .sc (.bool v)]).put b [.sl tb (ctls P2), .sc (.bool u2), .sc (.bool d2), .sc (.bool v2)]).put q [.sl .nil [], .sc (.bool false), .sc (.bool false), .sc (.bool false)]).box q = some [.sl .nil [], .sc (.bool false), .sc (.bool false), .sc (.bool false)] := put_box_same
  have R0 := hR.tn T0 (by simp)
  generalize ((st.put a _).put b _).put q _ = s0 at T0 Ba Bb Bq R0 ⊢
  have fin : ∀ (r2 : V) (s2 : St) (cs : List V), Own 3 s2 r2 (ctls (P ++ P2)) → AppSt s0 (.sl ta (ctls P)) s2 r2 → RO 3 base (s2.put q cs) r2 (ctls (P ++ P2)) ∧ Ex base st (s2.put q cs) := fun r2 s2 cs k1 k2 => by
    have R2 := R0.app k1 k2
    have bsz := hR.weak.sz
    refine ⟨R2.put (c := q) (by omega), fun c ds hc => ?_, fun g m hg hl => ?_, ?_, R2.lt.put⟩
    · have := hlt.box c ds hc
      rw [put_box_ne (by omega), k2.box]
      exact T0.box c ds hc (by simp)
    · exact k2.own g m (T0.own g m hg) (fun l k e => by have := R0.tok g k l e; omega)
    · have := T0.sz; have := k2.sz; simp only [put_sz]; omega
  cases u <;> cases d <;> cases v
  all_goals
    simp (maxSteps := 3000000) only [go_sem, ↓reduceIte, Ba, Bb]
    refine App.mk (bytes := 32) (l := ctls P) (ys := ctls P2) R0.own (allSz_ctls _) (by simp only [ctls_len]; unfold maxLen; omega) (by simp only [ctls_len]; omega) ?_
    intro r2 s2 k1 k2
    have b1 := Ba
    have b2 := Bb
    have b3 := Bq
    rw [← k2.box] at b1 b2 b3
    rw [ctls_append] at k1
    obtain ⟨t2, rfl⟩ := own_sl k1
    simp (maxSteps := 3000000) only [go_sem, ↓reduceIte, b1, b2, b3]
    obtain ⟨f1, f2⟩ := fin _ s2 _ k1 k2
    exact ⟨_, _, Wk.refl _, f1.lt.weak, t2, rfl, f1, f2⟩
theorem NOut.put (hU : RulC U t pv SI bx) {iv : V} {s1 : St} {X : Neg R × Nout} {tv : Tk} (hlt : st.Lt) {q : Nat} {cs : List V} (hq : st.sz ≤ q) (hq' : q ∉ n :: bx) (hs : st.sz ≤ s1.sz)
    (R2 : RO 3 s1.bare s2 (.sl tv (ctls X.2.P)) (ctls X.2.P)) (h2 : NegI iv codes SI bx n k s2 X.1) (T : Tn (n :: bx) st s2) (L : X.2.P.length ≤ m) :
    NOut st iv codes SI bx n k m X (outV tv X.2) (s2.put q cs) :=
  ⟨tv, rfl, (R2.down hs).put (c := q) hq, h2.tnx hU ((Tn.refl (bx := [q]) T.lt).put (.inl (by simp)) T.lt) (fun b hb hm => by
    simp only [List.mem_singleton] at hm
    subst hm
    exact hq' hb), T.put (.inr hq) hlt, L⟩
theorem NOut.lt {iv : V} {X : Neg R × Nout} {r : V} (h : NOut st iv codes SI bx n k m X r s) : s.Lt := by
  obtain ⟨_, _, _, _, T, _⟩ := h
  exact T.lt
set_option maxRecDepth 100000 in
set_option maxHeartbeats 4000000 in
theorem negClose_v (hU : RulC U t pv SI bx) (h : NegI (.sc (.iface t pv)) codes SI bx n k st N) {now : Int} (hn : 0 ≤ now) (hn2 : now ≤ 1000000000) :
    VCalls Tryz.prog 61 [ptrV n, .sc (.int .i64 now)] st (NOut st (.sc (.iface t pv)) codes SI bx n k 5 (N.close U now)) := by
  refine vcalls_enter vc61 (Nat.le_of_ble_eq_true rfl) fun hwf hok => ?_
  show Run _ Vc61.body (.fin (finQ Vc61.res _)) _ _
  unfold Vc61 zn zo
  have hlt := hwf.lt
  simp (maxSteps := 3000000) only [go_sem, ↓reduceIte]
  intro q hq
  have T0 : Tn [] st (st.put q [.sl .nil [], .sc (.bool false), .sc (.bool false), .sc (.bool false)]) := tn_new hlt hq
  have h0 := h.tn hU T0
  have Bq : (st.put q [.sl .nil [], .sc (.bool false), .sc (.bool false), .sc (.bool false)]).box q = some [.sl .nil [], .sc (.bool false), .sc (.bool false), .sc (.bool false)] := put_box_same
  generalize st.put q [.sl .nil [], .sc (.bool false), .sc (.bool false), .sc (.bool false)] = s0 at T0 h0 Bq ⊢
  have hq' : q ∉ n :: bx := fun hm => by have := h.lt hU hlt q hm; omega
  refine Cal.mk (negDo_v hU h0 hn hn2) ?_
  rintro _ s1 ⟨rfl, h1, T1⟩ -
  simp (maxSteps := 3000000) only [go_sem, ↓reduceIte]
  refine Cal.mk (negDone_v hU h1 (p := zeroC) (back := zeroC) (tp := .nil) (tb := .nil) zeroC_good) ?_
  rintro _ s2 ⟨tv, rfl, R2, h2, T2, L2⟩ -
  have B2 := T2.box q _ (T1.box q _ Bq hq') hq'
  simp (maxSteps := 3000000) only [go_sem, ↓reduceIte, B2]
  have T3 : Tn (n :: bx) st s2 := ((T0.wide (by simp)).trans T1).trans T2
  have O := NOut.put hU hlt hq hq' (by have := T0.sz; have := T1.sz; omega) R2 h2 T3 L2 (X := N.close U now) (cs := [.sl tv (ctls (N.close U now).2.P), .sc (.bool (N.close U now).2.up), .sc (.bool (N.close U now).2.down), .sc (.bool (N.close U now).2.over)])
  exact ⟨_, _, Wk.refl _, O.lt.weak, O⟩
set_option maxRecDepth 100000 in
set_option maxHeartbeats 4000000 in
theorem negStart_v (hU : RulC U t pv SI bx) (h : NegI (.sc (.iface t pv)) codes SI bx n k st N) {now : Int} (hn : 0 ≤ now) (hn2 : now ≤ 1000000000) :
    VCalls Tryz.prog 63 [ptrV n, .sc (.int .i64 now)] st (NOut st (.sc (.iface t pv)) codes SI bx n k 10 (N.start U now)) := by
  refine vcalls_enter vc63 (Nat.le_of_ble_eq_true rfl) fun hwf hok => ?_
  show Run _ Vc63.body (.fin (finQ Vc63.res _)) _ _
  unfold Vc63 zn zo
  have hlt := hwf.lt
  simp (maxSteps := 3000000) only [go_sem, ↓reduceIte]
  intro q hq
  have T0 : Tn [] st (st.put q [.sl .nil [], .sc (.bool false), .sc (.bool false), .sc (.bool false)]) := tn_new hlt hq
  have h0 := h.tn hU T0
  have Bq : (st.put q [.sl .nil [], .sc (.bool false), .sc (.bool false), .sc (.bool false)]).box q = some [.sl .nil [], .sc (.bool false), .sc (.bool false), .sc (.bool false)] := put_box_same
  generalize st.put q [.sl .nil [], .sc (.bool false), .sc (.bool false), .sc (.bool false)] = s0 at T0 h0 Bq ⊢
  have hq' : q ∉ n :: bx := fun hm => by have := h.lt hU hlt q hm; omega
  refine Cal.mk (negDo_v hU h0 hn hn2) ?_
  rintro _ s1 ⟨rfl, h1, T1⟩ -
  simp (maxSteps := 3000000) only [go_sem, ↓reduceIte]
  refine Cal.mk (negDone_v hU h1 (p := zeroC) (back := zeroC) (tp := .nil) (tb := .nil) zeroC_good) ?_
  rintro _ s2 ⟨tv, rfl, R2, h2, T2, L2⟩ -
  have B2 := T2.box q _ (T1.box q _ Bq hq') hq'
  have T02 : Tn (n :: bx) st s2 := ((T0.wide (by simp)).trans T1).trans T2
  have R2' := R2.down (st := st) (by have := T0.sz; have := T1.sz; omega)
  have ea : Neg.done U (N.step now 0) (stepF N.s 0).2 false zeroC zeroC = N.event U now 0 zeroC zeroC := rfl
  obtain ⟨A, hA⟩ : ∃ A, A = N.event U now 0 zeroC zeroC := ⟨_, rfl⟩
  rw [ea, ← hA] at R2 h2 L2 R2' ⊢
  simp (maxSteps := 3000000) only [go_sem, ↓reduceIte]
  intro c hc
  have hcs : st.sz ≤ c := by have := T02.sz; omega
  have qc : q ≠ c := by have := T02.lt.box q _ B2; omega
  have hc' : c ∉ n :: bx := fun hm => by have := h.lt hU hlt c hm; omega
  have T3 : Tn [] s2 (s2.put c [.sl tv (ctls A.2.P), .sc (.bool A.2.up), .sc (.bool A.2.down), .sc (.bool A.2.over)]) := tn_new T2.lt hc
  have h3 := h2.tn hU T3
  have B3 : (s2.put c [.sl tv (ctls A.2.P), .sc (.bool A.2.up), .sc (.bool A.2.down), .sc (.bool A.2.over)]).box q = some [.sl .nil [], .sc (.bool false), .sc (.bool false), .sc (.bool false)] := by rw [put_box_ne qc]; exact B2
  have C3 : (s2.put c [.sl tv (ctls A.2.P), .sc (.bool A.2.up), .sc (.bool A.2.down), .sc (.bool A.2.over)]).box c = some [.sl tv (ctls A.2.P), .sc (.bool A.2.up), .sc (.bool A.2.down), .sc (.bool A.2.over)] := put_box_same
  have T03 := T02.trans (T3.wide (by simp))
  have R3 := R2'.put (c := c) (cs := [.sl tv (ctls A.2.P), .sc (.bool A.2.up), .sc (.bool A.2.down), .sc (.bool A.2.over)]) hcs
  generalize s2.put c [.sl tv (ctls A.2.P), .sc (.bool A.2.up), .sc (.bool A.2.down), .sc (.bool A.2.over)] = s3 at T3 h3 B3 C3 T03 R3 ⊢
  refine Cal.mk (negDo_v hU h3 hn hn2) ?_
  rintro _ s4 ⟨rfl, h4, T4⟩ -
  have C4 := T4.box c _ C3 hc'
  simp (maxSteps := 3000000) only [go_sem, ↓reduceIte, C4]
  refine Cal.mk (negDone_v hU h4 (p := zeroC) (back := zeroC) (tp := .nil) (tb := .nil) zeroC_good) ?_
  rintro _ s5 ⟨tw, rfl, R5, h5, T5, L5⟩ -
  have C5 := T5.box c _ C4 hc'
  have B5 := T5.box q _ (T4.box q _ B3 hq') hq'
  have T05 := (T03.trans T4).trans T5
  have RA := (R3.tn T4 (fun _ _ => rfl)).tn T5 (fun _ _ => rfl)
  have eb : Neg.done U (A.1.step now 2) (stepF A.1.s 2).2 false zeroC zeroC = A.1.event U now 2 zeroC zeroC := rfl
  obtain ⟨D, hD⟩ : ∃ D, D = A.1.event U now 2 zeroC zeroC := ⟨_, rfl⟩
  rw [eb, ← hD] at R5 h5 L5 ⊢
  have hst : N.start U now = (D.1, A.2.both D.2) := by rw [hD, hA]; rfl
  rw [hst]
  simp (maxSteps := 3000000) only [go_sem, ↓reduceIte, C5]
  repeat (apply And.intro; focus (first | omega | (simp; done)))
  refine Cal.mk (negJoin_v (X := A.2) (Y := D.2) (tb := tw) RA (fun _ => rfl) (by omega) (by omega)) ?_
  rintro _ s6 ⟨tx, rfl, R6, E6⟩ -
  have T06 := T05.ex E6 (Nat.le_refl _) hlt
  have h6 := h5.ex hU E6
  have B6 := E6.box q _ B5
  have O := NOut.put (m := 10) (X := (D.1, A.2.both D.2)) hU hlt hq hq' (Nat.le_refl _) R6 h6 T06 (by simp only [Nout.both, List.length_append]; omega) (cs := [.sl tx (ctls (A.2.both D.2).P), .sc (.bool (A.2.both D.2).up), .sc (.bool (A.2.both D.2).down), .sc (.bool (A.2.both D.2).over)])
  simp (maxSteps := 3000000) only [go_sem, ↓reduceIte, B6, outV]
  exact ⟨_, _, Wk.refl _, O.lt.weak, O⟩
end
end
section
open Go
theorem theirsO_snoc {l like : List Opt} {i : Nat} {o : Opt} (h : l[i]? = some o) : theirsO (l.take (i + 1)) like = theirsO (l.take i) like ++ if (findO like o.1).isSome = true then [o] else [] := by
  rw [take_snoc h]
  simp only [theirsO, List.filter_append]
  congr 1
  cases e : (findO like o.1).isSome <;> simp [e]
theorem theirsO_len (l like : List Opt) : (theirsO l like).length ≤ l.length := List.length_filter_le _ _
theorem theirsO_good {l like : List Opt} (h : GoodO l) : GoodO (theirsO l like) := fun o ho => h o (List.mem_filter.1 ho).1
section
variable {st : St} {l like : List Opt} {tk tk2 : Tk}
set_option maxRecDepth 100000 in
set_option maxHeartbeats 4000000 in
theorem negTheirs_v (hl : l.length ≤ 1000000) (hm : like.length ≤ 1000000) (hG : GoodO like) (hGl : GoodO l) : VCalls Tryz.prog 123 [.sl tk (opts l), .sl tk2 (opts like)] st fun r s => r = .sl .no (opts (theirsO l like)) ∧ st = s := by
  refine vcalls_enter vc123 (Nat.le_of_ble_eq_true rfl) fun hwf hok => ?_
  show Run _ Vc123.body (.fin (finQ Vc123.res _)) _ _
  unfold Vc123 zn zo
  simp (maxSteps := 3000000) only [go_sem, ↓reduceIte]
  refine run_loop [5, 7, 8, 9, 12, 13, 14, 15, 16, 17, 18, 19, 20, 21, 22, 23, 24, 25, 26, 27, 28] (fun B s => ∃ (i : Nat) (v : V), i ≤ l.length ∧ B 12 = .sc (.int .i64 i) ∧ B 5 = v ∧ RO 2 st s v (opts (theirsO (l.take i) like))) (fun B _ => l.length - vnat (B 12)) rfl ?_ ?_
  · exact ⟨0, .sl .nil [], by omega, rfl, rfl, RO.nil hwf.weak hwf.lt⟩
  · rintro B s ⟨i, v, hi, h12, h5, R⟩
    obtain ⟨tv, hv⟩ := R.sl
    rw [hv] at h5 R
    by_cases c1 : i < l.length
    · obtain ⟨o, ho⟩ := get_ex c1
      have hsn := theirsO_snoc (like := like) ho
      have htl := theirsO_len (l.take i) like
      have htl2 : (l.take i).length ≤ l.length := by simp only [List.length_take]; omega
      simp (maxSteps := 3000000) only [go_sem, ↓reduceIte, h12, opts_len, opts_at ho, decide_eq_true (show (i : Int) < (l.length : Int) by omega)]
      repeat (apply And.intro; focus (first | omega | (simp; done)))
      intro a ha
      have sa : st.sz ≤ a := by have := R.weak.sz; omega
      have R1 := R.put (c := a) (cs := [.sc (.int .u8 o.1), .sl .no (bs o.2)]) sa
      have Ba : (s.put a [.sc (.int .u8 o.1), .sl .no (bs o.2)]).box a = some [.sc (.int .u8 o.1), .sl .no (bs o.2)] := put_box_same
      generalize s.put a [.sc (.int .u8 o.1), .sl .no (bs o.2)] = s1 at R1 Ba ⊢
      refine Cal.mk (optFind_v hm hG) ?_
      rintro _ _ ⟨rfl, rfl⟩ -
      cases hf : (findO like o.1).isSome
      · rw [hf] at hsn
        simp only [Bool.false_eq_true, ↓reduceIte, List.append_nil] at hsn
        simp (maxSteps := 3000000) only [go_sem, ↓reduceIte, Bool.false_eq_true]
        intro c hc
        have sc : st.sz ≤ c := by have := R1.weak.sz; omega
        simp (maxSteps := 3000000) only [go_sem, ↓reduceIte, h12]
        repeat (apply And.intro; focus (first | omega | (simp; done)))
        exact ⟨⟨i + 1, _, by omega, by simp, h5, by rw [hsn]; exact R1.put sc⟩, by omega⟩
      · rw [hf] at hsn
        simp only [↓reduceIte] at hsn
        simp (maxSteps := 3000000) only [go_sem, ↓reduceIte]
        intro c hc
        have sc : st.sz ≤ c := by have := R1.weak.sz; omega
        have ac : a ≠ c := by have := R1.lt.box a _ Ba; omega
        simp (maxSteps := 3000000) only [go_sem, ↓reduceIte, put_box_ne ac, Ba, h5]
        refine App.mk (bytes := 32) (l := opts (theirsO (l.take i) like)) (ys := opts [o]) (R1.put sc).own (allSz_opts _) (by simp only [opts_len, List.length_cons, List.length_nil]; unfold maxLen; omega) (by simp only [opts_len, List.length_cons, List.length_nil]; omega) ?_
        intro r2 s2 k1 k2
        have R2 := (R1.put sc).app k1 k2
        rw [opts_append, ← hsn] at R2
        simp (maxSteps := 3000000) only [go_sem, ↓reduceIte, h12]
        repeat (apply And.intro; focus (first | omega | (simp; done)))
        exact ⟨⟨i + 1, _, by omega, by simp, rfl, R2⟩, by omega⟩
    · obtain rfl : i = l.length := by omega
      rw [List.take_length] at R h5
      simp (maxSteps := 3000000) only [go_sem, ↓reduceIte, h12, h5, opts_len]
      exact ⟨_, _, Wk.no, R.weak, rfl, rfl⟩
end
section
variable {R : Type} {U : Rul R} {t : TypeId} {pv : Value} {SI : Nat → St → R → Prop} {bx : List Nat} {codes : Int} {n k m : Nat} {st s s2 base : St} {N N' : Neg R}
theorem NegI.rules {iv : V} {r : R} {k' : Nat} (h : NegI iv codes SI bx n k st N) (T : Tn bx st s) (hs : SI k' s r) (hk : k ≤ k') : NegI iv codes SI bx n k' s { N with r := r } :=
  ⟨by obtain ⟨tk, hb⟩ := h.box; exact ⟨tk, T.box n _ hb h.nn⟩, hs, h.nn, h.l0, h.l1, h.i0, h.i1, h.a0, by have := h.a1; simp only; omega, h.rb⟩
set_option maxRecDepth 100000 in
set_option maxHeartbeats 4000000 in
theorem negJudge_v (hU : RulC U t pv SI bx) (h : NegI (.sc (.iface t pv)) codes SI bx n k st N) (hk : k ≤ 1000000000) {p : Ctl} (hp : p.Good) {tp tk : Tk} {l : List Opt} (hG : GoodO l) (hl : l.length ≤ 1000000) :
    VCalls Tryz.prog 106 [ptrV n, p.v tp, .sl tk (opts l)] st fun r s => r = .tup [(N.judge U p l).2.1.v, .sc (.bool (N.judge U p l).2.2)] ∧ NegI (.sc (.iface t pv)) codes SI bx n (k + 1) s (N.judge U p l).1 ∧ Tn (n :: bx) st s := by
  obtain ⟨fj, hm, hc, hj⟩ := hU.judge
  obtain ⟨c, i, D⟩ := p
  show VCalls Tryz.prog 106 [ptrV n, .agg [.sc (.int .u8 c), .sc (.int .u8 i), .sl tp (bs D)], .sl tk (opts l)] st _
  refine vcalls_enter vc106 (Nat.le_of_ble_eq_true rfl) fun hwf hok => ?_
  show Run _ Vc106.body (.fin (finQ Vc106.res _)) _ _
  unfold Vc106 zn zo
  have hlt := hwf.lt
  simp (maxSteps := 3000000) only [go_sem, ↓reduceIte]
  intro a ha q hq
  have aq : a ≠ q := by omega
  have sq : st.sz ≤ q := by omega
  have had : a ∉ n :: bx := fun hm => by have := h.lt hU hlt a hm; omega
  have hqd : q ∉ n :: bx := fun hm => by have := h.lt hU hlt q hm; omega
  have T0 : Tn [] st ((st.put a [.sc (.int .u8 c), .sc (.int .u8 i), .sl tp (bs D)]).put q [.sc (.int .u8 0), .sc (.int .u8 0), .sl .nil []]) := (tn_new hlt ha).put (.inr sq) hlt
  have h0 := h.tn hU T0
  have Ba : ((st.put a [.sc (.int .u8 c), .sc (.int .u8 i), .sl tp (bs D)]).put q [.sc (.int .u8 0), .sc (.int .u8 0), .sl .nil []]).box a = some [.sc (.int .u8 c), .sc (.int .u8 i), .sl tp (bs D)] := by rw [put_box_ne aq, put_box_same]
  have Bq : ((st.put a [.sc (.int .u8 c), .sc (.int .u8 i), .sl tp (bs D)]).put q [.sc (.int .u8 0), .sc (.int .u8 0), .sl .nil []]).box q = some [.sc (.int .u8 0), .sc (.int .u8 0), .sl .nil []] := put_box_same
  generalize (st.put a _).put q _ = s0 at T0 h0 Ba Bq ⊢
  obtain ⟨tn, hbn⟩ := h0.box
  unfold negC at hbn
  simp (maxSteps := 3000000) only [go_sem, ↓reduceIte, hbn]
  refine Ivk.mk hm hc hU.one ?_
  refine Cal.mk (hj k s0 N.r l tk h0.si hk hG hl) ?_
  rintro _ s1 ⟨⟨t2, rfl⟩, hsi, T1⟩ -
  obtain ⟨g1, g2, g3, g4⟩ := hU.judgeG k s0 N.r l h0.si hG hl
  have h1 := h0.rules (k' := k + 1) T1 hsi (by omega)
  have hbn1 := T1.box n _ hbn h.nn
  have Ba1 := T1.box a _ Ba (fun hm => had (by simp [hm]))
  have Bq1 := T1.box q _ Bq (fun hm => hqd (by simp [hm]))
  have T01 : Tn (n :: bx) st s1 := (T0.wide (by simp)).trans (T1.wide (fun b hb => List.mem_cons_of_mem _ hb))
  obtain ⟨J, hJ⟩ : ∃ J, J = N.judge U ⟨c, i, D⟩ l := ⟨_, rfl⟩
  rw [← hJ]
  unfold Neg.judge at hJ
  simp only at hJ
  generalize U.judge N.r l = j at hsi g1 g2 g3 g4 h1 hJ ⊢
  obtain ⟨rr, code, out⟩ := j
  simp only at hsi g1 g2 g3 g4 h1 hJ ⊢
  have fin : ∀ (N2 : Neg R) (s2 : St) (c2 : Int) (o2 : List Opt) (cs : List V), J = (N2, ⟨c2, i, buildO o2⟩, decide (c2 = 2)) → NegI (.sc (.iface t pv)) codes SI bx n (k + 1) s2 N2 → Tn (n :: bx) st s2 →
      ∃ (r : V) (st' : St), Wk (.tup [.agg [.sc (.int .u8 c2), .sc (.int .u8 i), .sl .no (bs (buildO o2))], .sc (.bool (decide (c2 = 2)))]) r ∧ st'.weak (s2.put q cs) ∧ r = .tup [J.2.1.v, .sc (.bool J.2.2)] ∧ NegI (.sc (.iface t pv)) codes SI bx n (k + 1) st' J.1 ∧ Tn (n :: bx) st st' := fun N2 s2 c2 o2 cs e hn hT => by
    rw [e]
    have T9 := hT.put (b := q) (cs := cs) (.inr sq) hlt
    refine ⟨_, _, Wk.refl _, T9.lt.weak, rfl, hn.tnx hU ((Tn.refl (bx := [q]) hT.lt).put (.inl (by simp)) hT.lt) (fun b hb hm => ?_), T9⟩
    simp only [List.mem_singleton] at hm
    subst hm
    exact hqd hb
  have a0 := h.a0
  have a1 := h.a1
  have hnq : n ≠ q := fun e => hqd (by simp [e])
  have hna : n ≠ a := fun e => had (by simp [e])
  by_cases c3 : code = 3
  · subst c3
    have d33 : decide ((3 : Int) = 3) = true := rfl
    have d32 : decide ((3 : Int) = 2) = false := rfl
    have d42 : decide ((4 : Int) = 2) = false := rfl
    have h2 := h1.write hU (N' := { N with r := rr, naks := N.naks + 1 }) (tk := tn) rfl h.l0 h.l1 h.i0 h.i1 (by simp only; omega) (by simp only; omega) h.rb
    unfold negC at h2
    simp only at h2
    have T2 := T01.put (b := n) (cs := [.sc (.int .i64 N.s), .sc (.int .i64 N.left), .sc (.int .i64 N.at_), .sc (.iface t pv), .sc (.int .u8 codes), .sc (.int .u8 N.id), .sl tn (bs N.req), .sc (.int .i64 (N.naks + 1))]) (.inl (by simp)) hlt
    have Ba2 : (s1.put n [.sc (.int .i64 N.s), .sc (.int .i64 N.left), .sc (.int .i64 N.at_), .sc (.iface t pv), .sc (.int .u8 codes), .sc (.int .u8 N.id), .sl tn (bs N.req), .sc (.int .i64 (N.naks + 1))]).box a = _ := (put_box_ne hna.symm).trans Ba1
    have Bq2 : (s1.put n [.sc (.int .i64 N.s), .sc (.int .i64 N.left), .sc (.int .i64 N.at_), .sc (.iface t pv), .sc (.int .u8 codes), .sc (.int .u8 N.id), .sl tn (bs N.req), .sc (.int .i64 (N.naks + 1))]).box q = _ := (put_box_ne hnq.symm).trans Bq1
    by_cases c5 : 5 < N.naks + 1
    · simp (maxSteps := 3000000) only [go_sem, ↓reduceIte, hbn1, decide_eq_true c5]
      repeat (apply And.intro; focus (first | omega | (simp; done)))
      generalize s1.put n _ = s2 at T2 h2 Ba2 Bq2 ⊢
      refine Cal.mk (negTheirs_v hl g4 g3 hG) ?_
      rintro _ _ ⟨rfl, rfl⟩ -
      have htl := theirsO_len l out
      simp (maxSteps := 3000000) only [go_sem, ↓reduceIte, Ba2]
      refine Cal.mk (optBuild_v (theirsO_good hG) (by omega)) ?_
      rintro _ _ ⟨rfl, rfl⟩ -
      simp (maxSteps := 3000000) only [go_sem, ↓reduceIte, Ba2, Bq2]
      exact fin _ s2 4 (theirsO l out) _ (by rw [hJ]; simp [c5]) h2 T2
    · simp (maxSteps := 3000000) only [go_sem, ↓reduceIte, hbn1, decide_eq_false c5, Ba2]
      repeat (apply And.intro; focus (first | omega | (simp; done)))
      generalize s1.put n _ = s2 at T2 h2 Ba2 Bq2 ⊢
      refine Cal.mk (optBuild_v g3 (by omega)) ?_
      rintro _ _ ⟨rfl, rfl⟩ -
      simp (maxSteps := 3000000) only [go_sem, ↓reduceIte, Ba2, Bq2]
      exact fin _ s2 3 out _ (by rw [hJ]; simp [c5]) h2 T2
  · by_cases c2 : code = 2
    · subst c2
      have d22 : decide ((2 : Int) = 2) = true := rfl
      have d23 : decide ((2 : Int) = 3) = false := rfl
      have h2 := h1.write hU (N' := { N with r := rr, naks := 0 }) (tk := tn) rfl h.l0 h.l1 h.i0 h.i1 (Int.le_refl 0) (by simp only; omega) h.rb
      unfold negC at h2
      simp only at h2
      have T2 := T01.put (b := n) (cs := [.sc (.int .i64 N.s), .sc (.int .i64 N.left), .sc (.int .i64 N.at_), .sc (.iface t pv), .sc (.int .u8 codes), .sc (.int .u8 N.id), .sl tn (bs N.req), .sc (.int .i64 0)]) (.inl (by simp)) hlt
      have Ba2 : (s1.put n [.sc (.int .i64 N.s), .sc (.int .i64 N.left), .sc (.int .i64 N.at_), .sc (.iface t pv), .sc (.int .u8 codes), .sc (.int .u8 N.id), .sl tn (bs N.req), .sc (.int .i64 0)]).box a = _ := (put_box_ne hna.symm).trans Ba1
      have Bq2 : (s1.put n [.sc (.int .i64 N.s), .sc (.int .i64 N.left), .sc (.int .i64 N.at_), .sc (.iface t pv), .sc (.int .u8 codes), .sc (.int .u8 N.id), .sl tn (bs N.req), .sc (.int .i64 0)]).box q = _ := (put_box_ne hnq.symm).trans Bq1
      simp (maxSteps := 3000000) only [go_sem, ↓reduceIte, hbn1, Ba2]
      generalize s1.put n _ = s2 at T2 h2 Ba2 Bq2 ⊢
      refine Cal.mk (optBuild_v g3 (by omega)) ?_
      rintro _ _ ⟨rfl, rfl⟩ -
      simp (maxSteps := 3000000) only [go_sem, ↓reduceIte, Ba2, Bq2]
      exact fin _ s2 2 out _ (by rw [hJ]; simp) h2 T2
    · have h2 : NegI (.sc (.iface t pv)) codes SI bx n (k + 1) s1 { N with r := rr, naks := N.naks } := h1
      simp (maxSteps := 3000000) only [go_sem, ↓reduceIte, decide_eq_false c3, decide_eq_false c2, Ba1]
      refine Cal.mk (optBuild_v g3 (by omega)) ?_
      rintro _ _ ⟨rfl, rfl⟩ -
      simp (maxSteps := 3000000) only [go_sem, ↓reduceIte, Ba1, Bq1]
      have hd : decide (code = 2) = false := decide_eq_false c2
      have := fin _ s1 code out [.sc (.int .u8 code), .sc (.int .u8 i), .sl .no (bs (buildO out))] (by rw [hJ]; simp [c3, c2]) h2 T01
      rw [hd] at this
      exact this
end
end
end Go.Proofs.YtmmapbojjgpggaaGreat
