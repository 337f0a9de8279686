/- Steps of the proof, joined: VEnter, VSeat, VOpenB. -/
import Derived.Test.YtlngegoamfklgaaZeb
import Derived.Test.YtlngegoamfklgaaZwb
import Derived.Test.YtlngegoamfklgaaVc
namespace Go.Proofs.Ytlngegoamfklgaa
open Go
attribute [local go_sem] run_skip run_reg run_seq run_blk run_exit run_ret run_cond if_true if_false at_code_n at_code_x at_code_r at_blk_n at_blk_x at_blk_r at_rnd_n at_rnd_x at_rnd_r at_fin_n at_fin_r ops_nil ops_grd grd_und grd_tt grd_ff grd_tf grd_ft ops_mv ops_pick ops_bin ops_un ops_binb ops_eqs ops_isnil ops_pnil ops_b2s ops_s2b ops_b2sB ops_s2a ops_slcA ops_aidx vaidx vb2sB vs2a vslcA ops_sidx vs2b vsidx srcX ops_appx apx_mk ops_mks ops_mko mks_int mko_int vbinb veqs visnil vpnil vb2s ops_conv ops_fld ops_ix ops_ixa ops_load ops_nilck ops_ext ops_len ops_slen ops_mn ops_mx ops_bld ops_bsl ops_slc ops_sslc ops_box ops_alc ops_alcX ops_boxX ops_bslo ops_store ops_app ops_call ev_t ev_c put_get put_none opv_mk stb_some sto_ptr over_get rel_mk vnat Bx Stp vbld vbsl put_box_same put_box_ne put_sz put_own use_box use_sz put_put args0 List.getD_cons_zero List.getD_cons_succ List.getD_nil vpick vbin vbinI vbinS vun vconv norm vfld vnil vlen vslen vext vmm vix vixa vload takeV takeB mono_nil mono_two mono_sc mono_any mono_und mono_sl mono_agg mono_ep vmlk vmlen vmnil vent vmfn allSc vslc3 kOk fitsV ops_mlk ops_mlen ops_mnil ops_ent ops_mfn ops_slc3 ops_mkm ops_mup mup_map mub_some ops_mdel mdl_nil mdl_map mdb_some ops_rng rng_none rng_map rgb_some ops_nxt ops_ment met_map meb_some ops_est est_map esb_some ops_clr clr_nil clr_box clb_some ops_calv clv_func vslc vsslc fillV splice V.cells strip strip1 allLen ptrV obsOk shAmt IntKind.bits List.map_cons List.map_nil List.length_cons List.length_nil List.getElem?_cons_zero List.getElem?_cons_succ List.take_succ_cons List.take_zero List.drop_succ_cons List.drop_zero List.cons_append List.nil_append List.append_nil List.take_nil List.drop_nil Option.map_some Option.map_none and_true true_and Int.toNat_natCast Nat.min_def Nat.zero_add Nat.add_zero Nat.zero_mul Nat.mul_one Nat.one_mul vret rvAll rvVal resv_1 resv_2 decide_true decide_false Int.lt_irrefl Bool.not_true Bool.not_false ne_eq not_true_eq_false not_false_eq_true eq_self Bool.true_eq_false Bool.false_eq_true List.contains_cons List.contains_nil Bool.false_or Bool.true_or Bool.or_false Bool.or_true List.mem_cons List.not_mem_nil or_false or_true true_or false_or
section
open Go Go.RowKit Go.ChangeShapes Go.WideShapes Go.Deep

theorem elemL_get {w : World} {b : Nat} : ∀ {cs : List Value} {o : Nat} (_ : Holds w (elemL b o cs)) {j : Nat} {v : Value} (_ : cs[j]? = some v), w.cell? ⟨b, o + j, none⟩ = some v
  | [], _, _, _, _, h => by simp at h
  | c :: cs, o, hh, j, v, h => by
    rw [elemL, Holds.cons] at hh
    cases j with
    | zero => simp at h; subst h; exact hh.1
    | succ j => rw [show o + (j + 1) = o + 1 + j by omega]; exact elemL_get hh.2 (by simpa using h)
/-- What a type is made of. -/
inductive Sh where
  | int (k : IntKind)
  | bool
  | str
  | sl (s : Sh)
  | st (l : List Sh)
def shFields (P : Program) (g : TypeId → Option Sh) : Nat → List Field → Option (List Sh)
  | _, [] => some []
  | o, f :: fs => if f.offset = o then do
      let s ← g f.type
      let l ← shFields P g (o + P.cellsOf f.type) fs
      pure (s :: l)
    else none
def fieldsEnd (P : Program) : Nat → List Field → Nat
  | o, [] => o
  | o, f :: fs => fieldsEnd P (o + P.cellsOf f.type) fs
def shOf (P : Program) : Nat → TypeId → Option Sh
  | 0, _ => none
  | n + 1, t => match P.underlying t with
    | some (.int k) => if P.cellsOf t = 1 then some (.int k) else none
    | some .bool => if P.cellsOf t = 1 then some .bool else none
    | some .string => if P.cellsOf t = 1 then some .str else none
    | some (.slice e) => if P.cellsOf t = 1 ∧ 0 < P.cellsOf e then (shOf P n e).map .sl else none
    | some (.struct fs) => if fieldsEnd P 0 fs.toList = P.cellsOf t then (shFields P (shOf P n) 0 fs.toList).map .st else none
    | some (.array k e) => if k * P.cellsOf e = P.cellsOf t then (shOf P n e).map fun s => .st (List.replicate k s) else none
    | _ => none
/-- An element as one value. -/
def Sh.pack : Sh → List V → V
  | .st _, ds => .agg ds
  | _, d :: _ => d
  | _, [] => .und
mutual
/-- Such values are of the shape. -/
inductive Sh.Has : Sh → List V → Prop where
  | int (k : IntKind) (n : Int) (h : (Lit.int k n).wf = true) : Sh.Has (.int k) [.sc (.int k n)]
  | bool (b : Bool) : Sh.Has .bool [.sc (.bool b)]
  | str (s : ByteArray) (h : s.size ≤ maxLen) : Sh.Has .str [.sc (.string s)]
  | sl (s : Sh) (l : List V) (h : Sh.Hasl s l) : Sh.Has (.sl s) [.sl .no l]
  | st (l : List Sh) (ds : List V) (h : Sh.Hass l ds) : Sh.Has (.st l) ds
inductive Sh.Hasl : Sh → List V → Prop where
  | nil (s : Sh) : Sh.Hasl s []
  | cons (s : Sh) (ds l : List V) (h : Sh.Has s ds) (k : Sh.Hasl s l) : Sh.Hasl s (s.pack ds :: l)
inductive Sh.Hass : List Sh → List V → Prop where
  | nil : Sh.Hass [] []
  | cons (s : Sh) (l : List Sh) (a b : List V) (h : Sh.Has s a) (k : Sh.Hass l b) : Sh.Hass (s :: l) (a ++ b)
end
theorem hasl_of {s : Sh} : ∀ (l : List V), (∀ d, d ∈ l → ∃ ds, d = s.pack ds ∧ Sh.Has s ds) → Sh.Hasl s l
  | [], _ => .nil s
  | d :: l, h => by
    obtain ⟨ds, rfl, hd⟩ := h d (List.mem_cons_self ..)
    exact .cons s ds l hd (hasl_of l fun e he => h e (List.mem_cons_of_mem _ he))
/-- The ghost that knows all of a world's cells. -/
def ghOf (w : World) : Gh := ⟨fun b o => w.cell? ⟨b, o, none⟩, fun _ => none⟩
/-- Values stand for these cells. -/
def RepR (G : Gh) (ds : List V) (cs : List Value) : Prop := ds.length = cs.length ∧ (∀ v ∈ cs, v.oneCell' = true) ∧ (∀ (i : Nat) (d : V) (v : Value), ds[i]? = some d → cs[i]? = some v → Rep1 G d v) ∧ ∀ d ∈ ds, d.cells = [d]
theorem RepR.one {G : Gh} {d : V} {v : Value} (h : Rep1 G d v) (h1 : v.oneCell' = true) (h2 : d.cells = [d]) : RepR G [d] [v] :=
  ⟨rfl, by simpa using h1, fun i d' v' hd hv => by
    cases i with
    | zero => simp at hd hv; subst hd hv; exact h
    | succ i => simp at hd, by simpa using h2⟩
theorem RepR.append {G : Gh} {a b : List V} {c d : List Value} (h : RepR G a c) (k : RepR G b d) : RepR G (a ++ b) (c ++ d) :=
  ⟨by simp [h.1, k.1], fun v hv => by
    rcases List.mem_append.1 hv with h' | h'
    · exact h.2.1 v h'
    · exact k.2.1 v h', fun i x v hx hv => by
    rw [List.getElem?_append] at hx hv
    rw [← h.1] at hv
    split at hx
    · rename_i hlt
      rw [if_pos hlt] at hv
      exact h.2.2.1 i x v hx hv
    · rename_i hlt
      rw [if_neg hlt] at hv
      exact k.2.2.1 _ x v hx hv, fun x hx => by
    rcases List.mem_append.1 hx with h' | h'
    · exact h.2.2.2 x h'
    · exact k.2.2.2 x h'⟩
theorem pack_cells {s : Sh} {ds : List V} (h : s.Has ds) (hc : ∀ d ∈ ds, d.cells = [d]) : (s.pack ds).cells = ds := by
  cases h with
  | int => rfl
  | bool => rfl
  | str => rfl
  | sl => rfl
  | st => rfl

section
variable {H : Type} {enc : TypeId × Value → H} {P : Program} {w : World} {base : Nat} {spare : Nat → Bool} {held : Bool}
theorem open_sh : ∀ (n : Nat) {t : TypeId} {s : Sh} (_ : shOf P n t = some s) {fuel : Nat} {cs : List Value} {x : DataW H × List MemPlace} (_ : DataW.trod enc P w base spare held fuel t cs = some x),
    ∃ ds, s.Has ds ∧ RepR (ghOf w) ds cs ∧ cs.length = P.cellsOf t
  | 0, _, _, hs, _, _, _, _ => by simp [shOf] at hs
  | n + 1, t, s, hs, fuel, cs, x, h => by
    unfold shOf at hs
    split at hs
    · rename_i k hu
      split at hs
      · rename_i hc
        cases hs
        obtain ⟨m, rfl, _, hw⟩ := DataW.trod_int hu h
        exact ⟨_, .int k m hw, .one (.sc _ rfl) rfl rfl, by rw [hc]; rfl⟩
      · cases hs
    · rename_i hu
      split at hs
      · rename_i hc
        cases hs
        obtain ⟨m, rfl, _⟩ := DataW.trod_bool hu h
        exact ⟨_, .bool m, .one (.sc _ rfl) rfl rfl, by rw [hc]; rfl⟩
      · cases hs
    · rename_i hu
      split at hs
      · rename_i hc
        cases hs
        obtain ⟨m, rfl, _, hm⟩ := DataW.trod_string hu h
        exact ⟨_, .str m hm, .one (.sc _ rfl) rfl rfl, by rw [hc]; rfl⟩
      · cases hs
    · rename_i e hu
      split at hs
      · rename_i hc
        obtain ⟨s', hs', rfl⟩ := Option.map_eq_some_iff.1 hs
        have hlen1 : ∃ v, cs = [v] := by
          rcases DataW.trod_slice hu h with ⟨rfl, _⟩ | ⟨a, len, cap, _, _, _, _, rfl, _⟩
          · exact ⟨_, rfl⟩
          · exact ⟨_, rfl⟩
        obtain ⟨v, rfl⟩ := hlen1
        obtain ⟨A, len, cap, rfl, hle, hm, hA, hel⟩ := open_elems hu rfl hc.2 h
        obtain ⟨l, hl, hq⟩ := list_of (Q := fun i (p : V × List Value) => ∃ b o, A = some ⟨b, o, none⟩ ∧ p.2.length = P.cellsOf e ∧ Holds w (elemL b (o + i * P.cellsOf e) p.2) ∧ ∃ ds, p.1 = s'.pack ds ∧ s'.Has ds ∧ RepR (ghOf w) ds p.2) len (fun i hi => by
          obtain ⟨b, o, cs', n', y, hA', hlen, hh, ht⟩ := hel i hi
          obtain ⟨ds, k1, k2, k3⟩ := open_sh n hs' ht
          exact ⟨(s'.pack ds, cs'), b, o, hA', hlen, hh, ds, rfl, k1, k2⟩)
        refine ⟨[.sl .no (l.map (·.1))], .sl s' _ (hasl_of _ fun d hd => ?_), .one ?_ rfl rfl, by rw [hc.1]; rfl⟩
        · obtain ⟨p, hp, rfl⟩ := List.mem_map.1 hd
          obtain ⟨i, hi, rfl⟩ := List.mem_iff_getElem.1 hp
          obtain ⟨_, _, _, _, _, ds, k1, k2, _⟩ := hq i _ (List.getElem?_eq_getElem hi)
          exact ⟨ds, k1, k2⟩
        · cases A with
          | none =>
            obtain ⟨rfl, rfl⟩ := hA rfl
            obtain rfl := List.eq_nil_of_length_eq_zero hl
            exact .nil .no (fun g k e => by cases e)
          | some a =>
            by_cases h0 : len = 0
            · subst h0
              obtain rfl := List.eq_nil_of_length_eq_zero hl
              exact .emp a cap hm
            · obtain ⟨b, o, _, _, _, hA', _⟩ := hel 0 (by omega)
              cases hA'
              have hlm : len = (l.map (·.1)).length := by simp [hl]
              rw [hlm]
              refine .sl .no _ b o (P.cellsOf e) cap (fun i j => ((l[i]?.map (·.2)).getD []).getD j default) (fun i d hd => ?_) (fun i j hi hj => ?_) (fun i j hi hj => ?_) (fun i d j c hd hc' => ?_) (by simp; omega) hm (by simp) (fun g k e => by cases e)
              · rw [List.getElem?_map] at hd
                obtain ⟨p, hp, rfl⟩ := Option.map_eq_some_iff.1 hd
                obtain ⟨_, _, _, k1, _, ds, k2, k3, k4⟩ := hq i p hp
                rw [k2, pack_cells k3 k4.2.2.2, k4.1, k1]
              · obtain ⟨p, hp⟩ : ∃ p, l[i]? = some p := ⟨_, List.getElem?_eq_getElem (by simpa using hi)⟩
                obtain ⟨b', o', e', k1, k0, ds, k2, k3, k4⟩ := hq i p hp
                cases e'
                have hj' : j < p.2.length := by omega
                simp only [hp, Option.map_some, Option.getD_some, ghOf]
                have := elemL_get k0 (List.getElem?_eq_getElem hj')
                rw [this]
                simp [List.getD, hj']
              · obtain ⟨p, hp⟩ : ∃ p, l[i]? = some p := ⟨_, List.getElem?_eq_getElem (by simpa using hi)⟩
                obtain ⟨b', o', e', k1, k0, ds, k2, k3, k4⟩ := hq i p hp
                have hj' : j < p.2.length := by omega
                simp only [hp, Option.map_some, Option.getD_some]
                simp only [List.getD, List.getElem?_eq_getElem hj', Option.getD_some]
                exact k4.2.1 _ (List.getElem_mem hj')
              · rw [List.getElem?_map] at hd
                obtain ⟨p, hp, rfl⟩ := Option.map_eq_some_iff.1 hd
                obtain ⟨_, _, _, k1, _, ds, k2, k3, k4⟩ := hq i p hp
                rw [k2, pack_cells k3 k4.2.2.2] at hc'
                have hj' : j < p.2.length := by rw [← k4.1]; exact (List.getElem?_eq_some_iff.1 hc').1
                simp only [hp, Option.map_some, Option.getD_some]
                simp only [List.getD, List.getElem?_eq_getElem hj', Option.getD_some]
                exact k4.2.2.1 j c _ hc' (List.getElem?_eq_getElem hj')
      · cases hs
    · rename_i fs hu
      split at hs
      · rename_i hend
        obtain ⟨ss, hss, rfl⟩ := Option.map_eq_some_iff.1 hs
        have hl := trod_len hu h
        have key : ∀ (gs : List Field) (j0 o : Nat) (ss : List Sh), (∀ i f, gs[i]? = some f → fs[j0 + i]? = some f) → shFields P (shOf P n) o gs = some ss → fieldsEnd P o gs = cs.length →
            ∃ ds, Sh.Hass ss ds ∧ RepR (ghOf w) ds (cs.drop o) := by
          intro gs
          induction gs with
          | nil =>
            intro j0 o ss _ hss he
            simp only [shFields, Option.some.injEq] at hss
            subst hss
            simp only [fieldsEnd] at he
            exact ⟨[], .nil, by rw [List.drop_of_length_le (by omega)]; exact ⟨rfl, by simp, by simp, by simp⟩⟩
          | cons f gs ih =>
            intro j0 o ss hg hss he
            simp only [shFields] at hss
            split at hss
            · rename_i hof
              simp only [Option.bind_eq_bind, Option.bind_eq_some_iff] at hss
              obtain ⟨s0, h0, ss', h1, h2⟩ := hss
              cases h2
              simp only [fieldsEnd] at he
              obtain ⟨ds', k1, k2⟩ := ih (j0 + 1) _ ss' (fun i g hi => by rw [show j0 + 1 + i = j0 + (i + 1) by omega]; exact hg (i + 1) g (by simpa using hi)) h1 he
              obtain ⟨m, y, hy⟩ := trod_field hu h j0 f (by simpa using hg 0 f rfl)
              rw [hof] at hy
              obtain ⟨ds0, q1, q2, q3⟩ := open_sh n h0 hy
              refine ⟨ds0 ++ ds', .cons _ _ _ _ q1 k1, ?_⟩
              have := q2.append k2
              rwa [← List.drop_drop, List.take_append_drop] at this
            · cases hss
        obtain ⟨ds, k1, k2⟩ := key fs.toList 0 0 ss (fun i f hf => by simpa using hf) hss (by rw [hend, hl])
        exact ⟨ds, .st _ _ k1, by simpa using k2, hl⟩
      · cases hs
    · rename_i k e hu
      split at hs
      · rename_i hend
        obtain ⟨s', hs', rfl⟩ := Option.map_eq_some_iff.1 hs
        obtain ⟨xs, m, _, _, hl, hxl, hget⟩ := DataW.trod_array hu h
        have key : ∀ (j i : Nat), i + j = k → ∃ ds, Sh.Hass (List.replicate j s') ds ∧ RepR (ghOf w) ds (cs.drop (i * P.cellsOf e)) := by
          intro j
          induction j with
          | zero =>
            intro i hij
            refine ⟨[], .nil, ?_⟩
            have : i = k := by omega
            subst this
            rw [List.drop_of_length_le (by omega)]
            exact ⟨rfl, by simp, by simp, by simp⟩
          | succ j ih =>
            intro i hij
            obtain ⟨ds', k1, k2⟩ := ih (i + 1) (by omega)
            have hlt : i < xs.length := by omega
            have hy := hget i (by omega)
            rw [List.getElem?_eq_getElem hlt] at hy
            obtain ⟨ds0, q1, q2, q3⟩ := open_sh n hs' hy
            refine ⟨ds0 ++ ds', .cons _ _ _ _ q1 k1, ?_⟩
            have := q2.append k2
            rwa [Nat.add_mul, Nat.one_mul, ← List.drop_drop, List.take_append_drop] at this
        obtain ⟨ds, k1, k2⟩ := key k 0 (by omega)
        exact ⟨ds, .st _ _ k1, by simpa using k2, hl⟩
      · cases hs
    · cases hs
theorem RepR.agg {G : Gh} {ds : List V} {cs : List Value} (h : RepR G ds cs) : Rep1 G (.agg ds) (.agg cs.toArray) :=
  .agg ds _ (by simp [h.1]) (fun i v hv => h.2.1 v (List.mem_of_getElem? (by simpa using hv))) (fun i c v hc hv => h.2.2.1 i c v hc (by simpa using hv))
theorem RepR.head {G : Gh} {d : V} {v : Value} (h : RepR G [d] [v]) : Rep1 G d v := h.2.2.1 0 d v rfl rfl
/-- An argument, as the statement hands it in, as an abstract value. -/
theorem arg_sh {W : World} (n : Nat) {t : TypeId} {s : Sh} {v : Value} {d : DataW H} {p : List MemPlace} (hs : shOf P n t = some s) (h : ArgIn enc P W base t v d p) : ∃ ds, s.Has ds ∧ Rep1 (ghOf W) (s.pack ds) v := by
  cases n with
  | zero => simp [shOf] at hs
  | succ n =>
  have hs0 := hs
  unfold shOf at hs
  split at hs
  · rename_i k hu
    split at hs
    · cases hs
      obtain ⟨m, rfl, hw⟩ := h.int hu
      exact ⟨_, .int k m hw, .sc _ rfl⟩
    · cases hs
  · rename_i hu
    split at hs
    · cases hs
      obtain ⟨b, rfl⟩ := h.bool hu
      exact ⟨_, .bool b, .sc _ rfl⟩
    · cases hs
  · rename_i hu
    split at hs
    · cases hs
      obtain ⟨b, rfl, hm⟩ := h.string hu
      exact ⟨_, .str b hm, .sc _ rfl⟩
    · cases hs
  · rename_i e hu
    split at hs
    · obtain ⟨s', hs', rfl⟩ := Option.map_eq_some_iff.1 hs
      obtain ⟨A, l, c, fuel, rfl, ht⟩ := h.slice hu
      obtain ⟨ds, k1, k2, _⟩ := open_sh _ hs0 ht
      refine ⟨ds, k1, ?_⟩
      cases k1 with
      | sl _ l' h' => exact k2.head
    · cases hs
  · rename_i fs hu
    split at hs
    · obtain ⟨ss, hss, rfl⟩ := Option.map_eq_some_iff.1 hs
      obtain ⟨cs, fuel, rfl, ht⟩ := h.struct hu
      obtain ⟨ds, k1, k2, _⟩ := open_sh _ hs0 ht
      exact ⟨ds, k1, k2.agg⟩
    · cases hs
  · rename_i k e hu
    split at hs
    · obtain ⟨s', hs', rfl⟩ := Option.map_eq_some_iff.1 hs
      have hwd := h.wide
      simp only [Value.okWide, hu] at hwd
      obtain ⟨cs, rfl, _⟩ := hwd
      obtain ⟨fuel, ht⟩ := h.trod
      obtain ⟨ds, k1, k2, _⟩ := open_sh _ hs0 ht
      have ha := k2.agg
      rw [show (Value.agg cs).cells.toList.toArray = cs from by simp [Value.cells]] at ha
      exact ⟨ds, k1, ha⟩
    · cases hs
  · cases hs
end
/-- The state that a law begins in. -/
def st0 (w : World) : St := ⟨fun _ => none, fun _ => none, w.heap.size⟩
theorem repW0 (w : World) : RepW (Fr.of w) (ghOf w) (st0 w) w :=
  ⟨fun _ _ _ h => h, fun _ _ h => (by cases h), fun _ _ h => (by cases h), fun _ _ h => (by cases h), Nat.le_refl _, Below.refl _ _, fun _ _ h => (by cases h)⟩
/-- A law's contract as its call. -/
theorem v_calls {P : Program} {f : FuncId} {args : List V} {us : Array Value} {w : World} (h : VCalls P f args (st0 w) fun r _ => r = .sc (.bool true)) (hl : us.size = args.length)
    (hr : ∀ (i : Nat) (d : V) (u : Value), args[i]? = some d → us[i]? = some u → Rep1 (ghOf w) d u) : Calls P f us w (Pure w (.bool true)) :=
  (h (Fr.of w) (ghOf w) w us (repW0 w) hl hr).mono fun e w' ⟨u, r, st', G', h1, h2, h3, _, h5⟩ => by
    subst h2
    cases h3
    exact ⟨h1, h5.bel⟩
theorem reps1 {G : Gh} {d : V} {u : Value} (h : Rep1 G d u) : ∀ (i : Nat) (x : V) (v : Value), [d][i]? = some x → #[u][i]? = some v → Rep1 G x v := fun i x v hx hv => by
  cases i with
  | zero => simp at hx hv; subst hx hv; exact h
  | succ i => simp at hx
theorem reps2 {G : Gh} {d e : V} {u q : Value} (h : Rep1 G d u) (k : Rep1 G e q) : ∀ (i : Nat) (x : V) (v : Value), [d, e][i]? = some x → #[u, q][i]? = some v → Rep1 G x v := fun i x v hx hv => by
  match i with
  | 0 => simp at hx hv; subst hx hv; exact h
  | 1 => simp at hx hv; subst hx hv; exact k
  | i + 2 => simp at hx
theorem reps3 {G : Gh} {d e f : V} {u q r : Value} (h : Rep1 G d u) (k : Rep1 G e q) (l : Rep1 G f r) : ∀ (i : Nat) (x : V) (v : Value), [d, e, f][i]? = some x → #[u, q, r][i]? = some v → Rep1 G x v := fun i x v hx hv => by
  match i with
  | 0 => simp at hx hv; subst hx hv; exact h
  | 1 => simp at hx hv; subst hx hv; exact k
  | 2 => simp at hx hv; subst hx hv; exact l
  | i + 3 => simp at hx
end
section
open Go Go.RowKit

theorem own : ownKnob Try.prog.godebug = none := by kernel_rfl
theorem laidOut : laidOutB Try.prog = true := by kernel_rfl
theorem u8_wf {n : Int} (h : (Lit.int .u8 n).wf = true) : 0 ≤ n ∧ n < 256 := by have := bounds_u8 h; omega
theorem hasl_bytes : ∀ {l : List V}, Sh.Hasl (.int .u8) l → ∃ L, IsB L ∧ l = bs L := by
  intro l
  induction l with
  | nil => exact fun _ => ⟨[], by intro x hx; (cases hx), rfl⟩
  | cons d l ih =>
    intro h
    cases h with
    | cons _ ds _ h k =>
      obtain ⟨L, hB, rfl⟩ := ih k
      cases h with
      | int _ n hw => exact ⟨n :: L, by
          intro x hx
          rcases List.mem_cons.1 hx with rfl | hx
          · exact u8_wf hw
          · exact hB x hx, rfl⟩
theorem has_bytes {ds : List V} (h : Sh.Has (.sl (.int .u8)) ds) : ∃ L, IsB L ∧ ds = [.sl .no (bs L)] := by
  cases h with
  | sl _ l h =>
    obtain ⟨L, hB, rfl⟩ := hasl_bytes h
    exact ⟨L, hB, rfl⟩
end
section
open Go Go.RowKit

theorem hass_nil {ds : List V} (h : Sh.Hass [] ds) : ds = [] := by cases h; rfl
theorem hass_int {k : IntKind} {l : List Sh} {ds : List V} (h : Sh.Hass (.int k :: l) ds) : ∃ n b, ds = .sc (.int k n) :: b ∧ (Lit.int k n).wf = true ∧ Sh.Hass l b := by
  cases h with
  | cons _ _ a b h0 h1 =>
    cases h0 with
    | int _ n hw => exact ⟨n, b, rfl, hw, h1⟩
theorem hass_bool {l : List Sh} {ds : List V} (h : Sh.Hass (.bool :: l) ds) : ∃ n b, ds = .sc (.bool n) :: b ∧ Sh.Hass l b := by
  cases h with
  | cons _ _ a b h0 h1 =>
    cases h0 with
    | bool n => exact ⟨n, b, rfl, h1⟩
theorem hass_str {l : List Sh} {ds : List V} (h : Sh.Hass (.str :: l) ds) : ∃ n b, ds = .sc (.string n) :: b ∧ n.size ≤ maxLen ∧ Sh.Hass l b := by
  cases h with
  | cons _ _ a b h0 h1 =>
    cases h0 with
    | str n hn => exact ⟨n, b, rfl, hn, h1⟩
theorem hass_st {m l : List Sh} {ds : List V} (h : Sh.Hass (.st m :: l) ds) : ∃ a b, ds = a ++ b ∧ Sh.Hass m a ∧ Sh.Hass l b := by
  cases h with
  | cons _ _ a b h0 h1 =>
    cases h0 with
    | st _ _ h => exact ⟨a, b, rfl, h, h1⟩
theorem has_st {l : List Sh} {ds : List V} (h : Sh.Has (.st l) ds) : Sh.Hass l ds := by
  cases h with
  | st _ _ h => exact h
/-- A slice of structs, element by element. -/
theorem hasl_map {α : Type} {s : Sh} (f : α → V) (ok : α → Prop) (h1 : ∀ ds, Sh.Has s ds → ∃ a, ok a ∧ s.pack ds = f a) : ∀ {l : List V}, Sh.Hasl s l → ∃ L : List α, (∀ a ∈ L, ok a) ∧ l = L.map f := by
  intro l
  induction l with
  | nil => exact fun _ => ⟨[], by intro x hx; (cases hx), rfl⟩
  | cons d l ih =>
    intro h
    cases h with
    | cons _ ds _ h k =>
      obtain ⟨L, hB, rfl⟩ := ih k
      obtain ⟨a, ha, e⟩ := h1 ds h
      exact ⟨a :: L, by
          intro x hx
          rcases List.mem_cons.1 hx with rfl | hx
          · exact ha
          · exact hB x hx, by rw [e]; rfl⟩
theorem has_slmap {α : Type} {s : Sh} {f : α → V} {ok : α → Prop} (h1 : ∀ ds, Sh.Has s ds → ∃ a, ok a ∧ s.pack ds = f a) {ds : List V} (h : Sh.Has (.sl s) ds) : ∃ L : List α, (∀ a ∈ L, ok a) ∧ ds = [.sl .no (L.map f)] := by
  cases h with
  | sl _ l h =>
    obtain ⟨L, hB, rfl⟩ := hasl_map f ok h1 h
    exact ⟨L, hB, rfl⟩
end
end Go.Proofs.Ytlngegoamfklgaa
