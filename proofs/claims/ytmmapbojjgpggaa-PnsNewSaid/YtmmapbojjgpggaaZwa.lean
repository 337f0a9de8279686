/- Steps of the proof, joined: V12, V13, VMp, VPool1, VPool2, VPool3, VRows, VSortLaw, VSortO0, VSortW, VSortO1, VRowB, VSec1, VSortB0, VSortB, VPns1, VPns2, VPns3, VPns4, Base, Open, VEnter, VSeat, VOpenB. -/
import Derived.Test.YtmmapbojjgpggaaZeb
import Derived.Test.YtmmapbojjgpggaaVc
import Derived.Test.YtmmapbojjgpggaaProg
import Derived.WalkKit
import Derived.WalkSpells
import Derived.WalkLawsBesides
import Derived.Deep.RegionHeld3
import Derived.Deep.DrawnRows
import Derived.BigQuiet
import Derived.Lib.Hide
import Derived.ProofKit
import Derived.OpenShut
import Derived.Deep.Slices
namespace Go.Proofs.Ytmmapbojjgpggaa
open Go
attribute [local go_sem] run_skip run_reg run_seq run_blk run_exit run_ret run_cond if_true if_false at_code_n at_code_x at_code_r at_blk_n at_blk_x at_blk_r at_rnd_n at_rnd_x at_rnd_r at_fin_n at_fin_r ops_nil ops_grd grd_und grd_tt grd_ff grd_tf grd_ft ops_mv ops_pick ops_bin ops_un ops_binb ops_eqs ops_isnil ops_pnil ops_b2s ops_s2b ops_b2sB ops_s2a ops_slcA ops_aidx vaidx vb2sB vs2a vslcA ops_sidx vs2b vsidx srcX ops_appx apx_mk ops_mks ops_mko mks_int mko_int vbinb veqs visnil vpnil vb2s ops_conv ops_fld ops_ix ops_ixa ops_load ops_nilck ops_ext ops_len ops_slen ops_mn ops_mx ops_bld ops_bsl ops_slc ops_sslc ops_box ops_alc ops_alcX ops_boxX ops_bslo ops_store ops_app ops_call ev_t ev_c put_get put_none opv_mk stb_some sto_ptr over_get rel_mk vnat Bx Stp vbld vbsl put_box_same put_box_ne put_sz put_own use_box use_sz put_put args0 List.getD_cons_zero List.getD_cons_succ List.getD_nil vpick vbin vbinI vbinS vun vconv norm vfld vnil vlen vslen vext vmm vix vixa vload takeV takeB mono_nil mono_two mono_sc mono_any mono_und mono_sl mono_agg mono_ep vmlk vmlen vmnil vent vmfn allSc vslc3 kOk fitsV ops_mlk ops_mlen ops_mnil ops_ent ops_mfn ops_slc3 ops_mkm ops_mup mup_map mub_some ops_mdel mdl_nil mdl_map mdb_some ops_rng rng_none rng_map rgb_some ops_nxt ops_ment met_map meb_some ops_est est_map esb_some ops_clr clr_nil clr_box clb_some ops_calv clv_func vslc vsslc fillV splice V.cells strip strip1 allLen ptrV obsOk shAmt IntKind.bits List.map_cons List.map_nil List.length_cons List.length_nil List.getElem?_cons_zero List.getElem?_cons_succ List.take_succ_cons List.take_zero List.drop_succ_cons List.drop_zero List.cons_append List.nil_append List.append_nil List.take_nil List.drop_nil Option.map_some Option.map_none and_true true_and Int.toNat_natCast Nat.min_def Nat.zero_add Nat.add_zero Nat.zero_mul Nat.mul_one Nat.one_mul vret rvAll rvVal resv_1 resv_2 decide_true decide_false Int.lt_irrefl Bool.not_true Bool.not_false ne_eq not_true_eq_false not_false_eq_true eq_self Bool.true_eq_false Bool.false_eq_true List.contains_cons List.contains_nil Bool.false_or Bool.true_or Bool.or_false Bool.or_true List.mem_cons List.not_mem_nil or_false or_true true_or false_or mono_bs ops_aidxn vaidxn ops_mki vmki ops_inv ops_cpy cpy_box cpb_some
section
open Go Go.RowKit

/-- More memory, the old as it was. -/
theorem RepW.below {w0 : Fr} {G : Gh} {s : St} {w w' : World} (h : RepW w0 G s w) (hb : Below w.heap.size w w') : RepW w0 G s w' where
  F b o v hf := by
    have := h.F b o v hf
    rw [hb.cell (p := ⟨b, o, none⟩) (World.block_lt_of_cell? _ _ this)]; exact this
  O g x hx := by have := h.O g x hx; have := hb.size; omega
  box b cs hx := by
    obtain ⟨h1, h2, h3, h4, h5⟩ := h.box b cs hx
    exact ⟨h1, h2, h3, h4, by rw [hb.block b (by have := h.sz; omega)]; exact h5⟩
  own g m hg := by
    obtain ⟨h1, h2, e, size, cap, cur, h3, h4, h5⟩ := h.own g m hg
    exact ⟨h1, h2, e, size, cap, cur, h3, by rw [hb.block g (by have := h.sz; omega)]; exact h4, h5⟩
  sz := by have := h.sz; have := hb.size; omega
  bel := ⟨hb.os.trans h.bel.os, hb.tape.trans h.bel.tape, hb.output.trans h.bel.output, Nat.le_trans h.bel.size hb.size, fun i hi => (hb.block i (by have := h.bel.size; omega)).trans (h.bel.block i hi)⟩
  fr b x hx := ⟨by rw [hb.block b (h.frLt hx)]; exact (h.fr b x hx).1, (h.fr b x hx).2⟩
/-- What an argument reads as. -/
inductive Frz (st : St) : V → V → Prop where
  | same (d : V) : Frz st d d
  | box (b o c size : Nat) (cs l : List V) (hb : st.box b = some cs) (hl : ∀ (i : Nat) (d : V), l[i]? = some d → d.cells.length = size)
      (h : ∀ (i : Nat) (d : V) (j : Nat) (x : V), l[i]? = some d → d.cells[j]? = some x → cs[o + i * size + j]? = some x) (hc : l.length ≤ c) (hm : c ≤ maxLen) (hmo : mono cs) : Frz st (.sc (.slice (some ⟨b, o, none⟩) l.length c)) (.sl .no l)
def ghAll (G : Gh) (w : World) : Gh := ⟨fun b o => w.cell? ⟨b, o, none⟩, G.O⟩
theorem Frz.rep {st : St} {d d' : V} (hf : Frz st d d') {w0 : Fr} {G : Gh} {w : World} (hw : RepW w0 G st w) {v : Value} (h : Rep1 G d v) : Rep1 (ghAll G w) d' v := by
  have hle : G.le (ghAll G w) := ⟨hw.F, fun g x h => h⟩
  cases hf with
  | same d => exact h.mono hle
  | box b o c size cs l hb hl hx hc hm hmo =>
    cases h with
    | sc _ h1 =>
    obtain ⟨vs, e, hh, hsz, hone, hrep⟩ := (hw.box b cs hb).2.2.2.2.row hmo
    have hcell : ∀ k, w.cell? ⟨b, k, none⟩ = vs[k]? := fun k => by simp [World.cell?, hh]
    have get : ∀ i j, i < l.length → j < size → ∃ v x, vs[o + i * size + j]? = some v ∧ cs[o + i * size + j]? = some x ∧ (∃ d, l[i]? = some d ∧ d.cells[j]? = some x) := fun i j hi hj => by
      have hd := List.getElem?_eq_getElem hi
      have hlen := hl i _ hd
      have hjx := List.getElem?_eq_getElem (show j < (l[i]).cells.length by omega)
      have hcs := hx i _ j _ hd hjx
      have hlt : o + i * size + j < vs.size := by rw [hsz]; exact (List.getElem?_eq_some_iff.1 hcs).1
      exact ⟨_, _, Array.getElem?_eq_getElem hlt, hcs, _, hd, hjx⟩
    refine .sl .no l b o size c (fun i j => (vs[o + i * size + j]?).getD default) hl (fun i j hi hj => ?_) (fun i j hi hj => ?_) (fun i d j x hd hj => ?_) hc hm (by simp) (fun g k e => by cases e)
    · obtain ⟨v, x, h1, _⟩ := get i j hi hj
      simp only [ghAll, hcell, h1, Option.getD_some]
    · obtain ⟨v, x, h1, _⟩ := get i j hi hj
      simp only [h1, Option.getD_some]
      exact hone _ _ h1
    · have hi := (List.getElem?_eq_some_iff.1 hd).1
      have hjl : j < size := by rw [← hl i d hd]; exact (List.getElem?_eq_some_iff.1 hj).1
      obtain ⟨v, x', h1, h2, _⟩ := get i j hi hjl
      have hcs := hx i d j x hd hj
      simp only [h1, Option.getD_some]
      exact (hrep _ _ _ hcs h1).mono hle
/-- A callee that needs none of the caller's boxes, and hands back a plain value: the state stays. -/
theorem VCalls.frz {P : Program} {f : FuncId} {args args' : List V} {x : Value} {st : St} (h : ∀ n, VCalls P f args' ⟨fun _ => none, fun _ => none, n⟩ fun r _ => r = .sc x) (hl : args.length = args'.length)
    (hfr : ∀ (i : Nat) (d d' : V), args[i]? = some d → args'[i]? = some d' → Frz st d d') : VCalls P f args st fun r st' => r = .sc x ∧ st = st' := by
  intro w0 G w us hw hus hr
  have hw2 : RepW (Fr.of w) (ghAll G w) ⟨fun _ => none, fun _ => none, w.heap.size⟩ w :=
    ⟨fun _ _ _ h => h, hw.O, fun _ _ h => (by cases h), fun _ _ h => (by cases h), Nat.le_refl _, Below.refl _ _, fun _ _ h => (by cases h)⟩
  refine (h w.heap.size (Fr.of w) (ghAll G w) w us hw2 (by omega) (fun i d' u hd' hu => ?_)).mono fun e w' ⟨u, r, st', G', h1, h2, h3, _, h5⟩ => ?_
  · have hi : i < args.length := by rw [hl]; exact (List.getElem?_eq_some_iff.1 hd').1
    have hd := List.getElem?_eq_getElem hi
    exact (hfr i _ _ hd hd').rep hw (hr i _ u hd hu)
  · subst h2
    cases h3 with
    | sc _ h1' => exact ⟨x, .sc x, st, G, h1, ⟨rfl, rfl⟩, .sc _ h1', .refl G, hw.below h5.bel⟩
end
section
open Go Go.RowKit

section
variable {P : Program} {w0 : Fr} {G : Gh} {st : St} {w : World}
def St.drop (s : St) (b : Nat) : St := { s with box := fun x => if x = b then none else s.box x }
/-- A box is sealed: from now on its cells never turn, and slices of it read as data. -/
theorem RepW.seal (hw : RepW w0 G st w) {b : Nat} {cs : List V} (hb : st.box b = some cs) (hmo : mono cs) : ∃ G', G.le G' ∧ RepW w0 G' (st.drop b) w ∧ ∀ (o c size : Nat) (l : List V), (∀ (i : Nat) (d : V), l[i]? = some d → d.cells.length = size) →
    (∀ (i : Nat) (d : V) (j : Nat) (x : V), l[i]? = some d → d.cells[j]? = some x → cs[o + i * size + j]? = some x) → l.length ≤ c → c ≤ maxLen → Rep1 G' (.sl .no l) (.slice (some ⟨b, o, none⟩) l.length c) := by
  obtain ⟨hlt, hge0, hF, hO, hrb⟩ := hw.box b cs hb
  obtain ⟨cur, te, hh, hcl, hc1, hcr⟩ := hrb.row hmo
  have hle : G.le (G.addF b cur) := ⟨fun b' o v hf => by
    simp only [Gh.addF]
    split
    · rename_i e; subst e; rw [hF] at hf; cases hf
    · exact hf, fun _ _ h => h⟩
  refine ⟨G.addF b cur, hle, ⟨fun b' o v hf => ?_, hw.O, fun b' cs' hx => ?_, fun g m hg => ?_, hw.sz, hw.bel, fun c x hx => ?_⟩, fun o c size l hl hx hc hm => ?_⟩
  · simp only [Gh.addF] at hf
    split at hf
    · rename_i e; subst e; rw [cell_of_row w b' o cur te _ hh]; exact hf
    · exact hw.F b' o v hf
  · simp only [St.drop] at hx ⊢
    split at hx
    · cases hx
    · rename_i hne
      obtain ⟨k1, k2, k3, k4, k5⟩ := hw.box b' cs' hx
      exact ⟨k1, k2, fun o => by simp only [Gh.addF]; rw [if_neg hne]; exact k3 o, k4, k5.mono hle⟩
  · obtain ⟨k1, k2, e, size, cap, cur', k3, k4, k5, k6, k7, k8⟩ := hw.own g m hg
    have hne : g ≠ b := fun e => by subst e; rw [hO] at k3; cases k3
    exact ⟨k1, k2, e, size, cap, cur', k3, k4, k5, k6, k7, fun o ho => by simp only [Gh.addF]; rw [if_neg hne]; exact k8 o ho⟩
  · have hne : c ≠ b := fun e => by subst e; rw [hge0.2] at hx; cases hx
    exact ⟨(hw.fr c x hx).1, fun o => by simp only [Gh.addF]; rw [if_neg hne]; exact (hw.fr c x hx).2.1 o, (hw.fr c x hx).2.2⟩
  · have get : ∀ i j, i < l.length → j < size → ∃ v, cur[o + i * size + j]? = some v := fun i j hi hj => by
      have hd := List.getElem?_eq_getElem hi
      have hlen := hl i _ hd
      have hcs := hx i _ j _ hd (List.getElem?_eq_getElem (show j < (l[i]).cells.length by omega))
      exact ⟨_, Array.getElem?_eq_getElem (by rw [hcl]; exact (List.getElem?_eq_some_iff.1 hcs).1)⟩
    refine .sl .no l b o size c (fun i j => (cur[o + i * size + j]?).getD default) hl (fun i j hi hj => ?_) (fun i j hi hj => ?_) (fun i d j x hd hj => ?_) hc hm (by simp) (fun g k e => by cases e)
    · obtain ⟨v, h1⟩ := get i j hi hj
      simp only [Gh.addF, ↓reduceIte, h1, Option.getD_some]
    · obtain ⟨v, h1⟩ := get i j hi hj
      simp only [h1, Option.getD_some]
      exact hc1 _ _ h1
    · have hi := (List.getElem?_eq_some_iff.1 hd).1
      have hjl : j < size := by rw [← hl i d hd]; exact (List.getElem?_eq_some_iff.1 hj).1
      obtain ⟨v, h1⟩ := get i j hi hjl
      simp only [h1, Option.getD_some]
      exact (hcr _ _ _ (hx i d j x hd hj) h1).mono hle
/-- An argument where a box is read as data. -/
inductive Sld (b : Nat) (cs : List V) : V → V → Prop where
  | same (d : V) : Sld b cs d d
  | box (o c size : Nat) (l : List V) (hl : ∀ (i : Nat) (d : V), l[i]? = some d → d.cells.length = size) (hx : ∀ (i : Nat) (d : V) (j : Nat) (x : V), l[i]? = some d → d.cells[j]? = some x → cs[o + i * size + j]? = some x) (hc : l.length ≤ c) (hm : c ≤ maxLen) :
      Sld b cs (.sc (.slice (some ⟨b, o, none⟩) l.length c)) (.sl .no l)
  | agg (xs ys : List V) (hl : xs.length = ys.length) (h : ∀ (i : Nat) (x y : V), xs[i]? = some x → ys[i]? = some y → Sld b cs x y) : Sld b cs (.agg xs) (.agg ys)
theorem Sld.rep {b : Nat} {cs : List V} {x y : V} (h : Sld b cs x y) {G' : Gh} (hle : G.le G') (hb : ∀ (o c size : Nat) (l : List V), (∀ (i : Nat) (d : V), l[i]? = some d → d.cells.length = size) →
    (∀ (i : Nat) (d : V) (j : Nat) (x : V), l[i]? = some d → d.cells[j]? = some x → cs[o + i * size + j]? = some x) → l.length ≤ c → c ≤ maxLen → Rep1 G' (.sl .no l) (.slice (some ⟨b, o, none⟩) l.length c)) : ∀ {v : Value}, Rep1 G x v → Rep1 G' y v := by
  induction h with
  | same d => exact fun h => h.mono hle
  | box o c size l hl hx hc hm =>
    intro v h
    cases h with
    | sc _ _ => exact hb o c size l hl hx hc hm
  | agg xs ys hl h ih =>
    intro v hv
    cases hv with
    | agg _ vs hvl h1 hr =>
    refine .agg _ vs (by rw [hvl, hl]) h1 fun i y u hy hu => ?_
    have hi : i < xs.length := by rw [hl]; exact (List.getElem?_eq_some_iff.1 hy).1
    have hx := List.getElem?_eq_getElem hi
    exact ih i _ y hx hy (hr i _ u hx hu)
/-- A call ahead of which a box is sealed. -/
theorem VCalls.seal {f : FuncId} {args args' : List V} {Q : V → St → Prop} {b : Nat} {cs : List V} (hb : st.box b = some cs) (hmo : _root_.Go.Proofs.Ytmmapbojjgpggaa.mono cs) (h : VCalls P f args' (st.drop b) Q) (hl : args.length = args'.length) (hs : ∀ (i : Nat) (d d' : V), args[i]? = some d → args'[i]? = some d' → Sld b cs d d') : VCalls P f args st Q := by
  intro w0 G w us hw hus hr
  obtain ⟨G', k1, k2, k3⟩ := hw.seal hb hmo
  refine (h w0 G' w us k2 (by omega) (fun i d' u hd' hu => ?_)).mono fun e w' ⟨u, r, st', G2, h1, h2, h3, h4, h5⟩ => ⟨u, r, st', G2, h1, h2, h3, k1.trans h4, h5⟩
  have hi : i < args.length := by rw [hl]; exact (List.getElem?_eq_some_iff.1 hd').1
  have hd := List.getElem?_eq_getElem hi
  exact (hs i _ _ hd hd').rep k1 k3 (hr i _ u hd hu)
end
end
section
open Go

section
variable {κ ν : Type} [DecidableEq κ]
/-- What a list has under a key. -/
def aget (a : κ) : List (κ × ν) → Option ν
  | [] => none
  | p :: l => if a = p.1 then some p.2 else aget a l
def aset (a : κ) (v : ν) : List (κ × ν) → List (κ × ν)
  | [] => [(a, v)]
  | p :: l => if a = p.1 then (a, v) :: l else p :: aset a v l
def adel (a : κ) : List (κ × ν) → List (κ × ν)
  | [] => []
  | p :: l => if a = p.1 then l else p :: adel a l
theorem aget_none {a : κ} : ∀ {l : List (κ × ν)}, aget a l = none ↔ ∀ p ∈ l, p.1 ≠ a
  | [] => by simp [aget]
  | p :: l => by
    simp only [aget]
    split
    · rename_i h; simp [h]
    · rename_i h
      rw [aget_none]
      simp only [List.mem_cons, forall_eq_or_imp, ne_eq]
      exact ⟨fun h' => ⟨fun e => h e.symm, h'⟩, fun h' => h'.2⟩
theorem aget_mem {a : κ} {v : ν} : ∀ {l : List (κ × ν)}, aget a l = some v → (a, v) ∈ l
  | [], h => by cases h
  | p :: l, h => by
    simp only [aget] at h
    split at h
    · rename_i e
      simp only [Option.some.injEq] at h
      subst h; subst e
      simp
    · exact List.mem_cons_of_mem _ (aget_mem h)
theorem aget_some {a : κ} : ∀ {l : List (κ × ν)}, (∃ p ∈ l, p.1 = a) → ∃ v, aget a l = some v := fun {l} h => by
  cases e : aget a l with
  | none =>
    obtain ⟨p, hp, hpa⟩ := h
    exact absurd hpa (aget_none.1 e p hp)
  | some v => exact ⟨v, rfl⟩
theorem aget_of_mem {a : κ} {v : ν} : ∀ {l : List (κ × ν)}, (l.map (·.1)).Nodup → (a, v) ∈ l → aget a l = some v
  | [], _, h => by cases h
  | p :: l, hn, h => by
    simp only [List.map_cons, List.nodup_cons, List.mem_map, not_exists, not_and] at hn
    simp only [aget]
    rcases List.mem_cons.1 h with rfl | h
    · simp
    · rw [if_neg (fun e => hn.1 (a, v) h e), aget_of_mem hn.2 h]
theorem aset_new {a : κ} {v : ν} : ∀ {l : List (κ × ν)}, aget a l = none → aset a v l = l ++ [(a, v)]
  | [], _ => rfl
  | p :: l, h => by
    simp only [aget] at h
    split at h
    · cases h
    · rename_i e
      simp only [aset, if_neg e, aset_new h, List.cons_append]
theorem adel_same {a : κ} : ∀ {l : List (κ × ν)}, aget a l = none → adel a l = l
  | [], _ => rfl
  | p :: l, h => by
    simp only [aget] at h
    split at h
    · cases h
    · rename_i e
      simp only [adel, if_neg e, adel_same h]
theorem adel_filter {a : κ} : ∀ {l : List (κ × ν)}, (l.map (·.1)).Nodup → adel a l = l.filter fun p => p.1 ≠ a
  | [], _ => rfl
  | p :: l, hn => by
    simp only [List.map_cons, List.nodup_cons, List.mem_map, not_exists, not_and] at hn
    simp only [adel, List.filter_cons]
    by_cases e : a = p.1
    · rw [if_pos e, if_neg (by simp [e])]
      refine (List.filter_eq_self.2 fun q hq => ?_).symm
      simp only [decide_eq_true_eq]
      exact fun h => hn.1 q hq (h.trans e)
    · rw [if_neg e, if_pos (by simp; exact fun h => e h.symm), adel_filter hn.2]
theorem adel_nodup {a : κ} {l : List (κ × ν)} (hn : (l.map (·.1)).Nodup) : ((adel a l).map (·.1)).Nodup := by
  rw [adel_filter hn]
  exact hn.sublist (List.filter_sublist.map _)
theorem aset_nodup {a : κ} {v : ν} : ∀ {l : List (κ × ν)}, (l.map (·.1)).Nodup → ((aset a v l).map (·.1)).Nodup
  | [], _ => by simp [aset]
  | p :: l, hn => by
    simp only [aset]
    split
    · rename_i e; simpa [e] using hn
    · rename_i e
      simp only [List.map_cons, List.nodup_cons] at hn ⊢
      refine ⟨fun h => ?_, aset_nodup hn.2⟩
      obtain ⟨q, hq, hqe⟩ := List.mem_map.1 h
      by_cases hc : aget a l = none
      · rw [aset_new hc] at hq
        rcases List.mem_append.1 hq with hq | hq
        · exact hn.1 (List.mem_map.2 ⟨q, hq, hqe⟩)
        · simp at hq; subst hq; exact e hqe
      · have hk : ∀ {l : List (κ × ν)}, aget a l ≠ none → (aset a v l).map (·.1) = l.map (·.1) := fun {l} => by
          induction l with
          | nil => intro h; exact absurd rfl h
          | cons p l ih =>
            intro h
            simp only [aget] at h
            simp only [aset]
            split
            · rename_i e; simp [e]
            · rename_i e; rw [if_neg e] at h; simp [ih h]
        rw [hk hc] at h
        exact hn.1 h
theorem aget_set {a b : κ} {v : ν} : ∀ {l : List (κ × ν)}, aget b (aset a v l) = if b = a then some v else aget b l
  | [] => by simp only [aset, aget]
  | p :: l => by
    simp only [aset]
    split
    · rename_i e
      simp only [aget]
      split
      · rfl
      · rename_i h; rw [if_neg (fun h' => h (h'.trans e.symm))]
    · rename_i e
      simp only [aget, aget_set]
      split
      · rename_i h
        rw [if_neg (fun h' => e (h'.symm.trans h))]
      · rfl
theorem aget_del {a b : κ} {l : List (κ × ν)} (hn : (l.map (·.1)).Nodup) : aget b (adel a l) = if b = a then none else aget b l := by
  rw [adel_filter hn]
  clear hn
  induction l with
  | nil => simp [aget]
  | cons p l ih =>
    simp only [List.filter_cons]
    by_cases h : p.1 = a
    · rw [if_neg (by simp [h]), ih]
      simp only [aget]
      split
      · rfl
      · rename_i hb; rw [if_neg (fun e => hb (e.trans h))]
    · rw [if_pos (by simpa using h)]
      simp only [aget, ih]
      split
      · rename_i hb; rw [if_neg (fun e => h (hb.symm.trans e))]
      · rfl

end
section
variable {κ ν : Type}
/-- The entries of a map are this list's. -/
structure Mp (kf : κ → V) (vf : ν → V) (es : List (V × V × Nat)) (c : Nat) (l : List (κ × ν)) : Prop where
  eq : es.map (fun e => (e.1, e.2.1)) = l.map fun p => (kf p.1, vf p.2)
  inc : (es.map (·.2.2)).Pairwise (· < ·)
  lt : ∀ e ∈ es, e.2.2 < c
variable {kf : κ → V} {vf : ν → V} {es : List (V × V × Nat)} {c : Nat} {l : List (κ × ν)}
theorem Mp.nil : Mp kf vf [] c ([] : List (κ × ν)) := ⟨rfl, .nil, fun e he => by cases he⟩
theorem Mp.len (h : Mp kf vf es c l) : es.length = l.length := by simpa using congrArg List.length h.eq
theorem Mp.at (h : Mp kf vf es c l) {i : Nat} {e : V × V × Nat} (he : es[i]? = some e) : ∃ p, l[i]? = some p ∧ e.1 = kf p.1 ∧ e.2.1 = vf p.2 := by
  have h1 : (es.map (fun e => (e.1, e.2.1)))[i]? = some (e.1, e.2.1) := by simp [he]
  rw [h.eq, List.getElem?_map, Option.map_eq_some_iff] at h1
  obtain ⟨p, hp, hpe⟩ := h1
  simp only [Prod.mk.injEq] at hpe
  exact ⟨p, hp, hpe.1.symm, hpe.2.symm⟩
end
section
variable {κ ν : Type} [DecidableEq κ] {kf : κ → V} {vf : ν → V} {es : List (V × V × Nat)} {c : Nat} {l : List (κ × ν)}
theorem mfind_eq (hk : ∀ a b, eqV (kf a).cells (kf b).cells = decide (a = b)) (a : κ) : ∀ (es : List (V × V × Nat)) (l : List (κ × ν)), es.map (fun e => (e.1, e.2.1)) = l.map (fun p => (kf p.1, vf p.2)) → mfind (kf a) es = (aget a l).map vf
  | [], [], _ => rfl
  | e :: es, p :: l, h => by
    simp only [List.map_cons, List.cons.injEq, Prod.mk.injEq] at h
    simp only [mfind, aget, h.1.1, hk, decide_eq_true_eq]
    split
    · simp [h.1.2]
    · exact mfind_eq hk a es l h.2
  | [], _ :: _, h => by simp at h
  | _ :: _, [], h => by simp at h
theorem Mp.find (hk : ∀ a b, eqV (kf a).cells (kf b).cells = decide (a = b)) (h : Mp kf vf es c l) (a : κ) : mfind (kf a) es = (aget a l).map vf := mfind_eq hk a es l h.eq
theorem mset_eq (hk : ∀ a b, eqV (kf a).cells (kf b).cells = decide (a = b)) (a : κ) (v : ν) (c : Nat) : ∀ (es : List (V × V × Nat)) (l : List (κ × ν)), es.map (fun e => (e.1, e.2.1)) = l.map (fun p => (kf p.1, vf p.2)) →
    (mset (kf a) (vf v) c es).map (fun e => (e.1, e.2.1)) = (aset a v l).map (fun p => (kf p.1, vf p.2)) ∧ (mset (kf a) (vf v) c es).map (·.2.2) = if (aget a l).isSome = true then es.map (·.2.2) else es.map (·.2.2) ++ [c]
  | [], [], _ => by simp [mset, aset, aget]
  | e :: es, p :: l, h => by
    simp only [List.map_cons, List.cons.injEq, Prod.mk.injEq] at h
    simp only [mset, aset, aget, h.1.1, hk, decide_eq_true_eq]
    split
    · simp [h.2]
    · obtain ⟨h1, h2⟩ := mset_eq hk a v c es l h.2
      simp only [List.map_cons, h1, h2, h.1.1, h.1.2, true_and]
      split <;> simp
  | [], _ :: _, h => by simp at h
  | _ :: _, [], h => by simp at h
theorem Mp.set (hk : ∀ a b, eqV (kf a).cells (kf b).cells = decide (a = b)) (h : Mp kf vf es c l) (a : κ) (v : ν) : Mp kf vf (mset (kf a) (vf v) c es) (mclk es (kf a) c) (aset a v l) := by
  obtain ⟨h1, h2⟩ := mset_eq hk a v c es l h.eq
  have hf := Mp.find hk h a
  have hlt : ∀ x ∈ es.map (·.2.2), x < c := fun x hx => by
    obtain ⟨e, he, rfl⟩ := List.mem_map.1 hx
    exact h.lt e he
  refine ⟨h1, ?_, fun e he => ?_⟩
  · rw [h2]
    split
    · exact h.inc
    · rw [List.pairwise_append]
      exact ⟨h.inc, by simp, fun x hx y hy => by simp at hy; subst hy; exact hlt x hx⟩
  · have he' : e.2.2 ∈ (mset (kf a) (vf v) c es).map (·.2.2) := List.mem_map.2 ⟨e, he, rfl⟩
    rw [h2] at he'
    unfold mclk
    rw [hf]
    cases hg : aget a l with
    | none =>
      rw [hg, if_neg (by simp)] at he'
      simp only [Option.isSome_none, Bool.false_eq_true, ↓reduceIte, Option.map_none]
      rcases List.mem_append.1 he' with h' | h'
      · have := hlt _ h'; omega
      · simp at h'; omega
    | some v =>
      rw [hg, if_pos (by simp)] at he'
      simp only [Option.isSome_some, ↓reduceIte, Option.map_some]
      exact hlt _ he'
theorem mdel_eq (hk : ∀ a b, eqV (kf a).cells (kf b).cells = decide (a = b)) (a : κ) : ∀ (es : List (V × V × Nat)) (l : List (κ × ν)), es.map (fun e => (e.1, e.2.1)) = l.map (fun p => (kf p.1, vf p.2)) →
    (mdel (kf a) es).map (fun e => (e.1, e.2.1)) = (adel a l).map (fun p => (kf p.1, vf p.2)) ∧ (mdel (kf a) es).Sublist es
  | [], [], _ => by simp [mdel, adel]
  | e :: es, p :: l, h => by
    simp only [List.map_cons, List.cons.injEq, Prod.mk.injEq] at h
    simp only [mdel, adel, h.1.1, hk, decide_eq_true_eq]
    split
    · exact ⟨h.2, List.sublist_cons_self _ _⟩
    · obtain ⟨h1, h2⟩ := mdel_eq hk a es l h.2
      exact ⟨by simp only [List.map_cons, h1, h.1.1, h.1.2], h2.cons_cons _⟩
  | [], _ :: _, h => by simp at h
  | _ :: _, [], h => by simp at h
theorem Mp.del (hk : ∀ a b, eqV (kf a).cells (kf b).cells = decide (a = b)) (h : Mp kf vf es c l) (a : κ) : Mp kf vf (mdel (kf a) es) c (adel a l) := by
  obtain ⟨h1, h2⟩ := mdel_eq hk a es l h.eq
  exact ⟨h1, h.inc.sublist (h2.map _), fun e he => h.lt e (h2.subset he)⟩
/-- 'm[k] = v' in two steps: the entry, then its value. -/
theorem mborn_eq (hk : ∀ a b, eqV (kf a).cells (kf b).cells = decide (a = b)) (a : κ) (v w : ν) (c : Nat) : ∀ (es : List (V × V × Nat)) (l : List (κ × ν)), es.map (fun e => (e.1, e.2.1)) = l.map (fun p => (kf p.1, vf p.2)) → (es.map (·.2.2)).Pairwise (· < ·) → (∀ e ∈ es, e.2.2 < c) →
    mstamp (mborn (kf a) c es) (vf v) (mset (kf a) (vf w) c es) = mset (kf a) (vf v) c es ∧ ∃ e ∈ mset (kf a) (vf w) c es, e.2.2 = mborn (kf a) c es
  | [], [], _, _, _ => by simp [mset, mborn, mstamp]
  | e :: es, p :: l, h, hi, hl => by
    simp only [List.map_cons, List.cons.injEq, Prod.mk.injEq] at h
    simp only [List.map_cons, List.pairwise_cons] at hi
    simp only [mset, mborn, h.1.1, hk, decide_eq_true_eq]
    split
    · simp [mstamp]
    · obtain ⟨h1, e', he', h2⟩ := mborn_eq hk a v w c es l h.2 hi.2 (fun x hx => hl x (List.mem_cons_of_mem _ hx))
      have hne : e.2.2 ≠ mborn (kf a) c es := by
        have : mborn (kf a) c es = c ∨ mborn (kf a) c es ∈ es.map (·.2.2) := by
          clear h1 he' h2 hi hl h
          induction es with
          | nil => left; rfl
          | cons x es ih =>
            simp only [mborn]
            split
            · right; simp
            · rcases ih with h | h
              · exact .inl h
              · right; simp only [List.map_cons, List.mem_cons]; exact .inr h
        rcases this with h | h
        · rw [h]; have := hl e (by simp); omega
        · have := hi.1 _ h; omega
      refine ⟨?_, e', List.mem_cons_of_mem _ he', h2⟩
      simp only [mstamp, if_neg hne, h1]
  | [], _ :: _, h, _, _ => by simp at h
  | _ :: _, [], h, _, _ => by simp at h
theorem Mp.two (hk : ∀ a b, eqV (kf a).cells (kf b).cells = decide (a = b)) (h : Mp kf vf es c l) (a : κ) (v w : ν) : mstamp (mborn (kf a) c es) (vf v) (mset (kf a) (vf w) c es) = mset (kf a) (vf v) c es ∧ ∃ e ∈ mset (kf a) (vf w) c es, e.2.2 = mborn (kf a) c es := mborn_eq hk a v w c es l h.eq h.inc h.lt
end
section
variable {κ ν : Type} {kf : κ → V} {vf : ν → V} {es : List (V × V × Nat)} {c : Nat} {l : List (κ × ν)}

/-! ### Going through a map -/
structure Going (es : List (V × V × Nat)) (seen ix : List Nat) : Prop where
  nd : ix.Nodup
  lt : ∀ i ∈ ix, i < es.length
  eq : seen = ix.map fun i => ((es[i]?).map (·.2.2)).getD 0
theorem Going.nil : Going es [] [] := ⟨.nil, fun i hi => (by cases hi), rfl⟩
theorem pairwise_inj {l : List Nat} (h : l.Pairwise (· < ·)) {i j : Nat} {x : Nat} (hi : l[i]? = some x) (hj : l[j]? = some x) : i = j := by
  have h1 := (List.getElem?_eq_some_iff.1 hi)
  have h2 := (List.getElem?_eq_some_iff.1 hj)
  obtain ⟨hi1, hi2⟩ := h1
  obtain ⟨hj1, hj2⟩ := h2
  rcases Nat.lt_trichotomy i j with hlt | rfl | hlt
  · have := List.pairwise_iff_getElem.1 h i j hi1 hj1 hlt; omega
  · rfl
  · have := List.pairwise_iff_getElem.1 h j i hj1 hi1 hlt; omega
theorem Going.step {seen ix : List Nat} (h : Mp kf vf es c l) (g : Going es seen ix) {e : V × V × Nat} (he : e ∈ es) (hs : e.2.2 ∉ seen) :
    ∃ i p, i ∉ ix ∧ es[i]? = some e ∧ l[i]? = some p ∧ e.1 = kf p.1 ∧ e.2.1 = vf p.2 ∧ Going es (seen ++ [e.2.2]) (ix ++ [i]) := by
  obtain ⟨i, hi⟩ := List.mem_iff_getElem?.1 he
  obtain ⟨p, hp, h1, h2⟩ := h.at hi
  have hn : i ∉ ix := fun hx => hs (by rw [g.eq]; exact List.mem_map.2 ⟨i, hx, by rw [hi]; rfl⟩)
  refine ⟨i, p, hn, hi, hp, h1, h2, ?_, fun j hj => ?_, ?_⟩
  · rw [List.nodup_append]
    exact ⟨g.nd, by simp, fun x hx y hy => by simp at hy; subst hy; exact fun e => hn (e ▸ hx)⟩
  · rcases List.mem_append.1 hj with hj | hj
    · exact g.lt j hj
    · simp at hj; subst hj; exact (List.getElem?_eq_some_iff.1 hi).1
  · rw [g.eq, List.map_append]
    simp [hi]
theorem Going.done {seen ix : List Nat} (h : Mp kf vf es c l) (g : Going es seen ix) (hall : ∀ e ∈ es, e.2.2 ∈ seen) : ∀ i, i < l.length → i ∈ ix := fun i hi => by
  rw [← h.len] at hi
  have hi' := List.getElem?_eq_getElem hi
  have := hall _ (List.mem_of_getElem? hi')
  rw [g.eq] at this
  obtain ⟨j, hj, hje⟩ := List.mem_map.1 this
  have hjl := g.lt j hj
  have hj' := List.getElem?_eq_getElem hjl
  rw [hj'] at hje
  simp only [Option.map_some, Option.getD_some] at hje
  have : i = j := pairwise_inj h.inc (x := es[i].2.2) (by simp [hi']) (by simp [hj', hje])
  exact this ▸ hj
theorem Going.perm {seen ix : List Nat} (h : Mp kf vf es c l) (g : Going es seen ix) (hall : ∀ e ∈ es, e.2.2 ∈ seen) : ix.Perm (List.range l.length) := by
  refine (List.perm_ext_iff_of_nodup g.nd List.nodup_range).2 fun i => ?_
  rw [List.mem_range]
  exact ⟨fun hi => by have := g.lt i hi; rw [h.len] at this; exact this, g.done h hall i⟩
theorem Going.len {seen ix : List Nat} (g : Going es seen ix) : ix.length ≤ es.length := by
  have := g.nd.length_le_of_subset (l₂ := List.range es.length) (fun i hi => List.mem_range.2 (g.lt i hi))
  simpa using this
theorem Going.seenLen {seen ix : List Nat} (g : Going es seen ix) : seen.length = ix.length := by rw [g.eq]; simp
/-- The entry that one is at. -/
theorem Mp.ent (h : Mp kf vf es c l) {e : V × V × Nat} (he : e ∈ es) {seen : List Nat} : es.find? (fun x => some x.2.2 == (seen ++ [e.2.2]).getLast?) = some e := by
  obtain ⟨i, hi⟩ := List.mem_iff_getElem?.1 he
  obtain ⟨hi1, hi2⟩ := List.getElem?_eq_some_iff.1 hi
  rw [List.getLast?_concat]
  refine List.find?_eq_some_iff_getElem.2 ⟨by simp, i, hi1, hi2, fun j hj => ?_⟩
  have := List.pairwise_iff_getElem.1 h.inc j i (by simp; omega) (by simpa using hi1) hj
  simp only [List.getElem_map, hi2] at this
  simp only [Option.some_beq_some, Bool.not_eq_true', beq_eq_false_iff_ne, ne_eq]
  omega
end
end
section
open Go

/-- May a host have it? -/
def hostB (a : Int) : Bool := decide (a / 16777216 ≠ 0) && (decide (a / 16777216 ≠ 127) && decide (a / 16777216 < 224))
def ku (a : Int) : V := .sc (.int .u32 a)
def vstr (s : ByteArray) : V := .sc (.string s)
theorem ku_eq (a b : Int) : eqV (ku a).cells (ku b).cells = decide (a = b) := by simp [ku, V.cells, eqV]
theorem vstr_eq (a b : ByteArray) : eqV (vstr a).cells (vstr b).cells = decide (a = b) := by simp [vstr, V.cells, eqV]
/-- A row of addresses. -/
def us (L : List Int) : List V := L.map ku
theorem us_len (L : List Int) : (us L).length = L.length := by simp [us]
theorem us_get {L : List Int} {i : Nat} {a : Int} (h : L[i]? = some a) : (us L)[i]? = some (.sc (.int .u32 a)) := by simp [us, h, ku]
theorem us_take (L : List Int) (k : Nat) : (us L).take k = us (L.take k) := by simp [us, List.map_take]
theorem us_drop (L : List Int) (k : Nat) : (us L).drop k = us (L.drop k) := by simp [us, List.map_drop]
theorem us_append (L M : List Int) : us L ++ us M = us (L ++ M) := by simp [us]
theorem allSz_us (L : List Int) : allSz 1 (us L) := fun d hd => by
  obtain ⟨x, _, rfl⟩ := List.mem_map.1 hd; rfl
theorem allSz_us' (L : List Int) : allSz 1 (us L) = True := by simp [allSz_us]
/-- The first place of an address, or -1. -/
def idxU (L : List Int) (a : Int) : Int := match L.findIdx? (· = a) with | some i => i | none => -1
theorem idxU_none {L : List Int} {a : Int} (h : a ∉ L) : idxU L a = -1 := by
  unfold idxU
  rw [List.findIdx?_eq_none_iff.2 (fun x hx => by simp; exact fun e => h (e ▸ hx))]
theorem idxU_some {L : List Int} {a : Int} (h : a ∈ L) : ∃ i : Nat, idxU L a = i ∧ L[i]? = some a ∧ ∀ j < i, L[j]? ≠ some a := by
  unfold idxU
  cases hf : L.findIdx? (· = a) with
  | none => 
    rw [List.findIdx?_eq_none_iff] at hf
    have := hf a h
    simp at this
  | some i =>
    obtain ⟨h1, h2, h3⟩ := List.findIdx?_eq_some_iff_getElem.1 hf
    refine ⟨i, rfl, ?_, fun j hj e => ?_⟩
    · rw [List.getElem?_eq_getElem h1]
      simpa using h2
    · have := h3 j hj
      rw [List.getElem?_eq_getElem (by omega)] at e
      simp only [Option.some.injEq] at e
      simp [e] at this
theorem idxU_at {L : List Int} {a : Int} {i : Nat} (h : L[i]? = some a) (hn : ∀ j < i, L[j]? ≠ some a) : idxU L a = i := by
  obtain ⟨k, h1, h2, h3⟩ := idxU_some (List.mem_of_getElem? h)
  rw [h1]
  rcases Nat.lt_trichotomy k i with hlt | rfl | hlt
  · exact absurd h2 (hn k hlt)
  · rfl
  · exact absurd h (h3 i hlt)
section
variable {st : St}
theorem host_v {a : Int} (h0 : 0 ≤ a) : VCalls Try.prog 60 [.sc (.int .u32 a)] st fun r st' => r = .sc (.bool (hostB a)) ∧ st = st' := by
  refine vcalls_enter vc60 (Nat.le_of_ble_eq_true rfl) fun hwf hok => ?_
  show Run _ Vc60.body (.fin (finQ Vc60.res _)) _ _
  unfold Vc60
  have nc24 : ((24 : Nat) : Int) = 24 := rfl
  unfold hostB
  have hq : a / 2 ^ 24 = a / 16777216 := by rfl
  by_cases c1 : a / 16777216 = 0
  · simp (config := {maxSteps := 3000000}) only [go_sem, Nat.reduceEqDiff, Nat.reduceLeDiff, Int.reduceToNat, Int.reduceLE, Int.reduceLT, Int.reducePow, Int.reduceEq, ↓reduceIte, reduceCtorEq, c1, decide_false, decide_true]
    exact ⟨_, _, Wk.refl _, hwf.weak, by simp, rfl⟩
  by_cases c2 : a / 16777216 = 127
  · simp (config := {maxSteps := 3000000}) only [go_sem, Nat.reduceEqDiff, Nat.reduceLeDiff, Int.reduceToNat, Int.reduceLE, Int.reduceLT, Int.reducePow, Int.reduceEq, ↓reduceIte, reduceCtorEq, c2]
    exact ⟨_, _, Wk.refl _, hwf.weak, by simp, rfl⟩
  simp (config := {maxSteps := 3000000}) only [go_sem, Nat.reduceEqDiff, Nat.reduceLeDiff, Int.reduceToNat, Int.reduceLE, Int.reducePow, ↓reduceIte, reduceCtorEq, c1, c2]
  exact ⟨_, _, Wk.refl _, hwf.weak, by simp, rfl⟩
theorem next_v {a n : Int} (h0 : 0 ≤ a) (h1 : a ≤ 4294967295) (hn : 0 ≤ n) (hn2 : n ≤ 100) : VCalls Try.prog 59 [.sc (.int .u32 a), .sc (.int .i64 n)] st fun r st' => r = .tup (if a + n ≤ 4294967295 then [.sc (.int .u32 (a + n)), .sc (.bool true)] else [.sc (.int .u32 0), .sc (.bool false)]) ∧ st = st' := by
  refine vcalls_enter vc59 (Nat.le_of_ble_eq_true rfl) fun hwf hok => ?_
  show Run _ Vc59.body (.fin (finQ Vc59.res _)) _ _
  unfold Vc59
  have e1 : n % 18446744073709551616 = n := by omega
  have e2 : (4294967295 - a) % 4294967296 = 4294967295 - a := by omega
  have e3 : (4294967295 - a) % 18446744073709551616 = 4294967295 - a := by omega
  have e4 : n % 4294967296 = n := by omega
  by_cases c : a + n ≤ 4294967295
  · have e5 : (a + n) % 4294967296 = a + n := by omega
    simp (config := {maxSteps := 3000000}) only [go_sem, Nat.reduceEqDiff, ↓reduceIte, reduceCtorEq, decide_eq_false (show ¬ n < 0 by omega), e1, e2, e3, e4, e5, decide_eq_false (show ¬ (4294967295 - a < n) by omega)]
    exact ⟨_, _, Wk.refl _, hwf.weak, by rw [if_pos c], rfl⟩
  · simp (config := {maxSteps := 3000000}) only [go_sem, Nat.reduceEqDiff, ↓reduceIte, reduceCtorEq, decide_eq_false (show ¬ n < 0 by omega), e1, e2, e3, decide_eq_true (show 4294967295 - a < n by omega)]
    exact ⟨_, _, Wk.refl _, hwf.weak, by rw [if_neg c], rfl⟩
end
end
section
open Go

/-- A map of addresses' names, in block b. -/
structure NM (st : St) (b : Nat) (es : List (V × V × Nat)) (c : Nat) (l : List (Int × ByteArray)) : Prop where
  box : st.box b = some [.mp false [.int .u32] es c]
  mp : Mp ku vstr es c l
theorem NM.find {st : St} {b : Nat} {es : List (V × V × Nat)} {c : Nat} {l : List (Int × ByteArray)} (h : NM st b es c l) (a : Int) : mfind (.sc (.int .u32 a)) es = (aget a l).map vstr := Mp.find ku_eq h.mp a
/-- A pool in block b: its two maps, what is kept, what is held. -/
structure PoolB (st : St) (b kb hb : Nat) (first many : Int) (kept held : List (Int × ByteArray)) (kes hes : List (V × V × Nat)) (kc hc : Nat) : Prop where
  box : st.box b = some [.sc (.int .u32 first), .sc (.int .i64 many), .sc (.map (some kb)), .sc (.map (some hb))]
  kept : NM st kb kes kc kept
  held : NM st hb hes hc held
  bk : b ≠ kb
  bh : b ≠ hb
  kh : kb ≠ hb
section
variable {st : St} {b kb hb : Nat} {first many : Int} {kept held : List (Int × ByteArray)} {kes hes : List (V × V × Nat)} {kc hc : Nat}
theorem PoolB.set (h : PoolB st b kb hb first many kept held kes hes kc hc) (a : Int) (s : ByteArray) : PoolB (st.put hb [.mp false [.int .u32] (mset (ku a) (vstr s) hc hes) (mclk hes (ku a) hc)]) b kb hb first many kept (aset a s held) kes (mset (ku a) (vstr s) hc hes) kc (mclk hes (ku a) hc) :=
  ⟨by rw [put_box_ne h.bh]; exact h.box, ⟨by rw [put_box_ne h.kh]; exact h.kept.box, h.kept.mp⟩, ⟨put_box_same, Mp.set ku_eq h.held.mp a s⟩, h.bk, h.bh, h.kh⟩
theorem PoolB.del (h : PoolB st b kb hb first many kept held kes hes kc hc) (a : Int) : PoolB (st.put hb [.mp false [.int .u32] (mdel (ku a) hes) hc]) b kb hb first many kept (adel a held) kes (mdel (ku a) hes) kc hc :=
  ⟨by rw [put_box_ne h.bh]; exact h.box, ⟨by rw [put_box_ne h.kh]; exact h.kept.box, h.kept.mp⟩, ⟨put_box_same, Mp.del ku_eq h.held.mp a⟩, h.bk, h.bh, h.kh⟩
/-- What a name may get. -/
def LeaseOK (first many : Int) (kept held : List (Int × ByteArray)) (name : ByteArray) (a : Int) : Prop :=
  ((a, name) ∈ kept ∧ aget a held = none) ∨
  ((∀ p ∈ kept, p.2 = name → aget p.1 held ≠ none) ∧ ∃ i : Nat, (i : Int) < many ∧ a = (first + i) % 4294967296 ∧ aget a kept = none ∧ aget a held = none ∧
    ∀ j : Nat, j < i → aget ((first + j) % 4294967296) kept ≠ none ∨ aget ((first + j) % 4294967296) held ≠ none)
def LeaseNo (first many : Int) (kept held : List (Int × ByteArray)) (name : ByteArray) : Prop :=
  (∀ p ∈ kept, p.2 = name → aget p.1 held ≠ none) ∧ ∀ j : Nat, (j : Int) < many → aget ((first + j) % 4294967296) kept ≠ none ∨ aget ((first + j) % 4294967296) held ≠ none
set_option maxRecDepth 100000 in
set_option maxHeartbeats 2000000 in
end
end
section
open Go

/-- A static: a name, an address. -/
def stV (s : ByteArray × Int) : V := .agg [.sc (.string s.1), .sc (.int .u32 s.2)]
def sts (S : List (ByteArray × Int)) : List V := S.map stV
theorem sts_len (S : List (ByteArray × Int)) : (sts S).length = S.length := by simp [sts]
theorem sts_get {S : List (ByteArray × Int)} {i : Nat} {s : ByteArray × Int} (h : S[i]? = some s) : (sts S)[i]? = some (.agg [.sc (.string s.1), .sc (.int .u32 s.2)]) := by simp [sts, h, stV]
def swp (S : List (ByteArray × Int)) : List (Int × ByteArray) := S.map fun s => (s.2, s.1)
/-- Is something kept for a name? -/
def hasN (n : ByteArray) (l : List (Int × ByteArray)) : Bool := l.any fun p => decide (n = p.2)
/-- Why statics may not be. -/
def statE (kept : List (Int × ByteArray)) : List (ByteArray × Int) → Int
  | [] => 0
  | s :: r => if hostB s.2 = false then 13 else if (aget s.2 kept).isSome = true ∨ hasN s.1 kept = true then 72 else statE (kept ++ [(s.2, s.1)]) r
def badAt (first : Int) (i : Nat) : Bool := !(decide (first + i ≤ 4294967295) && hostB (first + i))
/-- Why there is no such pool; 0: there is. -/
def newE (first many : Int) (S : List (ByteArray × Int)) : Int :=
  if many < 0 ∨ 64 < many then 13 else if (List.range many.toNat).any (badAt first) = true then 13 else if 8 < S.length then 12 else statE [] S
def vbool (b : Bool) : V := .sc (.bool b)
theorem aget_names (n : ByteArray) : ∀ l : List (Int × ByteArray), aget n (l.map fun p => (p.2, true)) = if hasN n l = true then some true else none
  | [] => rfl
  | p :: l => by
    have e : hasN n (p :: l) = (decide (n = p.2) || hasN n l) := rfl
    simp only [List.map_cons, aget, aget_names n l, e]
    by_cases h : n = p.2
    · simp [h]
    · simp [h]
/-- Midway: the pool, and the map of names. -/
structure NewI (st s : St) (b kb hb nb : Nat) (first many : Int) (kept : List (Int × ByteArray)) (kes nes : List (V × V × Nat)) (kc nc : Nat) : Prop where
  pool : PoolB s b kb hb first many kept [] kes [] kc 0
  nbox : s.box nb = some [.mp false [.str] nes nc]
  nmp : Mp vstr vbool nes nc (kept.map fun p => (p.2, true))
  weak : st.weak s
  lt : s.Lt
  nk : kb ≠ nb
  nh : hb ≠ nb
  nn : b ≠ nb
  fb : st.sz ≤ b
  fk : st.sz ≤ kb
  fh : st.sz ≤ hb
  fn : st.sz ≤ nb
section
variable {st : St} {first many : Int} {S : List (ByteArray × Int)} {tk : Tk}
theorem NewI.var {s : St} {b kb hb nb : Nat} {kept : List (Int × ByteArray)} {kes nes : List (V × V × Nat)} {kc nc : Nat} (h : NewI st s b kb hb nb first many kept kes nes kc nc) {v : Nat} (hv : s.sz ≤ v) (cs : List V) : NewI st (s.put v cs) b kb hb nb first many kept kes nes kc nc := by
  have q1 := h.lt.box b _ h.pool.box
  have q2 := h.lt.box kb _ h.pool.kept.box
  have q3 := h.lt.box hb _ h.pool.held.box
  have q4 := h.lt.box nb _ h.nbox
  exact ⟨⟨by rw [put_box_ne (by omega)]; exact h.pool.box, ⟨by rw [put_box_ne (by omega)]; exact h.pool.kept.box, h.pool.kept.mp⟩, ⟨by rw [put_box_ne (by omega)]; exact h.pool.held.box, h.pool.held.mp⟩, h.pool.bk, h.pool.bh, h.pool.kh⟩,
    by rw [put_box_ne (by omega)]; exact h.nbox, h.nmp, weak_put h.weak (by have := h.weak.sz; omega), h.lt.put, h.nk, h.nh, h.nn, h.fb, h.fk, h.fh, h.fn⟩
theorem NewI.add {s : St} {b kb hb nb : Nat} {kept : List (Int × ByteArray)} {kes nes : List (V × V × Nat)} {kc nc : Nat} (h : NewI st s b kb hb nb first many kept kes nes kc nc) {a : Int} {n : ByteArray} (ha : aget a kept = none) (hn : hasN n kept = false) :
    NewI st ((s.put kb [.mp false [.int .u32] (mset (ku a) (vstr n) kc kes) (mclk kes (ku a) kc)]).put nb [.mp false [.str] (mset (vstr n) (vbool true) nc nes) (mclk nes (vstr n) nc)]) b kb hb nb first many (kept ++ [(a, n)]) (mset (ku a) (vstr n) kc kes) (mset (vstr n) (vbool true) nc nes) (mclk kes (ku a) kc) (mclk nes (vstr n) nc) := by
  have m1 := Mp.set ku_eq h.pool.kept.mp a n
  rw [aset_new ha] at m1
  have m2 := Mp.set vstr_eq h.nmp n true
  rw [aset_new (by rw [aget_names, hn]; rfl)] at m2
  exact ⟨⟨by rw [put_box_ne h.nn, put_box_ne h.pool.bk]; exact h.pool.box, ⟨by rw [put_box_ne h.nk, put_box_same], m1⟩, ⟨by rw [put_box_ne h.nh, put_box_ne h.pool.kh.symm]; exact h.pool.held.box, h.pool.held.mp⟩, h.pool.bk, h.pool.bh, h.pool.kh⟩,
    put_box_same, by simpa using m2, weak_put (weak_put h.weak h.fk) h.fn, h.lt.put.put, h.nk, h.nh, h.nn, h.fb, h.fk, h.fh, h.fn⟩
theorem NewI.nfind {s : St} {b kb hb nb : Nat} {kept : List (Int × ByteArray)} {kes nes : List (V × V × Nat)} {kc nc : Nat} (h : NewI st s b kb hb nb first many kept kes nes kc nc) (n : ByteArray) : (mfind (.sc (.string n)) nes).getD (.sc (.bool false)) = .sc (.bool (hasN n kept)) := by
  have : mfind (.sc (.string n)) nes = _ := Mp.find vstr_eq h.nmp n
  rw [this, aget_names]
  cases hasN n kept <;> rfl
/-- What New answers. -/
def NewQ (st : St) (first many : Int) (S : List (ByteArray × Int)) (r : V) (s : St) : Prop :=
  (newE first many S ≠ 0 ∧ r = .tup [.sc (.pointer none), .sc (.int .i64 (newE first many S))] ∧ s = st) ∨
  (newE first many S = 0 ∧ ∃ b kb hb kes kc, r = .tup [ptrV b, .sc (.int .i64 0)] ∧ PoolB s b kb hb first many (swp S) [] kes [] kc 0 ∧ st.weak s ∧ s.Lt ∧ st.sz ≤ b ∧ st.sz ≤ kb ∧ st.sz ≤ hb)
set_option maxRecDepth 100000 in
set_option maxHeartbeats 4000000 in
theorem new_v (h0 : 0 ≤ first) (h1 : first ≤ 4294967295) (hS : ∀ s ∈ S, 0 ≤ s.2) : VCalls Try.prog 38 [.sc (.int .u32 first), .sc (.int .i64 many), .sl tk (sts S)] st (NewQ st first many S) := by
  refine vcalls_enter vc38 (Nat.le_of_ble_eq_true rfl) fun hwf hok => ?_
  show Run _ Vc38.body (.fin (finQ Vc38.res _)) _ _
  unfold Vc38
  have hsm := vlen_max (hok (.sl tk (sts S)) (by simp))
  rw [sts_len] at hsm
  by_cases c1 : many < 0
  · simp (config := {maxSteps := 3000000}) only [go_sem, Nat.reduceEqDiff, ↓reduceIte, decide_eq_true c1]
    exact ⟨_, _, Wk.refl _, hwf.weak, .inl ⟨by simp [newE, c1], by simp [newE, c1], rfl⟩⟩
  by_cases c2 : 64 < many
  · simp (config := {maxSteps := 3000000}) only [go_sem, Nat.reduceEqDiff, ↓reduceIte, decide_eq_false c1, decide_eq_true c2]
    exact ⟨_, _, Wk.refl _, hwf.weak, .inl ⟨by simp [newE, c2], by simp [newE, c2], rfl⟩⟩
  have e1 : newE first many S = if (List.range many.toNat).any (badAt first) = true then 13 else if 8 < S.length then 12 else statE [] S := by
    unfold newE
    rw [if_neg (by omega)]
  simp (config := {maxSteps := 3000000}) only [go_sem, Nat.reduceEqDiff, ↓reduceIte, decide_eq_false c1, decide_eq_false c2]
  refine run_loop [6, 7, 8, 9, 10, 24, 25, 26, 27, 28, 29, 30, 31, 32, 33, 34, 35, 36, 37, 38, 39, 40] (fun B s => ∃ i : Nat, (i : Int) ≤ many ∧ B 24 = .sc (.int .i64 i) ∧ (∀ j < i, badAt first j = false) ∧ s = st) (fun B _ => 64 - vnat (B 24)) rfl ?_ ?_
  · simp (config := {maxSteps := 3000000}) only [go_sem, ↓reduceIte]
    exact ⟨0, by omega, rfl, fun j hj => by omega⟩
  · rintro B s ⟨i, hi, h24, hgood, rfl⟩
    by_cases c3 : (i : Int) < many
    · simp (config := {maxSteps := 3000000}) only [go_sem, Nat.reduceEqDiff, ↓reduceIte, reduceCtorEq, Nat.reduceBEq, h24, decide_eq_true c3]
      refine Cal.mk (next_v h0 h1 (by omega) (by omega)) ?_
      rintro _ _ ⟨rfl, rfl⟩ -
      have bad13 : badAt first i = true → newE first many S = 13 := fun hb => by
        rw [e1, if_pos]
        rw [List.any_eq_true]
        exact ⟨i, List.mem_range.2 (by omega), hb⟩
      by_cases c4 : first + (i : Int) ≤ 4294967295
      · rw [if_pos c4]
        simp (config := {maxSteps := 3000000}) only [go_sem, Nat.reduceEqDiff, ↓reduceIte]
        refine Cal.mk (host_v (by omega)) ?_
        rintro _ _ ⟨rfl, rfl⟩ -
        cases c5 : hostB (first + (i : Int))
        · have := bad13 (by simp [badAt, c5])
          simp (config := {maxSteps := 3000000}) only [go_sem, Nat.reduceEqDiff, ↓reduceIte]
          exact ⟨_, _, Wk.refl _, hwf.weak, .inl ⟨by rw [this]; simp, by rw [this], rfl⟩⟩
        · simp (config := {maxSteps := 3000000}) only [go_sem, Nat.reduceEqDiff, Int.reduceNeg, ↓reduceIte, Nat.reduceBEq, h24]
          repeat (apply And.intro; focus (first | omega | (simp; done)))
          refine ⟨⟨i + 1, by omega, by simp, fun j hj => ?_⟩, by omega⟩
          by_cases e : j = i
          · subst e; simp [badAt, c4, c5]
          · exact hgood j (by omega)
      · rw [if_neg c4]
        have := bad13 (by simp [badAt, c4])
        simp (config := {maxSteps := 3000000}) only [go_sem, Nat.reduceEqDiff, ↓reduceIte]
        exact ⟨_, _, Wk.refl _, hwf.weak, .inl ⟨by rw [this]; simp, by rw [this], rfl⟩⟩
    · have hin : (i : Int) = many := by omega
      have e2 : newE first many S = if 8 < S.length then 12 else statE [] S := by
        rw [e1, if_neg]
        rw [List.any_eq_true]
        rintro ⟨j, hj, hb⟩
        rw [List.mem_range] at hj
        rw [hgood j (by omega)] at hb
        cases hb
      by_cases c6 : 8 < S.length
      · rw [if_pos c6] at e2
        simp (config := {maxSteps := 3000000}) only [go_sem, Nat.reduceEqDiff, ↓reduceIte, Nat.reduceBEq, h24, decide_eq_false c3, sts_len, decide_eq_true (show (8 : Int) < (S.length : Int) by omega)]
        exact ⟨_, _, Wk.refl _, hwf.weak, .inl ⟨by rw [e2]; simp, by rw [e2], rfl⟩⟩
      rw [if_neg c6] at e2
      simp (config := {maxSteps := 3000000}) only [go_sem, Nat.reduceEqDiff, Nat.reduceAdd, Nat.reduceLT, Nat.reduceLeDiff, ↓reduceIte, reduceCtorEq, Nat.reduceBEq, h24, decide_eq_false c3, sts_len, decide_eq_false (show ¬ (8 : Int) < (S.length : Int) by omega)]
      intro kb hkb hb hhb b hbb nb hnb
      have hlt := hwf.lt
      have hwk := hwf.weak
      have q1 : kb < hb := by omega
      have q2 : hb < b := by omega
      have q3 : b < nb := by omega
      have q4 : s.sz ≤ hb := by omega
      have q5 : s.sz ≤ b := by omega
      have q6 : s.sz ≤ nb := by omega
      clear hhb hbb hnb
      have I0 : NewI s ((((s.put kb [.mp false [.int .u32] [] 0]).put hb [.mp false [.int .u32] [] 0]).put b [.sc (.int .u32 first), .sc (.int .i64 many), .sc (.map (some kb)), .sc (.map (some hb))]).put nb [.mp false [.str] [] 0]) b kb hb nb first many [] [] [] 0 0 :=
        ⟨⟨by rw [put_box_ne (by omega), put_box_same], ⟨by rw [put_box_ne (by omega), put_box_ne (by omega), put_box_ne (by omega), put_box_same], .nil⟩, ⟨by rw [put_box_ne (by omega), put_box_ne (by omega), put_box_same], .nil⟩, by omega, by omega, by omega⟩,
          put_box_same, .nil, weak_put (weak_put (weak_put (weak_put hwk hkb) q4) q5) q6, hlt.put.put.put.put, by omega, by omega, by omega, q5, hkb, q4, q6⟩
      refine run_loop [6, 7, 14, 15, 16, 53, 54, 55, 56, 57, 58, 59, 60, 61, 62, 63, 64, 65, 66, 67, 68, 69, 70, 71, 72, 73, 74, 75, 76, 77, 78, 79, 80, 81, 82, 83, 84, 85, 86, 87, 88, 89, 90, 91] (fun C s' => ∃ (i : Nat) (kes nes : List (V × V × Nat)) (kc nc : Nat), i ≤ S.length ∧ C 53 = .sc (.int .i64 i) ∧ NewI s s' b kb hb nb first many (swp (S.take i)) kes nes kc nc ∧ statE [] S = statE (swp (S.take i)) (S.drop i)) (fun C _ => S.length - vnat (C 53)) rfl ?_ ?_
      · simp (config := {maxSteps := 3000000}) only [go_sem, ↓reduceIte]
        exact ⟨0, [], [], 0, 0, by omega, rfl, I0, rfl⟩
      · rintro C s' ⟨i, kes, nes, kc, nc, hi, h53, I, hE⟩
        by_cases hlt' : i < S.length
        · obtain ⟨x, hx⟩ := get_ex hlt'
          have hdr : S.drop i = x :: S.drop (i + 1) := by
            rw [List.drop_eq_getElem_cons hlt']
            have := (List.getElem?_eq_some_iff.1 hx).2
            rw [this]
          have htk : swp (S.take (i + 1)) = swp (S.take i) ++ [(x.2, x.1)] := by
            rw [List.take_add_one, hx]
            simp [swp]
          rw [hdr] at hE
          simp only [statE] at hE
          have hx0 := hS x (List.mem_of_getElem? hx)
          simp (config := {maxSteps := 3000000}) only [go_sem, Nat.reduceEqDiff, Nat.reduceAdd, Nat.reduceLT, Nat.reduceLeDiff, ↓reduceIte, Nat.reduceBEq, h53, sts_get hx, decide_eq_true (show (i : Int) < (S.length : Int) by omega)]
          repeat (apply And.intro; focus (first | omega | (simp; done)))
          intro v hv
          have I1 := I.var hv [.sc (.string x.1), .sc (.int .u32 x.2)]
          refine Cal.mk (host_v hx0) ?_
          rintro _ _ ⟨rfl, rfl⟩ -
          cases c7 : hostB x.2
          · rw [if_pos c7] at hE
            simp (config := {maxSteps := 3000000}) only [go_sem, Nat.reduceEqDiff, ↓reduceIte]
            exact ⟨_, _, Wk.refl _, I1.weak, .inl ⟨by rw [e2, hE]; simp, by rw [e2, hE], rfl⟩⟩
          rw [if_neg (by rw [c7]; simp)] at hE
          have nv1 : kb ≠ v := by have := I.lt.box kb _ I.pool.kept.box; omega
          have nv2 : b ≠ v := by have := I.lt.box b _ I.pool.box; omega
          have nv3 : nb ≠ v := by have := I.lt.box nb _ I.nbox; omega
          cases c8 : aget x.2 (swp (S.take i)) with
          | some y =>
            rw [if_pos (by rw [c8]; simp)] at hE
            simp (config := {maxSteps := 3000000}) only [go_sem, Nat.reduceEqDiff, ↓reduceIte, Nat.reduceBEq, put_box_ne nv1, put_box_ne nv2, I.pool.box, I.pool.kept.box, I.pool.kept.find, c8, Option.isSome_some, Option.getD_some, Option.map_some]
            exact ⟨_, _, Wk.refl _, I1.weak, .inl ⟨by rw [e2, hE]; simp, by rw [e2, hE], rfl⟩⟩
          | none =>
            cases c9 : hasN x.1 (swp (S.take i))
            · rw [if_neg (by rw [c8, c9]; simp)] at hE
              obtain ⟨ht, hex⟩ := Mp.two ku_eq I.pool.kept.mp x.2 x.1 ⟨#[]⟩
              have hz : (0 : Int) ≤ ((mborn (ku x.2) kc kes : Nat) : Int) := by omega
              have hA := I1.add (a := x.2) (n := x.1) c8 c9
              simp only [ku, vstr, vbool] at ht hex hz hA
              have nkn := I.nk
              have nnk := I.nk.symm
              have bkn := I.pool.bk
              simp (config := {maxSteps := 3000000}) only [go_sem, Nat.reduceEqDiff, Int.reduceNeg, ↓reduceIte, Nat.reduceBEq, put_box_ne nv1, put_box_ne nv2, put_box_ne nv3, put_box_ne nv1.symm, put_box_ne nnk, I.pool.box, I.pool.kept.box, I.nbox, I.pool.kept.find, I.nfind, c8, c9, Option.isSome_none, Option.getD_none, ht, hex, hz, h53]
              repeat (apply And.intro; focus (first | omega | (simp; done)))
              exact ⟨⟨i + 1, _, _, _, _, by omega, by simp, by rw [htk]; exact hA, by rw [htk]; exact hE⟩, by omega⟩
            · rw [if_pos (by rw [c9]; simp)] at hE
              simp (config := {maxSteps := 3000000}) only [go_sem, Nat.reduceEqDiff, ↓reduceIte, Nat.reduceBEq, put_box_ne nv1, put_box_ne nv2, put_box_ne nv3, I.pool.box, I.pool.kept.box, I.nbox, I.pool.kept.find, I.nfind, c8, c9, Option.isSome_none, Option.getD_none]
              exact ⟨_, _, Wk.refl _, I1.weak, .inl ⟨by rw [e2, hE]; simp, by rw [e2, hE], rfl⟩⟩
        · obtain rfl : i = S.length := by omega
          rw [List.drop_length, List.take_length] at hE
          rw [List.take_length] at I
          simp (config := {maxSteps := 3000000}) only [go_sem, Nat.reduceEqDiff, ↓reduceIte, Nat.reduceBEq, h53]
          exact ⟨_, _, Wk.refl _, I.lt.weak, .inr ⟨by rw [e2, hE]; rfl, b, kb, hb, kes, kc, rfl, I.pool, I.weak, I.lt, I.fb, I.fk, I.fh⟩⟩
end
end
section
open Go

theorem own_nil {size : Nat} {st : St} : Own size st (.sl .nil []) [] := .inl ⟨rfl, rfl⟩
theorem own_sl {size : Nat} {st : St} {v : V} {l : List V} (h : Own size st v l) : ∃ tk, v = .sl tk l := by
  rcases h with ⟨rfl, rfl⟩ | ⟨g, rfl, _⟩
  · exact ⟨_, rfl⟩
  · exact ⟨_, rfl⟩
theorem own_put {size : Nat} {st : St} {v : V} {l : List V} (h : Own size st v l) {b : Nat} {cs : List V} : Own size (st.put b cs) v l := by
  rcases h with h | ⟨g, h1, h2, h3⟩
  · exact .inl h
  · exact .inr ⟨g, h1, h2, by simp only [put_sz]; omega⟩
theorem weak_tr {a b c : St} (h : a.weak b) (k : b.weak c) : a.weak c :=
  ⟨fun b cs hb => ⟨(k.box b cs (h.box b cs hb).1).1, (h.box b cs hb).2⟩, fun g m hg => ⟨(k.own g m (h.own g m hg).1).1, (h.own g m hg).2⟩, Nat.le_trans h.sz k.sz⟩
theorem app_keeps {s s' : St} {x r : V} (h : AppSt s x s' r) {t : St} (hw : t.weak s) (hx : ∀ g k l, x = .sl (.own g k) l → t.sz ≤ g) : t.weak s' :=
  ⟨fun b cs hb => ⟨by rw [h.box]; exact (hw.box b cs hb).1, (hw.box b cs hb).2⟩, fun g m hg => ⟨h.own g m (hw.own g m hg).1 (fun l k e => by have := hx g k l e; have := (hw.own g m hg).2; omega), (hw.own g m hg).2⟩, Nat.le_trans hw.sz h.sz⟩
theorem app_fresh {s s' : St} {x r : V} (h : AppSt s x s' r) {t : St} (hs : t.sz ≤ s.sz) (hx : ∀ g k l, x = .sl (.own g k) l → t.sz ≤ g) : ∀ g k l, r = .sl (.own g k) l → t.sz ≤ g := fun g k l e => by
  rcases h.tok g k l e with ⟨l', h1⟩ | h1
  · exact hx g k l' h1
  · omega
/-- A row of the call's own. -/
structure RO (size : Nat) (base s : St) (r : V) (l : List V) : Prop where
  own : Own size s r l
  weak : base.weak s
  lt : s.Lt
  tok : ∀ g k l', r = .sl (.own g k) l' → base.sz ≤ g
variable {size : Nat} {base s s' : St} {r x : V} {l l' : List V}
theorem RO.nil (hw : base.weak s) (hl : s.Lt) : RO size base s (.sl .nil []) [] := ⟨own_nil, hw, hl, fun g k l e => by cases e⟩
theorem RO.put (h : RO size base s r l) {c : Nat} {cs : List V} (hc : base.sz ≤ c) : RO size base (s.put c cs) r l :=
  ⟨own_put h.own, weak_put h.weak hc, h.lt.put, h.tok⟩
theorem RO.app (h : RO size base s x l) (ho : Own size s' r l') (k : AppSt s x s' r) : RO size base s' r l' :=
  ⟨ho, app_keeps k h.weak h.tok, h.lt.app k, app_fresh k h.weak.sz h.tok⟩
theorem RO.use (hw : base.weak s) (hl : s.Lt) {g : Nat} (hg : s.sz ≤ g) (cs : List V) : RO size base (s.use g cs.length) (.sl (.own g size) cs) cs :=
  ⟨.inr ⟨g, rfl, by simp [St.use], by simp only [use_sz]; omega⟩, weak_use hw (by have := hw.sz; omega), hl.use, fun g' k l e => by cases e; have := hw.sz; omega⟩
theorem RO.sl (h : RO size base s r l) : ∃ tk, r = .sl tk l := own_sl h.own
theorem RO.use0' {size : Nat} {st s : St} (hw : st.weak s) (hl : s.Lt) {g : Nat} (hg : s.sz ≤ g) : RO size st (s.use g 0) (.sl (.own g size) []) [] := RO.use (cs := []) hw hl hg
theorem Wk.tupT {a a' : V} {x : Value} (h : Wk a a') : Wk (.tup [a, .sc x]) (.tup [a', .sc x]) := fun G v hv => by
  cases hv with
  | tup _ vs hl hg =>
    refine .tup _ vs hl fun i c u hc hu => ?_
    match i, hc with
    | 0, hc => simp at hc; subst hc; exact h G u (hg 0 a u rfl hu)
    | 1, hc => exact hg 1 c u hc hu
def ival (x : Int) : V := .sc (.int .i64 x)
end
section

section
variable {α : Type}
theorem set_perm_cons {x y : α} : ∀ {L : List α} {j : Nat}, L[j]? = some y → (y :: L.set j x).Perm (x :: L)
  | [], j, h => by simp at h
  | z :: L, 0, h => by
    simp at h
    subst h
    exact List.Perm.swap _ _ _
  | z :: L, j + 1, h => by
    have ih := set_perm_cons (x := x) (L := L) (j := j) (by simpa using h)
    simp only [List.set_cons_succ]
    exact (List.Perm.swap _ _ _).trans ((ih.cons z).trans (List.Perm.swap _ _ _))
theorem set2_perm {L : List α} {i j : Nat} {x y : α} (hi : L[i]? = some x) (hj : L[j]? = some y) : ((L.set i y).set j x).Perm L := by
  induction L generalizing i j with
  | nil => simp at hi
  | cons z L ih =>
    cases i with
    | zero =>
      simp at hi
      subst hi
      cases j with
      | zero => simp at hj; subst hj; simp
      | succ j =>
        simp only [List.set_cons_zero, List.set_cons_succ]
        exact set_perm_cons (by simpa using hj)
    | succ i =>
      cases j with
      | zero =>
        simp at hj
        subst hj
        simp only [List.set_cons_zero, List.set_cons_succ]
        exact set_perm_cons (by simpa using hi)
      | succ j =>
        simp only [List.set_cons_succ]
        exact (ih (by simpa using hi) (by simpa using hj)).cons z
/-- An order, by 'less'. -/
structure Ord' (lt : α → α → Bool) : Prop where
  asymm : ∀ {x y}, lt x y = true → lt y x = false
  trans : ∀ {x y z}, lt y x = false → lt z y = false → lt z x = false
theorem Ord'.irr {lt : α → α → Bool} (h : Ord' lt) (x : α) : lt x x = false := by
  cases e : lt x x with
  | false => rfl
  | true => have := h.asymm e; rw [e] at this; cases this
/-- Two lists of the same elements in order are one, where no two can't be told apart. -/
theorem srt_eq {lt : α → α → Bool} (O : Ord' lt) (hT : ∀ x y, lt x y = false → lt y x = false → x = y) : ∀ {L M : List α}, L.Perm M → L.Pairwise (fun x y => lt y x = false) → M.Pairwise (fun x y => lt y x = false) → L = M
  | [], M, hp, _, _ => by rw [hp.nil_eq]
  | x :: L, [], hp, _, _ => by have := hp.length_eq; simp at this
  | x :: L, y :: M, hp, h1, h2 => by
    rw [List.pairwise_cons] at h1 h2
    have exy : x = y := by
      have hx := hp.mem_iff.1 (List.mem_cons_self (a := x) (l := L))
      have hy := hp.mem_iff.2 (List.mem_cons_self (a := y) (l := M))
      rcases List.mem_cons.1 hx with e | hx
      · exact e
      · rcases List.mem_cons.1 hy with e | hy
        · exact e.symm
        · exact hT x y (h2.1 x hx) (h1.1 y hy)
    subst exy
    rw [srt_eq O hT (List.Perm.cons_inv hp) h1.2 h2.2]
end
section
variable {α : Type} [Inhabited α]
theorem bang_get {L : List α} {i : Nat} (h : i < L.length) : L[i]? = some L[i]! := by
  rw [List.getElem?_eq_getElem h, getElem!_pos L i h]
theorem bang_eq {L : List α} {i : Nat} {x : α} (h : L[i]? = some x) : L[i]! = x := by
  obtain ⟨h1, h2⟩ := List.getElem?_eq_some_iff.1 h
  rw [getElem!_pos L i h1]; exact h2
theorem ext_bang {L M : List α} (h : L.length = M.length) (he : ∀ i, i < L.length → L[i]! = M[i]!) : L = M := by
  refine List.ext_getElem h fun i h1 h2 => ?_
  have := he i h1
  rwa [getElem!_pos L i h1, getElem!_pos M i h2] at this
/-- Two elements exchanged. -/
def exch (L : List α) (i j : Nat) : List α := (L.set i L[j]!).set j L[i]!
theorem exch_len {L : List α} {i j : Nat} : (exch L i j).length = L.length := by simp [exch]
theorem exch_get {L : List α} {i j : Nat} (hi : i < L.length) (hj : j < L.length) (k : Nat) : (exch L i j)[k]! = if k = j then L[i]! else if k = i then L[j]! else L[k]! := by
  by_cases hk : k < L.length
  · rw [getElem!_pos (exch L i j) k (by rw [exch_len]; exact hk)]
    have e : (exch L i j)[k]'(by rw [exch_len]; exact hk) = if j = k then L[i]! else if i = k then L[j]! else L[k] := by
      unfold exch
      rw [List.getElem_set, List.getElem_set]
    rw [e, getElem!_pos L k hk]
    by_cases e1 : j = k
    · rw [if_pos e1, if_pos e1.symm]
    · rw [if_neg e1]
      by_cases e2 : i = k
      · rw [if_pos e2, if_neg (show ¬ k = j from fun h => e1 h.symm), if_pos e2.symm]
      · rw [if_neg e2, if_neg (show ¬ k = j from fun h => e1 h.symm), if_neg (show ¬ k = i from fun h => e2 h.symm)]
  · rw [if_neg (by omega), if_neg (by omega), getElem!_neg (exch L i j) k (by rw [exch_len]; exact hk), getElem!_neg L k hk]
theorem exch_perm {L : List α} {i j : Nat} (hi : i < L.length) (hj : j < L.length) : (exch L i j).Perm L := set2_perm (bang_get hi) (bang_get hj)
/-- The same elements, turned about from a to b alone. -/
structure Mix (a b : Nat) (L M : List α) : Prop where
  perm : M.Perm L
  out : ∀ k, k < a ∨ b ≤ k → M[k]! = L[k]!
theorem Mix.len {a b : Nat} {L M : List α} (h : Mix a b L M) : M.length = L.length := h.perm.length_eq
theorem Mix.refl {a b : Nat} {L : List α} : Mix a b L L := ⟨.refl _, fun _ _ => rfl⟩
theorem Mix.trans {a b : Nat} {L M N : List α} (h : Mix a b L M) (k : Mix a b M N) : Mix a b L N := ⟨k.perm.trans h.perm, fun i hi => (k.out i hi).trans (h.out i hi)⟩
theorem Mix.wide {a b a' b' : Nat} {L M : List α} (h : Mix a b L M) (h1 : a' ≤ a) (h2 : b ≤ b') : Mix a' b' L M := ⟨h.perm, fun k hk => h.out k (by omega)⟩
theorem Mix.exch {a b i j : Nat} {L M : List α} (h : Mix a b L M) (h1 : a ≤ i) (h2 : i < b) (h3 : a ≤ j) (h4 : j < b) (hb : b ≤ L.length) : Mix a b L (exch M i j) := by
  have hl := h.len
  refine ⟨(exch_perm (by omega) (by omega)).trans h.perm, fun k hk => ?_⟩
  rw [exch_get (by omega) (by omega), if_neg (by omega), if_neg (by omega)]
  exact h.out k hk
theorem Mix.mid {a b : Nat} {L M : List α} (h : Mix a b L M) (hab : a ≤ b) (hb : b ≤ L.length) : ((M.drop a).take (b - a)).Perm ((L.drop a).take (b - a)) := by
  have hl := h.len
  have split : ∀ X : List α, X = X.take a ++ ((X.drop a).take (b - a) ++ X.drop b) := fun X => by
    have h1 : (X.drop a).take (b - a) ++ X.drop b = X.drop a := by
      have : X.drop b = (X.drop a).drop (b - a) := by rw [List.drop_drop]; congr 1; omega
      rw [this, List.take_append_drop]
    rw [h1, List.take_append_drop]
  have h1 : M.take a = L.take a := by
    refine ext_bang (by simp [hl]) fun i hi => ?_
    simp at hi
    have := h.out i (by omega)
    rw [getElem!_pos (M.take a) i (by simp; omega), getElem!_pos (L.take a) i (by simp; omega)]
    rw [getElem!_pos M i (by omega), getElem!_pos L i (by omega)] at this
    simpa using this
  have h2 : M.drop b = L.drop b := by
    refine ext_bang (by simp [hl]) fun i hi => ?_
    simp at hi
    have := h.out (b + i) (by omega)
    rw [getElem!_pos (M.drop b) i (by simp; omega), getElem!_pos (L.drop b) i (by simp; omega)]
    rw [getElem!_pos M (b + i) (by omega), getElem!_pos L (b + i) (by omega)] at this
    simpa using this
  have hp := h.perm
  rw [split M, split L, h1, h2] at hp
  exact (List.perm_append_right_iff _).1 ((List.perm_append_left_iff _).1 hp)
theorem Mix.all {a b : Nat} {L M : List α} (h : Mix a b L M) (hb : b ≤ L.length) {Q : α → Prop} (hq : ∀ k, a ≤ k → k < b → Q L[k]!) : ∀ k, a ≤ k → k < b → Q M[k]! := fun k h1 h2 => by
  have hl := h.len
  have hp := h.mid (by omega) hb
  have hm : M[k]! ∈ (M.drop a).take (b - a) := by
    rw [getElem!_pos M k (by omega)]
    refine List.mem_iff_getElem.2 ⟨k - a, by simp; omega, ?_⟩
    simp only [List.getElem_take, List.getElem_drop]
    congr 1; omega
  have := hp.mem_iff.1 hm
  obtain ⟨i, hi, he⟩ := List.mem_iff_getElem.1 this
  simp at hi
  simp only [List.getElem_take, List.getElem_drop] at he
  rw [← he, ← getElem!_pos L (a + i) (by omega)]
  exact hq (a + i) (by omega) (by omega)
/-- In order from a to b. -/
def Srt (lt : α → α → Bool) (a b : Nat) (L : List α) : Prop := ∀ i j, a ≤ i → i < j → j < b → lt L[j]! L[i]! = false
variable {lt : α → α → Bool}
theorem Srt.one {a b : Nat} {L : List α} (h : b ≤ a + 1) : Srt lt a b L := fun i j h1 h2 h3 => by omega
/-- All but the element at j in order; what stands behind j is not less. -/
structure Ins (lt : α → α → Bool) (a i j : Nat) (L : List α) : Prop where
  ord : ∀ p q, a ≤ p → p < q → q ≤ i → p ≠ j → q ≠ j → lt L[q]! L[p]! = false
  up : ∀ q, j < q → q ≤ i → lt L[q]! L[j]! = false
theorem Ins.start {a i : Nat} {L : List α} (h : Srt lt a i L) : Ins lt a i i L := ⟨fun p q h1 h2 h3 h4 h5 => h p q h1 h2 (by omega), fun q h1 h2 => by omega⟩
theorem Ins.done (O : Ord' lt) {a i j : Nat} {L : List α} (h : Ins lt a i j L) (hj : j ≤ i) (hs : j = a ∨ (a < j ∧ lt L[j]! L[j - 1]! = false)) : Srt lt a (i + 1) L := fun p q h1 h2 h3 => by
  by_cases e1 : q = j
  · subst e1
    rcases hs with e | ⟨h4, h5⟩
    · omega
    · by_cases e2 : p = q - 1
      · subst e2; exact h5
      · exact O.trans (h.ord p (q - 1) h1 (by omega) (by omega) (by omega) (by omega)) h5
  · by_cases e2 : p = j
    · subst e2; exact h.up q h2 (by omega)
    · exact h.ord p q h1 h2 (by omega) e2 e1
theorem Ins.step (O : Ord' lt) {a i j : Nat} {L : List α} (h : Ins lt a i j L) (hj : a < j) (hji : j ≤ i) (hi : i < L.length) (hl : lt L[j]! L[j - 1]! = true) : Ins lt a i (j - 1) (exch L j (j - 1)) := by
  have g := fun k => exch_get (L := L) (i := j) (j := j - 1) (by omega) (by omega) k
  refine ⟨fun p q h1 h2 h3 h4 h5 => ?_, fun q h1 h2 => ?_⟩
  · rw [g q, g p, if_neg h5, if_neg h4]
    by_cases e1 : q = j
    · rw [if_pos e1, if_neg (by omega)]
      exact h.ord p (j - 1) h1 (by omega) (by omega) (by omega) (by omega)
    · rw [if_neg e1]
      by_cases e2 : p = j
      · rw [if_pos e2]; exact h.ord (j - 1) q (by omega) (by omega) h3 (by omega) e1
      · rw [if_neg e2]; exact h.ord p q h1 h2 h3 e2 e1
  · rw [g q, g (j - 1), if_neg (by omega), if_pos rfl]
    by_cases e1 : q = j
    · rw [if_pos e1]; exact O.asymm hl
    · rw [if_neg e1]; exact h.up q (by omega) h2
/-! ### Heaps -/
def kid (r c : Nat) : Prop := c = 2 * r + 1 ∨ c = 2 * r + 2
def Heap (lt : α → α → Bool) (f lo hi : Nat) (L : List α) : Prop := ∀ r c, lo ≤ r → kid r c → c < hi → lt L[f + r]! L[f + c]! = false
structure Sift (lt : α → α → Bool) (f lo hi root : Nat) (L : List α) : Prop where
  own : ∀ r c, lo ≤ r → r ≠ root → kid r c → c < hi → lt L[f + r]! L[f + c]! = false
  up : ∀ p c, lo ≤ p → kid p root → kid root c → c < hi → lt L[f + p]! L[f + c]! = false
theorem Sift.start {f lo hi : Nat} {L : List α} (h : Heap lt f (lo + 1) hi L) : Sift lt f lo hi lo L :=
  ⟨fun r c h1 h2 h3 h4 => h r c (by omega) h3 h4, fun p c h1 h2 h3 h4 => by rcases h2 with h2 | h2 <;> omega⟩
theorem Sift.done {f lo hi root : Nat} {L : List α} (h : Sift lt f lo hi root L) (hr : ∀ c, kid root c → c < hi → lt L[f + root]! L[f + c]! = false) : Heap lt f lo hi L := fun r c h1 h2 h3 => by
  by_cases e : r = root
  · subst e; exact hr c h2 h3
  · exact h.own r c h1 e h2 h3
theorem Sift.step (O : Ord' lt) {f lo hi root ch : Nat} {L : List α} (h : Sift lt f lo hi root L) (hk : kid root ch) (hc : ch < hi) (hlo : lo ≤ root) (hL : f + hi ≤ L.length) (hbig : ∀ c, kid root c → c < hi → lt L[f + ch]! L[f + c]! = false) (hl : lt L[f + root]! L[f + ch]! = true) :
    Sift lt f lo hi ch (exch L (f + root) (f + ch)) := by
  have hrc : root < ch := by rcases hk with h | h <;> omega
  have g := fun k => exch_get (L := L) (i := f + root) (j := f + ch) (by omega) (by omega) k
  refine ⟨fun r c h1 h2 h3 h4 => ?_, fun p c h1 h2 h3 h4 => ?_⟩
  · have hrc' : r < c := by rcases h3 with h | h <;> omega
    rw [g (f + r), g (f + c), if_neg (by omega)]
    by_cases e1 : r = root
    · subst e1
      rw [if_pos rfl]
      by_cases e2 : c = ch
      · subst e2; rw [if_pos rfl]; exact O.asymm hl
      · rw [if_neg (by omega), if_neg (by omega)]; exact hbig c h3 h4
    · rw [if_neg (by omega)]
      have e2 : c ≠ ch := fun e => by subst e; rcases hk with h | h <;> rcases h3 with h' | h' <;> omega
      rw [if_neg (by omega)]
      by_cases e3 : c = root
      · subst e3
        rw [if_pos rfl]
        exact h.up r ch h1 h3 hk hc
      · rw [if_neg (by omega)]; exact h.own r c h1 e1 h3 h4
  · have e : p = root := by rcases hk with h | h <;> rcases h2 with h' | h' <;> omega
    have h5 : ch < c := by rcases h3 with h | h <;> omega
    subst e
    rw [g (f + p), g (f + c), if_neg (by omega), if_pos rfl, if_neg (by omega), if_neg (by omega)]
    exact h.own ch c (by omega) (by omega) h3 h4
theorem Heap.top (O : Ord' lt) {f hi : Nat} {L : List α} (h : Heap lt f 0 hi L) : ∀ k, k < hi → lt L[f]! L[f + k]! = false := by
  intro k
  induction k using Nat.strongRecOn with
  | _ k ih =>
    intro hk
    by_cases e : k = 0
    · subst e; exact O.irr _
    · have hp : kid ((k - 1) / 2) k := by unfold kid; omega
      have h1 := ih ((k - 1) / 2) (by omega) (by omega)
      exact O.trans (h _ _ (by omega) hp hk) h1
/-! ### Fences: what lies outside the range that is left is where it belongs -/
structure Fence (lt : α → α → Bool) (a b x y : Nat) (L : List α) : Prop where
  lo : ∀ i j, a ≤ i → i < x → i < j → j < b → lt L[j]! L[i]! = false
  hi : ∀ i j, a ≤ j → j < i → y ≤ i → i < b → lt L[i]! L[j]! = false
theorem Fence.nil {a b : Nat} {L : List α} : Fence lt a b a b L := ⟨fun i j h1 h2 => by omega, fun i j h1 h2 h3 h4 => by omega⟩
theorem Fence.mix {a b x y : Nat} {L M : List α} (h : Fence lt a b x y L) (hm : Mix x y L M) (hax : a ≤ x) (hyb : y ≤ b) (hb : b ≤ L.length) : Fence lt a b x y M := by
  refine ⟨fun i j h1 h2 h3 h4 => ?_, fun i j h1 h2 h3 h4 => ?_⟩
  · rw [hm.out i (by omega)]
    by_cases hj : j < x ∨ y ≤ j
    · rw [hm.out j hj]; exact h.lo i j h1 h2 h3 h4
    · exact hm.all (by omega) (Q := fun v => lt v L[i]! = false) (fun k k1 k2 => h.lo i k h1 h2 (by omega) (by omega)) j (by omega) (by omega)
  · rw [hm.out i (by omega)]
    by_cases hj : j < x ∨ y ≤ j
    · rw [hm.out j hj]; exact h.hi i j h1 h2 h3 h4
    · exact hm.all (by omega) (Q := fun v => lt L[i]! v = false) (fun k k1 k2 => h.hi i k (by omega) (by omega) h3 h4) j (by omega) (by omega)
theorem Fence.done {a b x y : Nat} {L : List α} (h : Fence lt a b x y L) (hs : Srt lt x y L) : Srt lt a b L := fun i j h1 h2 h3 => by
  by_cases e1 : i < x
  · exact h.lo i j h1 e1 h2 h3
  · by_cases e2 : y ≤ j
    · exact h.hi j i h1 h2 e2 h3
    · exact hs i j (by omega) h2 (by omega)
/-- The pivot in its place, what lies left of it in order: go on behind it. -/
theorem Fence.left (O : Ord' lt) {a b x y m : Nat} {L : List α} (h : Fence lt a b x y L) (hax : a ≤ x) (hyb : y ≤ b) (hxm : x ≤ m) (hmy : m < y) (h1 : ∀ k, x ≤ k → k < m → lt L[m]! L[k]! = false) (h2 : ∀ k, m < k → k < y → lt L[k]! L[m]! = false) (hs : Srt lt x m L) : Fence lt a b (m + 1) y L := by
  refine ⟨fun i j k1 k2 k3 k4 => ?_, h.hi⟩
  by_cases e1 : i < x
  · exact h.lo i j k1 e1 k3 k4
  · by_cases e2 : y ≤ j
    · exact h.hi j i k1 k3 e2 k4
    · by_cases e3 : i = m
      · subst e3; exact h2 j k3 (by omega)
      · by_cases e4 : j < m
        · exact hs i j (by omega) k3 e4
        · by_cases e5 : j = m
          · subst e5; exact h1 i (by omega) k3
          · exact O.trans (h1 i (by omega) (by omega)) (h2 j (by omega) (by omega))
theorem Fence.right (O : Ord' lt) {a b x y m : Nat} {L : List α} (h : Fence lt a b x y L) (hax : a ≤ x) (hyb : y ≤ b) (hxm : x ≤ m) (hmy : m < y) (h1 : ∀ k, x ≤ k → k < m → lt L[m]! L[k]! = false) (h2 : ∀ k, m < k → k < y → lt L[k]! L[m]! = false) (hs : Srt lt (m + 1) y L) : Fence lt a b x m L := by
  refine ⟨h.lo, fun i j k1 k2 k3 k4 => ?_⟩
  by_cases e1 : y ≤ i
  · exact h.hi i j k1 k2 e1 k4
  · by_cases e2 : j < x
    · exact h.lo j i k1 e2 k2 k4
    · by_cases e3 : i = m
      · subst e3; exact h1 j (by omega) k2
      · by_cases e4 : m < j
        · exact hs j i (by omega) k2 (by omega)
        · by_cases e5 : j = m
          · subst e5; exact h2 i (by omega) (by omega)
          · exact O.trans (h1 j (by omega) (by omega)) (h2 i (by omega) (by omega))
/-- The least ones in front: go on behind them. -/
theorem Fence.least {a b x y m : Nat} {L : List α} (h : Fence lt a b x y L) (hax : a ≤ x) (hyb : y ≤ b) (hxm : x ≤ m) (hmy : m ≤ y) (h1 : ∀ k j, x ≤ k → k < m → x ≤ j → j < y → lt L[j]! L[k]! = false) : Fence lt a b m y L := by
  refine ⟨fun i j k1 k2 k3 k4 => ?_, h.hi⟩
  by_cases e1 : i < x
  · exact h.lo i j k1 e1 k3 k4
  · by_cases e2 : y ≤ j
    · exact h.hi j i k1 k3 e2 k4
    · exact h1 i j (by omega) k2 (by omega) (by omega)
/-- No element from a to b is less than the one ahead of a. -/
def LB (lt : α → α → Bool) (a b : Nat) (L : List α) : Prop := 0 < a → ∀ k, a ≤ k → k < b → lt L[k]! L[a - 1]! = false
theorem LB.mix {a b : Nat} {L M : List α} (h : LB lt a b L) (hm : Mix a b L M) (hb : b ≤ L.length) : LB lt a b M := fun h0 => by
  rw [hm.out (a - 1) (by omega)]
  exact hm.all hb (Q := fun v => lt v L[a - 1]! = false) (h h0)
theorem Fence.lb {a b x y : Nat} {L : List α} (h : Fence lt a b x y L) (hl : LB lt a b L) (hax : a ≤ x) (hyb : y ≤ b) : LB lt x y L := fun h0 k h1 h2 => by
  by_cases e : x = a
  · subst e; exact hl h0 k h1 (by omega)
  · exact h.lo (x - 1) k (by omega) (by omega) (by omega) (by omega)
theorem Srt.pw {L : List α} (h : Srt lt 0 L.length L) : L.Pairwise (fun x y => lt y x = false) := by
  rw [List.pairwise_iff_getElem]
  intro i j hi hj hij
  have := h i j (by omega) hij hj
  rwa [getElem!_pos L j hj, getElem!_pos L i hi] at this
end
end
section
open Go

def OIns (less : FuncId) : FC := ⟨49, .seq (.reg [⟨some 8, .mv (.t 1), none, []⟩, ⟨some 9, .bin .add (.t 8) (.c (.sc (.int .i64 1))), none, []⟩, ⟨some 6, .mv (.t 9), none, []⟩]) (.blk 0 (.loop (.seq (.seq (.reg [⟨some 10, .mv (.t 6), none, []⟩, ⟨some 11, .mv (.t 2), none, []⟩, ⟨some 12, .bin .lss (.t 10) (.t 11), none, []⟩]) (.cond (.t 12) .skip (.exit 0))) (.seq (.blk 1 (.seq (.reg [⟨some 15, .mv (.t 6), none, []⟩, ⟨some 7, .mv (.t 15), none, []⟩]) (.blk 2 (.loop (.seq (.seq (.reg [⟨some 16, .mv (.t 7), none, []⟩, ⟨some 17, .mv (.t 1), none, []⟩, ⟨some 18, .bin .gtr (.t 16) (.t 17), none, []⟩, ⟨some 19, .mv (.t 18), none, []⟩, ⟨some 20, .mv (.t 0), some (19, true), []⟩, ⟨some 21, .mv (.t 7), some (19, true), []⟩, ⟨some 22, .ix 1 (.t 20) (.t 21), some (19, true), []⟩, ⟨some 23, .load none (.t 22), some (19, true), []⟩, ⟨some 24, .mv (.t 0), some (19, true), []⟩, ⟨some 25, .mv (.t 7), some (19, true), []⟩, ⟨some 26, .bin .sub (.t 25) (.c (.sc (.int .i64 1))), some (19, true), []⟩, ⟨some 27, .ix 1 (.t 24) (.t 26), some (19, true), []⟩, ⟨some 28, .load none (.t 27), some (19, true), []⟩, ⟨some 29, .call less [.t 23, .t 28], some (19, true), []⟩, ⟨some 30, .pick (.t 19) (.t 29) (.c (.sc (.bool false))), none, []⟩]) (.cond (.t 30) .skip (.exit 2))) (.seq (.blk 3 (.reg [⟨some 33, .mv (.t 0), none, []⟩, ⟨some 34, .mv (.t 7), none, []⟩, ⟨some 35, .mv (.t 0), none, []⟩, ⟨some 36, .mv (.t 7), none, []⟩, ⟨some 37, .bin .sub (.t 36) (.c (.sc (.int .i64 1))), none, []⟩, ⟨some 38, .mv (.t 0), none, []⟩, ⟨some 39, .mv (.t 7), none, []⟩, ⟨some 40, .bin .sub (.t 39) (.c (.sc (.int .i64 1))), none, []⟩, ⟨some 41, .ix 1 (.t 38) (.t 40), none, []⟩, ⟨some 42, .load none (.t 41), none, []⟩, ⟨some 43, .mv (.t 0), none, []⟩, ⟨some 44, .mv (.t 7), none, []⟩, ⟨some 45, .ix 1 (.t 43) (.t 44), none, []⟩, ⟨some 46, .load none (.t 45), none, []⟩, ⟨some 47, .ix 1 (.t 33) (.t 34), none, []⟩, ⟨none, .store 1 (.t 47) (.t 42), none, []⟩, ⟨some 48, .ix 1 (.t 35) (.t 37), none, []⟩, ⟨none, .store 1 (.t 48) (.t 46), none, []⟩])) (.reg [⟨some 31, .mv (.t 7), none, []⟩, ⟨some 32, .bin .sub (.t 31) (.c (.sc (.int .i64 1))), none, []⟩, ⟨some 7, .mv (.t 32), none, []⟩]))))))) (.reg [⟨some 13, .mv (.t 6), none, []⟩, ⟨some 14, .bin .add (.t 13) (.c (.sc (.int .i64 1))), none, []⟩, ⟨some 6, .mv (.t 14), none, []⟩]))))), []⟩
def OSift (less : FuncId) : FC := ⟨76, .seq (.reg [⟨some 10, .mv (.t 1), none, []⟩, ⟨some 8, .mv (.t 10), none, []⟩]) (.blk 0 (.loop (.blk 1 (.seq (.reg [⟨some 11, .mv (.t 8), none, []⟩, ⟨some 12, .bin .mul (.c (.sc (.int .i64 2))) (.t 11), none, []⟩, ⟨some 13, .bin .add (.t 12) (.c (.sc (.int .i64 1))), none, []⟩, ⟨some 9, .mv (.t 13), none, []⟩]) (.seq (.seq (.reg [⟨some 14, .mv (.t 9), none, []⟩, ⟨some 15, .mv (.t 2), none, []⟩, ⟨some 16, .bin .geq (.t 14) (.t 15), none, []⟩]) (.cond (.t 16) (.exit 0) .skip)) (.seq (.seq (.reg [⟨some 17, .mv (.t 9), none, []⟩, ⟨some 18, .bin .add (.t 17) (.c (.sc (.int .i64 1))), none, []⟩, ⟨some 19, .mv (.t 2), none, []⟩, ⟨some 20, .bin .lss (.t 18) (.t 19), none, []⟩, ⟨some 21, .mv (.t 20), none, []⟩, ⟨some 22, .mv (.t 0), some (21, true), []⟩, ⟨some 23, .mv (.t 3), some (21, true), []⟩, ⟨some 24, .mv (.t 9), some (21, true), []⟩, ⟨some 25, .bin .add (.t 23) (.t 24), some (21, true), []⟩, ⟨some 26, .ix 1 (.t 22) (.t 25), some (21, true), []⟩, ⟨some 27, .load none (.t 26), some (21, true), []⟩, ⟨some 28, .mv (.t 0), some (21, true), []⟩, ⟨some 29, .mv (.t 3), some (21, true), []⟩, ⟨some 30, .mv (.t 9), some (21, true), []⟩, ⟨some 31, .bin .add (.t 29) (.t 30), some (21, true), []⟩, ⟨some 32, .bin .add (.t 31) (.c (.sc (.int .i64 1))), some (21, true), []⟩, ⟨some 33, .ix 1 (.t 28) (.t 32), some (21, true), []⟩, ⟨some 34, .load none (.t 33), some (21, true), []⟩, ⟨some 35, .call less [.t 27, .t 34], some (21, true), []⟩, ⟨some 36, .pick (.t 21) (.t 35) (.c (.sc (.bool false))), none, []⟩]) (.cond (.t 36) (.reg [⟨some 37, .mv (.t 9), none, []⟩, ⟨some 38, .bin .add (.t 37) (.c (.sc (.int .i64 1))), none, []⟩, ⟨some 9, .mv (.t 38), none, []⟩]) .skip)) (.seq (.seq (.reg [⟨some 39, .mv (.t 0), none, []⟩, ⟨some 40, .mv (.t 3), none, []⟩, ⟨some 41, .mv (.t 8), none, []⟩, ⟨some 42, .bin .add (.t 40) (.t 41), none, []⟩, ⟨some 43, .ix 1 (.t 39) (.t 42), none, []⟩, ⟨some 44, .load none (.t 43), none, []⟩, ⟨some 45, .mv (.t 0), none, []⟩, ⟨some 46, .mv (.t 3), none, []⟩, ⟨some 47, .mv (.t 9), none, []⟩, ⟨some 48, .bin .add (.t 46) (.t 47), none, []⟩, ⟨some 49, .ix 1 (.t 45) (.t 48), none, []⟩, ⟨some 50, .load none (.t 49), none, []⟩, ⟨some 51, .call less [.t 44, .t 50], none, []⟩, ⟨some 52, .un .not (.t 51), none, []⟩]) (.cond (.t 52) .ret .skip)) (.seq (.reg [⟨some 53, .mv (.t 0), none, []⟩, ⟨some 54, .mv (.t 3), none, []⟩, ⟨some 55, .mv (.t 8), none, []⟩, ⟨some 56, .bin .add (.t 54) (.t 55), none, []⟩, ⟨some 57, .mv (.t 0), none, []⟩, ⟨some 58, .mv (.t 3), none, []⟩, ⟨some 59, .mv (.t 9), none, []⟩, ⟨some 60, .bin .add (.t 58) (.t 59), none, []⟩, ⟨some 61, .mv (.t 0), none, []⟩, ⟨some 62, .mv (.t 3), none, []⟩, ⟨some 63, .mv (.t 9), none, []⟩, ⟨some 64, .bin .add (.t 62) (.t 63), none, []⟩, ⟨some 65, .ix 1 (.t 61) (.t 64), none, []⟩, ⟨some 66, .load none (.t 65), none, []⟩, ⟨some 67, .mv (.t 0), none, []⟩, ⟨some 68, .mv (.t 3), none, []⟩, ⟨some 69, .mv (.t 8), none, []⟩, ⟨some 70, .bin .add (.t 68) (.t 69), none, []⟩, ⟨some 71, .ix 1 (.t 67) (.t 70), none, []⟩, ⟨some 72, .load none (.t 71), none, []⟩, ⟨some 73, .ix 1 (.t 53) (.t 56), none, []⟩, ⟨none, .store 1 (.t 73) (.t 66), none, []⟩, ⟨some 74, .ix 1 (.t 57) (.t 60), none, []⟩, ⟨none, .store 1 (.t 74) (.t 72), none, []⟩]) (.reg [⟨some 75, .mv (.t 9), none, []⟩, ⟨some 8, .mv (.t 75), none, []⟩]))))))))), []⟩
def OHeap (fsift : FuncId) : FC := ⟨56, .seq (.reg [⟨some 11, .mv (.t 1), none, []⟩, ⟨some 6, .mv (.t 11), none, []⟩]) (.seq (.reg [⟨some 7, .mv (.c (.sc (.int .i64 0))), none, []⟩]) (.seq (.reg [⟨some 12, .mv (.t 2), none, []⟩, ⟨some 13, .mv (.t 1), none, []⟩, ⟨some 14, .bin .sub (.t 12) (.t 13), none, []⟩, ⟨some 8, .mv (.t 14), none, []⟩]) (.seq (.seq (.reg [⟨some 15, .mv (.t 8), none, []⟩, ⟨some 16, .bin .sub (.t 15) (.c (.sc (.int .i64 1))), none, []⟩, ⟨some 17, .bin .quo (.t 16) (.c (.sc (.int .i64 2))), none, []⟩, ⟨some 9, .mv (.t 17), none, []⟩]) (.blk 0 (.loop (.seq (.seq (.reg [⟨some 18, .mv (.t 9), none, []⟩, ⟨some 19, .bin .geq (.t 18) (.c (.sc (.int .i64 0))), none, []⟩]) (.cond (.t 19) .skip (.exit 0))) (.seq (.blk 1 (.reg [⟨some 22, .mv (.t 0), none, []⟩, ⟨some 23, .mv (.t 9), none, []⟩, ⟨some 24, .mv (.t 8), none, []⟩, ⟨some 25, .mv (.t 6), none, []⟩, ⟨some 26, .call fsift [.t 22, .t 23, .t 24, .t 25], none, []⟩])) (.reg [⟨some 20, .mv (.t 9), none, []⟩, ⟨some 21, .bin .sub (.t 20) (.c (.sc (.int .i64 1))), none, []⟩, ⟨some 9, .mv (.t 21), none, []⟩])))))) (.seq (.reg [⟨some 27, .mv (.t 8), none, []⟩, ⟨some 28, .bin .sub (.t 27) (.c (.sc (.int .i64 1))), none, []⟩, ⟨some 10, .mv (.t 28), none, []⟩]) (.blk 2 (.loop (.seq (.seq (.reg [⟨some 29, .mv (.t 10), none, []⟩, ⟨some 30, .bin .geq (.t 29) (.c (.sc (.int .i64 0))), none, []⟩]) (.cond (.t 30) .skip (.exit 2))) (.seq (.blk 3 (.seq (.reg [⟨some 33, .mv (.t 0), none, []⟩, ⟨some 34, .mv (.t 6), none, []⟩, ⟨some 35, .mv (.t 0), none, []⟩, ⟨some 36, .mv (.t 6), none, []⟩, ⟨some 37, .mv (.t 10), none, []⟩, ⟨some 38, .bin .add (.t 36) (.t 37), none, []⟩, ⟨some 39, .mv (.t 0), none, []⟩, ⟨some 40, .mv (.t 6), none, []⟩, ⟨some 41, .mv (.t 10), none, []⟩, ⟨some 42, .bin .add (.t 40) (.t 41), none, []⟩, ⟨some 43, .ix 1 (.t 39) (.t 42), none, []⟩, ⟨some 44, .load none (.t 43), none, []⟩, ⟨some 45, .mv (.t 0), none, []⟩, ⟨some 46, .mv (.t 6), none, []⟩, ⟨some 47, .ix 1 (.t 45) (.t 46), none, []⟩, ⟨some 48, .load none (.t 47), none, []⟩, ⟨some 49, .ix 1 (.t 33) (.t 34), none, []⟩, ⟨none, .store 1 (.t 49) (.t 44), none, []⟩, ⟨some 50, .ix 1 (.t 35) (.t 38), none, []⟩, ⟨none, .store 1 (.t 50) (.t 48), none, []⟩]) (.reg [⟨some 51, .mv (.t 0), none, []⟩, ⟨some 52, .mv (.t 7), none, []⟩, ⟨some 53, .mv (.t 10), none, []⟩, ⟨some 54, .mv (.t 6), none, []⟩, ⟨some 55, .call fsift [.t 51, .t 52, .t 53, .t 54], none, []⟩]))) (.reg [⟨some 31, .mv (.t 10), none, []⟩, ⟨some 32, .bin .sub (.t 31) (.c (.sc (.int .i64 1))), none, []⟩, ⟨some 10, .mv (.t 32), none, []⟩]))))))))), []⟩
def OBreak (fpow fnext : FuncId) : FC := ⟨65, .seq (.reg [⟨some 11, .mv (.t 2), none, []⟩, ⟨some 12, .mv (.t 1), none, []⟩, ⟨some 13, .bin .sub (.t 11) (.t 12), none, []⟩, ⟨some 6, .mv (.t 13), none, []⟩]) (.seq (.reg [⟨some 14, .mv (.t 6), none, []⟩, ⟨some 15, .bin .geq (.t 14) (.c (.sc (.int .i64 8))), none, []⟩]) (.cond (.t 15) (.seq (.reg [⟨some 16, .mv (.t 6), none, []⟩, ⟨some 17, .conv .u64 (.t 16), none, []⟩, ⟨some 7, .alc [.sc (.int .u64 0)], none, []⟩, ⟨none, .store 1 (.t 7) (.t 17), none, []⟩]) (.seq (.reg [⟨some 18, .mv (.t 6), none, []⟩, ⟨some 19, .call fpow [.t 18], none, []⟩, ⟨some 8, .mv (.t 19), none, []⟩]) (.seq (.reg [⟨some 20, .mv (.t 1), none, []⟩, ⟨some 21, .mv (.t 6), none, []⟩, ⟨some 22, .bin .quo (.t 21) (.c (.sc (.int .i64 4))), none, []⟩, ⟨some 23, .bin .mul (.t 22) (.c (.sc (.int .i64 2))), none, []⟩, ⟨some 24, .bin .add (.t 20) (.t 23), none, []⟩, ⟨some 25, .bin .sub (.t 24) (.c (.sc (.int .i64 1))), none, []⟩, ⟨some 9, .mv (.t 25), none, []⟩]) (.blk 0 (.loop (.seq (.seq (.reg [⟨some 26, .mv (.t 9), none, []⟩, ⟨some 27, .mv (.t 1), none, []⟩, ⟨some 28, .mv (.t 6), none, []⟩, ⟨some 29, .bin .quo (.t 28) (.c (.sc (.int .i64 4))), none, []⟩, ⟨some 30, .bin .mul (.t 29) (.c (.sc (.int .i64 2))), none, []⟩, ⟨some 31, .bin .add (.t 27) (.t 30), none, []⟩, ⟨some 32, .bin .add (.t 31) (.c (.sc (.int .i64 1))), none, []⟩, ⟨some 33, .bin .leq (.t 26) (.t 32), none, []⟩]) (.cond (.t 33) .skip (.exit 0))) (.seq (.blk 1 (.seq (.reg [⟨some 36, .call fnext [.t 7], none, []⟩, ⟨some 37, .mv (.t 8), none, []⟩, ⟨some 38, .bin .sub (.t 37) (.c (.sc (.int .u64 1))), none, []⟩, ⟨some 39, .bin .and (.t 36) (.t 38), none, []⟩, ⟨some 40, .conv .i64 (.t 39), none, []⟩, ⟨some 10, .mv (.t 40), none, []⟩]) (.seq (.seq (.reg [⟨some 41, .mv (.t 10), none, []⟩, ⟨some 42, .mv (.t 6), none, []⟩, ⟨some 43, .bin .geq (.t 41) (.t 42), none, []⟩]) (.cond (.t 43) (.reg [⟨some 44, .mv (.t 10), none, []⟩, ⟨some 45, .mv (.t 6), none, []⟩, ⟨some 46, .bin .sub (.t 44) (.t 45), none, []⟩, ⟨some 10, .mv (.t 46), none, []⟩]) .skip)) (.reg [⟨some 47, .mv (.t 0), none, []⟩, ⟨some 48, .mv (.t 9), none, []⟩, ⟨some 49, .mv (.t 0), none, []⟩, ⟨some 50, .mv (.t 1), none, []⟩, ⟨some 51, .mv (.t 10), none, []⟩, ⟨some 52, .bin .add (.t 50) (.t 51), none, []⟩, ⟨some 53, .mv (.t 0), none, []⟩, ⟨some 54, .mv (.t 1), none, []⟩, ⟨some 55, .mv (.t 10), none, []⟩, ⟨some 56, .bin .add (.t 54) (.t 55), none, []⟩, ⟨some 57, .ix 1 (.t 53) (.t 56), none, []⟩, ⟨some 58, .load none (.t 57), none, []⟩, ⟨some 59, .mv (.t 0), none, []⟩, ⟨some 60, .mv (.t 9), none, []⟩, ⟨some 61, .ix 1 (.t 59) (.t 60), none, []⟩, ⟨some 62, .load none (.t 61), none, []⟩, ⟨some 63, .ix 1 (.t 47) (.t 48), none, []⟩, ⟨none, .store 1 (.t 63) (.t 58), none, []⟩, ⟨some 64, .ix 1 (.t 49) (.t 52), none, []⟩, ⟨none, .store 1 (.t 64) (.t 62), none, []⟩])))) (.reg [⟨some 34, .mv (.t 9), none, []⟩, ⟨some 35, .bin .add (.t 34) (.c (.sc (.int .i64 1))), none, []⟩, ⟨some 9, .mv (.t 35), none, []⟩])))))))) .skip)), []⟩
def OPivot (fmeda fmed : FuncId) : FC := ⟨57, .seq (.reg [⟨some 6, .mv (.c (.sc (.int .i64 0))), none, []⟩, ⟨some 7, .mv (.c (.sc (.int .i64 0))), none, []⟩]) (.seq (.reg [⟨some 13, .mv (.t 2), none, []⟩, ⟨some 14, .mv (.t 1), none, []⟩, ⟨some 15, .bin .sub (.t 13) (.t 14), none, []⟩, ⟨some 8, .mv (.t 15), none, []⟩]) (.seq (.reg [⟨some 9, .alc [.sc (.int .i64 0)], none, []⟩]) (.seq (.reg [⟨some 16, .mv (.t 1), none, []⟩, ⟨some 17, .mv (.t 8), none, []⟩, ⟨some 18, .bin .quo (.t 17) (.c (.sc (.int .i64 4))), none, []⟩, ⟨some 19, .bin .mul (.t 18) (.c (.sc (.int .i64 1))), none, []⟩, ⟨some 20, .bin .add (.t 16) (.t 19), none, []⟩, ⟨some 10, .mv (.t 20), none, []⟩]) (.seq (.reg [⟨some 21, .mv (.t 1), none, []⟩, ⟨some 22, .mv (.t 8), none, []⟩, ⟨some 23, .bin .quo (.t 22) (.c (.sc (.int .i64 4))), none, []⟩, ⟨some 24, .bin .mul (.t 23) (.c (.sc (.int .i64 2))), none, []⟩, ⟨some 25, .bin .add (.t 21) (.t 24), none, []⟩, ⟨some 11, .mv (.t 25), none, []⟩]) (.seq (.reg [⟨some 26, .mv (.t 1), none, []⟩, ⟨some 27, .mv (.t 8), none, []⟩, ⟨some 28, .bin .quo (.t 27) (.c (.sc (.int .i64 4))), none, []⟩, ⟨some 29, .bin .mul (.t 28) (.c (.sc (.int .i64 3))), none, []⟩, ⟨some 30, .bin .add (.t 26) (.t 29), none, []⟩, ⟨some 12, .mv (.t 30), none, []⟩]) (.seq (.seq (.reg [⟨some 31, .mv (.t 8), none, []⟩, ⟨some 32, .bin .geq (.t 31) (.c (.sc (.int .i64 8))), none, []⟩]) (.cond (.t 32) (.seq (.seq (.reg [⟨some 33, .mv (.t 8), none, []⟩, ⟨some 34, .bin .geq (.t 33) (.c (.sc (.int .i64 50))), none, []⟩]) (.cond (.t 34) (.seq (.reg [⟨some 35, .mv (.t 0), none, []⟩, ⟨some 36, .mv (.t 10), none, []⟩, ⟨some 37, .call fmeda [.t 35, .t 36, .t 9], none, []⟩, ⟨some 10, .mv (.t 37), none, []⟩]) (.seq (.reg [⟨some 38, .mv (.t 0), none, []⟩, ⟨some 39, .mv (.t 11), none, []⟩, ⟨some 40, .call fmeda [.t 38, .t 39, .t 9], none, []⟩, ⟨some 11, .mv (.t 40), none, []⟩]) (.reg [⟨some 41, .mv (.t 0), none, []⟩, ⟨some 42, .mv (.t 12), none, []⟩, ⟨some 43, .call fmeda [.t 41, .t 42, .t 9], none, []⟩, ⟨some 12, .mv (.t 43), none, []⟩]))) .skip)) (.reg [⟨some 44, .mv (.t 0), none, []⟩, ⟨some 45, .mv (.t 10), none, []⟩, ⟨some 46, .mv (.t 11), none, []⟩, ⟨some 47, .mv (.t 12), none, []⟩, ⟨some 48, .call fmed [.t 44, .t 45, .t 46, .t 47, .t 9], none, []⟩, ⟨some 11, .mv (.t 48), none, []⟩])) .skip)) (.seq (.reg [⟨some 49, .load none (.t 9), none, []⟩]) (.blk 0 (.seq (.reg [⟨some 52, .bin .eql (.t 49) (.c (.sc (.int .i64 0))), none, []⟩, ⟨some 51, .mv (.t 52), none, []⟩]) (.cond (.t 51) (.seq (.reg [⟨some 53, .mv (.t 11), none, []⟩, ⟨some 6, .mv (.t 53), none, []⟩, ⟨some 7, .mv (.c (.sc (.int .i64 1))), none, []⟩]) .ret) (.seq (.reg [⟨some 55, .bin .eql (.t 49) (.c (.sc (.int .i64 12))), none, []⟩, ⟨some 54, .mv (.t 55), none, []⟩]) (.cond (.t 54) (.seq (.reg [⟨some 56, .mv (.t 11), none, []⟩, ⟨some 6, .mv (.t 56), none, []⟩, ⟨some 7, .mv (.c (.sc (.int .i64 2))), none, []⟩]) .ret) (.seq (.reg [⟨some 50, .mv (.t 11), none, []⟩, ⟨some 6, .mv (.t 50), none, []⟩, ⟨some 7, .mv (.c (.sc (.int .i64 0))), none, []⟩]) .ret))))))))))))), [.tmp 6, .tmp 7]⟩
def ORev : FC := ⟨32, .seq (.reg [⟨some 8, .mv (.t 1), none, []⟩, ⟨some 6, .mv (.t 8), none, []⟩]) (.seq (.reg [⟨some 9, .mv (.t 2), none, []⟩, ⟨some 10, .bin .sub (.t 9) (.c (.sc (.int .i64 1))), none, []⟩, ⟨some 7, .mv (.t 10), none, []⟩]) (.blk 0 (.loop (.seq (.seq (.reg [⟨some 11, .mv (.t 6), none, []⟩, ⟨some 12, .mv (.t 7), none, []⟩, ⟨some 13, .bin .lss (.t 11) (.t 12), none, []⟩]) (.cond (.t 13) .skip (.exit 0))) (.blk 1 (.seq (.reg [⟨some 14, .mv (.t 0), none, []⟩, ⟨some 15, .mv (.t 6), none, []⟩, ⟨some 16, .mv (.t 0), none, []⟩, ⟨some 17, .mv (.t 7), none, []⟩, ⟨some 18, .mv (.t 0), none, []⟩, ⟨some 19, .mv (.t 7), none, []⟩, ⟨some 20, .ix 1 (.t 18) (.t 19), none, []⟩, ⟨some 21, .load none (.t 20), none, []⟩, ⟨some 22, .mv (.t 0), none, []⟩, ⟨some 23, .mv (.t 6), none, []⟩, ⟨some 24, .ix 1 (.t 22) (.t 23), none, []⟩, ⟨some 25, .load none (.t 24), none, []⟩, ⟨some 26, .ix 1 (.t 14) (.t 15), none, []⟩, ⟨none, .store 1 (.t 26) (.t 21), none, []⟩, ⟨some 27, .ix 1 (.t 16) (.t 17), none, []⟩, ⟨none, .store 1 (.t 27) (.t 25), none, []⟩]) (.seq (.reg [⟨some 28, .mv (.t 6), none, []⟩, ⟨some 29, .bin .add (.t 28) (.c (.sc (.int .i64 1))), none, []⟩, ⟨some 6, .mv (.t 29), none, []⟩]) (.reg [⟨some 30, .mv (.t 7), none, []⟩, ⟨some 31, .bin .sub (.t 30) (.c (.sc (.int .i64 1))), none, []⟩, ⟨some 7, .mv (.t 31), none, []⟩])))))))), []⟩
def OPart (less : FuncId) : FC := ⟨133, .seq (.reg [⟨some 6, .mv (.c (.sc (.bool false))), none, []⟩]) (.seq (.reg [⟨some 11, .mv (.t 1), none, []⟩, ⟨some 12, .bin .add (.t 11) (.c (.sc (.int .i64 1))), none, []⟩, ⟨some 7, .mv (.t 12), none, []⟩]) (.seq (.seq (.reg [⟨some 8, .mv (.c (.sc (.int .i64 0))), none, []⟩]) (.blk 0 (.loop (.seq (.seq (.reg [⟨some 13, .mv (.t 8), none, []⟩, ⟨some 14, .bin .lss (.t 13) (.c (.sc (.int .i64 5))), none, []⟩]) (.cond (.t 14) .skip (.exit 0))) (.seq (.blk 1 (.seq (.blk 2 (.loop (.seq (.seq (.reg [⟨some 17, .mv (.t 7), none, []⟩, ⟨some 18, .mv (.t 2), none, []⟩, ⟨some 19, .bin .lss (.t 17) (.t 18), none, []⟩, ⟨some 20, .mv (.t 19), none, []⟩, ⟨some 21, .mv (.t 0), some (20, true), []⟩, ⟨some 22, .mv (.t 7), some (20, true), []⟩, ⟨some 23, .ix 1 (.t 21) (.t 22), some (20, true), []⟩, ⟨some 24, .load none (.t 23), some (20, true), []⟩, ⟨some 25, .mv (.t 0), some (20, true), []⟩, ⟨some 26, .mv (.t 7), some (20, true), []⟩, ⟨some 27, .bin .sub (.t 26) (.c (.sc (.int .i64 1))), some (20, true), []⟩, ⟨some 28, .ix 1 (.t 25) (.t 27), some (20, true), []⟩, ⟨some 29, .load none (.t 28), some (20, true), []⟩, ⟨some 30, .call less [.t 24, .t 29], some (20, true), []⟩, ⟨some 31, .un .not (.t 30), some (20, true), []⟩, ⟨some 32, .pick (.t 20) (.t 31) (.c (.sc (.bool false))), none, []⟩]) (.cond (.t 32) .skip (.exit 2))) (.blk 3 (.reg [⟨some 33, .mv (.t 7), none, []⟩, ⟨some 34, .bin .add (.t 33) (.c (.sc (.int .i64 1))), none, []⟩, ⟨some 7, .mv (.t 34), none, []⟩]))))) (.seq (.seq (.reg [⟨some 35, .mv (.t 7), none, []⟩, ⟨some 36, .mv (.t 2), none, []⟩, ⟨some 37, .bin .eql (.t 35) (.t 36), none, []⟩]) (.cond (.t 37) (.seq (.reg [⟨some 6, .mv (.c (.sc (.bool true))), none, []⟩]) .ret) .skip)) (.seq (.seq (.reg [⟨some 38, .mv (.t 2), none, []⟩, ⟨some 39, .mv (.t 1), none, []⟩, ⟨some 40, .bin .sub (.t 38) (.t 39), none, []⟩, ⟨some 41, .bin .lss (.t 40) (.c (.sc (.int .i64 50))), none, []⟩]) (.cond (.t 41) (.seq (.reg [⟨some 6, .mv (.c (.sc (.bool false))), none, []⟩]) .ret) .skip)) (.seq (.reg [⟨some 42, .mv (.t 0), none, []⟩, ⟨some 43, .mv (.t 7), none, []⟩, ⟨some 44, .mv (.t 0), none, []⟩, ⟨some 45, .mv (.t 7), none, []⟩, ⟨some 46, .bin .sub (.t 45) (.c (.sc (.int .i64 1))), none, []⟩, ⟨some 47, .mv (.t 0), none, []⟩, ⟨some 48, .mv (.t 7), none, []⟩, ⟨some 49, .bin .sub (.t 48) (.c (.sc (.int .i64 1))), none, []⟩, ⟨some 50, .ix 1 (.t 47) (.t 49), none, []⟩, ⟨some 51, .load none (.t 50), none, []⟩, ⟨some 52, .mv (.t 0), none, []⟩, ⟨some 53, .mv (.t 7), none, []⟩, ⟨some 54, .ix 1 (.t 52) (.t 53), none, []⟩, ⟨some 55, .load none (.t 54), none, []⟩, ⟨some 56, .ix 1 (.t 42) (.t 43), none, []⟩, ⟨none, .store 1 (.t 56) (.t 51), none, []⟩, ⟨some 57, .ix 1 (.t 44) (.t 46), none, []⟩, ⟨none, .store 1 (.t 57) (.t 55), none, []⟩]) (.seq (.seq (.reg [⟨some 58, .mv (.t 7), none, []⟩, ⟨some 59, .mv (.t 1), none, []⟩, ⟨some 60, .bin .sub (.t 58) (.t 59), none, []⟩, ⟨some 61, .bin .geq (.t 60) (.c (.sc (.int .i64 2))), none, []⟩]) (.cond (.t 61) (.seq (.reg [⟨some 62, .mv (.t 7), none, []⟩, ⟨some 63, .bin .sub (.t 62) (.c (.sc (.int .i64 1))), none, []⟩, ⟨some 9, .mv (.t 63), none, []⟩]) (.blk 4 (.loop (.seq (.seq (.reg [⟨some 64, .mv (.t 9), none, []⟩, ⟨some 65, .bin .geq (.t 64) (.c (.sc (.int .i64 1))), none, []⟩]) (.cond (.t 65) .skip (.exit 4))) (.seq (.blk 5 (.seq (.seq (.reg [⟨some 68, .mv (.t 0), none, []⟩, ⟨some 69, .mv (.t 9), none, []⟩, ⟨some 70, .ix 1 (.t 68) (.t 69), none, []⟩, ⟨some 71, .load none (.t 70), none, []⟩, ⟨some 72, .mv (.t 0), none, []⟩, ⟨some 73, .mv (.t 9), none, []⟩, ⟨some 74, .bin .sub (.t 73) (.c (.sc (.int .i64 1))), none, []⟩, ⟨some 75, .ix 1 (.t 72) (.t 74), none, []⟩, ⟨some 76, .load none (.t 75), none, []⟩, ⟨some 77, .call less [.t 71, .t 76], none, []⟩, ⟨some 78, .un .not (.t 77), none, []⟩]) (.cond (.t 78) (.exit 4) .skip)) (.reg [⟨some 79, .mv (.t 0), none, []⟩, ⟨some 80, .mv (.t 9), none, []⟩, ⟨some 81, .mv (.t 0), none, []⟩, ⟨some 82, .mv (.t 9), none, []⟩, ⟨some 83, .bin .sub (.t 82) (.c (.sc (.int .i64 1))), none, []⟩, ⟨some 84, .mv (.t 0), none, []⟩, ⟨some 85, .mv (.t 9), none, []⟩, ⟨some 86, .bin .sub (.t 85) (.c (.sc (.int .i64 1))), none, []⟩, ⟨some 87, .ix 1 (.t 84) (.t 86), none, []⟩, ⟨some 88, .load none (.t 87), none, []⟩, ⟨some 89, .mv (.t 0), none, []⟩, ⟨some 90, .mv (.t 9), none, []⟩, ⟨some 91, .ix 1 (.t 89) (.t 90), none, []⟩, ⟨some 92, .load none (.t 91), none, []⟩, ⟨some 93, .ix 1 (.t 79) (.t 80), none, []⟩, ⟨none, .store 1 (.t 93) (.t 88), none, []⟩, ⟨some 94, .ix 1 (.t 81) (.t 83), none, []⟩, ⟨none, .store 1 (.t 94) (.t 92), none, []⟩]))) (.reg [⟨some 66, .mv (.t 9), none, []⟩, ⟨some 67, .bin .sub (.t 66) (.c (.sc (.int .i64 1))), none, []⟩, ⟨some 9, .mv (.t 67), none, []⟩])))))) .skip)) (.seq (.reg [⟨some 95, .mv (.t 2), none, []⟩, ⟨some 96, .mv (.t 7), none, []⟩, ⟨some 97, .bin .sub (.t 95) (.t 96), none, []⟩, ⟨some 98, .bin .geq (.t 97) (.c (.sc (.int .i64 2))), none, []⟩]) (.cond (.t 98) (.seq (.reg [⟨some 99, .mv (.t 7), none, []⟩, ⟨some 100, .bin .add (.t 99) (.c (.sc (.int .i64 1))), none, []⟩, ⟨some 10, .mv (.t 100), none, []⟩]) (.blk 6 (.loop (.seq (.seq (.reg [⟨some 101, .mv (.t 10), none, []⟩, ⟨some 102, .mv (.t 2), none, []⟩, ⟨some 103, .bin .lss (.t 101) (.t 102), none, []⟩]) (.cond (.t 103) .skip (.exit 6))) (.seq (.blk 7 (.seq (.seq (.reg [⟨some 106, .mv (.t 0), none, []⟩, ⟨some 107, .mv (.t 10), none, []⟩, ⟨some 108, .ix 1 (.t 106) (.t 107), none, []⟩, ⟨some 109, .load none (.t 108), none, []⟩, ⟨some 110, .mv (.t 0), none, []⟩, ⟨some 111, .mv (.t 10), none, []⟩, ⟨some 112, .bin .sub (.t 111) (.c (.sc (.int .i64 1))), none, []⟩, ⟨some 113, .ix 1 (.t 110) (.t 112), none, []⟩, ⟨some 114, .load none (.t 113), none, []⟩, ⟨some 115, .call less [.t 109, .t 114], none, []⟩, ⟨some 116, .un .not (.t 115), none, []⟩]) (.cond (.t 116) (.exit 6) .skip)) (.reg [⟨some 117, .mv (.t 0), none, []⟩, ⟨some 118, .mv (.t 10), none, []⟩, ⟨some 119, .mv (.t 0), none, []⟩, ⟨some 120, .mv (.t 10), none, []⟩, ⟨some 121, .bin .sub (.t 120) (.c (.sc (.int .i64 1))), none, []⟩, ⟨some 122, .mv (.t 0), none, []⟩, ⟨some 123, .mv (.t 10), none, []⟩, ⟨some 124, .bin .sub (.t 123) (.c (.sc (.int .i64 1))), none, []⟩, ⟨some 125, .ix 1 (.t 122) (.t 124), none, []⟩, ⟨some 126, .load none (.t 125), none, []⟩, ⟨some 127, .mv (.t 0), none, []⟩, ⟨some 128, .mv (.t 10), none, []⟩, ⟨some 129, .ix 1 (.t 127) (.t 128), none, []⟩, ⟨some 130, .load none (.t 129), none, []⟩, ⟨some 131, .ix 1 (.t 117) (.t 118), none, []⟩, ⟨none, .store 1 (.t 131) (.t 126), none, []⟩, ⟨some 132, .ix 1 (.t 119) (.t 121), none, []⟩, ⟨none, .store 1 (.t 132) (.t 130), none, []⟩]))) (.reg [⟨some 104, .mv (.t 10), none, []⟩, ⟨some 105, .bin .add (.t 104) (.c (.sc (.int .i64 1))), none, []⟩, ⟨some 10, .mv (.t 105), none, []⟩])))))) .skip)))))))) (.reg [⟨some 15, .mv (.t 8), none, []⟩, ⟨some 16, .bin .add (.t 15) (.c (.sc (.int .i64 1))), none, []⟩, ⟨some 8, .mv (.t 16), none, []⟩])))))) (.seq (.reg [⟨some 6, .mv (.c (.sc (.bool false))), none, []⟩]) .ret))), [.tmp 6]⟩
def OEqual (less : FuncId) : FC := ⟨84, .seq (.reg [⟨some 8, .mv (.c (.sc (.int .i64 0))), none, []⟩]) (.seq (.reg [⟨some 11, .mv (.t 0), none, []⟩, ⟨some 12, .mv (.t 1), none, []⟩, ⟨some 13, .mv (.t 0), none, []⟩, ⟨some 14, .mv (.t 3), none, []⟩, ⟨some 15, .mv (.t 0), none, []⟩, ⟨some 16, .mv (.t 3), none, []⟩, ⟨some 17, .ix 1 (.t 15) (.t 16), none, []⟩, ⟨some 18, .load none (.t 17), none, []⟩, ⟨some 19, .mv (.t 0), none, []⟩, ⟨some 20, .mv (.t 1), none, []⟩, ⟨some 21, .ix 1 (.t 19) (.t 20), none, []⟩, ⟨some 22, .load none (.t 21), none, []⟩, ⟨some 23, .ix 1 (.t 11) (.t 12), none, []⟩, ⟨none, .store 1 (.t 23) (.t 18), none, []⟩, ⟨some 24, .ix 1 (.t 13) (.t 14), none, []⟩, ⟨none, .store 1 (.t 24) (.t 22), none, []⟩]) (.seq (.reg [⟨some 25, .mv (.t 1), none, []⟩, ⟨some 26, .bin .add (.t 25) (.c (.sc (.int .i64 1))), none, []⟩, ⟨some 27, .mv (.t 2), none, []⟩, ⟨some 28, .bin .sub (.t 27) (.c (.sc (.int .i64 1))), none, []⟩, ⟨some 9, .mv (.t 26), none, []⟩, ⟨some 10, .mv (.t 28), none, []⟩]) (.seq (.blk 0 (.loop (.blk 1 (.seq (.blk 2 (.loop (.seq (.seq (.reg [⟨some 29, .mv (.t 9), none, []⟩, ⟨some 30, .mv (.t 10), none, []⟩, ⟨some 31, .bin .leq (.t 29) (.t 30), none, []⟩, ⟨some 32, .mv (.t 31), none, []⟩, ⟨some 33, .mv (.t 0), some (32, true), []⟩, ⟨some 34, .mv (.t 1), some (32, true), []⟩, ⟨some 35, .ix 1 (.t 33) (.t 34), some (32, true), []⟩, ⟨some 36, .load none (.t 35), some (32, true), []⟩, ⟨some 37, .mv (.t 0), some (32, true), []⟩, ⟨some 38, .mv (.t 9), some (32, true), []⟩, ⟨some 39, .ix 1 (.t 37) (.t 38), some (32, true), []⟩, ⟨some 40, .load none (.t 39), some (32, true), []⟩, ⟨some 41, .call less [.t 36, .t 40], some (32, true), []⟩, ⟨some 42, .un .not (.t 41), some (32, true), []⟩, ⟨some 43, .pick (.t 32) (.t 42) (.c (.sc (.bool false))), none, []⟩]) (.cond (.t 43) .skip (.exit 2))) (.blk 3 (.reg [⟨some 44, .mv (.t 9), none, []⟩, ⟨some 45, .bin .add (.t 44) (.c (.sc (.int .i64 1))), none, []⟩, ⟨some 9, .mv (.t 45), none, []⟩]))))) (.seq (.blk 4 (.loop (.seq (.seq (.reg [⟨some 46, .mv (.t 9), none, []⟩, ⟨some 47, .mv (.t 10), none, []⟩, ⟨some 48, .bin .leq (.t 46) (.t 47), none, []⟩, ⟨some 49, .mv (.t 48), none, []⟩, ⟨some 50, .mv (.t 0), some (49, true), []⟩, ⟨some 51, .mv (.t 1), some (49, true), []⟩, ⟨some 52, .ix 1 (.t 50) (.t 51), some (49, true), []⟩, ⟨some 53, .load none (.t 52), some (49, true), []⟩, ⟨some 54, .mv (.t 0), some (49, true), []⟩, ⟨some 55, .mv (.t 10), some (49, true), []⟩, ⟨some 56, .ix 1 (.t 54) (.t 55), some (49, true), []⟩, ⟨some 57, .load none (.t 56), some (49, true), []⟩, ⟨some 58, .call less [.t 53, .t 57], some (49, true), []⟩, ⟨some 59, .pick (.t 49) (.t 58) (.c (.sc (.bool false))), none, []⟩]) (.cond (.t 59) .skip (.exit 4))) (.blk 5 (.reg [⟨some 60, .mv (.t 10), none, []⟩, ⟨some 61, .bin .sub (.t 60) (.c (.sc (.int .i64 1))), none, []⟩, ⟨some 10, .mv (.t 61), none, []⟩]))))) (.seq (.seq (.reg [⟨some 62, .mv (.t 9), none, []⟩, ⟨some 63, .mv (.t 10), none, []⟩, ⟨some 64, .bin .gtr (.t 62) (.t 63), none, []⟩]) (.cond (.t 64) (.exit 0) .skip)) (.seq (.reg [⟨some 65, .mv (.t 0), none, []⟩, ⟨some 66, .mv (.t 9), none, []⟩, ⟨some 67, .mv (.t 0), none, []⟩, ⟨some 68, .mv (.t 10), none, []⟩, ⟨some 69, .mv (.t 0), none, []⟩, ⟨some 70, .mv (.t 10), none, []⟩, ⟨some 71, .ix 1 (.t 69) (.t 70), none, []⟩, ⟨some 72, .load none (.t 71), none, []⟩, ⟨some 73, .mv (.t 0), none, []⟩, ⟨some 74, .mv (.t 9), none, []⟩, ⟨some 75, .ix 1 (.t 73) (.t 74), none, []⟩, ⟨some 76, .load none (.t 75), none, []⟩, ⟨some 77, .ix 1 (.t 65) (.t 66), none, []⟩, ⟨none, .store 1 (.t 77) (.t 72), none, []⟩, ⟨some 78, .ix 1 (.t 67) (.t 68), none, []⟩, ⟨none, .store 1 (.t 78) (.t 76), none, []⟩]) (.seq (.reg [⟨some 79, .mv (.t 9), none, []⟩, ⟨some 80, .bin .add (.t 79) (.c (.sc (.int .i64 1))), none, []⟩, ⟨some 9, .mv (.t 80), none, []⟩]) (.reg [⟨some 81, .mv (.t 10), none, []⟩, ⟨some 82, .bin .sub (.t 81) (.c (.sc (.int .i64 1))), none, []⟩, ⟨some 10, .mv (.t 82), none, []⟩]))))))))) (.seq (.reg [⟨some 83, .mv (.t 9), none, []⟩, ⟨some 8, .mv (.t 83), none, []⟩]) .ret)))), [.tmp 8]⟩
def OSplit (less : FuncId) : FC := ⟨168, .seq (.reg [⟨some 8, .mv (.c (.sc (.int .i64 0))), none, []⟩, ⟨some 9, .mv (.c (.sc (.bool false))), none, []⟩]) (.seq (.reg [⟨some 12, .mv (.t 0), none, []⟩, ⟨some 13, .mv (.t 1), none, []⟩, ⟨some 14, .mv (.t 0), none, []⟩, ⟨some 15, .mv (.t 3), none, []⟩, ⟨some 16, .mv (.t 0), none, []⟩, ⟨some 17, .mv (.t 3), none, []⟩, ⟨some 18, .ix 1 (.t 16) (.t 17), none, []⟩, ⟨some 19, .load none (.t 18), none, []⟩, ⟨some 20, .mv (.t 0), none, []⟩, ⟨some 21, .mv (.t 1), none, []⟩, ⟨some 22, .ix 1 (.t 20) (.t 21), none, []⟩, ⟨some 23, .load none (.t 22), none, []⟩, ⟨some 24, .ix 1 (.t 12) (.t 13), none, []⟩, ⟨none, .store 1 (.t 24) (.t 19), none, []⟩, ⟨some 25, .ix 1 (.t 14) (.t 15), none, []⟩, ⟨none, .store 1 (.t 25) (.t 23), none, []⟩]) (.seq (.reg [⟨some 26, .mv (.t 1), none, []⟩, ⟨some 27, .bin .add (.t 26) (.c (.sc (.int .i64 1))), none, []⟩, ⟨some 28, .mv (.t 2), none, []⟩, ⟨some 29, .bin .sub (.t 28) (.c (.sc (.int .i64 1))), none, []⟩, ⟨some 10, .mv (.t 27), none, []⟩, ⟨some 11, .mv (.t 29), none, []⟩]) (.seq (.blk 0 (.loop (.seq (.seq (.reg [⟨some 30, .mv (.t 10), none, []⟩, ⟨some 31, .mv (.t 11), none, []⟩, ⟨some 32, .bin .leq (.t 30) (.t 31), none, []⟩, ⟨some 33, .mv (.t 32), none, []⟩, ⟨some 34, .mv (.t 0), some (33, true), []⟩, ⟨some 35, .mv (.t 10), some (33, true), []⟩, ⟨some 36, .ix 1 (.t 34) (.t 35), some (33, true), []⟩, ⟨some 37, .load none (.t 36), some (33, true), []⟩, ⟨some 38, .mv (.t 0), some (33, true), []⟩, ⟨some 39, .mv (.t 1), some (33, true), []⟩, ⟨some 40, .ix 1 (.t 38) (.t 39), some (33, true), []⟩, ⟨some 41, .load none (.t 40), some (33, true), []⟩, ⟨some 42, .call less [.t 37, .t 41], some (33, true), []⟩, ⟨some 43, .pick (.t 33) (.t 42) (.c (.sc (.bool false))), none, []⟩]) (.cond (.t 43) .skip (.exit 0))) (.blk 1 (.reg [⟨some 44, .mv (.t 10), none, []⟩, ⟨some 45, .bin .add (.t 44) (.c (.sc (.int .i64 1))), none, []⟩, ⟨some 10, .mv (.t 45), none, []⟩]))))) (.seq (.blk 2 (.loop (.seq (.seq (.reg [⟨some 46, .mv (.t 10), none, []⟩, ⟨some 47, .mv (.t 11), none, []⟩, ⟨some 48, .bin .leq (.t 46) (.t 47), none, []⟩, ⟨some 49, .mv (.t 48), none, []⟩, ⟨some 50, .mv (.t 0), some (49, true), []⟩, ⟨some 51, .mv (.t 11), some (49, true), []⟩, ⟨some 52, .ix 1 (.t 50) (.t 51), some (49, true), []⟩, ⟨some 53, .load none (.t 52), some (49, true), []⟩, ⟨some 54, .mv (.t 0), some (49, true), []⟩, ⟨some 55, .mv (.t 1), some (49, true), []⟩, ⟨some 56, .ix 1 (.t 54) (.t 55), some (49, true), []⟩, ⟨some 57, .load none (.t 56), some (49, true), []⟩, ⟨some 58, .call less [.t 53, .t 57], some (49, true), []⟩, ⟨some 59, .un .not (.t 58), some (49, true), []⟩, ⟨some 60, .pick (.t 49) (.t 59) (.c (.sc (.bool false))), none, []⟩]) (.cond (.t 60) .skip (.exit 2))) (.blk 3 (.reg [⟨some 61, .mv (.t 11), none, []⟩, ⟨some 62, .bin .sub (.t 61) (.c (.sc (.int .i64 1))), none, []⟩, ⟨some 11, .mv (.t 62), none, []⟩]))))) (.seq (.seq (.reg [⟨some 63, .mv (.t 10), none, []⟩, ⟨some 64, .mv (.t 11), none, []⟩, ⟨some 65, .bin .gtr (.t 63) (.t 64), none, []⟩]) (.cond (.t 65) (.seq (.reg [⟨some 66, .mv (.t 0), none, []⟩, ⟨some 67, .mv (.t 11), none, []⟩, ⟨some 68, .mv (.t 0), none, []⟩, ⟨some 69, .mv (.t 1), none, []⟩, ⟨some 70, .mv (.t 0), none, []⟩, ⟨some 71, .mv (.t 1), none, []⟩, ⟨some 72, .ix 1 (.t 70) (.t 71), none, []⟩, ⟨some 73, .load none (.t 72), none, []⟩, ⟨some 74, .mv (.t 0), none, []⟩, ⟨some 75, .mv (.t 11), none, []⟩, ⟨some 76, .ix 1 (.t 74) (.t 75), none, []⟩, ⟨some 77, .load none (.t 76), none, []⟩, ⟨some 78, .ix 1 (.t 66) (.t 67), none, []⟩, ⟨none, .store 1 (.t 78) (.t 73), none, []⟩, ⟨some 79, .ix 1 (.t 68) (.t 69), none, []⟩, ⟨none, .store 1 (.t 79) (.t 77), none, []⟩]) (.seq (.reg [⟨some 80, .mv (.t 11), none, []⟩, ⟨some 8, .mv (.t 80), none, []⟩, ⟨some 9, .mv (.c (.sc (.bool true))), none, []⟩]) .ret)) .skip)) (.seq (.reg [⟨some 81, .mv (.t 0), none, []⟩, ⟨some 82, .mv (.t 10), none, []⟩, ⟨some 83, .mv (.t 0), none, []⟩, ⟨some 84, .mv (.t 11), none, []⟩, ⟨some 85, .mv (.t 0), none, []⟩, ⟨some 86, .mv (.t 11), none, []⟩, ⟨some 87, .ix 1 (.t 85) (.t 86), none, []⟩, ⟨some 88, .load none (.t 87), none, []⟩, ⟨some 89, .mv (.t 0), none, []⟩, ⟨some 90, .mv (.t 10), none, []⟩, ⟨some 91, .ix 1 (.t 89) (.t 90), none, []⟩, ⟨some 92, .load none (.t 91), none, []⟩, ⟨some 93, .ix 1 (.t 81) (.t 82), none, []⟩, ⟨none, .store 1 (.t 93) (.t 88), none, []⟩, ⟨some 94, .ix 1 (.t 83) (.t 84), none, []⟩, ⟨none, .store 1 (.t 94) (.t 92), none, []⟩]) (.seq (.reg [⟨some 95, .mv (.t 10), none, []⟩, ⟨some 96, .bin .add (.t 95) (.c (.sc (.int .i64 1))), none, []⟩, ⟨some 10, .mv (.t 96), none, []⟩]) (.seq (.reg [⟨some 97, .mv (.t 11), none, []⟩, ⟨some 98, .bin .sub (.t 97) (.c (.sc (.int .i64 1))), none, []⟩, ⟨some 11, .mv (.t 98), none, []⟩]) (.seq (.blk 4 (.loop (.blk 5 (.seq (.blk 6 (.loop (.seq (.seq (.reg [⟨some 99, .mv (.t 10), none, []⟩, ⟨some 100, .mv (.t 11), none, []⟩, ⟨some 101, .bin .leq (.t 99) (.t 100), none, []⟩, ⟨some 102, .mv (.t 101), none, []⟩, ⟨some 103, .mv (.t 0), some (102, true), []⟩, ⟨some 104, .mv (.t 10), some (102, true), []⟩, ⟨some 105, .ix 1 (.t 103) (.t 104), some (102, true), []⟩, ⟨some 106, .load none (.t 105), some (102, true), []⟩, ⟨some 107, .mv (.t 0), some (102, true), []⟩, ⟨some 108, .mv (.t 1), some (102, true), []⟩, ⟨some 109, .ix 1 (.t 107) (.t 108), some (102, true), []⟩, ⟨some 110, .load none (.t 109), some (102, true), []⟩, ⟨some 111, .call less [.t 106, .t 110], some (102, true), []⟩, ⟨some 112, .pick (.t 102) (.t 111) (.c (.sc (.bool false))), none, []⟩]) (.cond (.t 112) .skip (.exit 6))) (.blk 7 (.reg [⟨some 113, .mv (.t 10), none, []⟩, ⟨some 114, .bin .add (.t 113) (.c (.sc (.int .i64 1))), none, []⟩, ⟨some 10, .mv (.t 114), none, []⟩]))))) (.seq (.blk 8 (.loop (.seq (.seq (.reg [⟨some 115, .mv (.t 10), none, []⟩, ⟨some 116, .mv (.t 11), none, []⟩, ⟨some 117, .bin .leq (.t 115) (.t 116), none, []⟩, ⟨some 118, .mv (.t 117), none, []⟩, ⟨some 119, .mv (.t 0), some (118, true), []⟩, ⟨some 120, .mv (.t 11), some (118, true), []⟩, ⟨some 121, .ix 1 (.t 119) (.t 120), some (118, true), []⟩, ⟨some 122, .load none (.t 121), some (118, true), []⟩, ⟨some 123, .mv (.t 0), some (118, true), []⟩, ⟨some 124, .mv (.t 1), some (118, true), []⟩, ⟨some 125, .ix 1 (.t 123) (.t 124), some (118, true), []⟩, ⟨some 126, .load none (.t 125), some (118, true), []⟩, ⟨some 127, .call less [.t 122, .t 126], some (118, true), []⟩, ⟨some 128, .un .not (.t 127), some (118, true), []⟩, ⟨some 129, .pick (.t 118) (.t 128) (.c (.sc (.bool false))), none, []⟩]) (.cond (.t 129) .skip (.exit 8))) (.blk 9 (.reg [⟨some 130, .mv (.t 11), none, []⟩, ⟨some 131, .bin .sub (.t 130) (.c (.sc (.int .i64 1))), none, []⟩, ⟨some 11, .mv (.t 131), none, []⟩]))))) (.seq (.seq (.reg [⟨some 132, .mv (.t 10), none, []⟩, ⟨some 133, .mv (.t 11), none, []⟩, ⟨some 134, .bin .gtr (.t 132) (.t 133), none, []⟩]) (.cond (.t 134) (.exit 4) .skip)) (.seq (.reg [⟨some 135, .mv (.t 0), none, []⟩, ⟨some 136, .mv (.t 10), none, []⟩, ⟨some 137, .mv (.t 0), none, []⟩, ⟨some 138, .mv (.t 11), none, []⟩, ⟨some 139, .mv (.t 0), none, []⟩, ⟨some 140, .mv (.t 11), none, []⟩, ⟨some 141, .ix 1 (.t 139) (.t 140), none, []⟩, ⟨some 142, .load none (.t 141), none, []⟩, ⟨some 143, .mv (.t 0), none, []⟩, ⟨some 144, .mv (.t 10), none, []⟩, ⟨some 145, .ix 1 (.t 143) (.t 144), none, []⟩, ⟨some 146, .load none (.t 145), none, []⟩, ⟨some 147, .ix 1 (.t 135) (.t 136), none, []⟩, ⟨none, .store 1 (.t 147) (.t 142), none, []⟩, ⟨some 148, .ix 1 (.t 137) (.t 138), none, []⟩, ⟨none, .store 1 (.t 148) (.t 146), none, []⟩]) (.seq (.reg [⟨some 149, .mv (.t 10), none, []⟩, ⟨some 150, .bin .add (.t 149) (.c (.sc (.int .i64 1))), none, []⟩, ⟨some 10, .mv (.t 150), none, []⟩]) (.reg [⟨some 151, .mv (.t 11), none, []⟩, ⟨some 152, .bin .sub (.t 151) (.c (.sc (.int .i64 1))), none, []⟩, ⟨some 11, .mv (.t 152), none, []⟩]))))))))) (.seq (.reg [⟨some 153, .mv (.t 0), none, []⟩, ⟨some 154, .mv (.t 11), none, []⟩, ⟨some 155, .mv (.t 0), none, []⟩, ⟨some 156, .mv (.t 1), none, []⟩, ⟨some 157, .mv (.t 0), none, []⟩, ⟨some 158, .mv (.t 1), none, []⟩, ⟨some 159, .ix 1 (.t 157) (.t 158), none, []⟩, ⟨some 160, .load none (.t 159), none, []⟩, ⟨some 161, .mv (.t 0), none, []⟩, ⟨some 162, .mv (.t 11), none, []⟩, ⟨some 163, .ix 1 (.t 161) (.t 162), none, []⟩, ⟨some 164, .load none (.t 163), none, []⟩, ⟨some 165, .ix 1 (.t 153) (.t 154), none, []⟩, ⟨none, .store 1 (.t 165) (.t 160), none, []⟩, ⟨some 166, .ix 1 (.t 155) (.t 156), none, []⟩, ⟨none, .store 1 (.t 166) (.t 164), none, []⟩]) (.seq (.reg [⟨some 167, .mv (.t 11), none, []⟩, ⟨some 8, .mv (.t 167), none, []⟩, ⟨some 9, .mv (.c (.sc (.bool false))), none, []⟩]) .ret))))))))))), [.tmp 8, .tmp 9]⟩
def OMedA (fmed : FuncId) : FC := ⟨15, .seq (.reg [⟨some 6, .mv (.c (.sc (.int .i64 0))), none, []⟩]) (.seq (.reg [⟨some 7, .mv (.t 0), none, []⟩, ⟨some 8, .mv (.t 1), none, []⟩, ⟨some 9, .bin .sub (.t 8) (.c (.sc (.int .i64 1))), none, []⟩, ⟨some 10, .mv (.t 1), none, []⟩, ⟨some 11, .mv (.t 1), none, []⟩, ⟨some 12, .bin .add (.t 11) (.c (.sc (.int .i64 1))), none, []⟩, ⟨some 13, .mv (.t 2), none, []⟩, ⟨some 14, .call fmed [.t 7, .t 9, .t 10, .t 12, .t 13], none, []⟩, ⟨some 6, .mv (.t 14), none, []⟩]) .ret), [.tmp 6]⟩
def OMed (ford2 : FuncId) : FC := ⟨36, .seq (.reg [⟨some 10, .mv (.c (.sc (.int .i64 0))), none, []⟩]) (.seq (.reg [⟨some 12, .mv (.t 0), none, []⟩, ⟨some 13, .mv (.t 1), none, []⟩, ⟨some 14, .mv (.t 2), none, []⟩, ⟨some 15, .mv (.t 4), none, []⟩, ⟨some 16, .call ford2 [.t 12, .t 13, .t 14, .t 15], none, []⟩, ⟨some 11, .mv (.t 16), none, []⟩, ⟨some 17, .ext (.t 11) 0, none, []⟩, ⟨some 18, .ext (.t 11) 1, none, []⟩, ⟨some 1, .mv (.t 17), none, []⟩, ⟨some 2, .mv (.t 18), none, []⟩]) (.seq (.reg [⟨some 20, .mv (.t 0), none, []⟩, ⟨some 21, .mv (.t 2), none, []⟩, ⟨some 22, .mv (.t 3), none, []⟩, ⟨some 23, .mv (.t 4), none, []⟩, ⟨some 24, .call ford2 [.t 20, .t 21, .t 22, .t 23], none, []⟩, ⟨some 19, .mv (.t 24), none, []⟩, ⟨some 25, .ext (.t 19) 0, none, []⟩, ⟨some 26, .ext (.t 19) 1, none, []⟩, ⟨some 2, .mv (.t 25), none, []⟩, ⟨some 3, .mv (.t 26), none, []⟩]) (.seq (.reg [⟨some 28, .mv (.t 0), none, []⟩, ⟨some 29, .mv (.t 1), none, []⟩, ⟨some 30, .mv (.t 2), none, []⟩, ⟨some 31, .mv (.t 4), none, []⟩, ⟨some 32, .call ford2 [.t 28, .t 29, .t 30, .t 31], none, []⟩, ⟨some 27, .mv (.t 32), none, []⟩, ⟨some 33, .ext (.t 27) 0, none, []⟩, ⟨some 34, .ext (.t 27) 1, none, []⟩, ⟨some 1, .mv (.t 33), none, []⟩, ⟨some 2, .mv (.t 34), none, []⟩]) (.seq (.reg [⟨some 35, .mv (.t 2), none, []⟩, ⟨some 10, .mv (.t 35), none, []⟩]) .ret)))), [.tmp 10]⟩
def OOrd2 (less : FuncId) : FC := ⟨28, .seq (.reg [⟨some 8, .mv (.c (.sc (.int .i64 0))), none, []⟩, ⟨some 9, .mv (.c (.sc (.int .i64 0))), none, []⟩]) (.seq (.seq (.reg [⟨some 10, .mv (.t 0), none, []⟩, ⟨some 11, .mv (.t 2), none, []⟩, ⟨some 12, .ix 1 (.t 10) (.t 11), none, []⟩, ⟨some 13, .load none (.t 12), none, []⟩, ⟨some 14, .mv (.t 0), none, []⟩, ⟨some 15, .mv (.t 1), none, []⟩, ⟨some 16, .ix 1 (.t 14) (.t 15), none, []⟩, ⟨some 17, .load none (.t 16), none, []⟩, ⟨some 18, .call less [.t 13, .t 17], none, []⟩]) (.cond (.t 18) (.seq (.reg [⟨some 19, .mv (.t 3), none, []⟩, ⟨some 20, .nilck (.t 19), none, []⟩, ⟨some 21, .load none (.t 20), none, []⟩, ⟨some 22, .bin .add (.t 21) (.c (.sc (.int .i64 1))), none, []⟩, ⟨some 23, .nilck (.t 19), none, []⟩, ⟨none, .store 1 (.t 23) (.t 22), none, []⟩]) (.seq (.reg [⟨some 24, .mv (.t 2), none, []⟩, ⟨some 25, .mv (.t 1), none, []⟩, ⟨some 8, .mv (.t 24), none, []⟩, ⟨some 9, .mv (.t 25), none, []⟩]) .ret)) .skip)) (.seq (.reg [⟨some 26, .mv (.t 1), none, []⟩, ⟨some 27, .mv (.t 2), none, []⟩, ⟨some 8, .mv (.t 26), none, []⟩, ⟨some 9, .mv (.t 27), none, []⟩]) .ret)), [.tmp 8, .tmp 9]⟩
def OPdq (fins fheap fbreak fpivot frev fpart less fequal fsplit fpdq : FuncId) : FC := ⟨134, .seq (.reg [⟨some 8, .mv (.c (.sc (.bool true))), none, []⟩]) (.seq (.reg [⟨some 9, .mv (.c (.sc (.bool true))), none, []⟩]) (.blk 0 (.loop (.blk 1 (.seq (.reg [⟨some 19, .mv (.t 2), none, []⟩, ⟨some 20, .mv (.t 1), none, []⟩, ⟨some 21, .bin .sub (.t 19) (.t 20), none, []⟩, ⟨some 10, .mv (.t 21), none, []⟩]) (.seq (.seq (.reg [⟨some 22, .mv (.t 10), none, []⟩, ⟨some 23, .bin .leq (.t 22) (.c (.sc (.int .i64 12))), none, []⟩]) (.cond (.t 23) (.seq (.reg [⟨some 24, .mv (.t 0), none, []⟩, ⟨some 25, .mv (.t 1), none, []⟩, ⟨some 26, .mv (.t 2), none, []⟩, ⟨some 27, .call fins [.t 24, .t 25, .t 26], none, []⟩]) .ret) .skip)) (.seq (.seq (.reg [⟨some 28, .mv (.t 3), none, []⟩, ⟨some 29, .bin .eql (.t 28) (.c (.sc (.int .i64 0))), none, []⟩]) (.cond (.t 29) (.seq (.reg [⟨some 30, .mv (.t 0), none, []⟩, ⟨some 31, .mv (.t 1), none, []⟩, ⟨some 32, .mv (.t 2), none, []⟩, ⟨some 33, .call fheap [.t 30, .t 31, .t 32], none, []⟩]) .ret) .skip)) (.seq (.seq (.reg [⟨some 34, .mv (.t 8), none, []⟩, ⟨some 35, .un .not (.t 34), none, []⟩]) (.cond (.t 35) (.seq (.reg [⟨some 36, .mv (.t 0), none, []⟩, ⟨some 37, .mv (.t 1), none, []⟩, ⟨some 38, .mv (.t 2), none, []⟩, ⟨some 39, .call fbreak [.t 36, .t 37, .t 38], none, []⟩]) (.reg [⟨some 40, .mv (.t 3), none, []⟩, ⟨some 41, .bin .sub (.t 40) (.c (.sc (.int .i64 1))), none, []⟩, ⟨some 3, .mv (.t 41), none, []⟩])) .skip)) (.seq (.reg [⟨some 43, .mv (.t 0), none, []⟩, ⟨some 44, .mv (.t 1), none, []⟩, ⟨some 45, .mv (.t 2), none, []⟩, ⟨some 46, .call fpivot [.t 43, .t 44, .t 45], none, []⟩, ⟨some 42, .mv (.t 46), none, []⟩, ⟨some 47, .ext (.t 42) 0, none, []⟩, ⟨some 48, .ext (.t 42) 1, none, []⟩, ⟨some 11, .mv (.t 47), none, []⟩, ⟨some 12, .mv (.t 48), none, []⟩]) (.seq (.seq (.reg [⟨some 49, .mv (.t 12), none, []⟩, ⟨some 50, .bin .eql (.t 49) (.c (.sc (.int .i64 2))), none, []⟩]) (.cond (.t 50) (.seq (.reg [⟨some 51, .mv (.t 0), none, []⟩, ⟨some 52, .mv (.t 1), none, []⟩, ⟨some 53, .mv (.t 2), none, []⟩, ⟨some 54, .call frev [.t 51, .t 52, .t 53], none, []⟩]) (.seq (.reg [⟨some 55, .mv (.t 2), none, []⟩, ⟨some 56, .bin .sub (.t 55) (.c (.sc (.int .i64 1))), none, []⟩, ⟨some 57, .mv (.t 11), none, []⟩, ⟨some 58, .mv (.t 1), none, []⟩, ⟨some 59, .bin .sub (.t 57) (.t 58), none, []⟩, ⟨some 60, .bin .sub (.t 56) (.t 59), none, []⟩, ⟨some 11, .mv (.t 60), none, []⟩]) (.reg [⟨some 12, .mv (.c (.sc (.int .i64 1))), none, []⟩]))) .skip)) (.seq (.seq (.reg [⟨some 61, .mv (.t 8), none, []⟩, ⟨some 62, .mv (.t 61), none, []⟩, ⟨some 63, .mv (.t 9), some (62, true), []⟩, ⟨some 64, .pick (.t 62) (.t 63) (.c (.sc (.bool false))), none, []⟩, ⟨some 65, .mv (.t 64), none, []⟩, ⟨some 66, .mv (.t 12), some (65, true), []⟩, ⟨some 67, .bin .eql (.t 66) (.c (.sc (.int .i64 1))), some (65, true), []⟩, ⟨some 68, .pick (.t 65) (.t 67) (.c (.sc (.bool false))), none, []⟩]) (.cond (.t 68) (.seq (.reg [⟨some 69, .mv (.t 0), none, []⟩, ⟨some 70, .mv (.t 1), none, []⟩, ⟨some 71, .mv (.t 2), none, []⟩, ⟨some 72, .call fpart [.t 69, .t 70, .t 71], none, []⟩]) (.cond (.t 72) .ret .skip)) .skip)) (.seq (.seq (.reg [⟨some 73, .mv (.t 1), none, []⟩, ⟨some 74, .bin .gtr (.t 73) (.c (.sc (.int .i64 0))), none, []⟩, ⟨some 75, .mv (.t 74), none, []⟩, ⟨some 76, .mv (.t 0), some (75, true), []⟩, ⟨some 77, .mv (.t 1), some (75, true), []⟩, ⟨some 78, .bin .sub (.t 77) (.c (.sc (.int .i64 1))), some (75, true), []⟩, ⟨some 79, .ix 1 (.t 76) (.t 78), some (75, true), []⟩, ⟨some 80, .load none (.t 79), some (75, true), []⟩, ⟨some 81, .mv (.t 0), some (75, true), []⟩, ⟨some 82, .mv (.t 11), some (75, true), []⟩, ⟨some 83, .ix 1 (.t 81) (.t 82), some (75, true), []⟩, ⟨some 84, .load none (.t 83), some (75, true), []⟩, ⟨some 85, .call less [.t 80, .t 84], some (75, true), []⟩, ⟨some 86, .un .not (.t 85), some (75, true), []⟩, ⟨some 87, .pick (.t 75) (.t 86) (.c (.sc (.bool false))), none, []⟩]) (.cond (.t 87) (.seq (.reg [⟨some 88, .mv (.t 0), none, []⟩, ⟨some 89, .mv (.t 1), none, []⟩, ⟨some 90, .mv (.t 2), none, []⟩, ⟨some 91, .mv (.t 11), none, []⟩, ⟨some 92, .call fequal [.t 88, .t 89, .t 90, .t 91], none, []⟩, ⟨some 13, .mv (.t 92), none, []⟩]) (.seq (.reg [⟨some 93, .mv (.t 13), none, []⟩, ⟨some 1, .mv (.t 93), none, []⟩]) (.exit 1))) .skip)) (.seq (.reg [⟨some 95, .mv (.t 0), none, []⟩, ⟨some 96, .mv (.t 1), none, []⟩, ⟨some 97, .mv (.t 2), none, []⟩, ⟨some 98, .mv (.t 11), none, []⟩, ⟨some 99, .call fsplit [.t 95, .t 96, .t 97, .t 98], none, []⟩, ⟨some 94, .mv (.t 99), none, []⟩, ⟨some 100, .ext (.t 94) 0, none, []⟩, ⟨some 101, .ext (.t 94) 1, none, []⟩, ⟨some 14, .mv (.t 100), none, []⟩, ⟨some 15, .mv (.t 101), none, []⟩]) (.seq (.reg [⟨some 102, .mv (.t 15), none, []⟩, ⟨some 9, .mv (.t 102), none, []⟩]) (.seq (.reg [⟨some 103, .mv (.t 14), none, []⟩, ⟨some 104, .mv (.t 1), none, []⟩, ⟨some 105, .bin .sub (.t 103) (.t 104), none, []⟩, ⟨some 106, .mv (.t 2), none, []⟩, ⟨some 107, .mv (.t 14), none, []⟩, ⟨some 108, .bin .sub (.t 106) (.t 107), none, []⟩, ⟨some 16, .mv (.t 105), none, []⟩, ⟨some 17, .mv (.t 108), none, []⟩]) (.seq (.reg [⟨some 109, .mv (.t 10), none, []⟩, ⟨some 110, .bin .quo (.t 109) (.c (.sc (.int .i64 8))), none, []⟩, ⟨some 18, .mv (.t 110), none, []⟩]) (.seq (.reg [⟨some 111, .mv (.t 16), none, []⟩, ⟨some 112, .mv (.t 17), none, []⟩, ⟨some 113, .bin .lss (.t 111) (.t 112), none, []⟩]) (.cond (.t 113) (.seq (.reg [⟨some 114, .mv (.t 16), none, []⟩, ⟨some 115, .mv (.t 18), none, []⟩, ⟨some 116, .bin .geq (.t 114) (.t 115), none, []⟩, ⟨some 8, .mv (.t 116), none, []⟩]) (.seq (.reg [⟨some 117, .mv (.t 0), none, []⟩, ⟨some 118, .mv (.t 1), none, []⟩, ⟨some 119, .mv (.t 14), none, []⟩, ⟨some 120, .mv (.t 3), none, []⟩, ⟨some 121, .call fpdq [.t 117, .t 118, .t 119, .t 120], none, []⟩]) (.reg [⟨some 122, .mv (.t 14), none, []⟩, ⟨some 123, .bin .add (.t 122) (.c (.sc (.int .i64 1))), none, []⟩, ⟨some 1, .mv (.t 123), none, []⟩]))) (.seq (.reg [⟨some 124, .mv (.t 17), none, []⟩, ⟨some 125, .mv (.t 18), none, []⟩, ⟨some 126, .bin .geq (.t 124) (.t 125), none, []⟩, ⟨some 8, .mv (.t 126), none, []⟩]) (.seq (.reg [⟨some 127, .mv (.t 0), none, []⟩, ⟨some 128, .mv (.t 14), none, []⟩, ⟨some 129, .bin .add (.t 128) (.c (.sc (.int .i64 1))), none, []⟩, ⟨some 130, .mv (.t 2), none, []⟩, ⟨some 131, .mv (.t 3), none, []⟩, ⟨some 132, .call fpdq [.t 127, .t 129, .t 130, .t 131], none, []⟩]) (.reg [⟨some 133, .mv (.t 14), none, []⟩, ⟨some 2, .mv (.t 133), none, []⟩]))))))))))))))))))))), []⟩
def OSorts (flen fpdq : FuncId) : FC := ⟨11, .seq (.reg [⟨some 3, .mv (.t 0), none, []⟩, ⟨some 4, .len (.t 3), none, []⟩, ⟨some 2, .mv (.t 4), none, []⟩]) (.reg [⟨some 5, .mv (.t 0), none, []⟩, ⟨some 6, .mv (.t 2), none, []⟩, ⟨some 7, .mv (.t 2), none, []⟩, ⟨some 8, .conv .u64 (.t 7), none, []⟩, ⟨some 9, .call flen [.t 8], none, []⟩, ⟨some 10, .call fpdq [.t 5, .c (.sc (.int .i64 0)), .t 6, .t 9], none, []⟩]), []⟩
def OLess (fnan : FuncId) : FC := ⟨17, .seq (.reg [⟨some 4, .mv (.c (.sc (.bool false))), none, []⟩]) (.seq (.reg [⟨some 5, .mv (.t 0), none, []⟩, ⟨some 6, .call fnan [.t 5], none, []⟩, ⟨some 7, .mv (.t 6), none, []⟩, ⟨some 8, .mv (.t 1), some (7, true), []⟩, ⟨some 9, .call fnan [.t 8], some (7, true), []⟩, ⟨some 10, .un .not (.t 9), some (7, true), []⟩, ⟨some 11, .pick (.t 7) (.t 10) (.c (.sc (.bool false))), none, []⟩, ⟨some 12, .mv (.t 11), none, []⟩, ⟨some 13, .mv (.t 0), some (12, false), []⟩, ⟨some 14, .mv (.t 1), some (12, false), []⟩, ⟨some 15, .bin .lss (.t 13) (.t 14), some (12, false), []⟩, ⟨some 16, .pick (.t 12) (.c (.sc (.bool true))) (.t 15), none, []⟩, ⟨some 4, .mv (.t 16), none, []⟩]) .ret), [.tmp 4]⟩
def ONan : FC := ⟨6, .seq (.reg [⟨some 2, .mv (.c (.sc (.bool false))), none, []⟩]) (.seq (.reg [⟨some 3, .mv (.t 0), none, []⟩, ⟨some 4, .mv (.t 0), none, []⟩, ⟨some 5, .bin .neq (.t 3) (.t 4), none, []⟩, ⟨some 2, .mv (.t 5), none, []⟩]) .ret), [.tmp 2]⟩
end
section
open Go

theorem put_swp {st : St} {b c : Nat} {x y z : List V} (h : b ≠ c) : ((st.put b x).put c y).put b z = (st.put b z).put c y := by
  simp only [St.put, St.mk.injEq, true_and]
  refine ⟨funext fun q => ?_, by omega⟩
  by_cases h1 : q = b
  · subst h1; simp [h]
  · by_cases h2 : q = c
    · subst h2; simp [h1]
    · simp [h1, h2]
theorem and_u64 (x : Int) {m : Nat} (h : m < 18446744073709551616) : ∃ z : Nat, ibit .and .u64 x (m : Int) = (z : Int) ∧ z ≤ m := by
  refine ⟨(BitVec.ofInt 64 x &&& BitVec.ofInt 64 (m : Int)).toNat, ?_, ?_⟩
  · show IntKind.wrap .u64 (((BitVec.ofInt 64 x &&& BitVec.ofInt 64 (m : Int)).toNat : Nat) : Int) = _
    have := (BitVec.ofInt 64 x &&& BitVec.ofInt 64 (m : Int)).isLt
    show (((BitVec.ofInt 64 x &&& BitVec.ofInt 64 (m : Int)).toNat : Nat) : Int) % 18446744073709551616 = _
    omega
  · rw [BitVec.toNat_and]
    refine Nat.le_trans Nat.and_le_right ?_
    rw [BitVec.toNat_ofInt]
    omega
def dataV (b n cap : Nat) : V := .sc (.slice (some ⟨b, 0, none⟩) n cap)
theorem weak_re {st : St} {b : Nat} {X Y : List V} (h : (st.put b X).Wf) : (st.put b Y).weak (st.put b Y) := by
  have := (h.lt.put (b := b) (cs := Y)).weak
  rwa [put_put] at this
theorem put_selfR {st : St} {b : Nat} {cs : List V} (hb : st.box b = some cs) (h : b < st.sz) : st.put b cs = st := by
  cases st with
  | mk box own sz =>
    simp only [St.put, St.mk.injEq, true_and]
    simp only at hb h
    refine ⟨?_, by omega⟩
    funext i
    by_cases e : i = b
    · subst e; simp [hb]
    · simp [e]
section
variable {α : Type} [Inhabited α] {lt : α → α → Bool}
theorem Srt.all {L M : List α} (h : Mix 0 L.length L M) (k : Srt lt 0 L.length M) : M.Perm L ∧ M.Pairwise (fun x y => lt y x = false) := ⟨h.perm, Srt.pw (by rw [h.len]; exact k)⟩
end
end
section
open Go

section
variable {α : Type}
/-- A row of elements of one cell each, and what lies behind it. -/
def row (val : α → Value) (L : List α) (sp : List V) : List V := (L.map fun x => V.sc (val x)) ++ sp
variable {val : α → Value} {L M : List α} {sp : List V}
theorem row_len : (row val L sp).length = L.length + sp.length := by simp [row]
theorem row_set {i : Nat} {y : α} (h : i < L.length) : List.take i (row val L sp) ++ [.sc (val y)] ++ List.drop (i + 1) (row val L sp) = row val (L.set i y) sp := by
  unfold row
  rw [List.take_append_of_le_length (by simp; omega), List.drop_append_of_le_length (by simp; omega), ← List.append_assoc, ← List.map_take, ← List.map_drop]
  congr 1
  rw [List.set_eq_take_append_cons_drop, if_pos h]
  simp
theorem row_mono (h : mono (row val L sp)) (hl : M.length = L.length) : mono (row val M sp) := by
  cases M with
  | nil =>
    have : L = [] := List.eq_nil_of_length_eq_zero (by simpa using hl.symm)
    subst this
    exact h
  | cons x M =>
    have : row val (x :: M) sp = .sc (val x) :: ((M.map fun x => V.sc (val x)) ++ sp) := by simp [row]
    rw [this, mono_sc]
    trivial
theorem row_get [Inhabited α] {i : Nat} (h : i < L.length) : (row val L sp)[i]? = some (.sc (val L[i]!)) := by
  unfold row
  rw [List.getElem?_append_left (by simpa using h), List.getElem?_map, bang_get h]
  rfl
/-- Elements, and what compares them. -/
structure Elt (P : Program) (less : FuncId) (val : α → Value) (lt : α → α → Bool) : Prop where
  less : ∀ (st : St) (x y : α), VCalls P less [.sc (val x), .sc (val y)] st fun r st' => r = .sc (.bool (lt x y)) ∧ st = st'
  ord : Ord' lt
end
section
variable {P : Program} {α : Type} [Inhabited α] {val : α → Value} {lt : α → α → Bool} {less f fsift : FuncId} {st : St} {b cap a c : Nat} {L : List α} {sp : List V}
set_option maxRecDepth 100000 in
set_option maxHeartbeats 2000000 in
theorem oins_v (hf : cFun P f = some (OIns less)) (E : Elt P less val lt) (hmo : mono (row val L sp)) (h1 : a ≤ c) (h2 : c ≤ L.length) (hl : L.length < 4611686018427387904) :
    VCalls P f [dataV b L.length cap, .sc (.int .i64 a), .sc (.int .i64 c)] (st.put b (row val L sp)) fun _ s => ∃ M, Mix a c L M ∧ Srt lt a c M ∧ s = st.put b (row val M sp) := by
  refine vcalls_enter hf (Nat.le_of_ble_eq_true rfl) fun hwf hok => ?_
  show Run _ (OIns less).body (.fin (finQ (OIns less).res _)) _ _
  unfold OIns
  simp (config := {maxSteps := 3000000}) only [go_sem, Int.reduceNeg, ↓reduceIte, dataV]
  repeat (apply And.intro; focus (first | omega | (simp; done)))
  refine run_loop [6, 7, 10, 11, 12, 13, 14, 15, 16, 17, 18, 19, 20, 21, 22, 23, 24, 25, 26, 27, 28, 29, 30, 31, 32, 33, 34, 35, 36, 37, 38, 39, 40, 41, 42, 43, 44, 45, 46, 47, 48] (fun B s => ∃ (i : Nat) (M : List α), (a + 1 ≤ i ∧ (i ≤ c ∨ i = a + 1)) ∧ B 6 = .sc (.int .i64 i) ∧ Mix a c L M ∧ Srt lt a i M ∧ s = st.put b (row val M sp)) (fun B _ => c - vnat (B 6)) rfl ?_ ?_
  · simp (config := {maxSteps := 3000000}) only [go_sem, ↓reduceIte]
    exact ⟨a + 1, L, by omega, by simp, .refl, Srt.one (by omega), rfl⟩
  · rintro B s ⟨i, M, hi, h6, hM, hS, rfl⟩
    by_cases c1 : i < c
    · have hlen := hM.len
      simp (config := {maxSteps := 3000000}) only [go_sem, Nat.reduceEqDiff, ↓reduceIte, Nat.reduceBEq, h6, decide_eq_true (show (i : Int) < (c : Int) by omega)]
      refine run_loop [7, 16, 17, 18, 19, 20, 21, 22, 23, 24, 25, 26, 27, 28, 29, 30, 31, 32, 33, 34, 35, 36, 37, 38, 39, 40, 41, 42, 43, 44, 45, 46, 47, 48] (fun C s' => ∃ (j : Nat) (M' : List α), (a ≤ j ∧ j ≤ i) ∧ C 7 = .sc (.int .i64 j) ∧ Mix a c L M' ∧ Ins lt a i j M' ∧ s' = st.put b (row val M' sp)) (fun C _ => vnat (C 7)) rfl ?_ ?_
      · simp (config := {maxSteps := 3000000}) only [go_sem, ↓reduceIte]
        exact ⟨i, M, by omega, rfl, hM, Ins.start hS, rfl⟩
      · rintro C s' ⟨j, M', hj, h7, hM', hI, rfl⟩
        have hlen' := hM'.len
        have hmo' := row_mono hmo hlen'
        by_cases c2 : a < j
        · have e1 : ((j : Int) - 1).toNat = j - 1 := by omega
          simp (config := {maxSteps := 3000000}) only [go_sem, Nat.reduceEqDiff, Int.reduceNeg, ↓reduceIte, reduceCtorEq, Nat.reduceBEq, h7, decide_eq_true (show (a : Int) < (j : Int) by omega), e1, row_get (show j < M'.length by omega), row_get (show j - 1 < M'.length by omega)]
          repeat (apply And.intro; focus (first | omega | (simp; done)))
          refine Cal.mk (E.less _ _ _) ?_
          rintro _ _ ⟨rfl, rfl⟩ -
          cases c3 : lt M'[j]! M'[j - 1]!
          · simp (config := {maxSteps := 3000000}) only [go_sem, Nat.reduceEqDiff, Int.reduceNeg, ↓reduceIte, Nat.reduceBEq, h6]
            repeat (apply And.intro; focus (first | omega | (simp; done)))
            exact ⟨⟨i + 1, M', by omega, by simp, hM', hI.done E.ord (by omega) (.inr ⟨c2, c3⟩), rfl⟩, by omega⟩
          · have hs1 := row_set (val := val) (L := M') (sp := sp) (i := j) (y := M'[j - 1]!) (by omega)
            have hs2 := row_set (val := val) (L := M'.set j M'[j - 1]!) (sp := sp) (i := j - 1) (y := M'[j]!) (by simp; omega)
            have hmo2 : mono (row val (M'.set j M'[j - 1]!) sp) := row_mono hmo (by simp [hlen'])
            have hex := hM'.exch (i := j) (j := j - 1) (by omega) (by omega) (by omega) (by omega) h2
            have hst := hI.step E.ord c2 (by omega) (by omega) c3
            simp (config := {maxSteps := 3000000}) only [go_sem, Nat.reduceEqDiff, Nat.reduceLT, Int.reduceNeg, ↓reduceIte, reduceCtorEq, Nat.reduceBEq, h7, e1, row_get (show j < M'.length by omega), row_get (show j - 1 < M'.length by omega), row_len, hmo', hmo2, hs1, hs2, List.length_set]
            repeat (apply And.intro; focus (first | omega | (simp; done)))
            exact ⟨⟨j - 1, exch M' j (j - 1), by omega, by rw [show ((j : Int) - 1) = ((j - 1 : Nat) : Int) by omega], hex, hst, rfl⟩, by omega⟩
        · have ej : j = a := by omega
          subst ej
          simp (config := {maxSteps := 3000000}) only [go_sem, Nat.reduceEqDiff, Int.reduceNeg, ↓reduceIte, Nat.reduceBEq, h7, h6]
          repeat (apply And.intro; focus (first | omega | (simp; done)))
          exact ⟨⟨i + 1, M', by omega, by simp, hM', hI.done E.ord (by omega) (.inl rfl), rfl⟩, by omega⟩
    · simp (config := {maxSteps := 3000000}) only [go_sem, Nat.reduceEqDiff, ↓reduceIte, Nat.reduceBEq, h6, decide_eq_false (show ¬ (i : Int) < (c : Int) by omega)]
      exact ⟨_, _, Wk.refl _, weak_re hwf, M, hM, by
        by_cases e : i = c
        · subst e; exact hS
        · exact Srt.one (by omega), rfl⟩
end
end
section
open Go

section
variable {α : Type} {val : α → Value} {L : List α} {sp : List V} {P : Program} {st : St} {A : Nat → V} {k : Kt} {d : Option Nat} {obs : List (Option Nat × X × Nat)} {rest : List VO}
theorem row_push {x : α} {sp' : List V} : (row val L sp).take (L.length * 1) ++ [V.sc (val x)].flatMap V.cells ++ sp' = row val (L ++ [x]) sp' := by
  unfold row
  rw [Nat.mul_one, List.take_left' (by simp)]
  simp [V.cells]
/-- An append of one element to a row in a box. -/
theorem App.push {bytes b cap : Nat} {tk : Tk} {x : α} (hb : st.box b = some (row val L sp)) (hl : L.length + sp.length = cap) (hmo : mono (row val L sp)) (hc : cap ≤ maxLen) (h1 : L.length + 1 ≤ maxLen) (h2 : (L.length + 1) * bytes ≤ 140737488355328)
    (hk : ∀ b' cap' sp', (b' = b ∨ st.sz ≤ b') → (L.length < cap → b' = b ∧ cap' = cap) → L.length + 1 + sp'.length = cap' → cap' ≤ maxLen → mono (row val (L ++ [x]) sp') → obsOk (st.put b' (row val (L ++ [x]) sp')) A obs ∧
      Ops P rest k (putV A d (dataV b' (L ++ [x]).length cap')) (st.put b' (row val (L ++ [x]) sp'))) : App P 1 bytes (dataV b L.length cap) (.sl tk [.sc (val x)]) d obs rest k A st := by
  refine App.mut hb (by rw [row_len]; omega) hmo (by omega) hc (by intro d hd; simp only [List.mem_singleton] at hd; subst hd; rfl) (by simpa using h1) (by simpa using h2) fun b' cap' spare k1 k2 k3 k4 k5 k6 => ?_
  rw [row_push] at k6 ⊢
  have hlen : L.length + [V.sc (val x)].length = (L ++ [x]).length := by simp
  rw [hlen]
  simp only [List.length_cons, List.length_nil] at k2 k4 k5
  exact hk b' cap' spare k1 (fun h => ⟨(k5 (by omega)).1, (k5 (by omega)).2.1⟩) (by omega) k3 k6
theorem App.push0 {bytes : Nat} {tk : Tk} {x : α} (h2 : bytes ≤ 140737488355328)
    (hk : ∀ b' cap' sp', st.sz ≤ b' → 1 + sp'.length = cap' → cap' ≤ maxLen → mono (row val [x] sp') → obsOk (st.put b' (row val [x] sp')) A obs ∧
      Ops P rest k (putV A d (dataV b' [x].length cap')) (st.put b' (row val [x] sp'))) : App P 1 bytes (.sl .nil []) (.sl tk [.sc (val x)]) d obs rest k A st := by
  refine App.new (by intro d hd; simp only [List.mem_singleton] at hd; subst hd; rfl) (by simp) (by simp [maxLen]) (by simpa using h2) fun b' cap' spare k1 k2 k3 k4 k5 => ?_
  have e : [V.sc (val x)].flatMap V.cells ++ spare = row val [x] spare := by simp [row, V.cells]
  rw [e] at k5 ⊢
  simp only [List.length_cons, List.length_nil] at k4
  exact hk b' cap' spare k1 (by omega) k3 k5
/-- A row in a box that the caller's state does not know. -/
structure RB (val : α → Value) (base s : St) (b cap : Nat) (L : List α) (sp : List V) : Prop where
  box : s.box b = some (row val L sp)
  len : L.length + sp.length = cap
  mono : mono (row val L sp)
  max : cap ≤ maxLen
  weak : base.weak s
  lt : s.Lt
  fresh : base.sz ≤ b
theorem RB.self {base s : St} {b cap : Nat} (h : RB val base s b cap L sp) : s.put b (row val L sp) = s := put_selfR h.box (h.lt.box b _ h.box)
theorem RB.mk0 {base s : St} {b cap : Nat} {x : α} (hw : base.weak s) (hl : s.Lt) (k1 : s.sz ≤ b) (k2 : 1 + sp.length = cap) (k3 : cap ≤ maxLen) (k4 : _root_.Go.Proofs.Ytmmapbojjgpggaa.mono (row val [x] sp)) : RB val base (s.put b (row val [x] sp)) b cap [x] sp :=
  ⟨put_box_same, by simpa using k2, k4, k3, weak_put hw (by have := hw.sz; omega), hl.put, by have := hw.sz; omega⟩
theorem RB.push {base s : St} {b cap b' cap' : Nat} {x : α} {sp' : List V} (h : RB val base s b cap L sp) (k1 : b' = b ∨ s.sz ≤ b') (k2 : L.length + 1 + sp'.length = cap') (k3 : cap' ≤ maxLen) (k4 : _root_.Go.Proofs.Ytmmapbojjgpggaa.mono (row val (L ++ [x]) sp')) :
    RB val base (s.put b' (row val (L ++ [x]) sp')) b' cap' (L ++ [x]) sp' := by
  have hf : base.sz ≤ b' := by
    have := h.fresh; have := h.weak.sz
    rcases k1 with rfl | k1 <;> omega
  exact ⟨put_box_same, by simpa using k2, k4, k3, weak_put h.weak hf, h.lt.put, hf⟩
/-- Another box beside it. -/
theorem RB.put {base s : St} {b cap c : Nat} {cs : List V} (h : RB val base s b cap L sp) (hb : b ≠ c) (hc : base.sz ≤ c) : RB val base (s.put c cs) b cap L sp :=
  ⟨by rw [put_box_ne hb]; exact h.box, h.len, h.mono, h.max, weak_put h.weak hc, h.lt.put, h.fresh⟩
/-- The row turned. -/
theorem RB.mix {base s : St} {b cap : Nat} {M : List α} (h : RB val base s b cap L sp) (hM : M.length = L.length) : RB val base (s.put b (row val M sp)) b cap M sp :=
  ⟨put_box_same, by rw [hM]; exact h.len, row_mono h.mono hM, h.max, weak_put h.weak h.fresh, h.lt.put, h.fresh⟩
end
end
section
open Go

/-- A secret: a name, a key. -/
abbrev Sec := ByteArray × ByteArray
def secV (s : Sec) : V := .agg [.sc (.string s.1), .sc (.string s.2)]
def secs (S : List Sec) : List V := S.map secV
theorem secs_len (S : List Sec) : (secs S).length = S.length := by simp [secs]
theorem secs_get {S : List Sec} {i : Nat} {s : Sec} (h : S[i]? = some s) : (secs S)[i]? = some (.agg [.sc (.string s.1), .sc (.string s.2)]) := by simp [secs, h, secV]
def rightS (s : Sec) : Bool := decide (1 ≤ s.1.size ∧ s.1.size ≤ 40 ∧ 1 ≤ s.2.size ∧ s.2.size ≤ 40)
theorem nil_size {s : ByteArray} : s = ⟨#[]⟩ ↔ s.size = 0 := by
  constructor
  · rintro rfl; rfl
  · intro h
    cases s with
    | mk d => simp only [ByteArray.size, Array.size_eq_zero_iff] at h; rw [h]
section
variable {st : St} {S : List Sec} {tk : Tk}
set_option maxRecDepth 100000 in
theorem secRight_v {n k : ByteArray} : VCalls Try.prog 61 [.agg [.sc (.string n), .sc (.string k)]] st fun r s => r = .sc (.bool (rightS (n, k))) ∧ st = s := by
  refine vcalls_enter vc61 (Nat.le_of_ble_eq_true rfl) fun hwf hok => ?_
  show Run _ Vc61.body (.fin (finQ Vc61.res _)) _ _
  unfold Vc61
  simp (config := {maxSteps := 3000000}) only [go_sem, Nat.reduceEqDiff, Nat.reduceAdd, ↓reduceIte, reduceCtorEq]
  intro b hb
  by_cases c1 : 1 ≤ n.size
  · by_cases c2 : n.size ≤ 40
    · by_cases c3 : 1 ≤ k.size
      · simp (config := {maxSteps := 3000000}) only [go_sem, Nat.reduceEqDiff, ↓reduceIte, decide_eq_true (show (1 : Int) ≤ (n.size : Int) by omega), decide_eq_true (show (n.size : Int) ≤ 40 by omega), decide_eq_true (show (1 : Int) ≤ (k.size : Int) by omega)]
        exact ⟨_, _, Wk.refl _, weak_put hwf.weak hb, by simp [rightS, c1, c2, c3]; omega, rfl⟩
      · simp (config := {maxSteps := 3000000}) only [go_sem, Nat.reduceEqDiff, ↓reduceIte, decide_eq_true (show (1 : Int) ≤ (n.size : Int) by omega), decide_eq_true (show (n.size : Int) ≤ 40 by omega), decide_eq_false (show ¬ (1 : Int) ≤ (k.size : Int) by omega)]
        exact ⟨_, _, Wk.refl _, weak_put hwf.weak hb, by simp [rightS, c3], rfl⟩
    · simp (config := {maxSteps := 3000000}) only [go_sem, Nat.reduceEqDiff, ↓reduceIte, decide_eq_true (show (1 : Int) ≤ (n.size : Int) by omega), decide_eq_false (show ¬ (n.size : Int) ≤ 40 by omega)]
      exact ⟨_, _, Wk.refl _, weak_put hwf.weak hb, by simp [rightS, c2], rfl⟩
  · simp (config := {maxSteps := 3000000}) only [go_sem, Nat.reduceEqDiff, ↓reduceIte, decide_eq_false (show ¬ (1 : Int) ≤ (n.size : Int) by omega)]
    exact ⟨_, _, Wk.refl _, weak_put hwf.weak hb, by simp [rightS, c1], rfl⟩
set_option maxRecDepth 100000 in
/-- Why there is no table. -/
def whyS (kept : List Sec) : List Sec → Int
  | [] => 0
  | s :: r => if rightS s = false then 13 else if (aget s.1 kept).isSome = true then 72 else whyS (kept ++ [s]) r
def newS (S : List Sec) : Int := if 8 < S.length then 12 else whyS [] S
/-- Midway: the result, the table, its map. -/
structure SecI (st s : St) (rb tb mb : Nat) (kept : List Sec) (es : List (V × V × Nat)) (c : Nat) : Prop where
  rbox : s.box rb = some [.sc (.map none)]
  tbox : s.box tb = some [.sc (.map (some mb))]
  mbox : s.box mb = some [.mp false [.str] es c]
  mp : Mp vstr vstr es c kept
  weak : st.weak s
  lt : s.Lt
  rt : rb ≠ tb
  rm : rb ≠ mb
  tm : tb ≠ mb
  fr : st.sz ≤ rb
  ft : st.sz ≤ tb
  fm : st.sz ≤ mb
theorem SecI.var {s : St} {rb tb mb c : Nat} {kept : List Sec} {es : List (V × V × Nat)} (h : SecI st s rb tb mb kept es c) {v : Nat} (hv : s.sz ≤ v) (cs : List V) : SecI st (s.put v cs) rb tb mb kept es c := by
  have q1 := h.lt.box rb _ h.rbox
  have q2 := h.lt.box tb _ h.tbox
  have q3 := h.lt.box mb _ h.mbox
  exact ⟨by rw [put_box_ne (by omega)]; exact h.rbox, by rw [put_box_ne (by omega)]; exact h.tbox, by rw [put_box_ne (by omega)]; exact h.mbox, h.mp, weak_put h.weak (by have := h.weak.sz; omega), h.lt.put, h.rt, h.rm, h.tm, h.fr, h.ft, h.fm⟩
theorem SecI.add {s : St} {rb tb mb c : Nat} {kept : List Sec} {es : List (V × V × Nat)} (h : SecI st s rb tb mb kept es c) {n k : ByteArray} (ha : aget n kept = none) :
    SecI st (s.put mb [.mp false [.str] (mset (vstr n) (vstr k) c es) (mclk es (vstr n) c)]) rb tb mb (kept ++ [(n, k)]) (mset (vstr n) (vstr k) c es) (mclk es (vstr n) c) := by
  have m1 := Mp.set vstr_eq h.mp n k
  rw [aset_new ha] at m1
  exact ⟨by rw [put_box_ne h.rm]; exact h.rbox, by rw [put_box_ne h.tm]; exact h.tbox, put_box_same, m1, weak_put h.weak h.fm, h.lt.put, h.rt, h.rm, h.tm, h.fr, h.ft, h.fm⟩
/-- A table of these secrets. -/
structure TabS (s : St) (mb : Nat) (S : List Sec) (es : List (V × V × Nat)) (c : Nat) : Prop where
  box : s.box mb = some [.mp false [.str] es c]
  mp : Mp vstr vstr es c S
theorem TabS.find {s : St} {mb c : Nat} {es : List (V × V × Nat)} (h : TabS s mb S es c) (n : ByteArray) : mfind (.sc (.string n)) es = (aget n S).map vstr := Mp.find vstr_eq h.mp n
theorem TabS.put {s : St} {mb c b : Nat} {es : List (V × V × Nat)} {cs : List V} (h : TabS s mb S es c) (hb : mb ≠ b) : TabS (s.put b cs) mb S es c := ⟨by rw [put_box_ne hb]; exact h.box, h.mp⟩
def NewSQ (st : St) (S : List Sec) (r : V) (s : St) : Prop :=
  (newS S ≠ 0 ∧ r = .tup [.agg [.sc (.map none)], .sc (.int .i64 (newS S))] ∧ s = st) ∨
  (newS S = 0 ∧ ∃ mb es c, r = .tup [.agg [.sc (.map (some mb))], .sc (.int .i64 0)] ∧ TabS s mb S es c ∧ st.weak s ∧ s.Lt ∧ st.sz ≤ mb)
set_option maxRecDepth 100000 in
set_option maxHeartbeats 4000000 in
theorem secNew_v : VCalls Try.prog 39 [.sl tk (secs S)] st (NewSQ st S) := by
  refine vcalls_enter vc39 (Nat.le_of_ble_eq_true rfl) fun hwf hok => ?_
  show Run _ Vc39.body (.fin (finQ Vc39.res _)) _ _
  unfold Vc39
  have hsm := vlen_max (hok (.sl tk (secs S)) (by simp))
  rw [secs_len] at hsm
  simp (config := {maxSteps := 3000000}) only [go_sem, ↓reduceIte, reduceCtorEq]
  intro rb hrb
  by_cases c1 : 8 < S.length
  · have e : newS S = 12 := by simp [newS, c1]
    simp (config := {maxSteps := 3000000}) only [go_sem, Nat.reduceEqDiff, Nat.reduceLT, Nat.reduceLeDiff, ↓reduceIte, secs_len, decide_eq_true (show (8 : Int) < (S.length : Int) by omega)]
    exact ⟨_, _, Wk.refl _, weak_put hwf.weak hrb, .inl ⟨by rw [e]; simp, by rw [e], rfl⟩⟩
  have e0 : newS S = whyS [] S := by simp [newS, c1]
  simp (config := {maxSteps := 3000000}) only [go_sem, Nat.reduceEqDiff, Nat.reduceLT, Nat.reduceLeDiff, ↓reduceIte, reduceCtorEq, secs_len, decide_eq_false (show ¬ (8 : Int) < (S.length : Int) by omega)]
  intro mb hmb tb htb
  have hlt := hwf.lt
  have q1 : rb < mb := by omega
  have q2 : mb < tb := by omega
  have q3 : st.sz ≤ mb := by omega
  have q4 : st.sz ≤ tb := by omega
  clear htb hmb
  have I0 : SecI st (((st.put rb [.sc (.map none)]).put mb [.mp false [.str] [] 0]).put tb [.sc (.map (some mb))]) rb tb mb [] [] 0 :=
    ⟨by rw [put_box_ne (by omega), put_box_ne (by omega), put_box_same], put_box_same, by rw [put_box_ne (by omega), put_box_same], .nil, weak_put (weak_put (weak_put hwf.weak hrb) q3) q4, hlt.put.put.put, by omega, by omega, by omega, hrb, q4, q3⟩
  refine run_loop [3, 6, 7, 8, 17, 18, 19, 20, 21, 22, 23, 24, 25, 26, 27, 28, 29, 30, 31, 32, 33, 34, 35, 36, 37, 38, 39, 40, 41] (fun C s' => ∃ (i : Nat) (es : List (V × V × Nat)) (c : Nat), i ≤ S.length ∧ C 17 = .sc (.int .i64 i) ∧ SecI st s' rb tb mb (S.take i) es c ∧ whyS [] S = whyS (S.take i) (S.drop i)) (fun C _ => S.length - vnat (C 17)) rfl ?_ ?_
  · simp (config := {maxSteps := 3000000}) only [go_sem, ↓reduceIte]
    exact ⟨0, [], 0, by omega, rfl, I0, rfl⟩
  · rintro C s' ⟨i, es, c, hi, h17, I, hE⟩
    by_cases hlt' : i < S.length
    · obtain ⟨x, hx⟩ := get_ex hlt'
      have hdr : S.drop i = x :: S.drop (i + 1) := by
        rw [List.drop_eq_getElem_cons hlt']
        have := (List.getElem?_eq_some_iff.1 hx).2
        rw [this]
      have htk : S.take (i + 1) = S.take i ++ [x] := by rw [List.take_add_one, hx]; rfl
      rw [hdr] at hE
      simp only [whyS] at hE
      simp (config := {maxSteps := 3000000}) only [go_sem, Nat.reduceEqDiff, Nat.reduceAdd, Nat.reduceLT, Nat.reduceLeDiff, ↓reduceIte, Nat.reduceBEq, h17, secs_get hx, decide_eq_true (show (i : Int) < (S.length : Int) by omega)]
      repeat (apply And.intro; focus (first | omega | (simp; done)))
      intro v hv
      have I1 := I.var hv [.sc (.string x.1), .sc (.string x.2)]
      refine Cal.mk secRight_v ?_
      rintro _ _ ⟨rfl, rfl⟩ -
      have nv1 : rb ≠ v := by have := I.lt.box rb _ I.rbox; omega
      have nv2 : tb ≠ v := by have := I.lt.box tb _ I.tbox; omega
      have nv3 : mb ≠ v := by have := I.lt.box mb _ I.mbox; omega
      cases c7 : rightS (x.1, x.2)
      · rw [if_pos c7] at hE
        simp (config := {maxSteps := 3000000}) only [go_sem, Nat.reduceEqDiff, Nat.reduceLT, Nat.reduceLeDiff, ↓reduceIte, Nat.reduceBEq, put_box_ne nv1, I.rbox]
        exact ⟨_, _, Wk.refl _, weak_put I1.weak hrb, .inl ⟨by rw [e0, hE]; simp, by rw [e0, hE], rfl⟩⟩
      rw [if_neg (by rw [c7]; simp)] at hE
      have hfd : mfind (.sc (.string x.1)) es = (aget x.1 (S.take i)).map vstr := Mp.find vstr_eq I.mp x.1
      cases c8 : aget x.1 (S.take i) with
      | some y =>
        rw [if_pos (by rw [c8]; rfl)] at hE
        simp (config := {maxSteps := 3000000}) only [go_sem, Nat.reduceEqDiff, Nat.reduceLT, Nat.reduceLeDiff, ↓reduceIte, Nat.reduceBEq, put_box_ne nv1, put_box_ne nv2, put_box_ne nv3, I.rbox, I.tbox, I.mbox, hfd, c8, Option.isSome_some, Option.getD_some, Option.map_some]
        exact ⟨_, _, Wk.refl _, weak_put I1.weak hrb, .inl ⟨by rw [e0, hE]; simp, by rw [e0, hE], rfl⟩⟩
      | none =>
        rw [if_neg (by rw [c8]; simp)] at hE
        have hA := I1.add (n := x.1) (k := x.2) c8
        simp only [vstr] at hA
        simp (config := {maxSteps := 3000000}) only [go_sem, Nat.reduceEqDiff, Int.reduceNeg, ↓reduceIte, Nat.reduceBEq, put_box_ne nv2, put_box_ne nv3, I.tbox, I.mbox, hfd, c8, Option.isSome_none, Option.getD_none, h17]
        repeat (apply And.intro; focus (first | omega | (simp; done)))
        exact ⟨⟨i + 1, _, _, by omega, by simp, by rw [htk]; exact hA, by rw [htk]; exact hE⟩, by omega⟩
    · obtain rfl : i = S.length := by omega
      rw [List.drop_length, List.take_length] at hE
      rw [List.take_length] at I
      have rt := I.rt
      have rm := I.rm
      simp (config := {maxSteps := 3000000}) only [go_sem, Nat.reduceEqDiff, Nat.reduceLT, Nat.reduceLeDiff, ↓reduceIte, Nat.reduceBEq, h17, I.tbox, I.rbox]
      exact ⟨_, _, Wk.refl _, I.lt.put.weak, .inr ⟨by rw [e0, hE]; rfl, mb, es, c, rfl, ⟨by rw [put_box_ne rm.symm]; exact I.mbox, I.mp⟩, weak_put I.weak hrb, I.lt.put, I.fm⟩⟩
end
end
section
open Go

def bitsTab : ByteArray := ({ data := (([0, 1, 2, 2, 3, 3, 3, 3, 4, 4, 4, 4, 4, 4, 4, 4, 5, 5, 5, 5, 5, 5, 5, 5, 5, 5, 5, 5, 5, 5, 5, 5, 6, 6, 6, 6, 6, 6, 6, 6, 6, 6, 6, 6, 6, 6, 6, 6, 6, 6, 6, 6, 6, 6, 6, 6, 6, 6, 6, 6, 6, 6, 6, 6].append [7, 7, 7, 7, 7, 7, 7, 7, 7, 7, 7, 7, 7, 7, 7, 7, 7, 7, 7, 7, 7, 7, 7, 7, 7, 7, 7, 7, 7, 7, 7, 7, 7, 7, 7, 7, 7, 7, 7, 7, 7, 7, 7, 7, 7, 7, 7, 7, 7, 7, 7, 7, 7, 7, 7, 7, 7, 7, 7, 7, 7, 7, 7, 7]).append ([8, 8, 8, 8, 8, 8, 8, 8, 8, 8, 8, 8, 8, 8, 8, 8, 8, 8, 8, 8, 8, 8, 8, 8, 8, 8, 8, 8, 8, 8, 8, 8, 8, 8, 8, 8, 8, 8, 8, 8, 8, 8, 8, 8, 8, 8, 8, 8, 8, 8, 8, 8, 8, 8, 8, 8, 8, 8, 8, 8, 8, 8, 8, 8].append [8, 8, 8, 8, 8, 8, 8, 8, 8, 8, 8, 8, 8, 8, 8, 8, 8, 8, 8, 8, 8, 8, 8, 8, 8, 8, 8, 8, 8, 8, 8, 8, 8, 8, 8, 8, 8, 8, 8, 8, 8, 8, 8, 8, 8, 8, 8, 8, 8, 8, 8, 8, 8, 8, 8, 8, 8, 8, 8, 8, 8, 8, 8, 8])).toArray })
def BLen64 (T : ByteArray) : FC := ⟨25, .seq (.reg [⟨some 2, .mv (.c (.sc (.int .i64 0))), none, []⟩]) (.seq (.seq (.reg [⟨some 3, .mv (.t 0), none, []⟩, ⟨some 4, .bin .geq (.t 3) (.c (.sc (.int .u64 4294967296))), none, []⟩]) (.cond (.t 4) (.seq (.reg [⟨some 5, .mv (.t 0), none, []⟩, ⟨some 6, .bin .shr (.t 5) (.c (.sc (.int .u64 32))), none, []⟩, ⟨some 0, .mv (.t 6), none, []⟩]) (.reg [⟨some 2, .mv (.c (.sc (.int .i64 32))), none, []⟩])) .skip)) (.seq (.seq (.reg [⟨some 7, .mv (.t 0), none, []⟩, ⟨some 8, .bin .geq (.t 7) (.c (.sc (.int .u64 65536))), none, []⟩]) (.cond (.t 8) (.seq (.reg [⟨some 9, .mv (.t 0), none, []⟩, ⟨some 10, .bin .shr (.t 9) (.c (.sc (.int .u64 16))), none, []⟩, ⟨some 0, .mv (.t 10), none, []⟩]) (.reg [⟨some 11, .mv (.t 2), none, []⟩, ⟨some 12, .bin .add (.t 11) (.c (.sc (.int .i64 16))), none, []⟩, ⟨some 2, .mv (.t 12), none, []⟩])) .skip)) (.seq (.seq (.reg [⟨some 13, .mv (.t 0), none, []⟩, ⟨some 14, .bin .geq (.t 13) (.c (.sc (.int .u64 256))), none, []⟩]) (.cond (.t 14) (.seq (.reg [⟨some 15, .mv (.t 0), none, []⟩, ⟨some 16, .bin .shr (.t 15) (.c (.sc (.int .u64 8))), none, []⟩, ⟨some 0, .mv (.t 16), none, []⟩]) (.reg [⟨some 17, .mv (.t 2), none, []⟩, ⟨some 18, .bin .add (.t 17) (.c (.sc (.int .i64 8))), none, []⟩, ⟨some 2, .mv (.t 18), none, []⟩])) .skip)) (.seq (.reg [⟨some 19, .mv (.t 2), none, []⟩, ⟨some 20, .mv (.t 0), none, []⟩, ⟨some 21, .conv .u8 (.t 20), none, []⟩, ⟨some 22, .sidx (.c (.sc (.string T))) (.t 21), none, []⟩, ⟨some 23, .conv .i64 (.t 22), none, []⟩, ⟨some 24, .bin .add (.t 19) (.t 23), none, []⟩, ⟨some 2, .mv (.t 24), none, []⟩]) .ret)))), [.tmp 2]⟩
def BLen (flen32 flen64 : FuncId) : FC := ⟨8, .seq (.reg [⟨some 2, .mv (.c (.sc (.int .i64 0))), none, []⟩]) (.seq (.cond (.c (.sc (.bool false))) (.seq (.reg [⟨some 3, .mv (.t 0), none, []⟩, ⟨some 4, .conv .u32 (.t 3), none, []⟩, ⟨some 5, .call flen32 [.t 4], none, []⟩, ⟨some 2, .mv (.t 5), none, []⟩]) .ret) .skip) (.seq (.reg [⟨some 6, .mv (.t 0), none, []⟩, ⟨some 7, .call flen64 [.t 6], none, []⟩, ⟨some 2, .mv (.t 7), none, []⟩]) .ret)), [.tmp 2]⟩
def BPow (flen : FuncId) : FC := ⟨7, .seq (.reg [⟨some 2, .mv (.c (.sc (.int .u64 0))), none, []⟩]) (.seq (.reg [⟨some 3, .mv (.t 0), none, []⟩, ⟨some 4, .conv .u64 (.t 3), none, []⟩, ⟨some 5, .call flen [.t 4], none, []⟩, ⟨some 6, .bin .shl (.c (.sc (.int .u64 1))) (.t 5), none, []⟩, ⟨some 2, .mv (.t 6), none, []⟩]) .ret), [.tmp 2]⟩
def BNext : FC := ⟨33, .seq (.reg [⟨some 2, .mv (.c (.sc (.int .u64 0))), none, []⟩]) (.seq (.reg [⟨some 3, .mv (.t 0), none, []⟩, ⟨some 4, .nilck (.t 3), none, []⟩, ⟨some 5, .load none (.t 4), none, []⟩, ⟨some 6, .mv (.t 0), none, []⟩, ⟨some 7, .nilck (.t 6), none, []⟩, ⟨some 8, .load none (.t 7), none, []⟩, ⟨some 9, .bin .shl (.t 8) (.c (.sc (.int .u64 13))), none, []⟩, ⟨some 10, .bin .xor (.t 5) (.t 9), none, []⟩, ⟨some 11, .nilck (.t 3), none, []⟩, ⟨none, .store 1 (.t 11) (.t 10), none, []⟩]) (.seq (.reg [⟨some 12, .mv (.t 0), none, []⟩, ⟨some 13, .nilck (.t 12), none, []⟩, ⟨some 14, .load none (.t 13), none, []⟩, ⟨some 15, .mv (.t 0), none, []⟩, ⟨some 16, .nilck (.t 15), none, []⟩, ⟨some 17, .load none (.t 16), none, []⟩, ⟨some 18, .bin .shr (.t 17) (.c (.sc (.int .u64 7))), none, []⟩, ⟨some 19, .bin .xor (.t 14) (.t 18), none, []⟩, ⟨some 20, .nilck (.t 12), none, []⟩, ⟨none, .store 1 (.t 20) (.t 19), none, []⟩]) (.seq (.reg [⟨some 21, .mv (.t 0), none, []⟩, ⟨some 22, .nilck (.t 21), none, []⟩, ⟨some 23, .load none (.t 22), none, []⟩, ⟨some 24, .mv (.t 0), none, []⟩, ⟨some 25, .nilck (.t 24), none, []⟩, ⟨some 26, .load none (.t 25), none, []⟩, ⟨some 27, .bin .shl (.t 26) (.c (.sc (.int .u64 17))), none, []⟩, ⟨some 28, .bin .xor (.t 23) (.t 27), none, []⟩, ⟨some 29, .nilck (.t 21), none, []⟩, ⟨none, .store 1 (.t 29) (.t 28), none, []⟩]) (.seq (.reg [⟨some 30, .mv (.t 0), none, []⟩, ⟨some 31, .nilck (.t 30), none, []⟩, ⟨some 32, .load none (.t 31), none, []⟩, ⟨some 2, .mv (.t 32), none, []⟩]) .ret)))), [.tmp 2]⟩
end
section
open Go

/-- The table of lengths. -/
def TabOk (T : ByteArray) : Prop := ∀ x : Nat, x < 256 → ∃ t : Nat, (bytesOf T)[x]? = some (t : Int) ∧ t ≤ 8 ∧ x < 2 ^ t ∧ (x = 0 ∨ 2 ^ t ≤ 2 * x)
theorem tab_all : (List.range 256).all (fun x => match (bytesOf bitsTab)[x]? with | some t => decide (0 ≤ t ∧ t ≤ 8 ∧ x < 2 ^ t.toNat ∧ (x = 0 ∨ 2 ^ t.toNat ≤ 2 * x)) | none => false) = true := by kernel_rfl
theorem tab_ok : TabOk bitsTab := fun x hx => by
  have h := List.all_eq_true.1 tab_all x (List.mem_range.2 hx)
  cases e : (bytesOf bitsTab)[x]? with
  | none => simp [e] at h
  | some t =>
    simp only [e, decide_eq_true_eq] at h
    exact ⟨t.toNat, by rw [show ((t.toNat : Nat) : Int) = t by omega], by omega, h.2.2.1, h.2.2.2⟩
theorem pow_in {k n t x y : Nat} (hk : k = n + t) {p : Nat} (hp : p = 2 ^ n) (h1 : y * p ≤ x) (h2 : x < (y + 1) * p) (h3 : y < 2 ^ t) (h4 : y = 0 ∨ 2 ^ t ≤ 2 * y) : x < 2 ^ k ∧ (y = 0 ∨ 2 ^ k ≤ 2 * x) := by
  subst hk hp
  rw [Nat.pow_add]
  refine ⟨Nat.lt_of_lt_of_le h2 (by rw [Nat.mul_comm]; exact Nat.mul_le_mul_left _ h3), ?_⟩
  rcases h4 with h4 | h4
  · exact .inl h4
  · refine .inr (Nat.le_trans (Nat.mul_le_mul_left (2 ^ n) h4) ?_)
    rw [← Nat.mul_assoc, Nat.mul_comm (2 ^ n) 2, Nat.mul_assoc]
    exact Nat.mul_le_mul_left 2 (by rw [Nat.mul_comm]; exact h1)
theorem weak_ne {st : St} {b : Nat} {X Y : List V} (h : (st.put b X).Wf) : (st.put b Y).weak (st.put b Y) := by
  have := (h.lt.put (b := b) (cs := Y)).weak
  rwa [put_put] at this
section
variable {P : Program} {st : St} {f flen flen32 flen64 : FuncId} {T : ByteArray}
set_option maxRecDepth 100000 in
set_option maxHeartbeats 16000000 in
theorem blen64_v (hf : cFun P f = some (BLen64 T)) (hT : TabOk T) {x : Nat} (hx : x < 18446744073709551616) :
    VCalls P f [.sc (.int .u64 x)] st fun v s => st = s ∧ ∃ k : Nat, k ≤ 64 ∧ x < 2 ^ k ∧ (x = 0 ∨ 2 ^ k ≤ 2 * x) ∧ v = .sc (.int .i64 k) := by
  refine vcalls_enter hf (Nat.le_of_ble_eq_true rfl) fun hwf hok => ?_
  show Run _ (BLen64 T).body (.fin (finQ (BLen64 T).res _)) _ _
  unfold BLen64
  by_cases c0 : (4294967296 : Int) ≤ (x : Int)
  · obtain ⟨a, ea⟩ : ∃ y : Nat, y = x / 4294967296 := ⟨_, rfl⟩
    have ia : (x : Int) / 4294967296 = (a : Int) := by omega
    by_cases c1 : (65536 : Int) ≤ (a : Int)
    · obtain ⟨b, eb⟩ : ∃ y : Nat, y = a / 65536 := ⟨_, rfl⟩
      have ib : (a : Int) / 65536 = (b : Int) := by omega
      by_cases c2 : (256 : Int) ≤ (b : Int)
      · obtain ⟨c, ec⟩ : ∃ y : Nat, y = b / 256 := ⟨_, rfl⟩
        have ic : (b : Int) / 256 = (c : Int) := by omega
        obtain ⟨t, ht, t8, t1, t2⟩ := hT c (by omega)
        have em : (c : Int) % 256 = (c : Int) := by omega
        simp (config := {maxSteps := 3000000}) only [go_sem, Nat.reduceEqDiff, Nat.reduceLeDiff, Int.reduceToNat, Int.reduceLE, Int.reducePow, Int.reduceAdd, Int.reduceNeg, ↓reduceIte, reduceCtorEq, decide_eq_true c0, ia, decide_eq_true c1, ib, decide_eq_true c2, ic, em, ht]
        repeat (apply And.intro; focus (first | omega | (simp; done)))
        have hp := pow_in (k := 56 + t) (n := 56) (x := x) (y := c) rfl (p := 72057594037927936) (by decide) (by omega) (by omega) t1 t2
        exact ⟨_, _, Wk.refl _, hwf.weak, rfl, 56 + t, by omega, hp.1, by omega, by simp⟩
      · obtain ⟨t, ht, t8, t1, t2⟩ := hT b (by omega)
        have em : (b : Int) % 256 = (b : Int) := by omega
        simp (config := {maxSteps := 3000000}) only [go_sem, Nat.reduceEqDiff, Nat.reduceLeDiff, Int.reduceToNat, Int.reduceLE, Int.reducePow, Int.reduceAdd, Int.reduceNeg, ↓reduceIte, reduceCtorEq, decide_eq_true c0, ia, decide_eq_true c1, ib, decide_eq_false c2, em, ht]
        repeat (apply And.intro; focus (first | omega | (simp; done)))
        have hp := pow_in (k := 48 + t) (n := 48) (x := x) (y := b) rfl (p := 281474976710656) (by decide) (by omega) (by omega) t1 t2
        exact ⟨_, _, Wk.refl _, hwf.weak, rfl, 48 + t, by omega, hp.1, by omega, by simp⟩
    · by_cases c2 : (256 : Int) ≤ (a : Int)
      · obtain ⟨c, ec⟩ : ∃ y : Nat, y = a / 256 := ⟨_, rfl⟩
        have ic : (a : Int) / 256 = (c : Int) := by omega
        obtain ⟨t, ht, t8, t1, t2⟩ := hT c (by omega)
        have em : (c : Int) % 256 = (c : Int) := by omega
        simp (config := {maxSteps := 3000000}) only [go_sem, Nat.reduceEqDiff, Nat.reduceLeDiff, Int.reduceToNat, Int.reduceLE, Int.reducePow, Int.reduceAdd, Int.reduceNeg, ↓reduceIte, reduceCtorEq, decide_eq_true c0, ia, decide_eq_false c1, decide_eq_true c2, ic, em, ht]
        repeat (apply And.intro; focus (first | omega | (simp; done)))
        have hp := pow_in (k := 40 + t) (n := 40) (x := x) (y := c) rfl (p := 1099511627776) (by decide) (by omega) (by omega) t1 t2
        exact ⟨_, _, Wk.refl _, hwf.weak, rfl, 40 + t, by omega, hp.1, by omega, by simp⟩
      · obtain ⟨t, ht, t8, t1, t2⟩ := hT a (by omega)
        have em : (a : Int) % 256 = (a : Int) := by omega
        simp (config := {maxSteps := 3000000}) only [go_sem, Nat.reduceEqDiff, Nat.reduceLeDiff, Int.reduceToNat, Int.reduceLE, Int.reducePow, Int.reduceNeg, ↓reduceIte, reduceCtorEq, decide_eq_true c0, ia, decide_eq_false c1, decide_eq_false c2, em, ht]
        repeat (apply And.intro; focus (first | omega | (simp; done)))
        have hp := pow_in (k := 32 + t) (n := 32) (x := x) (y := a) rfl (p := 4294967296) (by decide) (by omega) (by omega) t1 t2
        exact ⟨_, _, Wk.refl _, hwf.weak, rfl, 32 + t, by omega, hp.1, by omega, by simp⟩
  · by_cases c1 : (65536 : Int) ≤ (x : Int)
    · obtain ⟨b, eb⟩ : ∃ y : Nat, y = x / 65536 := ⟨_, rfl⟩
      have ib : (x : Int) / 65536 = (b : Int) := by omega
      by_cases c2 : (256 : Int) ≤ (b : Int)
      · obtain ⟨c, ec⟩ : ∃ y : Nat, y = b / 256 := ⟨_, rfl⟩
        have ic : (b : Int) / 256 = (c : Int) := by omega
        obtain ⟨t, ht, t8, t1, t2⟩ := hT c (by omega)
        have em : (c : Int) % 256 = (c : Int) := by omega
        simp (config := {maxSteps := 3000000}) only [go_sem, Nat.reduceEqDiff, Nat.reduceLeDiff, Int.reduceToNat, Int.reduceLE, Int.reducePow, Int.reduceAdd, Int.reduceNeg, ↓reduceIte, reduceCtorEq, decide_eq_false c0, decide_eq_true c1, ib, decide_eq_true c2, ic, em, ht]
        repeat (apply And.intro; focus (first | omega | (simp; done)))
        have hp := pow_in (k := 24 + t) (n := 24) (x := x) (y := c) rfl (p := 16777216) (by decide) (by omega) (by omega) t1 t2
        exact ⟨_, _, Wk.refl _, hwf.weak, rfl, 24 + t, by omega, hp.1, by omega, by simp⟩
      · obtain ⟨t, ht, t8, t1, t2⟩ := hT b (by omega)
        have em : (b : Int) % 256 = (b : Int) := by omega
        simp (config := {maxSteps := 3000000}) only [go_sem, Nat.reduceEqDiff, Nat.reduceLeDiff, Int.reduceToNat, Int.reduceLE, Int.reducePow, Int.reduceAdd, Int.reduceNeg, ↓reduceIte, reduceCtorEq, decide_eq_false c0, decide_eq_true c1, ib, decide_eq_false c2, em, ht]
        repeat (apply And.intro; focus (first | omega | (simp; done)))
        have hp := pow_in (k := 16 + t) (n := 16) (x := x) (y := b) rfl (p := 65536) (by decide) (by omega) (by omega) t1 t2
        exact ⟨_, _, Wk.refl _, hwf.weak, rfl, 16 + t, by omega, hp.1, by omega, by simp⟩
    · by_cases c2 : (256 : Int) ≤ (x : Int)
      · obtain ⟨c, ec⟩ : ∃ y : Nat, y = x / 256 := ⟨_, rfl⟩
        have ic : (x : Int) / 256 = (c : Int) := by omega
        obtain ⟨t, ht, t8, t1, t2⟩ := hT c (by omega)
        have em : (c : Int) % 256 = (c : Int) := by omega
        simp (config := {maxSteps := 3000000}) only [go_sem, Nat.reduceEqDiff, Nat.reduceLeDiff, Int.reduceToNat, Int.reduceLE, Int.reducePow, Int.reduceAdd, Int.reduceNeg, ↓reduceIte, reduceCtorEq, decide_eq_false c0, decide_eq_false c1, decide_eq_true c2, ic, em, ht]
        repeat (apply And.intro; focus (first | omega | (simp; done)))
        have hp := pow_in (k := 8 + t) (n := 8) (x := x) (y := c) rfl (p := 256) (by decide) (by omega) (by omega) t1 t2
        exact ⟨_, _, Wk.refl _, hwf.weak, rfl, 8 + t, by omega, hp.1, by omega, by simp⟩
      · obtain ⟨t, ht, t8, t1, t2⟩ := hT x (by omega)
        have em : (x : Int) % 256 = (x : Int) := by omega
        simp (config := {maxSteps := 3000000}) only [go_sem, Nat.reduceEqDiff, Int.reduceNeg, ↓reduceIte, reduceCtorEq, decide_eq_false c0, decide_eq_false c1, decide_eq_false c2, em, ht]
        repeat (apply And.intro; focus (first | omega | (simp; done)))
        have hp := pow_in (k := 0 + t) (n := 0) (x := x) (y := x) rfl (p := 1) (by decide) (by omega) (by omega) t1 t2
        exact ⟨_, _, Wk.refl _, hwf.weak, rfl, 0 + t, by omega, hp.1, by omega, by simp⟩
set_option maxRecDepth 100000 in
set_option maxHeartbeats 4000000 in
theorem blen_v (hf : cFun P f = some (BLen flen32 flen64)) (h64 : cFun P flen64 = some (BLen64 T)) (hT : TabOk T) {x : Nat} (hx : x < 18446744073709551616) :
    VCalls P f [.sc (.int .u64 x)] st fun v s => st = s ∧ ∃ k : Nat, k ≤ 64 ∧ x < 2 ^ k ∧ (x = 0 ∨ 2 ^ k ≤ 2 * x) ∧ v = .sc (.int .i64 k) := by
  refine vcalls_enter hf (Nat.le_of_ble_eq_true rfl) fun hwf hok => ?_
  show Run _ (BLen flen32 flen64).body (.fin (finQ (BLen flen32 flen64).res _)) _ _
  unfold BLen
  simp (config := {maxSteps := 3000000}) only [go_sem, ↓reduceIte, reduceCtorEq]
  refine Cal.mk (blen64_v h64 hT hx) ?_
  rintro _ _ ⟨rfl, k, h1, h2, h3, rfl⟩ -
  simp (config := {maxSteps := 3000000}) only [go_sem, ↓reduceIte]
  exact ⟨_, _, Wk.refl _, hwf.weak, rfl, k, h1, h2, h3, rfl⟩
set_option maxRecDepth 100000 in
set_option maxHeartbeats 4000000 in
theorem bpow_v (hf : cFun P f = some (BPow flen)) (hfl : cFun P flen = some (BLen flen32 flen64)) (h64 : cFun P flen64 = some (BLen64 T)) (hT : TabOk T) {n : Nat} (h0 : 0 < n) (hn : n < 4611686018427387904) :
    VCalls P f [.sc (.int .i64 n)] st fun v s => st = s ∧ ∃ m : Nat, n < m ∧ m ≤ 2 * n ∧ v = .sc (.int .u64 m) := by
  have en : (n : Int) % 18446744073709551616 = (n : Int) := by omega
  refine vcalls_enter hf (Nat.le_of_ble_eq_true rfl) fun hwf hok => ?_
  show Run _ (BPow flen).body (.fin (finQ (BPow flen).res _)) _ _
  unfold BPow
  simp (config := {maxSteps := 3000000}) only [go_sem, ↓reduceIte, reduceCtorEq, en]
  refine Cal.mk (blen_v hfl h64 hT (x := n) (by omega)) ?_
  rintro _ _ ⟨rfl, k, h1, h2, h3, rfl⟩ -
  have h4 : 2 ^ k ≤ 2 * n := by omega
  have em : ((1 : Int) * 2 ^ min ((k : Int)).toNat 64) % 18446744073709551616 = ((2 ^ k : Nat) : Int) := by
    rw [Int.toNat_natCast, Nat.min_eq_left h1, Int.one_mul]
    have e2 : (2 : Int) ^ k = ((2 ^ k : Nat) : Int) := by simp
    rw [e2]
    have : 2 ^ k < 18446744073709551616 := by omega
    generalize 2 ^ k = q at this ⊢
    omega
  simp only [Int.toNat_natCast, Int.one_mul, Nat.min_eq_left h1] at em
  simp (config := {maxSteps := 3000000}) only [go_sem, ↓reduceIte, em, Int.one_mul, Nat.min_eq_left h1]
  repeat (apply And.intro; focus (first | omega | (simp; done)))
  exact ⟨_, _, Wk.refl _, hwf.weak, rfl, 2 ^ k, h2, h4, by first | rfl | simp⟩
set_option maxRecDepth 100000 in
set_option maxHeartbeats 4000000 in
theorem bnext_v (hf : cFun P f = some BNext) (st : St) (r : Nat) (x : Int) : VCalls P f [ptrV r] (st.put r [.sc (.int .u64 x)]) fun v s => ∃ y, v = .sc (.int .u64 y) ∧ s = st.put r [.sc (.int .u64 y)] := by
  refine vcalls_enter hf (Nat.le_of_ble_eq_true rfl) fun hwf hok => ?_
  show Run _ (BNext).body (.fin (finQ (BNext).res _)) _ _
  unfold BNext
  simp (config := {maxSteps := 3000000}) only [go_sem, Nat.reduceEqDiff, Nat.reduceLT, Nat.reduceLeDiff, Int.reduceToNat, Int.reduceLE, Int.reducePow, ↓reduceIte, reduceCtorEq]
  exact ⟨_, _, Wk.refl _, weak_ne hwf, _, rfl, rfl⟩
end
end
section
open Go

section
variable {st : St} {tk : Tk} {b kb hb : Nat} {first many lim most : Int} {fv : Value} {kept : List (Int × ByteArray)} {kes hes : List (V × V × Nat)} {kc hc : Nat}
set_option maxRecDepth 100000 in
theorem insA0_v : VCalls Try.prog 96 [.sl tk [], .sc (.int .i64 0), .sc (.int .i64 0)] st fun _ s => st = s := by
  refine vcalls_enter vc96 (Nat.le_of_ble_eq_true rfl) fun hwf hok => ?_
  show Run _ Vc96.body (.fin (finQ Vc96.res _)) _ _
  unfold Vc96
  simp (config := {maxSteps := 3000000}) only [go_sem, Int.reduceLE, Int.reduceAdd, Int.reduceNeg, ↓reduceIte]
  refine run_loop [6, 7, 10, 11, 12, 13, 14, 15, 16, 17, 18, 19, 20, 21, 22, 23, 24, 25, 26, 27, 28, 29, 30, 31, 32, 33, 34, 35, 36, 37, 38, 39, 40, 41, 42, 43, 44, 45, 46, 47, 48] (fun B s => B 6 = .sc (.int .i64 1) ∧ s = st) (fun B _ => 0) rfl ?_ ?_
  · simp (config := {maxSteps := 3000000}) only [go_sem, ↓reduceIte]
  · rintro B s ⟨h6, rfl⟩
    simp (config := {maxSteps := 3000000}) only [go_sem, Nat.reduceEqDiff, Int.reduceLT, ↓reduceIte, Nat.reduceBEq, h6]
    exact ⟨_, _, Wk.refl _, hwf.weak, rfl⟩
set_option maxRecDepth 100000 in
theorem pdqA0_v : VCalls Try.prog 82 [.sl tk [], .sc (.int .i64 0), .sc (.int .i64 0), .sc (.int .i64 lim)] st fun _ s => st = s := by
  refine vcalls_enter vc82 (Nat.le_of_ble_eq_true rfl) fun hwf hok => ?_
  show Run _ Vc82.body (.fin (finQ Vc82.res _)) _ _
  unfold Vc82
  simp (config := {maxSteps := 3000000}) only [go_sem]
  refine run_loop [1, 2, 3, 8, 9, 10, 11, 12, 13, 14, 15, 16, 17, 18, 19, 20, 21, 22, 23, 24, 25, 26, 27, 28, 29, 30, 31, 32, 33, 34, 35, 36, 37, 38, 39, 40, 41, 42, 43, 44, 45, 46, 47, 48, 49, 50, 51, 52, 53, 54, 55, 56, 57, 58, 59, 60, 61, 62, 63, 64, 65, 66, 67, 68, 69, 70, 71, 72, 73, 74, 75, 76, 77, 78, 79, 80, 81, 82, 83, 84, 85, 86, 87, 88, 89, 90, 91, 92, 93, 94, 95, 96, 97, 98, 99, 100, 101, 102, 103, 104, 105, 106, 107, 108, 109, 110, 111, 112, 113, 114, 115, 116, 117, 118, 119, 120, 121, 122, 123, 124, 125, 126, 127, 128, 129, 130, 131, 132, 133] (fun B s => B 1 = .sc (.int .i64 0) ∧ B 2 = .sc (.int .i64 0) ∧ s = st) (fun B _ => 0) rfl ?_ ?_
  · simp (config := {maxSteps := 3000000}) only [go_sem, Nat.reduceEqDiff, ↓reduceIte]
  · rintro B s ⟨h1, h2, rfl⟩
    simp (config := {maxSteps := 3000000}) only [go_sem, Nat.reduceEqDiff, Int.reduceLE, Int.reduceSub, Int.reduceNeg, ↓reduceIte, reduceCtorEq, Nat.reduceBEq, h1, h2]
    refine Cal.mk insA0_v ?_
    rintro _ _ rfl -
    simp (config := {maxSteps := 3000000}) only [go_sem]
    exact ⟨_, _, Wk.refl _, hwf.weak, rfl⟩
set_option maxRecDepth 100000 in
theorem sortA00_v : VCalls Try.prog 68 [.sl tk []] st fun _ s => st = s := by
  refine vcalls_enter vc68 (Nat.le_of_ble_eq_true rfl) fun hwf hok => ?_
  show Run _ Vc68.body (.fin (finQ Vc68.res _)) _ _
  unfold Vc68
  simp (config := {maxSteps := 3000000}) only [go_sem, Nat.reduceEqDiff, ↓reduceIte, reduceCtorEq]
  refine Cal.mk (blen_v vc79 vc95 tab_ok (x := 0) (by omega)) ?_
  rintro _ _ ⟨rfl, k, k1, k2, k3, rfl⟩ -
  simp (config := {maxSteps := 3000000}) only [go_sem, Nat.reduceEqDiff, ↓reduceIte]
  refine Cal.mk pdqA0_v ?_
  rintro _ _ rfl -
  simp (config := {maxSteps := 3000000}) only [go_sem]
  exact ⟨_, _, Wk.refl _, hwf.weak, rfl⟩
set_option maxRecDepth 100000 in
theorem held0_v (h : PoolB st b kb hb first many kept [] kes hes kc hc) : VCalls Try.prog 44 [ptrV b] st fun r s => r = .sl .no [] ∧ st = s := by
  refine vcalls_enter vc44 (Nat.le_of_ble_eq_true rfl) fun hwf hok => ?_
  show Run _ Vc44.body (.fin (finQ Vc44.res _)) _ _
  unfold Vc44
  have hlt := hwf.lt
  have hms := hlt.box hb _ h.held.box
  have hbs := hlt.box b _ h.box
  have he : hes = [] := by have := h.held.mp.len; exact List.eq_nil_of_length_eq_zero this
  subst he
  have nc0 : ((0 : Nat) : Int) = 0 := rfl
  simp (config := {maxSteps := 3000000}) only [go_sem, ↓reduceIte, reduceCtorEq, h.box, h.held.box]
  repeat (apply And.intro; focus (first | omega | (simp; done)))
  refine Mkr.own ?_
  intro g hg
  have U : st.weak (st.use g 0) := (RO.use0' (size := 1) hwf.weak hlt hg).weak
  have UL : (st.use g 0).Lt := (RO.use0' (size := 1) hwf.weak hlt hg).lt
  generalize st.use g 0 = s1 at U UL ⊢
  have hb1 := (U.box b _ h.box).1
  have hh1 := (U.box hb _ h.held.box).1
  have hhl := UL.box hb _ hh1
  simp (config := {maxSteps := 3000000}) only [go_sem, ↓reduceIte, reduceCtorEq, hb1, hh1]
  intro r hr
  have rh : hb ≠ r := by omega
  have W2 : st.weak (s1.put r [.it (some hb) hc [] hc]) := weak_put U (by have := U.sz; omega)
  have hr2 : (s1.put r [.it (some hb) hc [] hc]).box r = some [.it (some hb) hc [] hc] := put_box_same
  have hh2 : (s1.put r [.it (some hb) hc [] hc]).box hb = some [.mp false [.int .u32] [] hc] := by rw [put_box_ne rh]; exact hh1
  generalize s1.put r [.it (some hb) hc [] hc] = s2 at W2 hr2 hh2 ⊢
  refine run_loop [3, 4, 16, 17, 18, 19, 20, 21, 22, 23] (fun B s => B 3 = .sl (.own g 1) [] ∧ s = s2) (fun _ _ => 0) rfl ?_ ?_
  · simp (config := {maxSteps := 3000000}) only [go_sem, Nat.reduceEqDiff, ↓reduceIte]
  · rintro B s ⟨h3, rfl⟩
    simp (config := {maxSteps := 3000000}) only [go_sem, ↓reduceIte, Nat.reduceBEq]
    refine Nxt.mk (m := hb) hr2 hh2 (fun e he => by cases he) (Nat.le_refl _) ?_ ?_
    rotate_left
    · intro e he
      cases he
    · intro hall
      simp (config := {maxSteps := 3000000}) only [go_sem, Nat.reduceEqDiff, ↓reduceIte, Nat.reduceBEq, h3]
      refine Cal.mk sortA00_v ?_
      rintro _ _ rfl -
      simp (config := {maxSteps := 3000000}) only [go_sem, Nat.reduceEqDiff, ↓reduceIte, Nat.reduceBEq, h3]
      exact ⟨_, _, Wk.no, W2, rfl, rfl⟩
/-- A table of nothing. -/
structure TblE (s : St) (b mb : Nat) (most : Int) (c : Nat) : Prop where
  box : s.box b = some [.sc (.map (some mb)), .sc (.int .i64 most)]
  mbox : s.box mb = some [.mp true [.int .i64, .int .u16] [] c]
set_option maxRecDepth 100000 in
theorem tabNew_v : VCalls Try.prog 40 [.sc (.int .i64 most)] st fun v s => ∃ b mb, v = ptrV b ∧ TblE s b mb most 0 ∧ st.weak s ∧ s.Lt ∧ st.sz ≤ b ∧ st.sz ≤ mb := by
  refine vcalls_enter vc40 (Nat.le_of_ble_eq_true rfl) fun hwf hok => ?_
  show Run _ Vc40.body (.fin (finQ Vc40.res _)) _ _
  unfold Vc40
  have hlt := hwf.lt
  simp (config := {maxSteps := 3000000}) only [go_sem, Nat.reduceEqDiff, Nat.reduceAdd, Nat.reduceLT, Nat.reduceLeDiff, ↓reduceIte, reduceCtorEq]
  intro mb hmb b hb
  have hmb2 : mb < b := by omega
  have hb2 : st.sz ≤ b := by omega
  clear hb
  exact ⟨_, _, Wk.refl _, hlt.put.put.weak, b, mb, rfl, ⟨put_box_same, by rw [put_box_ne (by omega), put_box_same]⟩, weak_put (weak_put hwf.weak hmb) hb2, hlt.put.put, hb2, hmb⟩
set_option maxRecDepth 100000 in
theorem insK0_v : VCalls Try.prog 86 [.sl tk [], .sc (.int .i64 0), .sc (.int .i64 0), .sc fv] st fun _ s => st = s := by
  refine vcalls_enter vc86 (Nat.le_of_ble_eq_true rfl) fun hwf hok => ?_
  show Run _ Vc86.body (.fin (finQ Vc86.res _)) _ _
  unfold Vc86
  simp (config := {maxSteps := 3000000}) only [go_sem, Int.reduceLE, Int.reduceAdd, Int.reduceNeg, ↓reduceIte]
  refine run_loop [8, 9, 12, 13, 14, 15, 16, 17, 18, 19, 20, 21, 22, 23, 24, 25, 26, 27, 28, 29, 30, 31, 32, 33, 34, 35, 36, 37, 38, 39, 40, 41, 42, 43, 44, 45, 46, 47, 48, 49, 50, 51, 52] (fun B s => B 8 = .sc (.int .i64 1) ∧ s = st) (fun B _ => 0) rfl ?_ ?_
  · simp (config := {maxSteps := 3000000}) only [go_sem, ↓reduceIte]
  · rintro B s ⟨h6, rfl⟩
    simp (config := {maxSteps := 3000000}) only [go_sem, Nat.reduceEqDiff, Int.reduceLT, ↓reduceIte, Nat.reduceBEq, h6]
    exact ⟨_, _, Wk.refl _, hwf.weak, rfl⟩
set_option maxRecDepth 100000 in
theorem pdqK0_v : VCalls Try.prog 78 [.sl tk [], .sc (.int .i64 0), .sc (.int .i64 0), .sc (.int .i64 lim), .sc fv] st fun _ s => st = s := by
  refine vcalls_enter vc78 (Nat.le_of_ble_eq_true rfl) fun hwf hok => ?_
  show Run _ Vc78.body (.fin (finQ Vc78.res _)) _ _
  unfold Vc78
  simp (config := {maxSteps := 3000000}) only [go_sem]
  refine run_loop [1, 2, 3, 10, 11, 12, 13, 14, 15, 16, 17, 18, 19, 20, 21, 22, 23, 24, 25, 26, 27, 28, 29, 30, 31, 32, 33, 34, 35, 36, 37, 38, 39, 40, 41, 42, 43, 44, 45, 46, 47, 48, 49, 50, 51, 52, 53, 54, 55, 56, 57, 58, 59, 60, 61, 62, 63, 64, 65, 66, 67, 68, 69, 70, 71, 72, 73, 74, 75, 76, 77, 78, 79, 80, 81, 82, 83, 84, 85, 86, 87, 88, 89, 90, 91, 92, 93, 94, 95, 96, 97, 98, 99, 100, 101, 102, 103, 104, 105, 106, 107, 108, 109, 110, 111, 112, 113, 114, 115, 116, 117, 118, 119, 120, 121, 122, 123, 124, 125, 126, 127, 128, 129, 130, 131, 132, 133, 134, 135, 136, 137, 138, 139, 140, 141, 142, 143, 144, 145, 146, 147] (fun B s => B 1 = .sc (.int .i64 0) ∧ B 2 = .sc (.int .i64 0) ∧ s = st) (fun B _ => 0) rfl ?_ ?_
  · simp (config := {maxSteps := 3000000}) only [go_sem, Nat.reduceEqDiff, ↓reduceIte]
  · rintro B s ⟨h1, h2, rfl⟩
    simp (config := {maxSteps := 3000000}) only [go_sem, Nat.reduceEqDiff, Int.reduceLE, Int.reduceSub, Int.reduceNeg, ↓reduceIte, reduceCtorEq, Nat.reduceBEq, h1, h2]
    refine Cal.mk insK0_v ?_
    rintro _ _ rfl -
    simp (config := {maxSteps := 3000000}) only [go_sem]
    exact ⟨_, _, Wk.refl _, hwf.weak, rfl⟩
set_option maxRecDepth 100000 in
theorem sortK00_v : VCalls Try.prog 63 [.sl tk [], .sc fv] st fun _ s => st = s := by
  refine vcalls_enter vc63 (Nat.le_of_ble_eq_true rfl) fun hwf hok => ?_
  show Run _ Vc63.body (.fin (finQ Vc63.res _)) _ _
  unfold Vc63
  simp (config := {maxSteps := 3000000}) only [go_sem, Nat.reduceEqDiff, ↓reduceIte, reduceCtorEq]
  refine Cal.mk (blen_v vc79 vc95 tab_ok (x := 0) (by omega)) ?_
  rintro _ _ ⟨rfl, k, k1, k2, k3, rfl⟩ -
  simp (config := {maxSteps := 3000000}) only [go_sem, Nat.reduceEqDiff, ↓reduceIte]
  refine Cal.mk pdqK0_v ?_
  rintro _ _ rfl -
  simp (config := {maxSteps := 3000000}) only [go_sem]
  exact ⟨_, _, Wk.refl _, hwf.weak, rfl⟩
set_option maxRecDepth 100000 in
theorem keys0_v (h : TblE st b hb most hc) : VCalls Try.prog 43 [ptrV b] st fun r s => r = .sl .no [] ∧ st = s := by
  refine vcalls_enter vc43 (Nat.le_of_ble_eq_true rfl) fun hwf hok => ?_
  show Run _ Vc43.body (.fin (finQ Vc43.res _)) _ _
  unfold Vc43
  have hlt := hwf.lt
  have hms := hlt.box hb _ h.mbox
  have hbs := hlt.box b _ h.box
  have nc0 : ((0 : Nat) : Int) = 0 := rfl
  simp (config := {maxSteps := 3000000}) only [go_sem, ↓reduceIte, reduceCtorEq, h.box, h.mbox]
  repeat (apply And.intro; focus (first | omega | (simp; done)))
  refine Mkr.own ?_
  intro g hg
  have U : st.weak (st.use g 0) := (RO.use0' (size := 2) hwf.weak hlt hg).weak
  have UL : (st.use g 0).Lt := (RO.use0' (size := 2) hwf.weak hlt hg).lt
  generalize st.use g 0 = s1 at U UL ⊢
  have hb1 := (U.box b _ h.box).1
  have hh1 := (U.box hb _ h.mbox).1
  have hhl := UL.box hb _ hh1
  simp (config := {maxSteps := 3000000}) only [go_sem, ↓reduceIte, reduceCtorEq, hb1, hh1]
  intro r hr
  have rh : hb ≠ r := by omega
  have W2 : st.weak (s1.put r [.it (some hb) hc [] hc]) := weak_put U (by have := U.sz; omega)
  have hr2 : (s1.put r [.it (some hb) hc [] hc]).box r = some [.it (some hb) hc [] hc] := put_box_same
  have hh2 : (s1.put r [.it (some hb) hc [] hc]).box hb = some [.mp true [.int .i64, .int .u16] [] hc] := by rw [put_box_ne rh]; exact hh1
  generalize s1.put r [.it (some hb) hc [] hc] = s2 at W2 hr2 hh2 ⊢
  refine run_loop [3, 4, 16, 17, 18, 19, 20, 21, 22, 23] (fun B s => B 3 = .sl (.own g 2) [] ∧ s = s2) (fun _ _ => 0) rfl ?_ ?_
  · simp (config := {maxSteps := 3000000}) only [go_sem, Nat.reduceEqDiff, ↓reduceIte]
  · rintro B s ⟨h3, rfl⟩
    simp (config := {maxSteps := 3000000}) only [go_sem, ↓reduceIte, Nat.reduceBEq]
    refine Nxt.mk (m := hb) hr2 hh2 (fun e he => by cases he) (Nat.le_refl _) ?_ ?_
    rotate_left
    · intro e he
      cases he
    · intro hall
      simp (config := {maxSteps := 3000000}) only [go_sem, Nat.reduceEqDiff, ↓reduceIte, Nat.reduceBEq, h3]
      refine Cal.mk sortK00_v ?_
      rintro _ _ rfl -
      simp (config := {maxSteps := 3000000}) only [go_sem, Nat.reduceEqDiff, ↓reduceIte, Nat.reduceBEq, h3]
      exact ⟨_, _, Wk.no, W2, rfl, rfl⟩
end
end
section
open Go

/-- Why there is no server of a config; 0: there is. -/
def cfE (me first many : Int) (S : List (ByteArray × Int)) (K : List Sec) (win : Int) (host : ByteArray) : Int :=
  if newE first many S ≠ 0 then newE first many S else if newS K ≠ 0 then newS K else if win < 1 ∨ 16 < win ∨ me = 0 then 13 else if 40 < host.size then 12 else 0
def RightC (me many : Int) (S : List (ByteArray × Int)) (K : List Sec) (win : Int) (host : ByteArray) : Prop :=
  1 ≤ win ∧ win ≤ 16 ∧ me ≠ 0 ∧ host.size ≤ 40 ∧ K.length ≤ 8 ∧ S.length ≤ 8 ∧ 0 ≤ many ∧ many ≤ 20
instance {me many : Int} {S : List (ByteArray × Int)} {K : List Sec} {win : Int} {host : ByteArray} : Decidable (RightC me many S K win host) := by unfold RightC; infer_instance
section
variable {st : St} {tk tk2 : Tk} {me p0 p1 p2 p3 first many d0 d1 win : Int} {S : List (ByteArray × Int)} {K : List Sec} {host : ByteArray}
theorem cfE_right (h : RightC me many S K win host) : cfE me first many S K win host = if newE first many S ≠ 0 then newE first many S else newS K := by
  obtain ⟨h1, h2, h3, h4, _⟩ := h
  unfold cfE
  rw [if_neg (show ¬ (win < 1 ∨ 16 < win ∨ me = 0) by omega), if_neg (show ¬ 40 < host.size by omega)]
  by_cases c : newS K ≠ 0
  · rw [if_pos c]
  · rw [if_neg c, Decidable.not_not.1 c]
theorem cfE_not (h : ¬ RightC me many S K win host) (hm : many ≤ 20) : cfE me first many S K win host ≠ 0 := by
  intro e
  apply h
  unfold cfE at e
  by_cases c1 : newE first many S ≠ 0
  · rw [if_pos c1] at e; exact absurd e c1
  rw [if_neg c1] at e
  by_cases c2 : newS K ≠ 0
  · rw [if_pos c2] at e; exact absurd e c2
  rw [if_neg c2] at e
  by_cases c3 : win < 1 ∨ 16 < win ∨ me = 0
  · rw [if_pos c3] at e; cases e
  rw [if_neg c3] at e
  by_cases c4 : 40 < host.size
  · rw [if_pos c4] at e; cases e
  have k1 : K.length ≤ 8 := by
    rcases Nat.lt_or_ge 8 K.length with k | k
    · exfalso; apply c2; unfold newS; rw [if_pos k]; decide
    · exact k
  have e1 : newE first many S = 0 := Decidable.not_not.1 c1
  unfold newE at e1
  by_cases c5 : many < 0 ∨ 64 < many
  · rw [if_pos c5] at e1; cases e1
  rw [if_neg c5] at e1
  by_cases c6 : (List.range many.toNat).any (badAt first) = true
  · rw [if_pos c6] at e1; cases e1
  rw [if_neg c6] at e1
  by_cases c7 : 8 < S.length
  · rw [if_pos c7] at e1; cases e1
  exact ⟨by omega, by omega, fun k => c3 (.inr (.inr k)), by omega, k1, by omega, by omega, hm⟩
set_option maxRecDepth 100000 in
theorem right43_v : VCalls Try.prog 41 [.agg [.sc (.int .u32 me), .sc (.int .u32 p0), .sc (.int .u32 p1), .sc (.int .u32 p2), .sc (.int .u32 p3), .sc (.int .u32 first), .sc (.int .i64 many), .sl tk (sts S), .sl tk2 (secs K), .sc (.int .u32 d0), .sc (.int .u32 d1), .sc (.int .i64 win), .sc (.string host)]] st fun r s => r = .sc (.bool (decide (RightC me many S K win host))) ∧ st = s := by
  refine vcalls_enter vc41 (Nat.le_of_ble_eq_true rfl) fun hwf hok => ?_
  show Run _ Vc41.body (.fin (finQ Vc41.res _)) _ _
  unfold Vc41
  simp (config := {maxSteps := 3000000}) only [go_sem, Nat.reduceEqDiff, Nat.reduceAdd, ↓reduceIte, reduceCtorEq]
  intro b hb
  have fin : ∀ {P : Prop} [Decidable P] {s : St}, st.weak s → (P ↔ RightC me many S K win host) → ∃ (r' : V) (st'' : St), Wk (.sc (.bool (decide P))) r' ∧ st''.weak s ∧ r' = .sc (.bool (decide (RightC me many S K win host))) ∧ st = st'' := fun {P _ s} hw h => ⟨_, _, Wk.refl _, hw, by rw [decide_eq_decide.2 h], rfl⟩
  have finF : ∀ {s : St}, st.weak s → ¬ RightC me many S K win host → ∃ (r' : V) (st'' : St), Wk (.sc (.bool false)) r' ∧ st''.weak s ∧ r' = .sc (.bool (decide (RightC me many S K win host))) ∧ st = st'' := fun {s} hw h => ⟨_, _, Wk.refl _, hw, by rw [decide_eq_false h], rfl⟩
  by_cases c1 : 1 ≤ win
  rotate_left
  · simp (config := {maxSteps := 3000000}) only [go_sem, Nat.reduceEqDiff, ↓reduceIte, decide_eq_false c1]
    exact finF (weak_put hwf.weak hb) (fun h => c1 h.1)
  by_cases c2 : win ≤ 16
  rotate_left
  · simp (config := {maxSteps := 3000000}) only [go_sem, Nat.reduceEqDiff, ↓reduceIte, decide_eq_true c1, decide_eq_false c2]
    exact finF (weak_put hwf.weak hb) (fun h => c2 h.2.1)
  by_cases c3 : me = 0
  · simp (config := {maxSteps := 3000000}) only [go_sem, Nat.reduceEqDiff, ↓reduceIte, decide_eq_true c1, decide_eq_true c2, decide_eq_false (show ¬ ¬ me = 0 from fun k => k c3)]
    exact finF (weak_put hwf.weak hb) (fun h => h.2.2.1 c3)
  by_cases c4 : (host.size : Int) ≤ 40
  rotate_left
  · simp (config := {maxSteps := 3000000}) only [go_sem, Nat.reduceEqDiff, ↓reduceIte, decide_eq_true c1, decide_eq_true c2, decide_eq_true (show ¬ me = 0 from c3), decide_eq_false c4]
    exact finF (weak_put hwf.weak hb) (fun h => c4 (by have := h.2.2.2.1; omega))
  by_cases c5 : (K.length : Int) ≤ 8
  rotate_left
  · simp (config := {maxSteps := 3000000}) only [go_sem, Nat.reduceEqDiff, ↓reduceIte, decide_eq_true c1, decide_eq_true c2, decide_eq_true (show ¬ me = 0 from c3), decide_eq_true c4, secs_len, decide_eq_false c5]
    exact finF (weak_put hwf.weak hb) (fun h => c5 (by have := h.2.2.2.2.1; omega))
  by_cases c6 : (S.length : Int) ≤ 8
  rotate_left
  · simp (config := {maxSteps := 3000000}) only [go_sem, Nat.reduceEqDiff, ↓reduceIte, decide_eq_true c1, decide_eq_true c2, decide_eq_true (show ¬ me = 0 from c3), decide_eq_true c4, secs_len, decide_eq_true c5, sts_len, decide_eq_false c6]
    exact finF (weak_put hwf.weak hb) (fun h => c6 (by have := h.2.2.2.2.2.1; omega))
  by_cases c7 : 0 ≤ many
  rotate_left
  · simp (config := {maxSteps := 3000000}) only [go_sem, Nat.reduceEqDiff, ↓reduceIte, decide_eq_true c1, decide_eq_true c2, decide_eq_true (show ¬ me = 0 from c3), decide_eq_true c4, secs_len, decide_eq_true c5, sts_len, decide_eq_true c6, decide_eq_false c7]
    exact finF (weak_put hwf.weak hb) (fun h => c7 h.2.2.2.2.2.2.1)
  simp (config := {maxSteps := 3000000}) only [go_sem, Nat.reduceEqDiff, ↓reduceIte, decide_eq_true c1, decide_eq_true c2, decide_eq_true (show ¬ me = 0 from c3), decide_eq_true c4, secs_len, decide_eq_true c5, sts_len, decide_eq_true c6, decide_eq_true c7]
  exact fin (weak_put hwf.weak hb) ⟨fun k => ⟨c1, c2, c3, by omega, by omega, by omega, c7, k⟩, fun k => k.2.2.2.2.2.2.2⟩
set_option maxRecDepth 100000 in
theorem refBytesG_v {a : Int} (h0 : 0 ≤ a) (h1 : a < 4294967296) : VCalls Try.prog 62 [.sc (.int .u32 a)] st fun r s => (∃ x y z, r = .agg [.sc (.int .u8 (a / 16777216)), .sc x, .sc y, .sc z]) ∧ st = s := by
  have e1 : a / 16777216 % 4294967296 % 256 = a / 16777216 := by omega
  refine vcalls_enter vc62 (Nat.le_of_ble_eq_true rfl) fun hwf hok => ?_
  show Run _ Vc62.body (.fin (finQ Vc62.res _)) _ _
  unfold Vc62
  simp (config := {maxSteps := 3000000}) only [go_sem, Nat.reduceEqDiff, Nat.reduceAdd, Nat.reduceLT, Nat.reduceLeDiff, Int.reduceLT, ↓reduceIte, reduceCtorEq, e1]
  intro b hb
  repeat (apply And.intro; focus (first | omega | (simp; done)))
  exact ⟨_, _, Wk.refl _, weak_put hwf.weak hb, ⟨_, _, _, rfl⟩, rfl⟩
set_option maxRecDepth 100000 in
theorem refHostG_v {a : Int} (h0 : 0 ≤ a) (h1 : a < 4294967296) : VCalls Try.prog 42 [.sc (.int .u32 a)] st fun r s => r = .sc (.bool (hostB a)) ∧ st = s := by
  refine vcalls_enter vc42 (Nat.le_of_ble_eq_true rfl) fun hwf hok => ?_
  show Run _ Vc42.body (.fin (finQ Vc42.res _)) _ _
  unfold Vc42
  simp (config := {maxSteps := 3000000}) only [go_sem, ↓reduceIte, reduceCtorEq]
  refine Cal.mk (refBytesG_v h0 h1) ?_
  rintro _ _ ⟨⟨x, y, z, rfl⟩, rfl⟩ -
  simp (config := {maxSteps := 3000000}) only [go_sem, Nat.reduceEqDiff, Nat.reduceAdd, Nat.reduceLT, Nat.reduceLeDiff, Int.reduceToNat, Int.reduceLE, ↓reduceIte]
  intro b hb
  unfold hostB
  by_cases c1 : a / 16777216 = 0
  · simp (config := {maxSteps := 3000000}) only [go_sem, Nat.reduceEqDiff, Int.reduceLT, Int.reduceEq, ↓reduceIte, c1, decide_false, decide_true]
    repeat (apply And.intro; focus (first | omega | (simp; done)))
    exact ⟨_, _, Wk.refl _, weak_put hwf.weak hb, by simp, rfl⟩
  by_cases c2 : a / 16777216 = 127
  · simp (config := {maxSteps := 3000000}) only [go_sem, Nat.reduceEqDiff, Int.reduceToNat, Int.reduceLE, Int.reduceLT, Int.reduceEq, ↓reduceIte, c2, decide_false, decide_true]
    repeat (apply And.intro; focus (first | omega | (simp; done)))
    exact ⟨_, _, Wk.refl _, weak_put hwf.weak hb, by simp, rfl⟩
  by_cases c3 : a / 16777216 < 224
  · simp (config := {maxSteps := 3000000}) only [go_sem, Nat.reduceEqDiff, Int.reduceToNat, Int.reduceLE, ↓reduceIte, decide_eq_true (show a / 16777216 ≠ 0 from c1), decide_eq_true (show a / 16777216 ≠ 127 from c2), decide_eq_true c3]
    repeat (apply And.intro; focus (first | omega | (simp; done)))
    exact ⟨_, _, Wk.refl _, weak_put hwf.weak hb, by simp, rfl⟩
  · simp (config := {maxSteps := 3000000}) only [go_sem, Nat.reduceEqDiff, Int.reduceToNat, Int.reduceLE, ↓reduceIte, decide_eq_true (show a / 16777216 ≠ 0 from c1), decide_eq_true (show a / 16777216 ≠ 127 from c2), decide_eq_false c3]
    repeat (apply And.intro; focus (first | omega | (simp; done)))
    exact ⟨_, _, Wk.refl _, weak_put hwf.weak hb, by simp, rfl⟩
theorem twiceG_iff {i : Nat} {x : ByteArray × Int} : ((aget x.2 (swp (S.take i))).isSome = true ∨ hasN x.1 (swp (S.take i)) = true) ↔ ∃ (j : Nat) (y : ByteArray × Int), j < i ∧ S[j]? = some y ∧ (y.2 = x.2 ∨ y.1 = x.1) := by
  constructor
  · rintro (h | h)
    · obtain ⟨v, hv⟩ := Option.isSome_iff_exists.1 h
      obtain ⟨y, hy, e⟩ := List.mem_map.1 (aget_mem hv)
      obtain ⟨j, hj⟩ := List.mem_iff_getElem?.1 hy
      rw [List.getElem?_take] at hj
      split at hj
      · rename_i hji
        simp only [Prod.mk.injEq] at e
        exact ⟨j, y, hji, hj, .inl e.1⟩
      · cases hj
    · unfold hasN at h
      rw [List.any_eq_true] at h
      obtain ⟨p, hp, he⟩ := h
      obtain ⟨y, hy, rfl⟩ := List.mem_map.1 hp
      obtain ⟨j, hj⟩ := List.mem_iff_getElem?.1 hy
      rw [List.getElem?_take] at hj
      split at hj
      · rename_i hji
        simp only [decide_eq_true_eq] at he
        exact ⟨j, y, hji, hj, .inr he.symm⟩
      · cases hj
  · rintro ⟨j, y, hj, hy, h | h⟩
    · have hm : (y.2, y.1) ∈ swp (S.take i) := List.mem_map.2 ⟨y, List.mem_of_getElem? (i := j) (by rw [List.getElem?_take, if_pos hj]; exact hy), rfl⟩
      obtain ⟨v, hv⟩ := aget_some (a := x.2) (l := swp (S.take i)) ⟨_, hm, h⟩
      rw [hv]; exact .inl rfl
    · refine .inr ?_
      unfold hasN
      rw [List.any_eq_true]
      exact ⟨(y.2, y.1), List.mem_map.2 ⟨y, List.mem_of_getElem? (i := j) (by rw [List.getElem?_take, if_pos hj]; exact hy), rfl⟩, by simp [h]⟩
end
end
section
open Go

section
variable {st : St} {tk tk2 : Tk} {me p0 p1 p2 p3 first many d0 d1 win : Int} {S : List (ByteArray × Int)} {K : List Sec} {host : ByteArray}
/-- Is there a server, of a pool of at most 20? -/
def GoodC (me first many : Int) (S : List (ByteArray × Int)) (K : List Sec) (win : Int) (host : ByteArray) : Prop := cfE me first many S K win host = 0 ∧ many ≤ 20
instance : Decidable (GoodC me first many S K win host) := by unfold GoodC; infer_instance
theorem twiceK_iff {i : Nat} {x : Sec} : (aget x.1 (K.take i)).isSome = true ↔ ∃ (j : Nat) (y : Sec), j < i ∧ K[j]? = some y ∧ y.1 = x.1 := by
  constructor
  · intro h
    obtain ⟨v, hv⟩ := Option.isSome_iff_exists.1 h
    obtain ⟨j, hj⟩ := List.mem_iff_getElem?.1 (aget_mem hv)
    rw [List.getElem?_take] at hj
    split at hj
    · rename_i hji
      exact ⟨j, _, hji, hj, rfl⟩
    · cases hj
  · rintro ⟨j, y, hj, hy, h⟩
    have hm : y ∈ K.take i := List.mem_of_getElem? (i := j) (by rw [List.getElem?_take, if_pos hj]; exact hy)
    obtain ⟨v, hv⟩ := aget_some (a := x.1) (l := K.take i) ⟨_, hm, h⟩
    rw [hv]; rfl
set_option maxRecDepth 100000 in
set_option maxHeartbeats 8000000 in
theorem good44_v (h0 : 0 ≤ first) (h1 : first ≤ 4294967295) (hS : ∀ s ∈ S, 0 ≤ s.2 ∧ s.2 ≤ 4294967295) : VCalls Try.prog 19 [.agg [.sc (.int .u32 me), .sc (.int .u32 p0), .sc (.int .u32 p1), .sc (.int .u32 p2), .sc (.int .u32 p3), .sc (.int .u32 first), .sc (.int .i64 many), .sl tk (sts S), .sl tk2 (secs K), .sc (.int .u32 d0), .sc (.int .u32 d1), .sc (.int .i64 win), .sc (.string host)]] st fun r s => r = .sc (.bool (decide (GoodC me first many S K win host))) ∧ st = s := by
  refine vcalls_enter vc19 (Nat.le_of_ble_eq_true rfl) fun hwf hok => ?_
  show Run _ Vc19.body (.fin (finQ Vc19.res _)) _ _
  unfold Vc19
  have hlt := hwf.lt
  simp (config := {maxSteps := 3000000}) only [go_sem, Nat.reduceEqDiff, Nat.reduceAdd, Nat.reduceLeDiff, ↓reduceIte, reduceCtorEq]
  intro b hb
  have W0 : st.weak (st.put b [.sc (.int .u32 me), .sc (.int .u32 p0), .sc (.int .u32 p1), .sc (.int .u32 p2), .sc (.int .u32 p3), .sc (.int .u32 first), .sc (.int .i64 many), .sl tk (sts S), .sl tk2 (secs K), .sc (.int .u32 d0), .sc (.int .u32 d1), .sc (.int .i64 win), .sc (.string host)]) := weak_put hwf.weak hb
  have L0 : (st.put b [.sc (.int .u32 me), .sc (.int .u32 p0), .sc (.int .u32 p1), .sc (.int .u32 p2), .sc (.int .u32 p3), .sc (.int .u32 first), .sc (.int .i64 many), .sl tk (sts S), .sl tk2 (secs K), .sc (.int .u32 d0), .sc (.int .u32 d1), .sc (.int .i64 win), .sc (.string host)]).Lt := hlt.put
  have B0 : (st.put b [.sc (.int .u32 me), .sc (.int .u32 p0), .sc (.int .u32 p1), .sc (.int .u32 p2), .sc (.int .u32 p3), .sc (.int .u32 first), .sc (.int .i64 many), .sl tk (sts S), .sl tk2 (secs K), .sc (.int .u32 d0), .sc (.int .u32 d1), .sc (.int .i64 win), .sc (.string host)]).box b = some [.sc (.int .u32 me), .sc (.int .u32 p0), .sc (.int .u32 p1), .sc (.int .u32 p2), .sc (.int .u32 p3), .sc (.int .u32 first), .sc (.int .i64 many), .sl tk (sts S), .sl tk2 (secs K), .sc (.int .u32 d0), .sc (.int .u32 d1), .sc (.int .i64 win), .sc (.string host)] := put_box_same
  have no : ∀ {s : St}, st.weak s → ¬ GoodC me first many S K win host → ∃ (r' : V) (st'' : St), Wk (.sc (.bool false)) r' ∧ st''.weak s ∧ r' = .sc (.bool (decide (GoodC me first many S K win host))) ∧ st = st'' := fun {s} hw h => ⟨_, _, Wk.refl _, hw, by rw [decide_eq_false h], rfl⟩
  generalize st.put b [.sc (.int .u32 me), .sc (.int .u32 p0), .sc (.int .u32 p1), .sc (.int .u32 p2), .sc (.int .u32 p3), .sc (.int .u32 first), .sc (.int .i64 many), .sl tk (sts S), .sl tk2 (secs K), .sc (.int .u32 d0), .sc (.int .u32 d1), .sc (.int .i64 win), .sc (.string host)] = s0 at W0 L0 B0 ⊢
  refine Cal.mk right43_v ?_
  rintro _ _ ⟨rfl, rfl⟩ -
  by_cases cR : RightC me many S K win host
  rotate_left
  · simp (config := {maxSteps := 3000000}) only [go_sem, ↓reduceIte, decide_eq_false cR]
    refine no W0 (fun h => cfE_not cR h.2 h.1)
  have eR := cfE_right (first := first) cR
  obtain ⟨r1, r2, r3, r4, r5, r6, r7, r8⟩ := cR
  have hG : GoodC me first many S K win host ↔ newE first many S = 0 ∧ newS K = 0 := by
    unfold GoodC
    rw [eR]
    constructor
    · rintro ⟨e, _⟩
      by_cases c : newE first many S ≠ 0
      · rw [if_pos c] at e; exact absurd e c
      · rw [if_neg c] at e; exact ⟨Decidable.not_not.1 c, e⟩
    · rintro ⟨a, b⟩
      exact ⟨by rw [if_neg (fun k => k a)]; exact b, r8⟩
  have e1 : newE first many S = if (List.range many.toNat).any (badAt first) = true then 13 else statE [] S := by
    unfold newE
    rw [if_neg (show ¬ (many < 0 ∨ 64 < many) by omega), if_neg (show ¬ 8 < S.length by omega)]
  have e2 : newS K = whyS [] K := by unfold newS; rw [if_neg (show ¬ 8 < K.length by omega)]
  simp (config := {maxSteps := 3000000}) only [go_sem, ↓reduceIte, decide_eq_true (show RightC me many S K win host from ⟨r1, r2, r3, r4, r5, r6, r7, r8⟩)]
  refine run_loop [2, 3, 4, 13, 14, 15, 16, 17, 18, 19, 20, 21, 22, 23, 24, 25, 26, 27, 28, 29, 30, 31] (fun B s => ∃ i : Nat, (i : Int) ≤ many ∧ B 3 = .sc (.int .i64 i) ∧ (∀ j < i, badAt first j = false) ∧ st.weak s ∧ s.Lt ∧ s.box b = some [.sc (.int .u32 me), .sc (.int .u32 p0), .sc (.int .u32 p1), .sc (.int .u32 p2), .sc (.int .u32 p3), .sc (.int .u32 first), .sc (.int .i64 many), .sl tk (sts S), .sl tk2 (secs K), .sc (.int .u32 d0), .sc (.int .u32 d1), .sc (.int .i64 win), .sc (.string host)]) (fun B _ => 64 - vnat (B 3)) rfl ?_ ?_
  · exact ⟨0, by omega, rfl, fun j hj => by omega, W0, L0, B0⟩
  · clear W0 L0 B0
    rintro B s ⟨i, hi, h3, hgood, W, L, hB⟩
    by_cases c3 : (i : Int) < many
    · have bad13 : badAt first i = true → ¬ GoodC me first many S K win host := fun hbad k => by
        have := (hG.1 k).1
        rw [e1, if_pos] at this
        · cases this
        rw [List.any_eq_true]
        exact ⟨i, List.mem_range.2 (by omega), hbad⟩
      by_cases c4 : 4294967295 < first + (i : Int)
      · have hbad := bad13 (by simp [badAt]; omega)
        simp (config := {maxSteps := 3000000}) only [go_sem, Nat.reduceEqDiff, Int.reduceNeg, ↓reduceIte, Nat.reduceBEq, h3, hB, decide_eq_true c3, decide_eq_true c4]
        repeat (apply And.intro; focus (first | omega | (simp; done)))
        exact no W hbad
      · have em : (first + (i : Int)) % 4294967296 = first + (i : Int) := by omega
        simp (config := {maxSteps := 3000000}) only [go_sem, Nat.reduceEqDiff, Int.reduceNeg, ↓reduceIte, Nat.reduceBEq, h3, hB, decide_eq_true c3, decide_eq_false c4, em]
        repeat (apply And.intro; focus (first | omega | (simp; done)))
        refine Cal.mk (refHostG_v (by omega) (by omega)) ?_
        rintro _ _ ⟨rfl, rfl⟩ -
        cases c5 : hostB (first + (i : Int))
        · have hbad := bad13 (by simp [badAt, c5])
          simp (config := {maxSteps := 3000000}) only [go_sem, Nat.reduceEqDiff, ↓reduceIte]
          exact no W hbad
        · simp (config := {maxSteps := 3000000}) only [go_sem, Nat.reduceEqDiff, Int.reduceNeg, ↓reduceIte, Nat.reduceBEq, h3]
          repeat (apply And.intro; focus (first | omega | (simp; done)))
          refine ⟨⟨i + 1, by omega, by simp, fun j hj => ?_, W, L, hB⟩, by omega⟩
          by_cases e : j = i
          · subst e
            have : first + (j : Int) ≤ 4294967295 := by omega
            simp [badAt, c5, this]
          · exact hgood j (by omega)
    · have hin : (i : Int) = many := by omega
      have e3 : newE first many S = statE [] S := by
        rw [e1, if_neg]
        rw [List.any_eq_true]
        rintro ⟨j, hj, hb⟩
        rw [List.mem_range] at hj
        rw [hgood j (by omega)] at hb
        cases hb
      clear e1 hgood
      simp (config := {maxSteps := 3000000}) only [go_sem, Nat.reduceEqDiff, ↓reduceIte, Nat.reduceBEq, h3, hB, decide_eq_false c3]
      refine run_loop [2, 5, 6, 32, 33, 34, 35, 36, 37, 38, 39, 40, 41, 42, 43, 44, 45, 46, 47, 48, 49, 50, 51, 52, 53, 54, 55, 56, 57, 58, 59, 60, 61, 62, 63, 64, 65, 66, 67, 68, 69, 70, 71, 72, 73, 74, 75, 76, 77, 78, 79] (fun C s' => ∃ i : Nat, i ≤ S.length ∧ C 5 = .sc (.int .i64 i) ∧ statE [] S = statE (swp (S.take i)) (S.drop i) ∧ st.weak s' ∧ s'.Lt ∧ s'.box b = some [.sc (.int .u32 me), .sc (.int .u32 p0), .sc (.int .u32 p1), .sc (.int .u32 p2), .sc (.int .u32 p3), .sc (.int .u32 first), .sc (.int .i64 many), .sl tk (sts S), .sl tk2 (secs K), .sc (.int .u32 d0), .sc (.int .u32 d1), .sc (.int .i64 win), .sc (.string host)]) (fun C _ => S.length - vnat (C 5)) rfl ?_ ?_
      · exact ⟨0, by omega, rfl, rfl, W, L, hB⟩
      · clear hi h3 c3 hin W L hB
        rintro C s' ⟨i, hi, h5, hE, W, L, hB⟩
        by_cases hlt' : i < S.length
        · obtain ⟨x, hx⟩ := get_ex hlt'
          have hdr : S.drop i = x :: S.drop (i + 1) := by
            rw [List.drop_eq_getElem_cons hlt']
            have := (List.getElem?_eq_some_iff.1 hx).2
            rw [this]
          have htk : swp (S.take (i + 1)) = swp (S.take i) ++ [(x.2, x.1)] := by
            rw [List.take_add_one, hx]
            simp [swp]
          rw [hdr] at hE
          simp only [statE] at hE
          have hx0 := hS x (List.mem_of_getElem? hx)
          simp (config := {maxSteps := 3000000}) only [go_sem, Nat.reduceEqDiff, Nat.reduceAdd, ↓reduceIte, Nat.reduceBEq, h5, hB, sts_get hx, sts_len, decide_eq_true (show (i : Int) < (S.length : Int) by omega)]
          repeat (apply And.intro; focus (first | omega | (simp; done)))
          refine Cal.mk (refHostG_v hx0.1 (by omega)) ?_
          rintro _ _ ⟨rfl, rfl⟩ -
          cases c7 : hostB x.2
          · rw [if_pos c7] at hE
            simp (config := {maxSteps := 3000000}) only [go_sem, ↓reduceIte]
            exact no W (fun k => by have := (hG.1 k).1; rw [e3, hE] at this; cases this)
          rw [if_neg (by rw [c7]; simp)] at hE
          simp (config := {maxSteps := 3000000}) only [go_sem, ↓reduceIte]
          refine run_loop [2, 6, 47, 48, 49, 50, 51, 52, 53, 54, 55, 56, 57, 58, 59, 60, 61, 62, 63, 64, 65, 66, 67, 68, 69, 70, 71, 72, 73, 74, 75, 76, 77, 78, 79] (fun D s' => ∃ k : Nat, k ≤ i ∧ D 6 = .sc (.int .i64 k) ∧ (∀ (j : Nat) (y : ByteArray × Int), j < k → S[j]? = some y → y.2 ≠ x.2 ∧ y.1 ≠ x.1) ∧ st.weak s' ∧ s'.Lt ∧ s'.box b = some [.sc (.int .u32 me), .sc (.int .u32 p0), .sc (.int .u32 p1), .sc (.int .u32 p2), .sc (.int .u32 p3), .sc (.int .u32 first), .sc (.int .i64 many), .sl tk (sts S), .sl tk2 (secs K), .sc (.int .u32 d0), .sc (.int .u32 d1), .sc (.int .i64 win), .sc (.string host)]) (fun D _ => i - vnat (D 6)) rfl ?_ ?_
          · exact ⟨0, by omega, rfl, fun j y hj => by omega, W, L, hB⟩
          · clear W L hB
            rintro D s' ⟨k, hk, h6, hno, W, L, hB⟩
            by_cases ck : k < i
            · obtain ⟨y, hy⟩ := get_ex (show k < S.length by omega)
              by_cases n1 : x.2 = y.2
              · rw [if_pos (twiceG_iff.2 ⟨k, y, ck, hy, .inl n1.symm⟩)] at hE
                simp (config := {maxSteps := 3000000}) only [go_sem, Nat.reduceEqDiff, Nat.reduceAdd, ↓reduceIte, Nat.reduceBEq, h6, h5, hB, sts_get hx, sts_get hy, decide_eq_true (show (k : Int) < (i : Int) by omega), decide_eq_true n1]
                repeat (apply And.intro; focus (first | omega | (simp; done)))
                exact no W (fun k => by have := (hG.1 k).1; rw [e3, hE] at this; cases this)
              by_cases n2 : x.1 = y.1
              · rw [if_pos (twiceG_iff.2 ⟨k, y, ck, hy, .inr n2.symm⟩)] at hE
                simp (config := {maxSteps := 3000000}) only [go_sem, Nat.reduceEqDiff, Nat.reduceAdd, ↓reduceIte, Nat.reduceBEq, h6, h5, hB, sts_get hx, sts_get hy, decide_eq_true (show (k : Int) < (i : Int) by omega), decide_eq_false n1, decide_eq_true n2]
                repeat (apply And.intro; focus (first | omega | (simp; done)))
                exact no W (fun k => by have := (hG.1 k).1; rw [e3, hE] at this; cases this)
              · simp (config := {maxSteps := 3000000}) only [go_sem, Nat.reduceEqDiff, Nat.reduceAdd, Int.reduceNeg, ↓reduceIte, Nat.reduceBEq, h6, h5, hB, sts_get hx, sts_get hy, decide_eq_true (show (k : Int) < (i : Int) by omega), decide_eq_false n1, decide_eq_false n2]
                repeat (apply And.intro; focus (first | omega | (simp; done)))
                refine ⟨⟨k + 1, by omega, by simp, fun j z hj hz => ?_, W, L⟩, by omega⟩
                by_cases e : j = k
                · subst e
                  rw [hy] at hz
                  cases hz
                  exact ⟨fun e => n1 e.symm, fun e => n2 e.symm⟩
                · exact hno j z (by omega) hz
            · have ek : k = i := by omega
              subst ek
              rw [if_neg (fun h => by
                obtain ⟨j, y, hj, hy, h⟩ := twiceG_iff.1 h
                have := hno j y hj hy
                rcases h with h | h
                · exact this.1 h
                · exact this.2 h)] at hE
              simp (config := {maxSteps := 3000000}) only [go_sem, Nat.reduceEqDiff, Int.reduceNeg, ↓reduceIte, Nat.reduceBEq, h6, h5]
              repeat (apply And.intro; focus (first | omega | (simp; done)))
              exact ⟨⟨k + 1, by omega, by simp, by rw [htk]; exact hE, W, L, hB⟩, by omega⟩
        · obtain rfl : i = S.length := by omega
          rw [List.drop_length, List.take_length] at hE
          have e4 : newE first many S = 0 := by rw [e3, hE]; rfl
          simp (config := {maxSteps := 3000000}) only [go_sem, Nat.reduceEqDiff, ↓reduceIte, Nat.reduceBEq, h5, hB, sts_len]
          refine run_loop [2, 7, 8, 9, 80, 81, 82, 83, 84, 85, 86, 87, 88, 89, 90, 91, 92, 93, 94, 95, 96, 97, 98, 99, 100, 101, 102, 103, 104, 105, 106, 107, 108, 109, 110, 111, 112, 113, 114, 115, 116, 117, 118, 119, 120, 121, 122, 123, 124, 125] (fun D s' => ∃ i : Nat, i ≤ K.length ∧ D 7 = .sc (.int .i64 i) ∧ whyS [] K = whyS (K.take i) (K.drop i) ∧ st.weak s' ∧ s'.Lt ∧ s'.box b = some [.sc (.int .u32 me), .sc (.int .u32 p0), .sc (.int .u32 p1), .sc (.int .u32 p2), .sc (.int .u32 p3), .sc (.int .u32 first), .sc (.int .i64 many), .sl tk (sts S), .sl tk2 (secs K), .sc (.int .u32 d0), .sc (.int .u32 d1), .sc (.int .i64 win), .sc (.string host)]) (fun D _ => K.length - vnat (D 7)) rfl ?_ ?_
          · exact ⟨0, by omega, rfl, rfl, W, L, hB⟩
          · clear W L hB h5
            rintro D s' ⟨i, hi, h7, hW, W, L, hB⟩
            by_cases c9 : i < K.length
            · obtain ⟨x, hx⟩ := get_ex c9
              have hdr : K.drop i = x :: K.drop (i + 1) := by
                rw [List.drop_eq_getElem_cons c9]
                have := (List.getElem?_eq_some_iff.1 hx).2
                rw [this]
              have htk : K.take (i + 1) = K.take i ++ [x] := by rw [List.take_add_one, hx]; rfl
              rw [hdr] at hW
              simp only [whyS] at hW
              have notR : rightS x = false → ¬ GoodC me first many S K win host := fun hr k => by
                have := (hG.1 k).2
                rw [e2, hW, if_pos hr] at this
                cases this
              simp (config := {maxSteps := 3000000}) only [go_sem, Nat.reduceEqDiff, Nat.reduceAdd, Nat.reduceLT, Nat.reduceLeDiff, ↓reduceIte, Nat.reduceBEq, h7, hB, secs_get hx, secs_len, decide_eq_true (show (i : Int) < (K.length : Int) by omega)]
              repeat (apply And.intro; focus (first | omega | (simp; done)))
              intro q hq
              have bq : b ≠ q := by have := L.box b _ hB; omega
              have W1 : st.weak (s'.put q [.sc (.string x.1), .sc (.string x.2)]) := weak_put W (by have := W.sz; omega)
              have L1 : (s'.put q [.sc (.string x.1), .sc (.string x.2)]).Lt := L.put
              have hB1 : (s'.put q [.sc (.string x.1), .sc (.string x.2)]).box b = some [.sc (.int .u32 me), .sc (.int .u32 p0), .sc (.int .u32 p1), .sc (.int .u32 p2), .sc (.int .u32 p3), .sc (.int .u32 first), .sc (.int .i64 many), .sl tk (sts S), .sl tk2 (secs K), .sc (.int .u32 d0), .sc (.int .u32 d1), .sc (.int .i64 win), .sc (.string host)] := by rw [put_box_ne bq]; exact hB
              have hQ1 : (s'.put q [.sc (.string x.1), .sc (.string x.2)]).box q = some [.sc (.string x.1), .sc (.string x.2)] := put_box_same
              generalize s'.put q [.sc (.string x.1), .sc (.string x.2)] = s2 at W1 L1 hB1 hQ1 ⊢
              by_cases n1 : x.1 = ⟨#[]⟩
              · have := nil_size.1 n1
                simp (config := {maxSteps := 3000000}) only [go_sem, Nat.reduceEqDiff, ↓reduceIte, decide_eq_true n1]
                exact no W1 (notR (by simp [rightS, this]))
              by_cases n2 : x.2 = ⟨#[]⟩
              · have := nil_size.1 n2
                simp (config := {maxSteps := 3000000}) only [go_sem, Nat.reduceEqDiff, ↓reduceIte, hQ1, decide_eq_false n1, decide_eq_true n2]
                exact no W1 (notR (by simp [rightS, this]))
              by_cases n3 : 40 < (x.1.size : Int)
              · simp (config := {maxSteps := 3000000}) only [go_sem, Nat.reduceEqDiff, ↓reduceIte, hQ1, decide_eq_false n1, decide_eq_false n2, decide_eq_true n3]
                exact no W1 (notR (by simp [rightS]; omega))
              by_cases n4 : 40 < (x.2.size : Int)
              · simp (config := {maxSteps := 3000000}) only [go_sem, Nat.reduceEqDiff, ↓reduceIte, hQ1, decide_eq_false n1, decide_eq_false n2, decide_eq_false n3, decide_eq_true n4]
                exact no W1 (notR (by simp [rightS]; omega))
              have hr : rightS x = true := by
                have z1 : x.1.size ≠ 0 := fun k => n1 (nil_size.2 k)
                have z2 : x.2.size ≠ 0 := fun k => n2 (nil_size.2 k)
                simp [rightS]; omega
              rw [if_neg (by rw [hr]; simp)] at hW
              simp (config := {maxSteps := 3000000}) only [go_sem, Nat.reduceEqDiff, ↓reduceIte, hQ1, decide_eq_false n1, decide_eq_false n2, decide_eq_false n3, decide_eq_false n4]
              refine run_loop [2, 9, 112, 113, 114, 115, 116, 117, 118, 119, 120, 121, 122, 123, 124, 125] (fun E s' => ∃ k : Nat, k ≤ i ∧ E 9 = .sc (.int .i64 k) ∧ (∀ (j : Nat) (y : Sec), j < k → K[j]? = some y → y.1 ≠ x.1) ∧ st.weak s' ∧ s'.Lt ∧ s'.box b = some [.sc (.int .u32 me), .sc (.int .u32 p0), .sc (.int .u32 p1), .sc (.int .u32 p2), .sc (.int .u32 p3), .sc (.int .u32 first), .sc (.int .i64 many), .sl tk (sts S), .sl tk2 (secs K), .sc (.int .u32 d0), .sc (.int .u32 d1), .sc (.int .i64 win), .sc (.string host)] ∧ s'.box q = some [.sc (.string x.1), .sc (.string x.2)]) (fun E _ => i - vnat (E 9)) rfl ?_ ?_
              · exact ⟨0, by omega, rfl, fun j y hj => by omega, W1, L1, hB1, hQ1⟩
              · clear W1 L1 hB1 hQ1 W L hB
                rintro E s3 ⟨k, hk, h9, hno, W, L, hB, hQ⟩
                by_cases ck : k < i
                · obtain ⟨y, hy⟩ := get_ex (show k < K.length by omega)
                  by_cases d5 : x.1 = y.1
                  · rw [if_pos (twiceK_iff.2 ⟨k, y, ck, hy, d5.symm⟩)] at hW
                    simp (config := {maxSteps := 3000000}) only [go_sem, Nat.reduceEqDiff, Nat.reduceAdd, ↓reduceIte, Nat.reduceBEq, h9, h7, hB, hQ, secs_get hy, decide_eq_true (show (k : Int) < (i : Int) by omega), decide_eq_true d5]
                    repeat (apply And.intro; focus (first | omega | (simp; done)))
                    exact no W (fun k => by have := (hG.1 k).2; rw [e2, hW] at this; cases this)
                  · simp (config := {maxSteps := 3000000}) only [go_sem, Nat.reduceEqDiff, Nat.reduceAdd, Int.reduceNeg, ↓reduceIte, Nat.reduceBEq, h9, h7, hB, hQ, secs_get hy, decide_eq_true (show (k : Int) < (i : Int) by omega), decide_eq_false d5]
                    repeat (apply And.intro; focus (first | omega | (simp; done)))
                    refine ⟨⟨k + 1, by omega, by simp, fun j z hj hz => ?_, W, L⟩, by omega⟩
                    by_cases e : j = k
                    · subst e
                      rw [hy] at hz
                      cases hz
                      exact fun e => d5 e.symm
                    · exact hno j z (by omega) hz
                · have ek : k = i := by omega
                  subst ek
                  rw [if_neg (fun h => by
                    obtain ⟨j, y, hj, hy, h⟩ := twiceK_iff.1 h
                    exact hno j y hj hy h)] at hW
                  simp (config := {maxSteps := 3000000}) only [go_sem, Nat.reduceEqDiff, Int.reduceNeg, ↓reduceIte, Nat.reduceBEq, h9, h7]
                  repeat (apply And.intro; focus (first | omega | (simp; done)))
                  exact ⟨⟨k + 1, by omega, by simp, by rw [htk]; exact hW, W, L, hB⟩, by omega⟩
            · obtain rfl : i = K.length := by omega
              rw [List.drop_length, List.take_length] at hW
              have e5 : GoodC me first many S K win host := hG.2 ⟨e4, by rw [e2, hW]; rfl⟩
              simp (config := {maxSteps := 3000000}) only [go_sem, Nat.reduceEqDiff, ↓reduceIte, Nat.reduceBEq, h7, hB, secs_len]
              exact ⟨_, _, Wk.refl _, W, by rw [decide_eq_true e5], rfl⟩
end
end
section
open Go

/-- A server that is new. -/
structure SrvN (s : St) (b : Nat) : Prop where
  ex : ∃ (wb pb kb hb sb tb mb kc : Nat) (first many : Int) (kept : List (Int × ByteArray)) (kes : List (V × V × Nat)) (c0 c1 c2 c3 c4 c5 c6 c7 c8 c9 c10 c11 c12 : V),
    s.box b = some [ptrV wb, .sc (.pointer none), .sc (.pointer none), .sc (.pointer none), .sc (.pointer none), .sl .nil [], .sc (.int .u32 0), .sl .nil [], .sc (.int .u32 0), .sl .nil [], .sc (.int .u32 0), .sl .nil [], .sc (.int .u32 0), .sc (.int .i64 0)] ∧ s.box wb = some [c0, c1, c2, c3, c4, c5, c6, c7, c8, c9, c10, c11, c12, ptrV pb, .sc (.map (some sb)), ptrV tb] ∧
    PoolB s pb kb hb first many kept [] kes [] kc 0 ∧ TblE s tb mb 3 0
theorem SrvN.grow {s s' : St} {b : Nat} (h : SrvN s b) (hw : s.weak s') : SrvN s' b := by
  obtain ⟨wb, pb, kb, hb, sb, tb, mb, kc, first, many, kept, kes, c0, c1, c2, c3, c4, c5, c6, c7, c8, c9, c10, c11, c12, h1, h2, h3, h4⟩ := h.ex
  exact ⟨wb, pb, kb, hb, sb, tb, mb, kc, first, many, kept, kes, c0, c1, c2, c3, c4, c5, c6, c7, c8, c9, c10, c11, c12, (hw.box _ _ h1).1, (hw.box _ _ h2).1,
    ⟨(hw.box _ _ h3.box).1, ⟨(hw.box _ _ h3.kept.box).1, h3.kept.mp⟩, ⟨(hw.box _ _ h3.held.box).1, h3.held.mp⟩, h3.bk, h3.bh, h3.kh⟩, ⟨(hw.box _ _ h4.box).1, (hw.box _ _ h4.mbox).1⟩⟩
section
variable {st : St} {tk tk2 : Tk} {b : Nat} {me p0 p1 p2 p3 first many d0 d1 win : Int} {S : List (ByteArray × Int)} {K : List Sec} {host : ByteArray}
/-- What New answers. -/
def SrvQ (st : St) (e : Int) (v : V) (s : St) : Prop :=
  (e ≠ 0 ∧ v = .tup [.sc (.pointer none), .sc (.int .i64 e)] ∧ st = s) ∨ (e = 0 ∧ ∃ b, v = .tup [ptrV b, .sc (.int .i64 0)] ∧ SrvN s b ∧ st.weak s ∧ s.Lt)
set_option maxRecDepth 100000 in
set_option maxHeartbeats 8000000 in
theorem pnsNew_v (h0 : 0 ≤ first) (h1 : first ≤ 4294967295) (hS : ∀ s ∈ S, 0 ≤ s.2) : VCalls Try.prog 18 [.agg [.sc (.int .u32 me), .sc (.int .u32 p0), .sc (.int .u32 p1), .sc (.int .u32 p2), .sc (.int .u32 p3), .sc (.int .u32 first), .sc (.int .i64 many), .sl tk (sts S), .sl tk2 (secs K), .sc (.int .u32 d0), .sc (.int .u32 d1), .sc (.int .i64 win), .sc (.string host)]] st (SrvQ st (cfE me first many S K win host)) := by
  refine vcalls_enter vc18 (Nat.le_of_ble_eq_true rfl) fun hwf hok => ?_
  show Run _ Vc18.body (.fin (finQ Vc18.res _)) _ _
  unfold Vc18
  have hlt := hwf.lt
  simp (config := {maxSteps := 3000000}) only [go_sem, Nat.reduceEqDiff, Nat.reduceAdd, ↓reduceIte, reduceCtorEq]
  intro b hb
  have W0 : st.weak (st.put b [.sc (.int .u32 me), .sc (.int .u32 p0), .sc (.int .u32 p1), .sc (.int .u32 p2), .sc (.int .u32 p3), .sc (.int .u32 first), .sc (.int .i64 many), .sl tk (sts S), .sl tk2 (secs K), .sc (.int .u32 d0), .sc (.int .u32 d1), .sc (.int .i64 win), .sc (.string host)]) := weak_put hwf.weak hb
  have L0 : (st.put b [.sc (.int .u32 me), .sc (.int .u32 p0), .sc (.int .u32 p1), .sc (.int .u32 p2), .sc (.int .u32 p3), .sc (.int .u32 first), .sc (.int .i64 many), .sl tk (sts S), .sl tk2 (secs K), .sc (.int .u32 d0), .sc (.int .u32 d1), .sc (.int .i64 win), .sc (.string host)]).Lt := hlt.put
  have B0 : (st.put b [.sc (.int .u32 me), .sc (.int .u32 p0), .sc (.int .u32 p1), .sc (.int .u32 p2), .sc (.int .u32 p3), .sc (.int .u32 first), .sc (.int .i64 many), .sl tk (sts S), .sl tk2 (secs K), .sc (.int .u32 d0), .sc (.int .u32 d1), .sc (.int .i64 win), .sc (.string host)]).box b = some [.sc (.int .u32 me), .sc (.int .u32 p0), .sc (.int .u32 p1), .sc (.int .u32 p2), .sc (.int .u32 p3), .sc (.int .u32 first), .sc (.int .i64 many), .sl tk (sts S), .sl tk2 (secs K), .sc (.int .u32 d0), .sc (.int .u32 d1), .sc (.int .i64 win), .sc (.string host)] := put_box_same
  have no : ∀ {s : St} {e : Int}, st.weak s → e ≠ 0 → cfE me first many S K win host = e → ∃ (r' : V) (st'' : St), Wk (.tup [.sc (.pointer none), .sc (.int .i64 e)]) r' ∧ st''.weak s ∧ SrvQ st (cfE me first many S K win host) r' st'' := fun {s e} hw h he => ⟨_, st, Wk.refl _, hw, .inl ⟨by rw [he]; exact h, by rw [he], rfl⟩⟩
  generalize st.put b [.sc (.int .u32 me), .sc (.int .u32 p0), .sc (.int .u32 p1), .sc (.int .u32 p2), .sc (.int .u32 p3), .sc (.int .u32 first), .sc (.int .i64 many), .sl tk (sts S), .sl tk2 (secs K), .sc (.int .u32 d0), .sc (.int .u32 d1), .sc (.int .i64 win), .sc (.string host)] = s0 at W0 L0 B0 ⊢
  refine Cal.mk (new_v h0 h1 hS) ?_
  rintro _ s1 (⟨e1, rfl, rfl⟩ | ⟨e1, pb, kb, hb', kes, kc, rfl, PB, w1, l1, f1, f2, f3⟩) -
  · simp (config := {maxSteps := 3000000}) only [go_sem, Nat.reduceEqDiff, ↓reduceIte, decide_eq_true e1]
    exact no W0 e1 (by unfold cfE; rw [if_pos e1])
  have B1 := (w1.box b _ B0).1
  have W1 := weak_tr W0 w1
  have nz : decide (¬ (0 : Int) = 0) = false := by decide
  simp (config := {maxSteps := 3000000}) only [go_sem, Nat.reduceEqDiff, ↓reduceIte, B1]
  refine Cal.mk secNew_v ?_
  rintro _ s2 (⟨e2, rfl, rfl⟩ | ⟨e2, sb, ses, sc, rfl, TS, w2, l2, f4⟩) -
  · simp (config := {maxSteps := 3000000}) only [go_sem, Nat.reduceEqDiff, Nat.reduceLT, Nat.reduceLeDiff, ↓reduceIte]
    intro q hq
    simp (config := {maxSteps := 3000000}) only [go_sem, Nat.reduceEqDiff, ↓reduceIte, decide_eq_true e2]
    exact no (weak_put W1 (by have := W1.sz; omega)) e2 (by unfold cfE; rw [if_neg (fun k => k e1), if_pos e2])
  have B2 := (w2.box b _ B1).1
  have W2 := weak_tr W1 w2
  have PB2 : PoolB s2 pb kb hb' first many (swp S) [] kes [] kc 0 := ⟨(w2.box _ _ PB.box).1, ⟨(w2.box _ _ PB.kept.box).1, PB.kept.mp⟩, ⟨(w2.box _ _ PB.held.box).1, PB.held.mp⟩, PB.bk, PB.bh, PB.kh⟩
  have e3 : cfE me first many S K win host = if win < 1 ∨ 16 < win ∨ me = 0 then 13 else if 40 < host.size then 12 else 0 := by unfold cfE; rw [if_neg (fun k => k e1), if_neg (fun k => k e2)]
  simp (config := {maxSteps := 3000000}) only [go_sem, Nat.reduceEqDiff, Nat.reduceLT, Nat.reduceLeDiff, ↓reduceIte]
  intro q hq
  have W3 : st.weak (s2.put q [.sc (.map (some sb))]) := weak_put W2 (by have := W2.sz; omega)
  have L3 : (s2.put q [.sc (.map (some sb))]).Lt := l2.put
  have bq : b ≠ q := by have := l2.box b _ B2; omega
  have B3 : (s2.put q [.sc (.map (some sb))]).box b = some [.sc (.int .u32 me), .sc (.int .u32 p0), .sc (.int .u32 p1), .sc (.int .u32 p2), .sc (.int .u32 p3), .sc (.int .u32 first), .sc (.int .i64 many), .sl tk (sts S), .sl tk2 (secs K), .sc (.int .u32 d0), .sc (.int .u32 d1), .sc (.int .i64 win), .sc (.string host)] := by rw [put_box_ne bq]; exact B2
  have Q3 : (s2.put q [.sc (.map (some sb))]).box q = some [.sc (.map (some sb))] := put_box_same
  have w3 : s2.weak (s2.put q [.sc (.map (some sb))]) := weak_put l2.weak hq
  have PB3 : PoolB (s2.put q [.sc (.map (some sb))]) pb kb hb' first many (swp S) [] kes [] kc 0 := ⟨(w3.box _ _ PB2.box).1, ⟨(w3.box _ _ PB2.kept.box).1, PB2.kept.mp⟩, ⟨(w3.box _ _ PB2.held.box).1, PB2.held.mp⟩, PB2.bk, PB2.bh, PB2.kh⟩
  generalize s2.put q [.sc (.map (some sb))] = s3 at W3 L3 B3 Q3 PB3 ⊢
  by_cases c1 : win < 1
  · simp (config := {maxSteps := 3000000}) only [go_sem, Nat.reduceEqDiff, ↓reduceIte, B3, decide_eq_true c1]
    exact no W3 (by decide) (by rw [e3, if_pos (.inl c1)])
  by_cases c2 : 16 < win
  · simp (config := {maxSteps := 3000000}) only [go_sem, Nat.reduceEqDiff, ↓reduceIte, B3, decide_eq_false c1, decide_eq_true c2]
    exact no W3 (by decide) (by rw [e3, if_pos (.inr (.inl c2))])
  by_cases c3 : me = 0
  · simp (config := {maxSteps := 3000000}) only [go_sem, Nat.reduceEqDiff, ↓reduceIte, B3, decide_eq_false c1, decide_eq_false c2, decide_eq_true c3]
    exact no W3 (by decide) (by rw [e3, if_pos (.inr (.inr c3))])
  by_cases c4 : 40 < (host.size : Int)
  · simp (config := {maxSteps := 3000000}) only [go_sem, Nat.reduceEqDiff, ↓reduceIte, B3, decide_eq_false c1, decide_eq_false c2, decide_eq_false c3, decide_eq_true c4]
    exact no W3 (by decide) (by rw [e3, if_neg (by omega), if_pos (by omega)])
  have e4 : cfE me first many S K win host = 0 := by rw [e3, if_neg (by omega), if_neg (by omega)]
  rw [e4]
  simp (config := {maxSteps := 3000000}) only [go_sem, Nat.reduceEqDiff, Nat.reduceAdd, Nat.reduceLeDiff, ↓reduceIte, B3, Q3, decide_eq_false c1, decide_eq_false c2, decide_eq_false c3, decide_eq_false c4]
  repeat (apply And.intro; focus (first | omega | (simp; done)))
  refine Cal.mk tabNew_v ?_
  rintro _ s4 ⟨tb, mb, rfl, TE, w4, l4, f5, f6⟩ -
  have W4 := weak_tr W3 w4
  have PB4 : PoolB s4 pb kb hb' first many (swp S) [] kes [] kc 0 := ⟨(w4.box _ _ PB3.box).1, ⟨(w4.box _ _ PB3.kept.box).1, PB3.kept.mp⟩, ⟨(w4.box _ _ PB3.held.box).1, PB3.held.mp⟩, PB3.bk, PB3.bh, PB3.kh⟩
  have B4 := (w4.box b _ B3).1
  have Q4 := (w4.box q _ Q3).1
  simp (config := {maxSteps := 3000000}) only [go_sem, Nat.reduceEqDiff, Nat.reduceAdd, Nat.reduceLT, Nat.reduceLeDiff, ↓reduceIte, reduceCtorEq, B4, Q4]
  repeat (apply And.intro; focus (first | omega | (simp; done)))
  intro wb hwb x hx
  have x1 : wb < x := by omega
  have x2 : s4.sz ≤ x := by omega
  clear hx
  have x3 : st.sz ≤ wb := by have := W4.sz; omega
  have w5 : s4.weak ((s4.put wb [.sc (.int .u32 me), .sc (.int .u32 p0), .sc (.int .u32 p1), .sc (.int .u32 p2), .sc (.int .u32 p3), .sc (.int .u32 first), .sc (.int .i64 many), .sl tk (sts S), .sl tk2 (secs K), .sc (.int .u32 d0), .sc (.int .u32 d1), .sc (.int .i64 win), .sc (.string host), ptrV pb, .sc (.map (some sb)), ptrV tb]).put x [ptrV wb, .sc (.pointer none), .sc (.pointer none), .sc (.pointer none), .sc (.pointer none), .sl .nil [], .sc (.int .u32 0), .sl .nil [], .sc (.int .u32 0), .sl .nil [], .sc (.int .u32 0), .sl .nil [], .sc (.int .u32 0), .sc (.int .i64 0)]) := weak_put (weak_put l4.weak hwb) x2
  have wx : wb ≠ x := by omega
  exact ⟨_, _, Wk.refl _, (l4.put.put).weak, .inr ⟨rfl, x, rfl, ⟨wb, pb, kb, hb', sb, tb, mb, kc, first, many, swp S, kes, .sc (.int .u32 me), .sc (.int .u32 p0), .sc (.int .u32 p1), .sc (.int .u32 p2), .sc (.int .u32 p3), .sc (.int .u32 first), .sc (.int .i64 many), .sl tk (sts S), .sl tk2 (secs K), .sc (.int .u32 d0), .sc (.int .u32 d1), .sc (.int .i64 win), .sc (.string host), put_box_same, by rw [put_box_ne wx, put_box_same]; rfl, ⟨(w5.box _ _ PB4.box).1, ⟨(w5.box _ _ PB4.kept.box).1, PB4.kept.mp⟩, ⟨(w5.box _ _ PB4.held.box).1, PB4.held.mp⟩, PB4.bk, PB4.bh, PB4.kh⟩, ⟨(w5.box _ _ TE.box).1, (w5.box _ _ TE.mbox).1⟩⟩, weak_put (weak_put W4 x3) (by omega), l4.put.put⟩⟩
set_option maxRecDepth 100000 in
theorem srvOpen_v (h : SrvN st b) : VCalls Try.prog 20 [ptrV b] st fun v s => v = .sc (.int .i64 0) ∧ st = s := by
  obtain ⟨wb, pb, kb, hb, sb, tb, mb, kc, first, many, kept, kes, c0, c1, c2, c3, c4, c5, c6, c7, c8, c9, c10, c11, c12, h1, h2, h3, h4⟩ := h.ex
  refine vcalls_enter vc20 (Nat.le_of_ble_eq_true rfl) fun hwf hok => ?_
  show Run _ Vc20.body (.fin (finQ Vc20.res _)) _ _
  unfold Vc20
  simp (config := {maxSteps := 3000000}) only [go_sem, Nat.reduceAdd, Nat.reduceLeDiff, ↓reduceIte, reduceCtorEq, h1]
  refine run_loop [3, 5, 10, 11, 12, 13, 14, 15, 16, 17] (fun B s => ∃ i : Nat, i ≤ 4 ∧ B 10 = .sc (.int .i64 i) ∧ B 3 = .sc (.int .i64 0) ∧ s = st) (fun B _ => 4 - vnat (B 10)) rfl ?_ ?_
  · simp (config := {maxSteps := 3000000}) only [go_sem, Nat.reduceEqDiff, ↓reduceIte]
    exact ⟨0, by omega, rfl⟩
  · rintro B s ⟨i, hi, h10, h3', rfl⟩
    have hh : i = 0 ∨ i = 1 ∨ i = 2 ∨ i = 3 ∨ i = 4 := by omega
    rcases hh with rfl | rfl | rfl | rfl | rfl
    case' inl => have ki : ((0 : Nat) : Int) = 0 := rfl; have kl : decide ((0 : Int) < 4) = true := rfl
    case' inr.inl => have ki : ((1 : Nat) : Int) = 1 := rfl; have kl : decide ((1 : Int) < 4) = true := rfl
    case' inr.inr.inl => have ki : ((2 : Nat) : Int) = 2 := rfl; have kl : decide ((2 : Int) < 4) = true := rfl
    case' inr.inr.inr.inl => have ki : ((3 : Nat) : Int) = 3 := rfl; have kl : decide ((3 : Int) < 4) = true := rfl
    case' inr.inr.inr.inr => have ki : ((4 : Nat) : Int) = 4 := rfl; have kl : decide ((4 : Int) < 4) = false := rfl
    all_goals
      simp (config := {maxSteps := 3000000}) only [go_sem, Nat.reduceEqDiff, Nat.reduceSub, Nat.reduceLT, Int.reduceToNat, Int.reduceLE, Int.reduceLT, Int.reduceAdd, Int.reduceNeg, ↓reduceIte, Nat.reduceBEq, h10, h3', ki]
    all_goals first | exact ⟨_, _, Wk.refl _, hwf.weak, rfl, rfl⟩ | exact ⟨by omega, 4, by omega, rfl⟩ | exact ⟨by omega, 3, by omega, rfl⟩ | exact ⟨by omega, 2, by omega, rfl⟩ | exact ⟨by omega, 1, by omega, rfl⟩
set_option maxRecDepth 100000 in
theorem srvTimers_v (h : SrvN st b) : VCalls Try.prog 23 [ptrV b] st fun v s => v = .sc (.int .i64 0) ∧ st = s := by
  obtain ⟨wb, pb, kb, hb, sb, tb, mb, kc, first, many, kept, kes, c0, c1, c2, c3, c4, c5, c6, c7, c8, c9, c10, c11, c12, h1, h2, h3, h4⟩ := h.ex
  refine vcalls_enter vc23 (Nat.le_of_ble_eq_true rfl) fun hwf hok => ?_
  show Run _ Vc23.body (.fin (finQ Vc23.res _)) _ _
  unfold Vc23
  simp (config := {maxSteps := 3000000}) only [go_sem, Nat.reduceAdd, Nat.reduceLeDiff, ↓reduceIte, reduceCtorEq, h1]
  refine run_loop [3, 5, 10, 11, 12, 13, 14, 15, 16, 17, 18, 19] (fun B s => ∃ i : Nat, i ≤ 4 ∧ B 10 = .sc (.int .i64 i) ∧ B 3 = .sc (.int .i64 0) ∧ s = st) (fun B _ => 4 - vnat (B 10)) rfl ?_ ?_
  · simp (config := {maxSteps := 3000000}) only [go_sem, Nat.reduceEqDiff, ↓reduceIte]
    exact ⟨0, by omega, rfl⟩
  · rintro B s ⟨i, hi, h10, h3', rfl⟩
    have hh : i = 0 ∨ i = 1 ∨ i = 2 ∨ i = 3 ∨ i = 4 := by omega
    rcases hh with rfl | rfl | rfl | rfl | rfl
    case' inl => have ki : ((0 : Nat) : Int) = 0 := rfl; have kl : decide ((0 : Int) < 4) = true := rfl
    case' inr.inl => have ki : ((1 : Nat) : Int) = 1 := rfl; have kl : decide ((1 : Int) < 4) = true := rfl
    case' inr.inr.inl => have ki : ((2 : Nat) : Int) = 2 := rfl; have kl : decide ((2 : Int) < 4) = true := rfl
    case' inr.inr.inr.inl => have ki : ((3 : Nat) : Int) = 3 := rfl; have kl : decide ((3 : Int) < 4) = true := rfl
    case' inr.inr.inr.inr => have ki : ((4 : Nat) : Int) = 4 := rfl; have kl : decide ((4 : Int) < 4) = false := rfl
    all_goals
      simp (config := {maxSteps := 3000000}) only [go_sem, Nat.reduceEqDiff, Nat.reduceSub, Nat.reduceLT, Int.reduceToNat, Int.reduceLE, Int.reduceLT, Int.reduceAdd, Int.reduceNeg, ↓reduceIte, Nat.reduceBEq, h10, h3', ki]
    all_goals first | exact ⟨_, _, Wk.refl _, hwf.weak, rfl, rfl⟩ | exact ⟨by omega, 4, by omega, rfl⟩ | exact ⟨by omega, 3, by omega, rfl⟩ | exact ⟨by omega, 2, by omega, rfl⟩ | exact ⟨by omega, 1, by omega, rfl⟩
theorem srvNow_v (h : SrvN st b) : VCalls Try.prog 46 [ptrV b] st fun v s => v = .sc (.int .i64 0) ∧ st = s := by
  obtain ⟨wb, pb, kb, hb, sb, tb, mb, kc, first, many, kept, kes, c0, c1, c2, c3, c4, c5, c6, c7, c8, c9, c10, c11, c12, h1, h2, h3, h4⟩ := h.ex
  refine vcalls_enter vc46 (Nat.le_of_ble_eq_true rfl) fun hwf hok => ?_
  show Run _ Vc46.body (.fin (finQ Vc46.res _)) _ _
  unfold Vc46
  simp (config := {maxSteps := 3000000}) only [go_sem, ↓reduceIte, reduceCtorEq, h1]
  exact ⟨_, _, Wk.refl _, hwf.weak, rfl, rfl⟩
theorem srvCalls_v (h : SrvN st b) : VCalls Try.prog 21 [ptrV b] st fun v s => v = .sl .no [] ∧ st = s := by
  obtain ⟨wb, pb, kb, hb, sb, tb, mb, kc, first, many, kept, kes, c0, c1, c2, c3, c4, c5, c6, c7, c8, c9, c10, c11, c12, h1, h2, h3, h4⟩ := h.ex
  refine vcalls_enter vc21 (Nat.le_of_ble_eq_true rfl) fun hwf hok => ?_
  show Run _ Vc21.body (.fin (finQ Vc21.res _)) _ _
  unfold Vc21
  simp (config := {maxSteps := 3000000}) only [go_sem, ↓reduceIte, reduceCtorEq, h1, h2]
  refine Cal.mk (keys0_v h4) ?_
  rintro _ _ ⟨rfl, rfl⟩ -
  simp (config := {maxSteps := 3000000}) only [go_sem, ↓reduceIte]
  exact ⟨_, _, Wk.refl _, hwf.weak, rfl, rfl⟩
theorem srvLeases_v (h : SrvN st b) : VCalls Try.prog 22 [ptrV b] st fun v s => v = .sl .no [] ∧ st = s := by
  obtain ⟨wb, pb, kb, hb, sb, tb, mb, kc, first, many, kept, kes, c0, c1, c2, c3, c4, c5, c6, c7, c8, c9, c10, c11, c12, h1, h2, h3, h4⟩ := h.ex
  refine vcalls_enter vc22 (Nat.le_of_ble_eq_true rfl) fun hwf hok => ?_
  show Run _ Vc22.body (.fin (finQ Vc22.res _)) _ _
  unfold Vc22
  simp (config := {maxSteps := 3000000}) only [go_sem, ↓reduceIte, reduceCtorEq, h1, h2]
  refine Cal.mk (held0_v h3) ?_
  rintro _ _ ⟨rfl, rfl⟩ -
  simp (config := {maxSteps := 3000000}) only [go_sem, ↓reduceIte]
  exact ⟨_, _, Wk.refl _, hwf.weak, rfl, rfl⟩
theorem cf_e0 : cfE 0 0 0 [] [] 0 ⟨#[]⟩ = 13 := by decide
theorem cf_e1 : cfE 1 0 0 [] [] 1 ⟨#[]⟩ = 0 := by decide
set_option maxRecDepth 100000 in
theorem alive44_v : VCalls Try.prog 24 [] st fun v s => v = .sc (.bool true) ∧ st = s := by
  refine vcalls_enter vc24 (Nat.le_of_ble_eq_true rfl) fun hwf hok => ?_
  show Run _ Vc24.body (.fin (finQ Vc24.res _)) _ _
  unfold Vc24
  have a0 := fun s : St => pnsNew_v (st := s) (tk := .nil) (tk2 := .nil) (me := 0) (p0 := 0) (p1 := 0) (p2 := 0) (p3 := 0) (first := 0) (many := 0) (d0 := 0) (d1 := 0) (win := 0) (S := []) (K := []) (host := ⟨#[]⟩) (by omega) (by omega) (by simp)
  have a1 := fun s : St => pnsNew_v (st := s) (tk := .nil) (tk2 := .nil) (me := 1) (p0 := 0) (p1 := 0) (p2 := 0) (p3 := 0) (first := 0) (many := 0) (d0 := 0) (d1 := 0) (win := 1) (S := []) (K := []) (host := ⟨#[]⟩) (by omega) (by omega) (by simp)
  rw [cf_e0] at a0
  rw [cf_e1] at a1
  simp only [sts, secs, List.map_nil] at a0 a1
  simp (config := {maxSteps := 3000000}) only [go_sem, ↓reduceIte]
  refine Cal.mk (a0 _) ?_
  rintro _ _ (⟨e1, rfl, rfl⟩ | ⟨e1, _⟩) -
  rotate_left
  · cases e1
  simp (config := {maxSteps := 3000000}) only [go_sem, Nat.reduceEqDiff, Nat.reduceAdd, Nat.reduceLT, Nat.reduceLeDiff, ↓reduceIte]
  refine Cal.mk (a1 _) ?_
  rintro _ s1 (⟨e1, _⟩ | ⟨e1, b, rfl, hS, w1, l1⟩) -
  · exact absurd rfl e1
  simp (config := {maxSteps := 3000000}) only [go_sem, Nat.reduceEqDiff, ↓reduceIte]
  refine Cal.mk (srvOpen_v hS) ?_
  rintro _ _ ⟨rfl, rfl⟩ -
  simp (config := {maxSteps := 3000000}) only [go_sem, Nat.reduceEqDiff, ↓reduceIte]
  refine Cal.mk (srvNow_v hS) ?_
  rintro _ _ ⟨rfl, rfl⟩ -
  simp (config := {maxSteps := 3000000}) only [go_sem, Nat.reduceEqDiff, ↓reduceIte]
  exact ⟨_, _, Wk.refl _, w1, rfl, rfl⟩
set_option maxRecDepth 100000 in
set_option maxHeartbeats 8000000 in
theorem law44_v (h0 : 0 ≤ first) (h1 : first ≤ 4294967295) (hS : ∀ s ∈ S, 0 ≤ s.2 ∧ s.2 ≤ 4294967295) : VCalls Try.prog 5 [.agg [.sc (.int .u32 me), .sc (.int .u32 p0), .sc (.int .u32 p1), .sc (.int .u32 p2), .sc (.int .u32 p3), .sc (.int .u32 first), .sc (.int .i64 many), .sl tk (sts S), .sl tk2 (secs K), .sc (.int .u32 d0), .sc (.int .u32 d1), .sc (.int .i64 win), .sc (.string host)]] st fun v _ => v = .sc (.bool true) := by
  refine vcalls_enter vc5 (Nat.le_of_ble_eq_true rfl) fun hwf hok => ?_
  show Run _ Vc5.body (.fin (finQ Vc5.res _)) _ _
  unfold Vc5
  have hlt := hwf.lt
  have g0 : ∀ s : St, st.weak s → ∃ (r' : V) (st'' : St), Wk (V.sc (.bool true)) r' ∧ st''.weak s ∧ r' = V.sc (.bool true) := fun s hw => ⟨_, st, Wk.refl _, hw, rfl⟩
  simp (config := {maxSteps := 3000000}) only [go_sem, Nat.reduceEqDiff, Nat.reduceAdd, ↓reduceIte, reduceCtorEq]
  intro b hb
  have W0 : st.weak (st.put b [.sc (.int .u32 me), .sc (.int .u32 p0), .sc (.int .u32 p1), .sc (.int .u32 p2), .sc (.int .u32 p3), .sc (.int .u32 first), .sc (.int .i64 many), .sl tk (sts S), .sl tk2 (secs K), .sc (.int .u32 d0), .sc (.int .u32 d1), .sc (.int .i64 win), .sc (.string host)]) := weak_put hwf.weak hb
  have L0 : (st.put b [.sc (.int .u32 me), .sc (.int .u32 p0), .sc (.int .u32 p1), .sc (.int .u32 p2), .sc (.int .u32 p3), .sc (.int .u32 first), .sc (.int .i64 many), .sl tk (sts S), .sl tk2 (secs K), .sc (.int .u32 d0), .sc (.int .u32 d1), .sc (.int .i64 win), .sc (.string host)]).Lt := hlt.put
  have B0 : (st.put b [.sc (.int .u32 me), .sc (.int .u32 p0), .sc (.int .u32 p1), .sc (.int .u32 p2), .sc (.int .u32 p3), .sc (.int .u32 first), .sc (.int .i64 many), .sl tk (sts S), .sl tk2 (secs K), .sc (.int .u32 d0), .sc (.int .u32 d1), .sc (.int .i64 win), .sc (.string host)]).box b = some [.sc (.int .u32 me), .sc (.int .u32 p0), .sc (.int .u32 p1), .sc (.int .u32 p2), .sc (.int .u32 p3), .sc (.int .u32 first), .sc (.int .i64 many), .sl tk (sts S), .sl tk2 (secs K), .sc (.int .u32 d0), .sc (.int .u32 d1), .sc (.int .i64 win), .sc (.string host)] := put_box_same
  generalize st.put b [.sc (.int .u32 me), .sc (.int .u32 p0), .sc (.int .u32 p1), .sc (.int .u32 p2), .sc (.int .u32 p3), .sc (.int .u32 first), .sc (.int .i64 many), .sl tk (sts S), .sl tk2 (secs K), .sc (.int .u32 d0), .sc (.int .u32 d1), .sc (.int .i64 win), .sc (.string host)] = s0 at W0 L0 B0 ⊢
  by_cases c1 : 20 < (S.length : Int)
  · simp (config := {maxSteps := 3000000}) only [go_sem, Nat.reduceEqDiff, ↓reduceIte, sts_len, decide_eq_true c1]
    exact g0 _ W0
  by_cases c2 : 20 < (K.length : Int)
  · simp (config := {maxSteps := 3000000}) only [go_sem, Nat.reduceEqDiff, ↓reduceIte, B0, sts_len, decide_eq_false c1, secs_len, decide_eq_true c2]
    exact g0 _ W0
  have hcm : ∀ (k : 20 < many → 64 < many), cfE me first many S K win host = 0 → many ≤ 20 := fun k e => by
    unfold cfE newE at e
    by_cases c : many < 0 ∨ 64 < many
    · simp [if_pos c] at e
    · omega
  have rest : (20 < many → 64 < many) → True := fun _ => trivial
  by_cases c3 : 20 < many
  · by_cases c4 : many ≤ 64
    · simp (config := {maxSteps := 3000000}) only [go_sem, Nat.reduceEqDiff, ↓reduceIte, B0, sts_len, decide_eq_false c1, secs_len, decide_eq_false c2, decide_eq_true c3, decide_eq_true c4]
      exact g0 _ W0
    · simp (config := {maxSteps := 3000000}) only [go_sem, Nat.reduceEqDiff, Nat.reduceAdd, Nat.reduceLeDiff, ↓reduceIte, B0, sts_len, decide_eq_false c1, secs_len, decide_eq_false c2, decide_eq_true c3, decide_eq_false c4]
      refine Cal.mk (pnsNew_v h0 h1 (fun s hs => (hS s hs).1)) ?_
      rintro _ s1 (⟨e1, rfl, rfl⟩ | ⟨e1, p, rfl, hN, w1, l1⟩) -
      · simp (config := {maxSteps := 3000000}) only [go_sem, Nat.reduceEqDiff, Nat.reduceAdd, Nat.reduceLeDiff, ↓reduceIte, B0]
        refine Cal.mk (good44_v h0 h1 hS) ?_
        rintro _ _ ⟨rfl, rfl⟩ -
        simp (config := {maxSteps := 3000000}) only [go_sem, Nat.reduceEqDiff, ↓reduceIte, decide_eq_false (show ¬ GoodC me first many S K win host from fun k => e1 k.1), decide_eq_true e1]
        refine Cal.mk alive44_v ?_
        rintro _ _ ⟨rfl, rfl⟩ -
        simp (config := {maxSteps := 3000000}) only [go_sem, Nat.reduceEqDiff, ↓reduceIte]
        exact g0 _ W0
      · have B1 := (w1.box b _ B0).1
        have hG : GoodC me first many S K win host := ⟨e1, hcm (by omega) e1⟩
        simp (config := {maxSteps := 3000000}) only [go_sem, Nat.reduceEqDiff, Nat.reduceAdd, Nat.reduceLeDiff, ↓reduceIte, B1]
        refine Cal.mk (good44_v h0 h1 hS) ?_
        rintro _ _ ⟨rfl, rfl⟩ -
        have z0 : decide ((0 : Int) = 0) = true := rfl
        have nc0 : ((0 : Nat) : Int) = 0 := rfl
        have z1 : (0 : Int) + 0 = 0 := rfl
        simp (config := {maxSteps := 3000000}) only [go_sem, Nat.reduceEqDiff, ↓reduceIte, decide_eq_true hG]
        refine Cal.mk (srvOpen_v hN) ?_
        rintro _ _ ⟨rfl, rfl⟩ -
        simp (config := {maxSteps := 3000000}) only [go_sem, Nat.reduceEqDiff, ↓reduceIte]
        refine Cal.mk (srvCalls_v hN) ?_
        rintro _ _ ⟨rfl, rfl⟩ -
        simp (config := {maxSteps := 3000000}) only [go_sem, Nat.reduceEqDiff, ↓reduceIte]
        refine Cal.mk (srvLeases_v hN) ?_
        rintro _ _ ⟨rfl, rfl⟩ -
        simp (config := {maxSteps := 3000000}) only [go_sem, Nat.reduceEqDiff, Int.reduceNeg, ↓reduceIte]
        repeat (apply And.intro; focus (first | omega | (simp; done)))
        refine Cal.mk (srvTimers_v hN) ?_
        rintro _ _ ⟨rfl, rfl⟩ -
        simp (config := {maxSteps := 3000000}) only [go_sem, Nat.reduceEqDiff, Int.reduceLE, Int.reduceNeg, ↓reduceIte, nc0, z1]
        refine Cal.mk alive44_v ?_
        rintro _ _ ⟨rfl, rfl⟩ -
        simp (config := {maxSteps := 3000000}) only [go_sem, Nat.reduceEqDiff, ↓reduceIte]
        exact g0 _ (weak_tr W0 w1)
  · simp (config := {maxSteps := 3000000}) only [go_sem, Nat.reduceEqDiff, Nat.reduceAdd, Nat.reduceLeDiff, ↓reduceIte, B0, sts_len, decide_eq_false c1, secs_len, decide_eq_false c2, decide_eq_false c3]
    have c4 : ¬ many ≤ 64 ∨ True := .inr trivial
    refine Cal.mk (pnsNew_v h0 h1 (fun s hs => (hS s hs).1)) ?_
    rintro _ s1 (⟨e1, rfl, rfl⟩ | ⟨e1, p, rfl, hN, w1, l1⟩) -
    · simp (config := {maxSteps := 3000000}) only [go_sem, Nat.reduceEqDiff, Nat.reduceAdd, Nat.reduceLeDiff, ↓reduceIte, B0]
      refine Cal.mk (good44_v h0 h1 hS) ?_
      rintro _ _ ⟨rfl, rfl⟩ -
      simp (config := {maxSteps := 3000000}) only [go_sem, Nat.reduceEqDiff, ↓reduceIte, decide_eq_false (show ¬ GoodC me first many S K win host from fun k => e1 k.1), decide_eq_true e1]
      refine Cal.mk alive44_v ?_
      rintro _ _ ⟨rfl, rfl⟩ -
      simp (config := {maxSteps := 3000000}) only [go_sem, Nat.reduceEqDiff, ↓reduceIte]
      exact g0 _ W0
    · have B1 := (w1.box b _ B0).1
      have hG : GoodC me first many S K win host := ⟨e1, hcm (by omega) e1⟩
      simp (config := {maxSteps := 3000000}) only [go_sem, Nat.reduceEqDiff, Nat.reduceAdd, Nat.reduceLeDiff, ↓reduceIte, B1]
      refine Cal.mk (good44_v h0 h1 hS) ?_
      rintro _ _ ⟨rfl, rfl⟩ -
      have z0 : decide ((0 : Int) = 0) = true := rfl
      have nc0 : ((0 : Nat) : Int) = 0 := rfl
      have z1 : (0 : Int) + 0 = 0 := rfl
      simp (config := {maxSteps := 3000000}) only [go_sem, Nat.reduceEqDiff, ↓reduceIte, decide_eq_true hG]
      refine Cal.mk (srvOpen_v hN) ?_
      rintro _ _ ⟨rfl, rfl⟩ -
      simp (config := {maxSteps := 3000000}) only [go_sem, Nat.reduceEqDiff, ↓reduceIte]
      refine Cal.mk (srvCalls_v hN) ?_
      rintro _ _ ⟨rfl, rfl⟩ -
      simp (config := {maxSteps := 3000000}) only [go_sem, Nat.reduceEqDiff, ↓reduceIte]
      refine Cal.mk (srvLeases_v hN) ?_
      rintro _ _ ⟨rfl, rfl⟩ -
      simp (config := {maxSteps := 3000000}) only [go_sem, Nat.reduceEqDiff, Int.reduceNeg, ↓reduceIte]
      repeat (apply And.intro; focus (first | omega | (simp; done)))
      refine Cal.mk (srvTimers_v hN) ?_
      rintro _ _ ⟨rfl, rfl⟩ -
      simp (config := {maxSteps := 3000000}) only [go_sem, Nat.reduceEqDiff, Int.reduceLE, Int.reduceNeg, ↓reduceIte, nc0, z1]
      refine Cal.mk alive44_v ?_
      rintro _ _ ⟨rfl, rfl⟩ -
      simp (config := {maxSteps := 3000000}) only [go_sem, Nat.reduceEqDiff, ↓reduceIte]
      exact g0 _ (weak_tr W0 w1)
end
end
section
open Go Go.RowKit

/-- The call hands back v, and nothing that was there has turned. -/
def Pure (w : World) (v : Value) (e : Ending) (w' : World) : Prop := e = .returned v ∧ Below w.heap.size w w'

theorem ret_int {k : IntKind} {a b : Int} (h : a = b) : Ending.returned (.int k a) = .returned (.int k b) := by rw [h]
theorem ret_bool {a b : Bool} (h : a = b) : Ending.returned (.bool a) = .returned (.bool b) := by rw [h]
theorem bcell {W w1 : World} (hb : Below W.heap.size W w1) : (∀ b o, b < W.heap.size → w1.cell? ⟨b, o, none⟩ = W.cell? ⟨b, o, none⟩) ∧ (∀ b o, b < W.heap.size → w1.frozen? ⟨b, o, none⟩ = W.frozen? ⟨b, o, none⟩) :=
  ⟨fun b o h => hb.cell (p := ⟨b, o, none⟩) h, fun b o h => hb.frozen (p := ⟨b, o, none⟩) h⟩
theorem lt_of_cell {w : World} {a : Addr} {v : Value} (h : w.cell? a = some v) : a.block < w.heap.size := by
  rcases Nat.lt_or_ge a.block w.heap.size with hlt | hge
  · exact hlt
  · simp [World.cell?, Array.getElem?_eq_none hge] at h
theorem keep_cell {w w1 : World} {a : Addr} {v : Value} (h : w.cell? a = some v) (hb : Below w.heap.size w w1) : w1.cell? a = some v := (hb.cell (lt_of_cell h)).trans h
theorem below_on {a w w1 : World} (h : Below a.heap.size a w) (h1 : Below w.heap.size w w1) : Below a.heap.size a w1 := h.trans (h1.mono h.size)
theorem below_new {w w1 : World} {o : Obj} (h1 : Below (w.alloc o).heap.size (w.alloc o) w1) : Below w.heap.size w w1 := below_on ((Below.refl _ _).alloc (Nat.le_refl _) _) h1

/-! ### A region that draws its order, whose operations read and whose callees at most make new memory: one walk, in the order of the text -/

structure More where
  blocks : List Obj
  count : Nat
instance : Nonempty More := ⟨⟨[], 0⟩⟩

/-- The world w with new blocks behind, at another count of draws. -/
def ext (w : World) (e : More) : World := { w with heap := w.heap ++ e.blocks.toArray, drawn := e.count }
theorem below_ext (w : World) (e : More) : Below w.heap.size w (ext w e) :=
  ⟨rfl, rfl, rfl, by simp [ext], fun k hk => by simp [ext, Array.getElem?_append, hk]⟩
theorem ext_of_below {w w' : World} (h : Below w.heap.size w w') : ∃ e, w' = ext w e := by
  refine ⟨⟨(w'.heap.toList.drop w.heap.size), w'.drawn⟩, ?_⟩
  obtain ⟨h1, h2, h3, h4, h5⟩ := h
  cases w with | mk hp tp dr os out =>
  cases w' with | mk hp' tp' dr' os' out' =>
  simp only at h1 h2 h3 h4 h5
  subst h1 h2 h3
  simp only [ext, World.mk.injEq, and_true]
  apply Array.ext_getElem?
  intro i
  rw [Array.getElem?_append]
  split
  · rename_i hi; exact h5 i hi
  · rename_i hi
    simp only [List.getElem?_toArray, List.getElem?_drop, Array.getElem?_toList]
    congr 1
    omega
theorem calm_of {P : Program} {f : FuncId} {args : Array Value} {w : World} {e : More} {v : Value} (h : Calls P f args (ext w e) (Pure (ext w e) v)) :
    Calls P f args (ext w e) fun en w'' => en = .returned v ∧ ∃ e2, w'' = ext w e2 :=
  h.mono fun _ _ ⟨he, hb⟩ => ⟨he, ext_of_below (below_on (below_ext w e) hb)⟩
theorem calm_same {P : Program} {f : FuncId} {args : Array Value} {w : World} {e : More} {v : Value} (h : Calls P f args (ext w e) fun en w' => en = .returned v ∧ ext w e = w') :
    Calls P f args (ext w e) fun en w'' => en = .returned v ∧ ∃ e2, w'' = ext w e2 :=
  h.mono fun _ _ ⟨he, hb⟩ => ⟨he, e, hb.symm⟩

/-- The cells of a list are there. -/
def Holds (w : World) (L : List (Addr × Value)) : Prop := ∀ p ∈ L, w.cell? p.1 = some p.2
theorem Holds.keep {w w1 : World} {L : List (Addr × Value)} (h : Holds w L) (hb : Below w.heap.size w w1) : Holds w1 L := fun p hp => keep_cell (h p hp) hb
theorem Holds.cons {w : World} {a : Addr} {v : Value} {L : List (Addr × Value)} : Holds w ((a, v) :: L) ↔ w.cell? a = some v ∧ Holds w L := by
  simp [Holds]
theorem Holds.nil {w : World} : Holds w [] ↔ True := by simp [Holds]

theorem Holds.append {w : World} {L M : List (Addr × Value)} (h : Holds w L) (h' : Holds w M) : Holds w (L ++ M) := by
  intro p hp
  rcases List.mem_append.1 hp with hp | hp
  · exact h p hp
  · exact h' p hp

/-- The cells cs, one behind the other, from place o of block b on. -/
def elemL (b o : Nat) : List Value → List (Addr × Value)
  | [] => []
  | v :: cs => (⟨b, o, none⟩, v) :: elemL b (o + 1) cs
theorem elemL_holds {w : World} {b : Nat} : ∀ (cs : List Value) (o : Nat), (∀ j v, cs[j]? = some v → w.cell? ⟨b, o + j, none⟩ = some v) → Holds w (elemL b o cs)
  | [], _, _ => by simp [elemL, Holds]
  | v :: cs, o, h => by
    rw [elemL, Holds.cons]
    refine ⟨by simpa using h 0 v rfl, elemL_holds cs (o + 1) fun j u hu => ?_⟩
    rw [show o + 1 + j = o + (j + 1) from by omega]
    exact h (j + 1) u (by simpa using hu)
/-- A new block holds what it was made of. -/
theorem elemL_new (w : World) (cs : Array Value) (t : TypeId) : Holds (w.alloc (.cells cs t)) (elemL w.heap.size 0 cs.toList) :=
  elemL_holds _ _ fun j v hv => by
    simp only [World.cell?, World.alloc, Nat.zero_add, Array.getElem?_push_size]
    simpa using hv

/-- A slice whose elements (each of 'size' cells) are these. -/
def Elems (w : World) (A : Option Addr) (size : Nat) (xs : List (List Value)) : Prop :=
  ∀ i cs, xs[i]? = some cs → ∃ b o, A = some ⟨b, o, none⟩ ∧ Holds w (elemL b (o + i * size) cs)
theorem Elems.keep {w w1 : World} {A : Option Addr} {size : Nat} {xs : List (List Value)} (h : Elems w A size xs) (hb : Below w.heap.size w w1) : Elems w1 A size xs := fun i cs hi => by
  obtain ⟨b, o, hA, hh⟩ := h i cs hi
  exact ⟨b, o, hA, hh.keep hb⟩

/-- The place of the first that is so; below 0: there is none. -/
def firstI {α : Type} (h : α → Bool) (l : List α) : Int := match l.findIdx? h with | some i => (i : Int) | none => -1
theorem firstI_at {α : Type} {h : α → Bool} {l : List α} {k : Nat} (hk : k < l.length) (hf : ∀ j, j < k → ∀ x, l[j]? = some x → h x = false) (ht : h l[k] = true) : firstI h l = k := by
  have : l.findIdx? h = some k := by
    rw [List.findIdx?_eq_some_iff_getElem]
    refine ⟨hk, ht, fun j hj => ?_⟩
    have := hf j hj l[j] (List.getElem?_eq_getElem (by omega))
    simp [this]
  rw [firstI, this]
theorem firstI_none {α : Type} {h : α → Bool} {l : List α} (hf : ∀ (j : Nat) (x : α), l[j]? = some x → h x = false) : firstI h l = -1 := by
  have : l.findIdx? h = none := by
    rw [List.findIdx?_eq_none_iff]
    intro x hx
    obtain ⟨j, hj, rfl⟩ := List.mem_iff_getElem.1 hx
    exact hf j _ (List.getElem?_eq_getElem hj)
  rw [firstI, this]
theorem firstI_cases {α : Type} (h : α → Bool) (l : List α) : firstI h l = -1 ∨ ∃ k : Nat, ∃ hk : k < l.length, firstI h l = k ∧ h l[k] = true := by
  unfold firstI
  cases e : l.findIdx? h with
  | none => exact .inl rfl
  | some i =>
    rw [List.findIdx?_eq_some_iff_getElem] at e
    obtain ⟨hi, ht, _⟩ := e
    exact .inr ⟨i, hi, rfl, ht⟩

theorem wp_region_calm {P : Program} {id : Nat} {Q : Exit → Act → World → Prop} {a : Act} {w : World} {l : List Oper} (L : List (Addr × Value)) (hS : Holds w L) (hm : P.follows .mixedOrders = true) (hB : Region.lexB .any l.toArray = true)
    (h : (∀ e, Holds (ext w e) L) → wpQuiet P l.toArray (fun w' => ∃ e, w' = ext w e) (fun a' => ∀ w', Below w.heap.size w w' → Holds w' L → Q .normal a' w') l a) : (Code.region id l.toArray true).wp P Q a w := by
  refine wp_region_quiet (C := fun w' => ∃ e, w' = ext w e) hm hB ⟨⟨[], w.drawn + 1⟩, by simp [ext]⟩ ?_
  have h1 := h fun e => hS.keep (below_ext w e)
  have h2 : ∀ (l : List Oper) (ops : Array Oper) (Q1 Q2 : Act → Prop) (a : Act), (∀ a, Q1 a → Q2 a) → wpQuiet P ops (fun w' => ∃ e, w' = ext w e) Q1 l a → wpQuiet P ops (fun w' => ∃ e, w' = ext w e) Q2 l a := by
    intro l
    induction l with
    | nil => intro _ _ _ a hq h; exact hq _ h
    | cons o l ih =>
      intro ops Q1 Q2 a hq h
      simp only [wpQuiet] at h ⊢
      split at h
      · rename_i hw; rw [if_pos hw]; exact Oper.quiet_mono (fun a ha => ih ops Q1 Q2 a hq ha) h
      · rename_i hw; rw [if_neg hw]; exact ih ops Q1 Q2 _ hq h
  have h3 := h2 l l.toArray _ (fun a' => ∀ w', (∃ e, w' = ext w e) → Q .normal a' w') a (fun a ha w' ⟨e, he⟩ => by subst he; exact ha _ (below_ext w e) (hS.keep (below_ext w e))) h1
  simpa using h3
end
section
open Go Go.RowKit Go.ChangeShapes Go.WideShapes Go.Deep

section
variable {H : Type} {enc : TypeId × Value → H} {P : Program} {w : World} {base : Nat} {spare : Nat → Bool} {held : Bool} {fuel : Nat} {t : TypeId} {cs : List Value} {x : DataW H × List MemPlace}

theorem trod_len {fs : Array Field} (ht : P.underlying t = some (.struct fs)) (h : DataW.trod enc P w base spare held fuel t cs = some x) : cs.length = P.cellsOf t := by
  obtain ⟨_, _, _, _, hl, _⟩ := DataW.trod_struct ht h
  exact hl
theorem trod_field {fs : Array Field} (ht : P.underlying t = some (.struct fs)) (h : DataW.trod enc P w base spare held fuel t cs = some x) (j : Nat) (f : Field) (hj : fs[j]? = some f) :
    ∃ n y, DataW.trod enc P w base spare held n f.type ((cs.drop f.offset).take (P.cellsOf f.type)) = some y := by
  obtain ⟨xs, n, _, _, _, hlen, hf⟩ := DataW.trod_struct ht h
  have h1 := hf j f hj
  have hjl : j < xs.length := by rw [hlen]; exact (Array.getElem?_eq_some_iff.1 hj).1
  exact ⟨n, xs[j], h1.trans (List.getElem?_eq_getElem hjl)⟩
theorem take_one {cs : List Value} {o : Nat} {v : Value} (h : (cs.drop o).take 1 = [v]) : cs[o]? = some v := by
  have : ((cs.drop o).take 1)[0]? = some v := by rw [h]; rfl
  simpa using this
theorem field_int {fs : Array Field} (ht : P.underlying t = some (.struct fs)) (h : DataW.trod enc P w base spare held fuel t cs = some x) (j : Nat) (f : Field) (hj : fs[j]? = some f) {k : IntKind} (hu : P.underlying f.type = some (.int k)) (hc : P.cellsOf f.type = 1) :
    ∃ n, cs[f.offset]? = some (.int k n) ∧ (Lit.int k n).wf = true := by
  obtain ⟨n, y, hy⟩ := trod_field ht h j f hj
  rw [hc] at hy
  obtain ⟨m, e, _, hw⟩ := DataW.trod_int hu hy
  exact ⟨m, take_one e, hw⟩
theorem field_bool {fs : Array Field} (ht : P.underlying t = some (.struct fs)) (h : DataW.trod enc P w base spare held fuel t cs = some x) (j : Nat) (f : Field) (hj : fs[j]? = some f) (hu : P.underlying f.type = some .bool) (hc : P.cellsOf f.type = 1) :
    ∃ b, cs[f.offset]? = some (.bool b) := by
  obtain ⟨n, y, hy⟩ := trod_field ht h j f hj
  rw [hc] at hy
  obtain ⟨m, e, _⟩ := DataW.trod_bool hu hy
  exact ⟨m, take_one e⟩
theorem field_one {fs : Array Field} (ht : P.underlying t = some (.struct fs)) (h : DataW.trod enc P w base spare held fuel t cs = some x) (j : Nat) (f : Field) (hj : fs[j]? = some f) (hc : P.cellsOf f.type = 1) {v : Value} (hv : cs[f.offset]? = some v) :
    ∃ n y, DataW.trod enc P w base spare held n f.type [v] = some y := by
  obtain ⟨n, y, hy⟩ := trod_field ht h j f hj
  rw [hc] at hy
  have : (cs.drop f.offset).take 1 = [v] := by
    obtain ⟨hlt, e⟩ := List.getElem?_eq_some_iff.1 hv
    rw [List.drop_eq_getElem_cons hlt, e]
    rfl
  rw [this] at hy
  exact ⟨n, y, hy⟩
theorem field_sub {fs : Array Field} (ht : P.underlying t = some (.struct fs)) (h : DataW.trod enc P w base spare held fuel t cs = some x) (j : Nat) (f : Field) (hj : fs[j]? = some f) {n : Nat} (hc : P.cellsOf f.type = n) :
    ∃ m y, DataW.trod enc P w base spare held m f.type ((cs.drop f.offset).take n) = some y := by
  subst hc
  exact trod_field ht h j f hj

/-- A struct that comes by value: its cells. -/
theorem open_struct {r : Reach} {b0 : Nat} {v : Value} {d : DataW H} {p : List MemPlace} {fs : Array Field} (ht : P.underlying t = some (.struct fs)) (hv : Value.okWide P w r b0 t v) (h : DataW.Trod enc P w base spare held t v d p) :
    ∃ (cs : List Value) (fuel : Nat), v = .agg cs.toArray ∧ DataW.trod enc P w base spare held fuel t cs = some (d, p) := by
  obtain ⟨cs, rfl, _⟩ := okWide_struct ht hv
  obtain ⟨fuel, hf⟩ := h
  exact ⟨cs.toList, fuel, rfl, hf⟩

theorem list_of {α : Type} {Q : Nat → α → Prop} : ∀ (n : Nat), (∀ i, i < n → ∃ r, Q i r) → ∃ l : List α, l.length = n ∧ ∀ (i : Nat) (r : α), l[i]? = some r → Q i r
  | 0, _ => ⟨[], rfl, by simp⟩
  | n + 1, h => by
    obtain ⟨l, hl, hq⟩ := list_of n (fun i hi => h i (by omega))
    obtain ⟨r, hr⟩ := h n (by omega)
    refine ⟨l ++ [r], by simp [hl], fun i r' hi => ?_⟩
    rw [List.getElem?_append] at hi
    split at hi
    · exact hq i r' hi
    · rename_i hge
      obtain rfl : i = n := by
        have := (List.getElem?_eq_some_iff.1 hi).1
        simp at this
        omega
      simp [hl] at hi
      subst hi
      exact hr

/-- A slice that comes in: nil, or a row of elements each of which reads. -/
theorem open_elems {e : TypeId} {size : Nat} {v : Value} (ht : P.underlying t = some (.slice e)) (hc : P.cellsOf e = size) (hs : 0 < size) (h : DataW.trod enc P w base spare held fuel t [v] = some x) :
    ∃ A len cap, v = .slice A len cap ∧ len ≤ cap ∧ cap ≤ maxLen ∧ (A = none → len = 0 ∧ cap = 0) ∧
      ∀ i, i < len → ∃ b o cs n y, A = some ⟨b, o, none⟩ ∧ cs.length = size ∧ Holds w (elemL b (o + i * size) cs) ∧ DataW.trod enc P w base spare held n e cs = some y := by
  rcases open_slice ht h with ⟨e1, _⟩ | ⟨a, len, cap, m, n, D, Pl, e1, hb, hl, hm, hmm, _, hi⟩
  · cases e1
    exact ⟨none, 0, 0, rfl, by omega, by omega, fun _ => ⟨rfl, rfl⟩, fun i hi => by omega⟩
  · cases e1
    refine ⟨some a, len, cap, rfl, hl, hm, (by intro h; cases h), fun i hil => ?_⟩
    obtain ⟨cs', hcs, ht'⟩ := hi i (by rw [hmm]; split <;> omega)
    rw [hc] at hcs
    obtain ⟨_, hlen, hcell⟩ := World.cells?_some hcs
    have h0 := hcell 0 hs
    have hlt0 : 0 < cs'.length := by omega
    rw [List.getElem?_eq_getElem hlt0] at h0
    have hspot := World.cell?_spot h0
    obtain ⟨b, o, sp⟩ := a
    have hsp : sp = none := by
      by_cases hz : i * size = 0
      · simpa [Addr.add, hz] using hspot
      · rcases Nat.eq_zero_or_pos i with h0' | h0'
        · simp [h0'] at hz
        · obtain ⟨cs0, hcs0, _⟩ := hi 0 (by rw [hmm]; split <;> omega)
          rw [hc] at hcs0
          obtain ⟨_, hlen0, hcell0⟩ := World.cells?_some hcs0
          have h00 := hcell0 0 hs
          rw [List.getElem?_eq_getElem (by omega)] at h00
          simpa [Addr.add] using World.cell?_spot h00
    subst hsp
    refine ⟨b, o, cs', n, _, rfl, hlen, elemL_holds _ _ fun j u hu => ?_, ht'⟩
    have hj : j < size := by have := (List.getElem?_eq_some_iff.1 hu).1; omega
    have := (hcell j hj).trans hu
    have ea : ((⟨b, o, none⟩ : Addr).add (i * size)).add j = ⟨b, o + i * size + j, none⟩ := by
      unfold Addr.add
      by_cases h1 : i * size = 0 <;> by_cases h2 : j = 0 <;> simp [h1, h2]
    rwa [ea] at this
end
/-- An argument as the statement hands it in: a value of its type, that reads as data. (A structure, so that nothing looks into it.) -/
structure ArgIn {H : Type} (enc : TypeId × Value → H) (P : Program) (W : World) (base : Nat) (t : TypeId) (v : Value) (d : DataW H) (p : List MemPlace) : Prop where
  wide : Value.okWide P W .any base t v
  trod : DataW.Trod enc P W 0 (fun _ => true) true t v d p
section
variable {H : Type} {enc : TypeId × Value → H} {P : Program} {W : World} {base : Nat} {t : TypeId} {v : Value} {d : DataW H} {p : List MemPlace}
theorem ArgIn.slice {e : TypeId} (h : ArgIn enc P W base t v d p) (ht : P.underlying t = some (.slice e)) :
    ∃ A l c fuel, v = .slice A l c ∧ DataW.trod enc P W 0 (fun _ => true) true fuel t [.slice A l c] = some (d, p) := by
  obtain ⟨A, l, c, rfl⟩ := okWide_slice ht h.wide
  obtain ⟨fuel, hf⟩ := h.trod
  exact ⟨A, l, c, fuel, rfl, hf⟩
theorem ArgIn.struct {fs : Array Field} (h : ArgIn enc P W base t v d p) (ht : P.underlying t = some (.struct fs)) :
    ∃ (cs : List Value) (fuel : Nat), v = .agg cs.toArray ∧ DataW.trod enc P W 0 (fun _ => true) true fuel t cs = some (d, p) :=
  open_struct ht h.wide h.trod
theorem ArgIn.int {k : IntKind} (h : ArgIn enc P W base t v d p) (ht : P.underlying t = some (.int k)) : ∃ n, v = .int k n ∧ (Lit.int k n).wf = true := by
  obtain ⟨n, rfl, _, _, hw⟩ := open_int ht h.wide h.trod
  exact ⟨n, rfl, hw⟩
theorem ArgIn.bool (h : ArgIn enc P W base t v d p) (ht : P.underlying t = some .bool) : ∃ b, v = .bool b := by
  obtain ⟨b, rfl, _⟩ := open_bool ht h.wide h.trod
  exact ⟨b, rfl⟩
theorem ArgIn.string (h : ArgIn enc P W base t v d p) (ht : P.underlying t = some .string) : ∃ s : ByteArray, v = .string s ∧ s.size ≤ maxLen := by
  obtain ⟨s, rfl, _, _, hs⟩ := Go.ChangeMaps.open_string ht h.wide h.trod
  exact ⟨s, rfl, hs⟩
end
/-- A contract at arguments that are these. -/
theorem calls_args {P : Program} {f : FuncId} {args args' : Array Value} {W : World} {R : Ending → World → Prop} (h : Calls P f args W R) (e : args' = args) : Calls P f args' W R := e ▸ h
end
section
open Go Go.RowKit Go.ChangeShapes Go.WideShapes Go.Deep

theorem elemL_get {w : World} {b : Nat} : ∀ {cs : List Value} {o : Nat} (_ : Holds w (elemL b o cs)) {j : Nat} {v : Value} (_ : cs[j]? = some v), w.cell? ⟨b, o + j, none⟩ = some v
  | [], _, _, _, _, h => by simp at h
  | c :: cs, o, hh, j, v, h => by
    rw [elemL, Holds.cons] at hh
    cases j with
    | zero => simp at h; subst h; exact hh.1
    | succ j => rw [show o + (j + 1) = o + 1 + j by omega]; exact elemL_get hh.2 (by simpa using h)
/-- What a type is made of. -/
inductive Sh where
  | int (k : IntKind)
  | bool
  | str
  | sl (s : Sh)
  | st (l : List Sh)
def shFields (P : Program) (g : TypeId → Option Sh) : Nat → List Field → Option (List Sh)
  | _, [] => some []
  | o, f :: fs => if f.offset = o then do
      let s ← g f.type
      let l ← shFields P g (o + P.cellsOf f.type) fs
      pure (s :: l)
    else none
def fieldsEnd (P : Program) : Nat → List Field → Nat
  | o, [] => o
  | o, f :: fs => fieldsEnd P (o + P.cellsOf f.type) fs
def shOf (P : Program) : Nat → TypeId → Option Sh
  | 0, _ => none
  | n + 1, t => match P.underlying t with
    | some (.int k) => if P.cellsOf t = 1 then some (.int k) else none
    | some .bool => if P.cellsOf t = 1 then some .bool else none
    | some .string => if P.cellsOf t = 1 then some .str else none
    | some (.slice e) => if P.cellsOf t = 1 ∧ 0 < P.cellsOf e then (shOf P n e).map .sl else none
    | some (.struct fs) => if fieldsEnd P 0 fs.toList = P.cellsOf t then (shFields P (shOf P n) 0 fs.toList).map .st else none
    | some (.array k e) => if k * P.cellsOf e = P.cellsOf t then (shOf P n e).map fun s => .st (List.replicate k s) else none
    | _ => none
/-- An element as one value. -/
def Sh.pack : Sh → List V → V
  | .st _, ds => .agg ds
  | _, d :: _ => d
  | _, [] => .und
mutual
/-- Such values are of the shape. -/
inductive Sh.Has : Sh → List V → Prop where
  | int (k : IntKind) (n : Int) (h : (Lit.int k n).wf = true) : Sh.Has (.int k) [.sc (.int k n)]
  | bool (b : Bool) : Sh.Has .bool [.sc (.bool b)]
  | str (s : ByteArray) (h : s.size ≤ maxLen) : Sh.Has .str [.sc (.string s)]
  | sl (s : Sh) (l : List V) (h : Sh.Hasl s l) : Sh.Has (.sl s) [.sl .no l]
  | st (l : List Sh) (ds : List V) (h : Sh.Hass l ds) : Sh.Has (.st l) ds
inductive Sh.Hasl : Sh → List V → Prop where
  | nil (s : Sh) : Sh.Hasl s []
  | cons (s : Sh) (ds l : List V) (h : Sh.Has s ds) (k : Sh.Hasl s l) : Sh.Hasl s (s.pack ds :: l)
inductive Sh.Hass : List Sh → List V → Prop where
  | nil : Sh.Hass [] []
  | cons (s : Sh) (l : List Sh) (a b : List V) (h : Sh.Has s a) (k : Sh.Hass l b) : Sh.Hass (s :: l) (a ++ b)
end
theorem hasl_of {s : Sh} : ∀ (l : List V), (∀ d, d ∈ l → ∃ ds, d = s.pack ds ∧ Sh.Has s ds) → Sh.Hasl s l
  | [], _ => .nil s
  | d :: l, h => by
    obtain ⟨ds, rfl, hd⟩ := h d (List.mem_cons_self ..)
    exact .cons s ds l hd (hasl_of l fun e he => h e (List.mem_cons_of_mem _ he))
/-- The ghost that knows all of a world's cells. -/
def ghOf (w : World) : Gh := ⟨fun b o => w.cell? ⟨b, o, none⟩, fun _ => none⟩
/-- Values stand for these cells. -/
def RepR (G : Gh) (ds : List V) (cs : List Value) : Prop := ds.length = cs.length ∧ (∀ v ∈ cs, v.oneCell' = true) ∧ (∀ (i : Nat) (d : V) (v : Value), ds[i]? = some d → cs[i]? = some v → Rep1 G d v) ∧ ∀ d ∈ ds, d.cells = [d]
theorem RepR.one {G : Gh} {d : V} {v : Value} (h : Rep1 G d v) (h1 : v.oneCell' = true) (h2 : d.cells = [d]) : RepR G [d] [v] :=
  ⟨rfl, by simpa using h1, fun i d' v' hd hv => by
    cases i with
    | zero => simp at hd hv; subst hd hv; exact h
    | succ i => simp at hd, by simpa using h2⟩
theorem RepR.append {G : Gh} {a b : List V} {c d : List Value} (h : RepR G a c) (k : RepR G b d) : RepR G (a ++ b) (c ++ d) :=
  ⟨by simp [h.1, k.1], fun v hv => by
    rcases List.mem_append.1 hv with h' | h'
    · exact h.2.1 v h'
    · exact k.2.1 v h', fun i x v hx hv => by
    rw [List.getElem?_append] at hx hv
    rw [← h.1] at hv
    split at hx
    · rename_i hlt
      rw [if_pos hlt] at hv
      exact h.2.2.1 i x v hx hv
    · rename_i hlt
      rw [if_neg hlt] at hv
      exact k.2.2.1 _ x v hx hv, fun x hx => by
    rcases List.mem_append.1 hx with h' | h'
    · exact h.2.2.2 x h'
    · exact k.2.2.2 x h'⟩
theorem pack_cells {s : Sh} {ds : List V} (h : s.Has ds) (hc : ∀ d ∈ ds, d.cells = [d]) : (s.pack ds).cells = ds := by
  cases h with
  | int => rfl
  | bool => rfl
  | str => rfl
  | sl => rfl
  | st => rfl

section
variable {H : Type} {enc : TypeId × Value → H} {P : Program} {w : World} {base : Nat} {spare : Nat → Bool} {held : Bool}
theorem open_sh : ∀ (n : Nat) {t : TypeId} {s : Sh} (_ : shOf P n t = some s) {fuel : Nat} {cs : List Value} {x : DataW H × List MemPlace} (_ : DataW.trod enc P w base spare held fuel t cs = some x),
    ∃ ds, s.Has ds ∧ RepR (ghOf w) ds cs ∧ cs.length = P.cellsOf t
  | 0, _, _, hs, _, _, _, _ => by simp [shOf] at hs
  | n + 1, t, s, hs, fuel, cs, x, h => by
    unfold shOf at hs
    split at hs
    · rename_i k hu
      split at hs
      · rename_i hc
        cases hs
        obtain ⟨m, rfl, _, hw⟩ := DataW.trod_int hu h
        exact ⟨_, .int k m hw, .one (.sc _ rfl) rfl rfl, by rw [hc]; rfl⟩
      · cases hs
    · rename_i hu
      split at hs
      · rename_i hc
        cases hs
        obtain ⟨m, rfl, _⟩ := DataW.trod_bool hu h
        exact ⟨_, .bool m, .one (.sc _ rfl) rfl rfl, by rw [hc]; rfl⟩
      · cases hs
    · rename_i hu
      split at hs
      · rename_i hc
        cases hs
        obtain ⟨m, rfl, _, hm⟩ := DataW.trod_string hu h
        exact ⟨_, .str m hm, .one (.sc _ rfl) rfl rfl, by rw [hc]; rfl⟩
      · cases hs
    · rename_i e hu
      split at hs
      · rename_i hc
        obtain ⟨s', hs', rfl⟩ := Option.map_eq_some_iff.1 hs
        have hlen1 : ∃ v, cs = [v] := by
          rcases DataW.trod_slice hu h with ⟨rfl, _⟩ | ⟨a, len, cap, _, _, _, _, rfl, _⟩
          · exact ⟨_, rfl⟩
          · exact ⟨_, rfl⟩
        obtain ⟨v, rfl⟩ := hlen1
        obtain ⟨A, len, cap, rfl, hle, hm, hA, hel⟩ := open_elems hu rfl hc.2 h
        obtain ⟨l, hl, hq⟩ := list_of (Q := fun i (p : V × List Value) => ∃ b o, A = some ⟨b, o, none⟩ ∧ p.2.length = P.cellsOf e ∧ Holds w (elemL b (o + i * P.cellsOf e) p.2) ∧ ∃ ds, p.1 = s'.pack ds ∧ s'.Has ds ∧ RepR (ghOf w) ds p.2) len (fun i hi => by
          obtain ⟨b, o, cs', n', y, hA', hlen, hh, ht⟩ := hel i hi
          obtain ⟨ds, k1, k2, k3⟩ := open_sh n hs' ht
          exact ⟨(s'.pack ds, cs'), b, o, hA', hlen, hh, ds, rfl, k1, k2⟩)
        refine ⟨[.sl .no (l.map (·.1))], .sl s' _ (hasl_of _ fun d hd => ?_), .one ?_ rfl rfl, by rw [hc.1]; rfl⟩
        · obtain ⟨p, hp, rfl⟩ := List.mem_map.1 hd
          obtain ⟨i, hi, rfl⟩ := List.mem_iff_getElem.1 hp
          obtain ⟨_, _, _, _, _, ds, k1, k2, _⟩ := hq i _ (List.getElem?_eq_getElem hi)
          exact ⟨ds, k1, k2⟩
        · cases A with
          | none =>
            obtain ⟨rfl, rfl⟩ := hA rfl
            obtain rfl := List.eq_nil_of_length_eq_zero hl
            exact .nil .no (fun g k e => by cases e)
          | some a =>
            by_cases h0 : len = 0
            · subst h0
              obtain rfl := List.eq_nil_of_length_eq_zero hl
              exact .emp a cap hm
            · obtain ⟨b, o, _, _, _, hA', _⟩ := hel 0 (by omega)
              cases hA'
              have hlm : len = (l.map (·.1)).length := by simp [hl]
              rw [hlm]
              refine .sl .no _ b o (P.cellsOf e) cap (fun i j => ((l[i]?.map (·.2)).getD []).getD j default) (fun i d hd => ?_) (fun i j hi hj => ?_) (fun i j hi hj => ?_) (fun i d j c hd hc' => ?_) (by simp; omega) hm (by simp) (fun g k e => by cases e)
              · rw [List.getElem?_map] at hd
                obtain ⟨p, hp, rfl⟩ := Option.map_eq_some_iff.1 hd
                obtain ⟨_, _, _, k1, _, ds, k2, k3, k4⟩ := hq i p hp
                rw [k2, pack_cells k3 k4.2.2.2, k4.1, k1]
              · obtain ⟨p, hp⟩ : ∃ p, l[i]? = some p := ⟨_, List.getElem?_eq_getElem (by simpa using hi)⟩
                obtain ⟨b', o', e', k1, k0, ds, k2, k3, k4⟩ := hq i p hp
                cases e'
                have hj' : j < p.2.length := by omega
                simp only [hp, Option.map_some, Option.getD_some, ghOf]
                have := elemL_get k0 (List.getElem?_eq_getElem hj')
                rw [this]
                simp [List.getD, hj']
              · obtain ⟨p, hp⟩ : ∃ p, l[i]? = some p := ⟨_, List.getElem?_eq_getElem (by simpa using hi)⟩
                obtain ⟨b', o', e', k1, k0, ds, k2, k3, k4⟩ := hq i p hp
                have hj' : j < p.2.length := by omega
                simp only [hp, Option.map_some, Option.getD_some]
                simp only [List.getD, List.getElem?_eq_getElem hj', Option.getD_some]
                exact k4.2.1 _ (List.getElem_mem hj')
              · rw [List.getElem?_map] at hd
                obtain ⟨p, hp, rfl⟩ := Option.map_eq_some_iff.1 hd
                obtain ⟨_, _, _, k1, _, ds, k2, k3, k4⟩ := hq i p hp
                rw [k2, pack_cells k3 k4.2.2.2] at hc'
                have hj' : j < p.2.length := by rw [← k4.1]; exact (List.getElem?_eq_some_iff.1 hc').1
                simp only [hp, Option.map_some, Option.getD_some]
                simp only [List.getD, List.getElem?_eq_getElem hj', Option.getD_some]
                exact k4.2.2.1 j c _ hc' (List.getElem?_eq_getElem hj')
      · cases hs
    · rename_i fs hu
      split at hs
      · rename_i hend
        obtain ⟨ss, hss, rfl⟩ := Option.map_eq_some_iff.1 hs
        have hl := trod_len hu h
        have key : ∀ (gs : List Field) (j0 o : Nat) (ss : List Sh), (∀ i f, gs[i]? = some f → fs[j0 + i]? = some f) → shFields P (shOf P n) o gs = some ss → fieldsEnd P o gs = cs.length →
            ∃ ds, Sh.Hass ss ds ∧ RepR (ghOf w) ds (cs.drop o) := by
          intro gs
          induction gs with
          | nil =>
            intro j0 o ss _ hss he
            simp only [shFields, Option.some.injEq] at hss
            subst hss
            simp only [fieldsEnd] at he
            exact ⟨[], .nil, by rw [List.drop_of_length_le (by omega)]; exact ⟨rfl, by simp, by simp, by simp⟩⟩
          | cons f gs ih =>
            intro j0 o ss hg hss he
            simp only [shFields] at hss
            split at hss
            · rename_i hof
              simp only [Option.bind_eq_bind, Option.bind_eq_some_iff] at hss
              obtain ⟨s0, h0, ss', h1, h2⟩ := hss
              cases h2
              simp only [fieldsEnd] at he
              obtain ⟨ds', k1, k2⟩ := ih (j0 + 1) _ ss' (fun i g hi => by rw [show j0 + 1 + i = j0 + (i + 1) by omega]; exact hg (i + 1) g (by simpa using hi)) h1 he
              obtain ⟨m, y, hy⟩ := trod_field hu h j0 f (by simpa using hg 0 f rfl)
              rw [hof] at hy
              obtain ⟨ds0, q1, q2, q3⟩ := open_sh n h0 hy
              refine ⟨ds0 ++ ds', .cons _ _ _ _ q1 k1, ?_⟩
              have := q2.append k2
              rwa [← List.drop_drop, List.take_append_drop] at this
            · cases hss
        obtain ⟨ds, k1, k2⟩ := key fs.toList 0 0 ss (fun i f hf => by simpa using hf) hss (by rw [hend, hl])
        exact ⟨ds, .st _ _ k1, by simpa using k2, hl⟩
      · cases hs
    · rename_i k e hu
      split at hs
      · rename_i hend
        obtain ⟨s', hs', rfl⟩ := Option.map_eq_some_iff.1 hs
        obtain ⟨xs, m, _, _, hl, hxl, hget⟩ := DataW.trod_array hu h
        have key : ∀ (j i : Nat), i + j = k → ∃ ds, Sh.Hass (List.replicate j s') ds ∧ RepR (ghOf w) ds (cs.drop (i * P.cellsOf e)) := by
          intro j
          induction j with
          | zero =>
            intro i hij
            refine ⟨[], .nil, ?_⟩
            have : i = k := by omega
            subst this
            rw [List.drop_of_length_le (by omega)]
            exact ⟨rfl, by simp, by simp, by simp⟩
          | succ j ih =>
            intro i hij
            obtain ⟨ds', k1, k2⟩ := ih (i + 1) (by omega)
            have hlt : i < xs.length := by omega
            have hy := hget i (by omega)
            rw [List.getElem?_eq_getElem hlt] at hy
            obtain ⟨ds0, q1, q2, q3⟩ := open_sh n hs' hy
            refine ⟨ds0 ++ ds', .cons _ _ _ _ q1 k1, ?_⟩
            have := q2.append k2
            rwa [Nat.add_mul, Nat.one_mul, ← List.drop_drop, List.take_append_drop] at this
        obtain ⟨ds, k1, k2⟩ := key k 0 (by omega)
        exact ⟨ds, .st _ _ k1, by simpa using k2, hl⟩
      · cases hs
    · cases hs
theorem RepR.agg {G : Gh} {ds : List V} {cs : List Value} (h : RepR G ds cs) : Rep1 G (.agg ds) (.agg cs.toArray) :=
  .agg ds _ (by simp [h.1]) (fun i v hv => h.2.1 v (List.mem_of_getElem? (by simpa using hv))) (fun i c v hc hv => h.2.2.1 i c v hc (by simpa using hv))
theorem RepR.head {G : Gh} {d : V} {v : Value} (h : RepR G [d] [v]) : Rep1 G d v := h.2.2.1 0 d v rfl rfl
/-- An argument, as the statement hands it in, as an abstract value. -/
theorem arg_sh {W : World} (n : Nat) {t : TypeId} {s : Sh} {v : Value} {d : DataW H} {p : List MemPlace} (hs : shOf P n t = some s) (h : ArgIn enc P W base t v d p) : ∃ ds, s.Has ds ∧ Rep1 (ghOf W) (s.pack ds) v := by
  cases n with
  | zero => simp [shOf] at hs
  | succ n =>
  have hs0 := hs
  unfold shOf at hs
  split at hs
  · rename_i k hu
    split at hs
    · cases hs
      obtain ⟨m, rfl, hw⟩ := h.int hu
      exact ⟨_, .int k m hw, .sc _ rfl⟩
    · cases hs
  · rename_i hu
    split at hs
    · cases hs
      obtain ⟨b, rfl⟩ := h.bool hu
      exact ⟨_, .bool b, .sc _ rfl⟩
    · cases hs
  · rename_i hu
    split at hs
    · cases hs
      obtain ⟨b, rfl, hm⟩ := h.string hu
      exact ⟨_, .str b hm, .sc _ rfl⟩
    · cases hs
  · rename_i e hu
    split at hs
    · obtain ⟨s', hs', rfl⟩ := Option.map_eq_some_iff.1 hs
      obtain ⟨A, l, c, fuel, rfl, ht⟩ := h.slice hu
      obtain ⟨ds, k1, k2, _⟩ := open_sh _ hs0 ht
      refine ⟨ds, k1, ?_⟩
      cases k1 with
      | sl _ l' h' => exact k2.head
    · cases hs
  · rename_i fs hu
    split at hs
    · obtain ⟨ss, hss, rfl⟩ := Option.map_eq_some_iff.1 hs
      obtain ⟨cs, fuel, rfl, ht⟩ := h.struct hu
      obtain ⟨ds, k1, k2, _⟩ := open_sh _ hs0 ht
      exact ⟨ds, k1, k2.agg⟩
    · cases hs
  · rename_i k e hu
    split at hs
    · obtain ⟨s', hs', rfl⟩ := Option.map_eq_some_iff.1 hs
      have hwd := h.wide
      simp only [Value.okWide, hu] at hwd
      obtain ⟨cs, rfl, _⟩ := hwd
      obtain ⟨fuel, ht⟩ := h.trod
      obtain ⟨ds, k1, k2, _⟩ := open_sh _ hs0 ht
      have ha := k2.agg
      rw [show (Value.agg cs).cells.toList.toArray = cs from by simp [Value.cells]] at ha
      exact ⟨ds, k1, ha⟩
    · cases hs
  · cases hs
end
/-- The state that a law begins in. -/
def st0 (w : World) : St := ⟨fun _ => none, fun _ => none, w.heap.size⟩
theorem repW0 (w : World) : RepW (Fr.of w) (ghOf w) (st0 w) w :=
  ⟨fun _ _ _ h => h, fun _ _ h => (by cases h), fun _ _ h => (by cases h), fun _ _ h => (by cases h), Nat.le_refl _, Below.refl _ _, fun _ _ h => (by cases h)⟩
/-- A law's contract as its call. -/
theorem v_calls {P : Program} {f : FuncId} {args : List V} {us : Array Value} {w : World} (h : VCalls P f args (st0 w) fun r _ => r = .sc (.bool true)) (hl : us.size = args.length)
    (hr : ∀ (i : Nat) (d : V) (u : Value), args[i]? = some d → us[i]? = some u → Rep1 (ghOf w) d u) : Calls P f us w (Pure w (.bool true)) :=
  (h (Fr.of w) (ghOf w) w us (repW0 w) hl hr).mono fun e w' ⟨u, r, st', G', h1, h2, h3, _, h5⟩ => by
    subst h2
    cases h3
    exact ⟨h1, h5.bel⟩
theorem reps1 {G : Gh} {d : V} {u : Value} (h : Rep1 G d u) : ∀ (i : Nat) (x : V) (v : Value), [d][i]? = some x → #[u][i]? = some v → Rep1 G x v := fun i x v hx hv => by
  cases i with
  | zero => simp at hx hv; subst hx hv; exact h
  | succ i => simp at hx
theorem reps2 {G : Gh} {d e : V} {u q : Value} (h : Rep1 G d u) (k : Rep1 G e q) : ∀ (i : Nat) (x : V) (v : Value), [d, e][i]? = some x → #[u, q][i]? = some v → Rep1 G x v := fun i x v hx hv => by
  match i with
  | 0 => simp at hx hv; subst hx hv; exact h
  | 1 => simp at hx hv; subst hx hv; exact k
  | i + 2 => simp at hx
theorem reps3 {G : Gh} {d e f : V} {u q r : Value} (h : Rep1 G d u) (k : Rep1 G e q) (l : Rep1 G f r) : ∀ (i : Nat) (x : V) (v : Value), [d, e, f][i]? = some x → #[u, q, r][i]? = some v → Rep1 G x v := fun i x v hx hv => by
  match i with
  | 0 => simp at hx hv; subst hx hv; exact h
  | 1 => simp at hx hv; subst hx hv; exact k
  | 2 => simp at hx hv; subst hx hv; exact l
  | i + 3 => simp at hx
end
section
open Go Go.RowKit

theorem own : ownKnob Try.prog.godebug = none := by kernel_rfl
theorem laidOut : laidOutB Try.prog = true := by kernel_rfl
theorem u8_wf {n : Int} (h : (Lit.int .u8 n).wf = true) : 0 ≤ n ∧ n < 256 := by have := bounds_u8 h; omega
theorem hasl_bytes : ∀ {l : List V}, Sh.Hasl (.int .u8) l → ∃ L, IsB L ∧ l = bs L := by
  intro l
  induction l with
  | nil => exact fun _ => ⟨[], by intro x hx; (cases hx), rfl⟩
  | cons d l ih =>
    intro h
    cases h with
    | cons _ ds _ h k =>
      obtain ⟨L, hB, rfl⟩ := ih k
      cases h with
      | int _ n hw => exact ⟨n :: L, by
          intro x hx
          rcases List.mem_cons.1 hx with rfl | hx
          · exact u8_wf hw
          · exact hB x hx, rfl⟩
theorem has_bytes {ds : List V} (h : Sh.Has (.sl (.int .u8)) ds) : ∃ L, IsB L ∧ ds = [.sl .no (bs L)] := by
  cases h with
  | sl _ l h =>
    obtain ⟨L, hB, rfl⟩ := hasl_bytes h
    exact ⟨L, hB, rfl⟩
end
section
open Go Go.RowKit

theorem hass_nil {ds : List V} (h : Sh.Hass [] ds) : ds = [] := by cases h; rfl
theorem hass_int {k : IntKind} {l : List Sh} {ds : List V} (h : Sh.Hass (.int k :: l) ds) : ∃ n b, ds = .sc (.int k n) :: b ∧ (Lit.int k n).wf = true ∧ Sh.Hass l b := by
  cases h with
  | cons _ _ a b h0 h1 =>
    cases h0 with
    | int _ n hw => exact ⟨n, b, rfl, hw, h1⟩
theorem hass_bool {l : List Sh} {ds : List V} (h : Sh.Hass (.bool :: l) ds) : ∃ n b, ds = .sc (.bool n) :: b ∧ Sh.Hass l b := by
  cases h with
  | cons _ _ a b h0 h1 =>
    cases h0 with
    | bool n => exact ⟨n, b, rfl, h1⟩
theorem hass_str {l : List Sh} {ds : List V} (h : Sh.Hass (.str :: l) ds) : ∃ n b, ds = .sc (.string n) :: b ∧ n.size ≤ maxLen ∧ Sh.Hass l b := by
  cases h with
  | cons _ _ a b h0 h1 =>
    cases h0 with
    | str n hn => exact ⟨n, b, rfl, hn, h1⟩
theorem hass_st {m l : List Sh} {ds : List V} (h : Sh.Hass (.st m :: l) ds) : ∃ a b, ds = a ++ b ∧ Sh.Hass m a ∧ Sh.Hass l b := by
  cases h with
  | cons _ _ a b h0 h1 =>
    cases h0 with
    | st _ _ h => exact ⟨a, b, rfl, h, h1⟩
theorem has_st {l : List Sh} {ds : List V} (h : Sh.Has (.st l) ds) : Sh.Hass l ds := by
  cases h with
  | st _ _ h => exact h
/-- A slice of structs, element by element. -/
theorem hasl_map {α : Type} {s : Sh} (f : α → V) (ok : α → Prop) (h1 : ∀ ds, Sh.Has s ds → ∃ a, ok a ∧ s.pack ds = f a) : ∀ {l : List V}, Sh.Hasl s l → ∃ L : List α, (∀ a ∈ L, ok a) ∧ l = L.map f := by
  intro l
  induction l with
  | nil => exact fun _ => ⟨[], by intro x hx; (cases hx), rfl⟩
  | cons d l ih =>
    intro h
    cases h with
    | cons _ ds _ h k =>
      obtain ⟨L, hB, rfl⟩ := ih k
      obtain ⟨a, ha, e⟩ := h1 ds h
      exact ⟨a :: L, by
          intro x hx
          rcases List.mem_cons.1 hx with rfl | hx
          · exact ha
          · exact hB x hx, by rw [e]; rfl⟩
theorem has_slmap {α : Type} {s : Sh} {f : α → V} {ok : α → Prop} (h1 : ∀ ds, Sh.Has s ds → ∃ a, ok a ∧ s.pack ds = f a) {ds : List V} (h : Sh.Has (.sl s) ds) : ∃ L : List α, (∀ a ∈ L, ok a) ∧ ds = [.sl .no (L.map f)] := by
  cases h with
  | sl _ l h =>
    obtain ⟨L, hB, rfl⟩ := hasl_map f ok h1 h
    exact ⟨L, hB, rfl⟩
end
end Go.Proofs.Ytmmapbojjgpggaa
