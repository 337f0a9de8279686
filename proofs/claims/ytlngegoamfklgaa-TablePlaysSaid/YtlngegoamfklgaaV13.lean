/- A box is sealed. No program here. RepW.seal: what a second arm of mv needs (not wired into vop yet). -/
import Derived.Test.YtlngegoamfklgaaV12
namespace Go.Proofs.Ytlngegoamfklgaa
open Go Go.RowKit

section
variable {P : Program} {w0 : Fr} {G : Gh} {st : St} {w : World}
def St.drop (s : St) (b : Nat) : St := { s with box := fun x => if x = b then none else s.box x }
/-- A box is sealed: from now on its cells never turn, and slices of it read as data. -/
theorem RepW.seal (hw : RepW w0 G st w) {b : Nat} {cs : List V} (hb : st.box b = some cs) (hmo : mono cs) : ∃ G', G.le G' ∧ RepW w0 G' (st.drop b) w ∧ ∀ (o c size : Nat) (l : List V), (∀ (i : Nat) (d : V), l[i]? = some d → d.cells.length = size) →
    (∀ (i : Nat) (d : V) (j : Nat) (x : V), l[i]? = some d → d.cells[j]? = some x → cs[o + i * size + j]? = some x) → l.length ≤ c → c ≤ maxLen → Rep1 G' (.sl .no l) (.slice (some ⟨b, o, none⟩) l.length c) := by
  obtain ⟨hlt, hge0, hF, hO, hrb⟩ := hw.box b cs hb
  obtain ⟨cur, te, hh, hcl, hc1, hcr⟩ := hrb.row hmo
  have hle : G.le (G.addF b cur) := ⟨fun b' o v hf => by
    simp only [Gh.addF]
    split
    · rename_i e; subst e; rw [hF] at hf; cases hf
    · exact hf, fun _ _ h => h⟩
  refine ⟨G.addF b cur, hle, ⟨fun b' o v hf => ?_, hw.O, fun b' cs' hx => ?_, fun g m hg => ?_, hw.sz, hw.bel, fun c x hx => ?_⟩, fun o c size l hl hx hc hm => ?_⟩
  · simp only [Gh.addF] at hf
    split at hf
    · rename_i e; subst e; rw [cell_of_row w b' o cur te _ hh]; exact hf
    · exact hw.F b' o v hf
  · simp only [St.drop] at hx ⊢
    split at hx
    · cases hx
    · rename_i hne
      obtain ⟨k1, k2, k3, k4, k5⟩ := hw.box b' cs' hx
      exact ⟨k1, k2, fun o => by simp only [Gh.addF]; rw [if_neg hne]; exact k3 o, k4, k5.mono hle⟩
  · obtain ⟨k1, k2, e, size, cap, cur', k3, k4, k5, k6, k7, k8⟩ := hw.own g m hg
    have hne : g ≠ b := fun e => by subst e; rw [hO] at k3; cases k3
    exact ⟨k1, k2, e, size, cap, cur', k3, k4, k5, k6, k7, fun o ho => by simp only [Gh.addF]; rw [if_neg hne]; exact k8 o ho⟩
  · have hne : c ≠ b := fun e => by subst e; rw [hge0.2] at hx; cases hx
    exact ⟨(hw.fr c x hx).1, fun o => by simp only [Gh.addF]; rw [if_neg hne]; exact (hw.fr c x hx).2.1 o, (hw.fr c x hx).2.2⟩
  · have get : ∀ i j, i < l.length → j < size → ∃ v, cur[o + i * size + j]? = some v := fun i j hi hj => by
      have hd := List.getElem?_eq_getElem hi
      have hlen := hl i _ hd
      have hcs := hx i _ j _ hd (List.getElem?_eq_getElem (show j < (l[i]).cells.length by omega))
      exact ⟨_, Array.getElem?_eq_getElem (by rw [hcl]; exact (List.getElem?_eq_some_iff.1 hcs).1)⟩
    refine .sl .no l b o size c (fun i j => (cur[o + i * size + j]?).getD default) hl (fun i j hi hj => ?_) (fun i j hi hj => ?_) (fun i d j x hd hj => ?_) hc hm (by simp) (fun g k e => by cases e)
    · obtain ⟨v, h1⟩ := get i j hi hj
      simp only [Gh.addF, ↓reduceIte, h1, Option.getD_some]
    · obtain ⟨v, h1⟩ := get i j hi hj
      simp only [h1, Option.getD_some]
      exact hc1 _ _ h1
    · have hi := (List.getElem?_eq_some_iff.1 hd).1
      have hjl : j < size := by rw [← hl i d hd]; exact (List.getElem?_eq_some_iff.1 hj).1
      obtain ⟨v, h1⟩ := get i j hi hjl
      simp only [h1, Option.getD_some]
      exact (hcr _ _ _ (hx i d j x hd hj) h1).mono hle
/-- An argument where a box is read as data. -/
inductive Sld (b : Nat) (cs : List V) : V → V → Prop where
  | same (d : V) : Sld b cs d d
  | box (o c size : Nat) (l : List V) (hl : ∀ (i : Nat) (d : V), l[i]? = some d → d.cells.length = size) (hx : ∀ (i : Nat) (d : V) (j : Nat) (x : V), l[i]? = some d → d.cells[j]? = some x → cs[o + i * size + j]? = some x) (hc : l.length ≤ c) (hm : c ≤ maxLen) :
      Sld b cs (.sc (.slice (some ⟨b, o, none⟩) l.length c)) (.sl .no l)
  | agg (xs ys : List V) (hl : xs.length = ys.length) (h : ∀ (i : Nat) (x y : V), xs[i]? = some x → ys[i]? = some y → Sld b cs x y) : Sld b cs (.agg xs) (.agg ys)
theorem Sld.rep {b : Nat} {cs : List V} {x y : V} (h : Sld b cs x y) {G' : Gh} (hle : G.le G') (hb : ∀ (o c size : Nat) (l : List V), (∀ (i : Nat) (d : V), l[i]? = some d → d.cells.length = size) →
    (∀ (i : Nat) (d : V) (j : Nat) (x : V), l[i]? = some d → d.cells[j]? = some x → cs[o + i * size + j]? = some x) → l.length ≤ c → c ≤ maxLen → Rep1 G' (.sl .no l) (.slice (some ⟨b, o, none⟩) l.length c)) : ∀ {v : Value}, Rep1 G x v → Rep1 G' y v := by
  induction h with
  | same d => exact fun h => h.mono hle
  | box o c size l hl hx hc hm =>
    intro v h
    cases h with
    | sc _ _ => exact hb o c size l hl hx hc hm
  | agg xs ys hl h ih =>
    intro v hv
    cases hv with
    | agg _ vs hvl h1 hr =>
    refine .agg _ vs (by rw [hvl, hl]) h1 fun i y u hy hu => ?_
    have hi : i < xs.length := by rw [hl]; exact (List.getElem?_eq_some_iff.1 hy).1
    have hx := List.getElem?_eq_getElem hi
    exact ih i _ y hx hy (hr i _ u hx hu)
/-- A call ahead of which a box is sealed. -/
theorem VCalls.seal {f : FuncId} {args args' : List V} {Q : V → St → Prop} {b : Nat} {cs : List V} (hb : st.box b = some cs) (hmo : _root_.Go.Proofs.Ytlngegoamfklgaa.mono cs) (h : VCalls P f args' (st.drop b) Q) (hl : args.length = args'.length) (hs : ∀ (i : Nat) (d d' : V), args[i]? = some d → args'[i]? = some d' → Sld b cs d d') : VCalls P f args st Q := by
  intro w0 G w us hw hus hr
  obtain ⟨G', k1, k2, k3⟩ := hw.seal hb hmo
  refine (h w0 G' w us k2 (by omega) (fun i d' u hd' hu => ?_)).mono fun e w' ⟨u, r, st', G2, h1, h2, h3, h4, h5⟩ => ⟨u, r, st', G2, h1, h2, h3, k1.trans h4, h5⟩
  have hi : i < args.length := by rw [hl]; exact (List.getElem?_eq_some_iff.1 hd').1
  have hd := List.getElem?_eq_getElem hi
  exact (hs i _ _ hd hd').rep k1 k3 (hr i _ u hd hu)
end
end Go.Proofs.Ytlngegoamfklgaa
