/- A call that only reads: boxes lent as slices. No program here. -/
import Derived.Test.YtlngegoamfklgaaV11
namespace Go.Proofs.Ytlngegoamfklgaa
open Go Go.RowKit

/-- More memory, the old as it was. -/
theorem RepW.below {w0 : Fr} {G : Gh} {s : St} {w w' : World} (h : RepW w0 G s w) (hb : Below w.heap.size w w') : RepW w0 G s w' where
  F b o v hf := by
    have := h.F b o v hf
    rw [hb.cell (p := ⟨b, o, none⟩) (World.block_lt_of_cell? _ _ this)]; exact this
  O g x hx := by have := h.O g x hx; have := hb.size; omega
  box b cs hx := by
    obtain ⟨h1, h2, h3, h4, h5⟩ := h.box b cs hx
    exact ⟨h1, h2, h3, h4, by rw [hb.block b (by have := h.sz; omega)]; exact h5⟩
  own g m hg := by
    obtain ⟨h1, h2, e, size, cap, cur, h3, h4, h5⟩ := h.own g m hg
    exact ⟨h1, h2, e, size, cap, cur, h3, by rw [hb.block g (by have := h.sz; omega)]; exact h4, h5⟩
  sz := by have := h.sz; have := hb.size; omega
  bel := ⟨hb.os.trans h.bel.os, hb.tape.trans h.bel.tape, hb.output.trans h.bel.output, Nat.le_trans h.bel.size hb.size, fun i hi => (hb.block i (by have := h.bel.size; omega)).trans (h.bel.block i hi)⟩
  fr b x hx := ⟨by rw [hb.block b (h.frLt hx)]; exact (h.fr b x hx).1, (h.fr b x hx).2⟩
/-- What an argument reads as. -/
inductive Frz (st : St) : V → V → Prop where
  | same (d : V) : Frz st d d
  | box (b o c size : Nat) (cs l : List V) (hb : st.box b = some cs) (hl : ∀ (i : Nat) (d : V), l[i]? = some d → d.cells.length = size)
      (h : ∀ (i : Nat) (d : V) (j : Nat) (x : V), l[i]? = some d → d.cells[j]? = some x → cs[o + i * size + j]? = some x) (hc : l.length ≤ c) (hm : c ≤ maxLen) (hmo : mono cs) : Frz st (.sc (.slice (some ⟨b, o, none⟩) l.length c)) (.sl .no l)
def ghAll (G : Gh) (w : World) : Gh := ⟨fun b o => w.cell? ⟨b, o, none⟩, G.O⟩
theorem Frz.rep {st : St} {d d' : V} (hf : Frz st d d') {w0 : Fr} {G : Gh} {w : World} (hw : RepW w0 G st w) {v : Value} (h : Rep1 G d v) : Rep1 (ghAll G w) d' v := by
  have hle : G.le (ghAll G w) := ⟨hw.F, fun g x h => h⟩
  cases hf with
  | same d => exact h.mono hle
  | box b o c size cs l hb hl hx hc hm hmo =>
    cases h with
    | sc _ h1 =>
    obtain ⟨vs, e, hh, hsz, hone, hrep⟩ := (hw.box b cs hb).2.2.2.2.row hmo
    have hcell : ∀ k, w.cell? ⟨b, k, none⟩ = vs[k]? := fun k => by simp [World.cell?, hh]
    have get : ∀ i j, i < l.length → j < size → ∃ v x, vs[o + i * size + j]? = some v ∧ cs[o + i * size + j]? = some x ∧ (∃ d, l[i]? = some d ∧ d.cells[j]? = some x) := fun i j hi hj => by
      have hd := List.getElem?_eq_getElem hi
      have hlen := hl i _ hd
      have hjx := List.getElem?_eq_getElem (show j < (l[i]).cells.length by omega)
      have hcs := hx i _ j _ hd hjx
      have hlt : o + i * size + j < vs.size := by rw [hsz]; exact (List.getElem?_eq_some_iff.1 hcs).1
      exact ⟨_, _, Array.getElem?_eq_getElem hlt, hcs, _, hd, hjx⟩
    refine .sl .no l b o size c (fun i j => (vs[o + i * size + j]?).getD default) hl (fun i j hi hj => ?_) (fun i j hi hj => ?_) (fun i d j x hd hj => ?_) hc hm (by simp) (fun g k e => by cases e)
    · obtain ⟨v, x, h1, _⟩ := get i j hi hj
      simp only [ghAll, hcell, h1, Option.getD_some]
    · obtain ⟨v, x, h1, _⟩ := get i j hi hj
      simp only [h1, Option.getD_some]
      exact hone _ _ h1
    · have hi := (List.getElem?_eq_some_iff.1 hd).1
      have hjl : j < size := by rw [← hl i d hd]; exact (List.getElem?_eq_some_iff.1 hj).1
      obtain ⟨v, x', h1, h2, _⟩ := get i j hi hjl
      have hcs := hx i d j x hd hj
      simp only [h1, Option.getD_some]
      exact (hrep _ _ _ hcs h1).mono hle
/-- A callee that needs none of the caller's boxes, and hands back a plain value: the state stays. -/
theorem VCalls.frz {P : Program} {f : FuncId} {args args' : List V} {x : Value} {st : St} (h : ∀ n, VCalls P f args' ⟨fun _ => none, fun _ => none, n⟩ fun r _ => r = .sc x) (hl : args.length = args'.length)
    (hfr : ∀ (i : Nat) (d d' : V), args[i]? = some d → args'[i]? = some d' → Frz st d d') : VCalls P f args st fun r st' => r = .sc x ∧ st = st' := by
  intro w0 G w us hw hus hr
  have hw2 : RepW (Fr.of w) (ghAll G w) ⟨fun _ => none, fun _ => none, w.heap.size⟩ w :=
    ⟨fun _ _ _ h => h, hw.O, fun _ _ h => (by cases h), fun _ _ h => (by cases h), Nat.le_refl _, Below.refl _ _, fun _ _ h => (by cases h)⟩
  refine (h w.heap.size (Fr.of w) (ghAll G w) w us hw2 (by omega) (fun i d' u hd' hu => ?_)).mono fun e w' ⟨u, r, st', G', h1, h2, h3, _, h5⟩ => ?_
  · have hi : i < args.length := by rw [hl]; exact (List.getElem?_eq_some_iff.1 hd').1
    have hd := List.getElem?_eq_getElem hi
    exact (hfr i _ _ hd hd').rep hw (hr i _ u hd hu)
  · subst h2
    cases h3 with
    | sc _ h1' => exact ⟨x, .sc x, st, G, h1, ⟨rfl, rfl⟩, .sc _ h1', .refl G, hw.below h5.bel⟩
end Go.Proofs.Ytlngegoamfklgaa
