/- A box is sealed. No program here. RepW.seal: what a second arm of mv needs (not wired into vop yet). -/
import Derived.Test.YtbmkohmhiafphaaV12
namespace Go.Proofs.Ytbmkohmhiafphaa
open Go Go.RowKit

section
variable {P : Program} {w0 : World} {G : Gh} {st : St} {w : World}
def St.drop (s : St) (b : Nat) : St := { s with box := fun x => if x = b then none else s.box x }
/-- A box is sealed: from now on its cells never turn, and slices of it read as data. -/
theorem RepW.seal (hw : RepW w0 G st w) {b : Nat} {cs : List V} (hb : st.box b = some cs) : ∃ G', G.le G' ∧ RepW w0 G' (st.drop b) w ∧ ∀ (o c size : Nat) (l : List V), (∀ (i : Nat) (d : V), l[i]? = some d → d.cells.length = size) →
    (∀ (i : Nat) (d : V) (j : Nat) (x : V), l[i]? = some d → d.cells[j]? = some x → cs[o + i * size + j]? = some x) → l.length ≤ c → c ≤ maxLen → Rep1 G' (.sl .no l) (.slice (some ⟨b, o, none⟩) l.length c) := by
  obtain ⟨hlt, hge0, hF, hO, cur, te, hh, hcl, hc1, hcr⟩ := hw.box b cs hb
  have hle : G.le (G.addF b cur) := ⟨fun b' o v hf => by
    simp only [Gh.addF]
    split
    · rename_i e; subst e; rw [hF] at hf; cases hf
    · exact hf, fun _ _ h => h⟩
  refine ⟨G.addF b cur, hle, ⟨fun b' o v hf => ?_, hw.O, fun b' cs' hx => ?_, fun g m hg => ?_, hw.sz, hw.bel⟩, fun o c size l hl hx hc hm => ?_⟩
  · simp only [Gh.addF] at hf
    split at hf
    · rename_i e; subst e; rw [cell_of_row w b' o cur te _ hh]; exact hf
    · exact hw.F b' o v hf
  · simp only [St.drop] at hx ⊢
    split at hx
    · cases hx
    · rename_i hne
      obtain ⟨k1, k2, k3, k4, vs, e, k5, k6, k7, k8⟩ := hw.box b' cs' hx
      exact ⟨k1, k2, fun o => by simp only [Gh.addF]; rw [if_neg hne]; exact k3 o, k4, vs, e, k5, k6, k7, fun i c v hc hv => (k8 i c v hc hv).mono hle⟩
  · obtain ⟨k1, k2, e, size, cap, cur', k3, k4, k5, k6, k7, k8⟩ := hw.own g m hg
    have hne : g ≠ b := fun e => by subst e; rw [hO] at k3; cases k3
    exact ⟨k1, k2, e, size, cap, cur', k3, k4, k5, k6, k7, fun o ho => by simp only [Gh.addF]; rw [if_neg hne]; exact k8 o ho⟩
  · have get : ∀ i j, i < l.length → j < size → ∃ v, cur[o + i * size + j]? = some v := fun i j hi hj => by
      have hd := List.getElem?_eq_getElem hi
      have hlen := hl i _ hd
      have hcs := hx i _ j _ hd (List.getElem?_eq_getElem (show j < (l[i]).cells.length by omega))
      exact ⟨_, Array.getElem?_eq_getElem (by rw [hcl]; exact (List.getElem?_eq_some_iff.1 hcs).1)⟩
    refine .sl .no l b o size c (fun i j => (cur[o + i * size + j]?).getD default) hl (fun i j hi hj => ?_) (fun i j hi hj => ?_) (fun i d j x hd hj => ?_) hc hm (by simp) (fun g k e => by cases e)
    · obtain ⟨v, h1⟩ := get i j hi hj
      simp only [Gh.addF, ↓reduceIte, h1, Option.getD_some]
    · obtain ⟨v, h1⟩ := get i j hi hj
      simp only [h1, Option.getD_some]
      exact hc1 _ _ h1
    · have hi := (List.getElem?_eq_some_iff.1 hd).1
      have hjl : j < size := by rw [← hl i d hd]; exact (List.getElem?_eq_some_iff.1 hj).1
      obtain ⟨v, h1⟩ := get i j hi hjl
      simp only [h1, Option.getD_some]
      exact (hcr _ _ _ (hx i d j x hd hj) h1).mono hle
end
end Go.Proofs.Ytbmkohmhiafphaa
