/- Deleting from a row by a function: what lists hold; the function. No program here. -/
import Derived.Test.YtlngegoamfklgaaVRowC
import Derived.Test.YtlngegoamfklgaaVSortLaw2
namespace Go.Proofs.Ytlngegoamfklgaa
open Go

section
variable {α : Type} [Inhabited α] {p : α → Bool} {L M : List α} {i j : Nat}
def idxP (p : α → Bool) (L : List α) : Int := match L.findIdx? p with | some i => i | none => -1
theorem idxP_at (hi : i < L.length) (hp : p L[i]! = true) (hb : ∀ j < i, p L[j]! = false) : idxP p L = i := by
  have : L.findIdx? p = some i := by
    rw [List.findIdx?_eq_some_iff_getElem]
    refine ⟨hi, by rwa [getElem!_pos L i hi] at hp, fun j hj => ?_⟩
    have := hb j hj
    rw [getElem!_pos L j (by omega)] at this
    simp [this]
  unfold idxP
  rw [this]
theorem idxP_none (hb : ∀ j < L.length, p L[j]! = false) : idxP p L = -1 := by
  have : L.findIdx? p = none := by
    rw [List.findIdx?_eq_none_iff]
    intro x hx
    obtain ⟨j, hj, rfl⟩ := List.mem_iff_getElem.1 hx
    have := hb j hj
    rwa [getElem!_pos L j hj] at this
  unfold idxP
  rw [this]
theorem idxP_cases (p : α → Bool) (L : List α) : (idxP p L = -1 ∧ (L.filter fun x => !p x) = L) ∨ ∃ i, i < L.length ∧ p L[i]! = true ∧ (∀ j < i, p L[j]! = false) ∧ idxP p L = i := by
  cases hf : L.findIdx? p with
  | none =>
    rw [List.findIdx?_eq_none_iff] at hf
    refine .inl ⟨idxP_none fun j hj => ?_, List.filter_eq_self.2 fun x hx => by rw [hf x hx]; rfl⟩
    rw [getElem!_pos L j hj]
    exact hf _ (List.getElem_mem hj)
  | some i =>
    obtain ⟨h1, h2, h3⟩ := List.findIdx?_eq_some_iff_getElem.1 hf
    have hp : p L[i]! = true := by rw [getElem!_pos L i h1]; exact h2
    have hb : ∀ j < i, p L[j]! = false := fun j hj => by
      have := h3 j hj
      rw [getElem!_pos L j (by omega)]
      simpa using this
    exact .inr ⟨i, h1, hp, hb, idxP_at h1 hp hb⟩
/-- Midway: the first i are those of the first j that stay; from j on all is as it was. -/
structure DelI (p : α → Bool) (L M : List α) (i j : Nat) : Prop where
  len : M.length = L.length
  ij : i < j
  jl : j ≤ L.length
  pre : M.take i = (L.take j).filter fun x => !p x
  rest : ∀ k, j ≤ k → M[k]! = L[k]!
theorem take_bang (hi : i < L.length) : L.take (i + 1) = L.take i ++ [L[i]!] := by
  rw [List.take_add_one, bang_get hi]; rfl
theorem DelI.start (hi : i < L.length) (hp : p L[i]! = true) (hb : ∀ j < i, p L[j]! = false) : DelI p L L i (i + 1) := by
  refine ⟨rfl, by omega, by omega, ?_, fun _ _ => rfl⟩
  rw [take_bang hi, List.filter_append, List.filter_cons_of_neg (by rw [hp]; simp), List.filter_nil, List.append_nil]
  refine (List.filter_eq_self.2 fun x hx => ?_).symm
  obtain ⟨k, hk, rfl⟩ := List.mem_iff_getElem.1 hx
  rw [List.length_take] at hk
  have := hb k (by omega)
  rw [getElem!_pos L k (by omega)] at this
  rw [List.getElem_take, this]; rfl
theorem DelI.drop (h : DelI p L M i j) (hj : j < L.length) (hp : p L[j]! = true) : DelI p L M i (j + 1) := by
  refine ⟨h.len, by have := h.ij; omega, by omega, ?_, fun k hk => h.rest k (by omega)⟩
  rw [h.pre, take_bang hj, List.filter_append, List.filter_cons_of_neg (by rw [hp]; simp), List.filter_nil, List.append_nil]
theorem DelI.keep (h : DelI p L M i j) (hj : j < L.length) (hp : p L[j]! = false) : DelI p L (M.set i M[j]!) (i + 1) (j + 1) := by
  have hl := h.len
  have hij := h.ij
  refine ⟨by simp [hl], by omega, by omega, ?_, fun k hk => ?_⟩
  · have hM : (M.set i M[j]!)[i]! = M[j]! := by rw [getElem!_pos _ i (by simp; omega)]; simp
    rw [take_bang (by simp; omega), hM, List.take_set_of_le (Nat.le_refl _), h.pre, take_bang hj, List.filter_append, List.filter_cons_of_pos (by rw [hp]; rfl), List.filter_nil, h.rest j (Nat.le_refl _)]
  · by_cases hk2 : k < M.length
    · rw [getElem!_pos _ k (by simpa using hk2), List.getElem_set_ne (by omega), ← getElem!_pos M k hk2]
      exact h.rest k (by omega)
    · rw [getElem!_neg _ k (by simpa using hk2), getElem!_neg L k (by omega)]
theorem DelI.fin (h : DelI p L M i j) (hj : L.length ≤ j) : M.take i = L.filter fun x => !p x := by
  rw [h.pre, List.take_of_length_le hj]
end
section
variable {α : Type} {val : α → V × V} {L : List α} {sp : List V}
theorem rowc_cut {i : Nat} {z : List V} (hi : i ≤ L.length) (hz : z.length = 2) : ∃ sp', (L.take i).length * 2 + sp'.length = L.length * 2 + sp.length ∧ splice (rowc val L sp) (i * 2) (List.replicate (L.length - i) z).flatten = rowc val (L.take i) sp' := by
  have hsplit : rowc val L sp = rowc val (L.take i) (rowc val (L.drop i) sp) := by
    unfold rowc
    rw [← List.append_assoc, ← List.flatMap_append, List.take_append_drop]
  have hl : (L.take i).length = i := by simp; omega
  have hfl : ((List.replicate (L.length - i) z).flatten).length = (L.length - i) * 2 := by simp [hz]
  refine ⟨(List.replicate (L.length - i) z).flatten ++ sp, by rw [List.length_append, hfl, hl]; omega, ?_⟩
  have hpre : ∀ r : List V, rowc val (L.take i) r = (L.take i).flatMap (fun x => two (val x)) ++ r := fun r => rfl
  have hpl : ((L.take i).flatMap fun x => two (val x)).length = i * 2 := by
    have := rowc_len (val := val) (L := L.take i) (sp := [])
    rw [hl] at this
    simpa [rowc] using this
  unfold splice
  rw [hsplit, hpre, hpre, List.take_left' hpl, hfl, List.append_assoc]
  congr 2
  rw [← List.drop_drop, List.drop_left' hpl]
  have hdl : ((L.drop i).flatMap fun x => two (val x)).length = (L.length - i) * 2 := by
    have := rowc_len (val := val) (L := L.drop i) (sp := [])
    simpa [rowc] using this
  unfold rowc
  rw [List.drop_left' hdl]
end
theorem mono_big : ∀ {cs : List V}, 2 ≤ cs.length → mono cs
  | [], h => by simp at h
  | [_], h => by simp at h
  | _ :: _ :: _, _ => mono_two ▸ trivial
/-- A function with one captured variable. -/
def clV (g : FuncId) (t : Nat) : V := .sc (.func (.func g) #[] #[.pointer (some ⟨t, 0, none⟩)])
theorem one_ptr {t : Nat} : ∀ v : Value, v = Value.pointer (some ⟨t, 0, none⟩) → v.oneCell' = true := fun v h => by subst h; rfl
theorem arr1 {v : Value} : (#[v] : Array Value).toList = [v] := rfl
structure DelF {α : Type} (P : Program) (g : FuncId) (t : Nat) (X : List V) (val : α → V × V) (p : α → Bool) : Prop where
  run : ∀ (st : St), st.box t = some X → ∀ x : α, VCalls P g [.agg [(val x).1, (val x).2], .sc (.pointer (some ⟨t, 0, none⟩))] st fun r st' => r = .sc (.bool (p x)) ∧ st = st'
  call : callable P g = true
end Go.Proofs.Ytlngegoamfklgaa
