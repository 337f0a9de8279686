/- Maps as lists of keys and values. No program here. -/
import Derived.Test.YtlngegoamfklgaaVData
import Derived.Test.YtlngegoamfklgaaV13
namespace Go.Proofs.Ytlngegoamfklgaa
open Go

section
variable {κ ν : Type} [DecidableEq κ]
/-- What a list has under a key. -/
def aget (a : κ) : List (κ × ν) → Option ν
  | [] => none
  | p :: l => if a = p.1 then some p.2 else aget a l
def aset (a : κ) (v : ν) : List (κ × ν) → List (κ × ν)
  | [] => [(a, v)]
  | p :: l => if a = p.1 then (a, v) :: l else p :: aset a v l
def adel (a : κ) : List (κ × ν) → List (κ × ν)
  | [] => []
  | p :: l => if a = p.1 then l else p :: adel a l
theorem aget_none {a : κ} : ∀ {l : List (κ × ν)}, aget a l = none ↔ ∀ p ∈ l, p.1 ≠ a
  | [] => by simp [aget]
  | p :: l => by
    simp only [aget]
    split
    · rename_i h; simp [h]
    · rename_i h
      rw [aget_none]
      simp only [List.mem_cons, forall_eq_or_imp, ne_eq]
      exact ⟨fun h' => ⟨fun e => h e.symm, h'⟩, fun h' => h'.2⟩
theorem aget_mem {a : κ} {v : ν} : ∀ {l : List (κ × ν)}, aget a l = some v → (a, v) ∈ l
  | [], h => by cases h
  | p :: l, h => by
    simp only [aget] at h
    split at h
    · rename_i e
      simp only [Option.some.injEq] at h
      subst h; subst e
      simp
    · exact List.mem_cons_of_mem _ (aget_mem h)
theorem aget_some {a : κ} : ∀ {l : List (κ × ν)}, (∃ p ∈ l, p.1 = a) → ∃ v, aget a l = some v := fun {l} h => by
  cases e : aget a l with
  | none =>
    obtain ⟨p, hp, hpa⟩ := h
    exact absurd hpa (aget_none.1 e p hp)
  | some v => exact ⟨v, rfl⟩
theorem aget_of_mem {a : κ} {v : ν} : ∀ {l : List (κ × ν)}, (l.map (·.1)).Nodup → (a, v) ∈ l → aget a l = some v
  | [], _, h => by cases h
  | p :: l, hn, h => by
    simp only [List.map_cons, List.nodup_cons, List.mem_map, not_exists, not_and] at hn
    simp only [aget]
    rcases List.mem_cons.1 h with rfl | h
    · simp
    · rw [if_neg (fun e => hn.1 (a, v) h e), aget_of_mem hn.2 h]
theorem aset_new {a : κ} {v : ν} : ∀ {l : List (κ × ν)}, aget a l = none → aset a v l = l ++ [(a, v)]
  | [], _ => rfl
  | p :: l, h => by
    simp only [aget] at h
    split at h
    · cases h
    · rename_i e
      simp only [aset, if_neg e, aset_new h, List.cons_append]
theorem adel_same {a : κ} : ∀ {l : List (κ × ν)}, aget a l = none → adel a l = l
  | [], _ => rfl
  | p :: l, h => by
    simp only [aget] at h
    split at h
    · cases h
    · rename_i e
      simp only [adel, if_neg e, adel_same h]
theorem adel_filter {a : κ} : ∀ {l : List (κ × ν)}, (l.map (·.1)).Nodup → adel a l = l.filter fun p => p.1 ≠ a
  | [], _ => rfl
  | p :: l, hn => by
    simp only [List.map_cons, List.nodup_cons, List.mem_map, not_exists, not_and] at hn
    simp only [adel, List.filter_cons]
    by_cases e : a = p.1
    · rw [if_pos e, if_neg (by simp [e])]
      refine (List.filter_eq_self.2 fun q hq => ?_).symm
      simp only [decide_eq_true_eq]
      exact fun h => hn.1 q hq (h.trans e)
    · rw [if_neg e, if_pos (by simp; exact fun h => e h.symm), adel_filter hn.2]
theorem adel_nodup {a : κ} {l : List (κ × ν)} (hn : (l.map (·.1)).Nodup) : ((adel a l).map (·.1)).Nodup := by
  rw [adel_filter hn]
  exact hn.sublist (List.filter_sublist.map _)
theorem aset_nodup {a : κ} {v : ν} : ∀ {l : List (κ × ν)}, (l.map (·.1)).Nodup → ((aset a v l).map (·.1)).Nodup
  | [], _ => by simp [aset]
  | p :: l, hn => by
    simp only [aset]
    split
    · rename_i e; simpa [e] using hn
    · rename_i e
      simp only [List.map_cons, List.nodup_cons] at hn ⊢
      refine ⟨fun h => ?_, aset_nodup hn.2⟩
      obtain ⟨q, hq, hqe⟩ := List.mem_map.1 h
      by_cases hc : aget a l = none
      · rw [aset_new hc] at hq
        rcases List.mem_append.1 hq with hq | hq
        · exact hn.1 (List.mem_map.2 ⟨q, hq, hqe⟩)
        · simp at hq; subst hq; exact e hqe
      · have hk : ∀ {l : List (κ × ν)}, aget a l ≠ none → (aset a v l).map (·.1) = l.map (·.1) := fun {l} => by
          induction l with
          | nil => intro h; exact absurd rfl h
          | cons p l ih =>
            intro h
            simp only [aget] at h
            simp only [aset]
            split
            · rename_i e; simp [e]
            · rename_i e; rw [if_neg e] at h; simp [ih h]
        rw [hk hc] at h
        exact hn.1 h
theorem aget_set {a b : κ} {v : ν} : ∀ {l : List (κ × ν)}, aget b (aset a v l) = if b = a then some v else aget b l
  | [] => by simp only [aset, aget]
  | p :: l => by
    simp only [aset]
    split
    · rename_i e
      simp only [aget]
      split
      · rfl
      · rename_i h; rw [if_neg (fun h' => h (h'.trans e.symm))]
    · rename_i e
      simp only [aget, aget_set]
      split
      · rename_i h
        rw [if_neg (fun h' => e (h'.symm.trans h))]
      · rfl
theorem aget_del {a b : κ} {l : List (κ × ν)} (hn : (l.map (·.1)).Nodup) : aget b (adel a l) = if b = a then none else aget b l := by
  rw [adel_filter hn]
  clear hn
  induction l with
  | nil => simp [aget]
  | cons p l ih =>
    simp only [List.filter_cons]
    by_cases h : p.1 = a
    · rw [if_neg (by simp [h]), ih]
      simp only [aget]
      split
      · rfl
      · rename_i hb; rw [if_neg (fun e => hb (e.trans h))]
    · rw [if_pos (by simpa using h)]
      simp only [aget, ih]
      split
      · rename_i hb; rw [if_neg (fun e => h (hb.symm.trans e))]
      · rfl

end
section
variable {κ ν : Type}
/-- The entries of a map are this list's. -/
structure Mp (kf : κ → V) (vf : ν → V) (es : List (V × V × Nat)) (c : Nat) (l : List (κ × ν)) : Prop where
  eq : es.map (fun e => (e.1, e.2.1)) = l.map fun p => (kf p.1, vf p.2)
  inc : (es.map (·.2.2)).Pairwise (· < ·)
  lt : ∀ e ∈ es, e.2.2 < c
variable {kf : κ → V} {vf : ν → V} {es : List (V × V × Nat)} {c : Nat} {l : List (κ × ν)}
theorem Mp.nil : Mp kf vf [] c ([] : List (κ × ν)) := ⟨rfl, .nil, fun e he => by cases he⟩
theorem Mp.len (h : Mp kf vf es c l) : es.length = l.length := by simpa using congrArg List.length h.eq
theorem Mp.at (h : Mp kf vf es c l) {i : Nat} {e : V × V × Nat} (he : es[i]? = some e) : ∃ p, l[i]? = some p ∧ e.1 = kf p.1 ∧ e.2.1 = vf p.2 := by
  have h1 : (es.map (fun e => (e.1, e.2.1)))[i]? = some (e.1, e.2.1) := by simp [he]
  rw [h.eq, List.getElem?_map, Option.map_eq_some_iff] at h1
  obtain ⟨p, hp, hpe⟩ := h1
  simp only [Prod.mk.injEq] at hpe
  exact ⟨p, hp, hpe.1.symm, hpe.2.symm⟩
end
section
variable {κ ν : Type} [DecidableEq κ] {kf : κ → V} {vf : ν → V} {es : List (V × V × Nat)} {c : Nat} {l : List (κ × ν)}
theorem mfind_eq (hk : ∀ a b, eqV (kf a).cells (kf b).cells = decide (a = b)) (a : κ) : ∀ (es : List (V × V × Nat)) (l : List (κ × ν)), es.map (fun e => (e.1, e.2.1)) = l.map (fun p => (kf p.1, vf p.2)) → mfind (kf a) es = (aget a l).map vf
  | [], [], _ => rfl
  | e :: es, p :: l, h => by
    simp only [List.map_cons, List.cons.injEq, Prod.mk.injEq] at h
    simp only [mfind, aget, h.1.1, hk, decide_eq_true_eq]
    split
    · simp [h.1.2]
    · exact mfind_eq hk a es l h.2
  | [], _ :: _, h => by simp at h
  | _ :: _, [], h => by simp at h
theorem Mp.find (hk : ∀ a b, eqV (kf a).cells (kf b).cells = decide (a = b)) (h : Mp kf vf es c l) (a : κ) : mfind (kf a) es = (aget a l).map vf := mfind_eq hk a es l h.eq
theorem mset_eq (hk : ∀ a b, eqV (kf a).cells (kf b).cells = decide (a = b)) (a : κ) (v : ν) (c : Nat) : ∀ (es : List (V × V × Nat)) (l : List (κ × ν)), es.map (fun e => (e.1, e.2.1)) = l.map (fun p => (kf p.1, vf p.2)) →
    (mset (kf a) (vf v) c es).map (fun e => (e.1, e.2.1)) = (aset a v l).map (fun p => (kf p.1, vf p.2)) ∧ (mset (kf a) (vf v) c es).map (·.2.2) = if (aget a l).isSome = true then es.map (·.2.2) else es.map (·.2.2) ++ [c]
  | [], [], _ => by simp [mset, aset, aget]
  | e :: es, p :: l, h => by
    simp only [List.map_cons, List.cons.injEq, Prod.mk.injEq] at h
    simp only [mset, aset, aget, h.1.1, hk, decide_eq_true_eq]
    split
    · simp [h.2]
    · obtain ⟨h1, h2⟩ := mset_eq hk a v c es l h.2
      simp only [List.map_cons, h1, h2, h.1.1, h.1.2, true_and]
      split <;> simp
  | [], _ :: _, h => by simp at h
  | _ :: _, [], h => by simp at h
theorem Mp.set (hk : ∀ a b, eqV (kf a).cells (kf b).cells = decide (a = b)) (h : Mp kf vf es c l) (a : κ) (v : ν) : Mp kf vf (mset (kf a) (vf v) c es) (mclk es (kf a) c) (aset a v l) := by
  obtain ⟨h1, h2⟩ := mset_eq hk a v c es l h.eq
  have hf := Mp.find hk h a
  have hlt : ∀ x ∈ es.map (·.2.2), x < c := fun x hx => by
    obtain ⟨e, he, rfl⟩ := List.mem_map.1 hx
    exact h.lt e he
  refine ⟨h1, ?_, fun e he => ?_⟩
  · rw [h2]
    split
    · exact h.inc
    · rw [List.pairwise_append]
      exact ⟨h.inc, by simp, fun x hx y hy => by simp at hy; subst hy; exact hlt x hx⟩
  · have he' : e.2.2 ∈ (mset (kf a) (vf v) c es).map (·.2.2) := List.mem_map.2 ⟨e, he, rfl⟩
    rw [h2] at he'
    unfold mclk
    rw [hf]
    cases hg : aget a l with
    | none =>
      rw [hg, if_neg (by simp)] at he'
      simp only [Option.isSome_none, Bool.false_eq_true, ↓reduceIte, Option.map_none]
      rcases List.mem_append.1 he' with h' | h'
      · have := hlt _ h'; omega
      · simp at h'; omega
    | some v =>
      rw [hg, if_pos (by simp)] at he'
      simp only [Option.isSome_some, ↓reduceIte, Option.map_some]
      exact hlt _ he'
theorem mdel_eq (hk : ∀ a b, eqV (kf a).cells (kf b).cells = decide (a = b)) (a : κ) : ∀ (es : List (V × V × Nat)) (l : List (κ × ν)), es.map (fun e => (e.1, e.2.1)) = l.map (fun p => (kf p.1, vf p.2)) →
    (mdel (kf a) es).map (fun e => (e.1, e.2.1)) = (adel a l).map (fun p => (kf p.1, vf p.2)) ∧ (mdel (kf a) es).Sublist es
  | [], [], _ => by simp [mdel, adel]
  | e :: es, p :: l, h => by
    simp only [List.map_cons, List.cons.injEq, Prod.mk.injEq] at h
    simp only [mdel, adel, h.1.1, hk, decide_eq_true_eq]
    split
    · exact ⟨h.2, List.sublist_cons_self _ _⟩
    · obtain ⟨h1, h2⟩ := mdel_eq hk a es l h.2
      exact ⟨by simp only [List.map_cons, h1, h.1.1, h.1.2], h2.cons_cons _⟩
  | [], _ :: _, h => by simp at h
  | _ :: _, [], h => by simp at h
theorem Mp.del (hk : ∀ a b, eqV (kf a).cells (kf b).cells = decide (a = b)) (h : Mp kf vf es c l) (a : κ) : Mp kf vf (mdel (kf a) es) c (adel a l) := by
  obtain ⟨h1, h2⟩ := mdel_eq hk a es l h.eq
  exact ⟨h1, h.inc.sublist (h2.map _), fun e he => h.lt e (h2.subset he)⟩
/-- 'm[k] = v' in two steps: the entry, then its value. -/
theorem mborn_eq (hk : ∀ a b, eqV (kf a).cells (kf b).cells = decide (a = b)) (a : κ) (v w : ν) (c : Nat) : ∀ (es : List (V × V × Nat)) (l : List (κ × ν)), es.map (fun e => (e.1, e.2.1)) = l.map (fun p => (kf p.1, vf p.2)) → (es.map (·.2.2)).Pairwise (· < ·) → (∀ e ∈ es, e.2.2 < c) →
    mstamp (mborn (kf a) c es) (vf v) (mset (kf a) (vf w) c es) = mset (kf a) (vf v) c es ∧ ∃ e ∈ mset (kf a) (vf w) c es, e.2.2 = mborn (kf a) c es
  | [], [], _, _, _ => by simp [mset, mborn, mstamp]
  | e :: es, p :: l, h, hi, hl => by
    simp only [List.map_cons, List.cons.injEq, Prod.mk.injEq] at h
    simp only [List.map_cons, List.pairwise_cons] at hi
    simp only [mset, mborn, h.1.1, hk, decide_eq_true_eq]
    split
    · simp [mstamp]
    · obtain ⟨h1, e', he', h2⟩ := mborn_eq hk a v w c es l h.2 hi.2 (fun x hx => hl x (List.mem_cons_of_mem _ hx))
      have hne : e.2.2 ≠ mborn (kf a) c es := by
        have : mborn (kf a) c es = c ∨ mborn (kf a) c es ∈ es.map (·.2.2) := by
          clear h1 he' h2 hi hl h
          induction es with
          | nil => left; rfl
          | cons x es ih =>
            simp only [mborn]
            split
            · right; simp
            · rcases ih with h | h
              · exact .inl h
              · right; simp only [List.map_cons, List.mem_cons]; exact .inr h
        rcases this with h | h
        · rw [h]; have := hl e (by simp); omega
        · have := hi.1 _ h; omega
      refine ⟨?_, e', List.mem_cons_of_mem _ he', h2⟩
      simp only [mstamp, if_neg hne, h1]
  | [], _ :: _, h, _, _ => by simp at h
  | _ :: _, [], h, _, _ => by simp at h
theorem Mp.two (hk : ∀ a b, eqV (kf a).cells (kf b).cells = decide (a = b)) (h : Mp kf vf es c l) (a : κ) (v w : ν) : mstamp (mborn (kf a) c es) (vf v) (mset (kf a) (vf w) c es) = mset (kf a) (vf v) c es ∧ ∃ e ∈ mset (kf a) (vf w) c es, e.2.2 = mborn (kf a) c es := mborn_eq hk a v w c es l h.eq h.inc h.lt
end
section
variable {κ ν : Type} {kf : κ → V} {vf : ν → V} {es : List (V × V × Nat)} {c : Nat} {l : List (κ × ν)}

/-! ### Going through a map -/
structure Going (es : List (V × V × Nat)) (seen ix : List Nat) : Prop where
  nd : ix.Nodup
  lt : ∀ i ∈ ix, i < es.length
  eq : seen = ix.map fun i => ((es[i]?).map (·.2.2)).getD 0
theorem Going.nil : Going es [] [] := ⟨.nil, fun i hi => (by cases hi), rfl⟩
theorem pairwise_inj {l : List Nat} (h : l.Pairwise (· < ·)) {i j : Nat} {x : Nat} (hi : l[i]? = some x) (hj : l[j]? = some x) : i = j := by
  have h1 := (List.getElem?_eq_some_iff.1 hi)
  have h2 := (List.getElem?_eq_some_iff.1 hj)
  obtain ⟨hi1, hi2⟩ := h1
  obtain ⟨hj1, hj2⟩ := h2
  rcases Nat.lt_trichotomy i j with hlt | rfl | hlt
  · have := List.pairwise_iff_getElem.1 h i j hi1 hj1 hlt; omega
  · rfl
  · have := List.pairwise_iff_getElem.1 h j i hj1 hi1 hlt; omega
theorem Going.step {seen ix : List Nat} (h : Mp kf vf es c l) (g : Going es seen ix) {e : V × V × Nat} (he : e ∈ es) (hs : e.2.2 ∉ seen) :
    ∃ i p, i ∉ ix ∧ es[i]? = some e ∧ l[i]? = some p ∧ e.1 = kf p.1 ∧ e.2.1 = vf p.2 ∧ Going es (seen ++ [e.2.2]) (ix ++ [i]) := by
  obtain ⟨i, hi⟩ := List.mem_iff_getElem?.1 he
  obtain ⟨p, hp, h1, h2⟩ := h.at hi
  have hn : i ∉ ix := fun hx => hs (by rw [g.eq]; exact List.mem_map.2 ⟨i, hx, by rw [hi]; rfl⟩)
  refine ⟨i, p, hn, hi, hp, h1, h2, ?_, fun j hj => ?_, ?_⟩
  · rw [List.nodup_append]
    exact ⟨g.nd, by simp, fun x hx y hy => by simp at hy; subst hy; exact fun e => hn (e ▸ hx)⟩
  · rcases List.mem_append.1 hj with hj | hj
    · exact g.lt j hj
    · simp at hj; subst hj; exact (List.getElem?_eq_some_iff.1 hi).1
  · rw [g.eq, List.map_append]
    simp [hi]
theorem Going.done {seen ix : List Nat} (h : Mp kf vf es c l) (g : Going es seen ix) (hall : ∀ e ∈ es, e.2.2 ∈ seen) : ∀ i, i < l.length → i ∈ ix := fun i hi => by
  rw [← h.len] at hi
  have hi' := List.getElem?_eq_getElem hi
  have := hall _ (List.mem_of_getElem? hi')
  rw [g.eq] at this
  obtain ⟨j, hj, hje⟩ := List.mem_map.1 this
  have hjl := g.lt j hj
  have hj' := List.getElem?_eq_getElem hjl
  rw [hj'] at hje
  simp only [Option.map_some, Option.getD_some] at hje
  have : i = j := pairwise_inj h.inc (x := es[i].2.2) (by simp [hi']) (by simp [hj', hje])
  exact this ▸ hj
theorem Going.perm {seen ix : List Nat} (h : Mp kf vf es c l) (g : Going es seen ix) (hall : ∀ e ∈ es, e.2.2 ∈ seen) : ix.Perm (List.range l.length) := by
  refine (List.perm_ext_iff_of_nodup g.nd List.nodup_range).2 fun i => ?_
  rw [List.mem_range]
  exact ⟨fun hi => by have := g.lt i hi; rw [h.len] at this; exact this, g.done h hall i⟩
theorem Going.len {seen ix : List Nat} (g : Going es seen ix) : ix.length ≤ es.length := by
  have := g.nd.length_le_of_subset (l₂ := List.range es.length) (fun i hi => List.mem_range.2 (g.lt i hi))
  simpa using this
theorem Going.seenLen {seen ix : List Nat} (g : Going es seen ix) : seen.length = ix.length := by rw [g.eq]; simp
/-- The entry that one is at. -/
theorem Mp.ent (h : Mp kf vf es c l) {e : V × V × Nat} (he : e ∈ es) {seen : List Nat} : es.find? (fun x => some x.2.2 == (seen ++ [e.2.2]).getLast?) = some e := by
  obtain ⟨i, hi⟩ := List.mem_iff_getElem?.1 he
  obtain ⟨hi1, hi2⟩ := List.getElem?_eq_some_iff.1 hi
  rw [List.getLast?_concat]
  refine List.find?_eq_some_iff_getElem.2 ⟨by simp, i, hi1, hi2, fun j hj => ?_⟩
  have := List.pairwise_iff_getElem.1 h.inc j i (by simp; omega) (by simpa using hi1) hj
  simp only [List.getElem_map, hi2] at this
  simp only [Option.some_beq_some, Bool.not_eq_true', beq_eq_false_iff_ne, ne_eq]
  omega
end
end Go.Proofs.Ytlngegoamfklgaa
