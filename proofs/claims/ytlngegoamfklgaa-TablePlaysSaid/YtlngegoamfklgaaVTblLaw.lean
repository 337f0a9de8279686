/- A sorted list of things under keys: what holds. No program here. -/
import Derived.Test.YtlngegoamfklgaaVTbl2
namespace Go.Proofs.Ytlngegoamfklgaa
open Go

section
variable {κ ν : Type} [DecidableEq κ] {a : κ}
theorem at_firstK : ∀ {l : List (κ × ν)} {i : Nat} {p : κ × ν}, l[i]? = some p → p.1 = a → (∀ (j : Nat) (q : κ × ν), j < i → l[j]? = some q → q.1 ≠ a) → aget a l = some p.2 ∧ adel a l = l.take i ++ l.drop (i + 1)
  | [], i, p, h, _, _ => by simp at h
  | t :: l, 0, p, h, hn, _ => by
    simp at h
    subst h
    simp [aget, adel, hn]
  | t :: l, i + 1, p, h, hn, hb => by
    have h0 := hb 0 t (by omega) rfl
    have ih := at_firstK (l := l) (i := i) (by simpa using h) hn fun j q hj hq => hb (j + 1) q (by omega) (by simpa using hq)
    simp only [aget, adel]
    rw [if_neg (fun e => h0 e.symm), if_neg (fun e => h0 e.symm)]
    exact ⟨ih.1, by rw [ih.2]; rfl⟩
end
abbrev It := Key × Int
/-- In order of the keys, none twice. -/
def SrtL (l : List It) : Prop := l.Pairwise fun p q => ltK p.1 q.1 = true
theorem ltK_iff {x y : Key} : ltK x y = true ↔ x.1 < y.1 ∨ x.1 = y.1 ∧ x.2 < y.2 := by simp [ltK]
theorem ltK_irr (x : Key) : ltK x x = false := ltK_ord.irr x
theorem ltK_tr {x y z : Key} (h : ltK x y = true) (k : ltK y z = true) : ltK x z = true := by rw [ltK_iff] at h k ⊢; omega
theorem ltK_ne {x y : Key} (h : ltK x y = true) : x ≠ y := fun e => by subst e; rw [ltK_irr] at h; cases h
theorem SrtL.keys {l : List It} (h : SrtL l) : (l.map (·.1)).Nodup := by
  refine List.pairwise_map.2 (h.imp fun {a b} hab e => ?_)
  exact ltK_ne hab e
theorem SrtL.lt {l : List It} (h : SrtL l) {i j : Nat} {p q : It} (hp : l[i]? = some p) (hq : l[j]? = some q) (hij : i < j) : ltK p.1 q.1 = true := by
  obtain ⟨h1, h2⟩ := List.getElem?_eq_some_iff.1 hp
  obtain ⟨h3, h4⟩ := List.getElem?_eq_some_iff.1 hq
  have := List.pairwise_iff_getElem.1 h i j h1 h3 hij
  rwa [h2, h4] at this
/-- The place of a key, or where it belongs. -/
structure PosK (k : Key) (l : List It) (i : Nat) : Prop where
  le : i ≤ l.length
  lo : ∀ (j : Nat) (p : It), j < i → l[j]? = some p → ltK p.1 k = true
  hi : ∀ p : It, l[i]? = some p → ltK p.1 k = false
theorem PosK.miss {k : Key} {l : List It} {i : Nat} (h : PosK k l i) (hs : SrtL l) (hn : ∀ p : It, l[i]? = some p → p.1 ≠ k) : aget k l = none := by
  rw [aget_none]
  intro p hp e
  obtain ⟨j, hj⟩ := List.mem_iff_getElem?.1 hp
  rcases Nat.lt_trichotomy j i with hlt | rfl | hlt
  · have := h.lo j p hlt hj
    rw [e, ltK_irr] at this; cases this
  · exact hn p hj e
  · have hi : i < l.length := by have := (List.getElem?_eq_some_iff.1 hj).1; omega
    have h1 := h.hi l[i] (List.getElem?_eq_getElem hi)
    have h2 := hs.lt (List.getElem?_eq_getElem hi) hj hlt
    rw [e] at h2
    rw [h2] at h1; cases h1
theorem PosK.hit {k : Key} {l : List It} {i : Nat} {p : It} (h : PosK k l i) (hp : l[i]? = some p) (e : p.1 = k) : aget k l = some p.2 ∧ adel k l = l.take i ++ l.drop (i + 1) := by
  have hb : ∀ (j : Nat) (q : It), j < i → l[j]? = some q → q.1 ≠ k := fun j q hj hq => ltK_ne (h.lo j q hj hq)
  exact at_firstK hp e hb
theorem SrtL.ins {k : Key} {l : List It} {i : Nat} {x : Int} (hs : SrtL l) (h : PosK k l i) (hn : aget k l = none) : SrtL (l.take i ++ [(k, x)] ++ l.drop i) := by
  unfold SrtL
  rw [List.append_assoc, List.pairwise_append]
  refine ⟨List.Pairwise.sublist (List.take_sublist i l) hs, ?_, fun p hp q hq => ?_⟩
  · rw [List.singleton_append, List.pairwise_cons]
    refine ⟨fun q hq => ?_, List.Pairwise.sublist (List.drop_sublist i l) hs⟩
    obtain ⟨j, hj⟩ := List.mem_iff_getElem?.1 hq
    rw [List.getElem?_drop] at hj
    have hi : i < l.length := by have := (List.getElem?_eq_some_iff.1 hj).1; omega
    have h1 := h.hi l[i] (List.getElem?_eq_getElem hi)
    have h2 : l[i].1 ≠ k := aget_none.1 hn _ (List.getElem_mem hi)
    have h3 : ltK k l[i].1 = true := by
      cases e : ltK k l[i].1 with
      | true => rfl
      | false => exact absurd (ltK_tight _ _ h1 e) h2
    rcases Nat.eq_zero_or_pos j with rfl | hj0
    · rw [Nat.add_zero, List.getElem?_eq_getElem hi] at hj
      cases hj; exact h3
    · exact ltK_tr h3 (hs.lt (List.getElem?_eq_getElem hi) hj (by omega))
  · obtain ⟨j, hj⟩ := List.mem_iff_getElem?.1 hp
    rw [List.getElem?_take] at hj
    split at hj
    · rename_i hji
      have h1 := h.lo j p hji hj
      rcases List.mem_append.1 hq with hq | hq
      · simp only [List.mem_singleton] at hq
        rw [hq]; exact h1
      · obtain ⟨m, hm⟩ := List.mem_iff_getElem?.1 hq
        rw [List.getElem?_drop] at hm
        exact hs.lt hj hm (by omega)
    · cases hj
theorem SrtL.del {l : List It} (hs : SrtL l) (i : Nat) : SrtL (l.take i ++ l.drop (i + 1)) := by
  rw [← List.eraseIdx_eq_take_drop_succ]
  exact List.Pairwise.sublist (List.eraseIdx_sublist l i) hs
/-! ### The same things in another order -/
theorem aget_iff {T : List It} (hn : (T.map (·.1)).Nodup) {k : Key} {x : Int} : aget k T = some x ↔ (k, x) ∈ T := ⟨aget_mem, aget_of_mem hn⟩
theorem aget_perm {T l : List It} (h : T.Perm l) (hn : (l.map (·.1)).Nodup) (k : Key) : aget k T = aget k l := by
  have hT : (T.map (·.1)).Nodup := (h.map (·.1)).nodup_iff.2 hn
  cases e : aget k l with
  | some x => exact (aget_iff hT).2 (h.mem_iff.2 ((aget_iff hn).1 e))
  | none =>
    cases e2 : aget k T with
    | none => rfl
    | some x =>
      have := (aget_iff hn).2 (h.mem_iff.1 ((aget_iff hT).1 e2))
      rw [e] at this; cases this
theorem adel_cons : ∀ {T : List It} {k : Key} {x : Int}, aget k T = some x → T.Perm ((k, x) :: adel k T)
  | [], k, x, h => by cases h
  | p :: T, k, x, h => by
    simp only [aget, adel] at h ⊢
    split at h
    · rename_i e
      simp only [Option.some.injEq] at h
      rw [if_pos e]
      have : p = (k, x) := Prod.ext e.symm h
      rw [this]
    · rename_i e
      rw [if_neg e]
      exact ((adel_cons h).cons p).trans (List.Perm.swap _ _ _)
theorem adel_perm {T l : List It} (h : T.Perm l) (hn : (l.map (·.1)).Nodup) {k : Key} {x : Int} (e : aget k l = some x) : (adel k T).Perm (adel k l) := by
  have e2 : aget k T = some x := by rw [aget_perm h hn]; exact e
  exact List.Perm.cons_inv (((adel_cons e2).symm.trans h).trans (adel_cons e))
theorem many_same {T l : List It} (h : T.Perm l) (conn : Int) : manyT conn T = manyT conn l := h.countP_eq _
/-! ### The least number that is free -/
structure LeastI (conn : Int) (l : List It) (i w : Nat) : Prop where
  one : 1 ≤ w
  le : w ≤ i + 1
  all : ∀ m : Nat, 1 ≤ m → m < w → aget (conn, (m : Int)) l ≠ none
  or : (∀ (j : Nat) (p : It), j < i → l[j]? = some p → p.1.1 = conn → p.1.2 < w) ∨ aget (conn, (w : Int)) l = none
theorem LeastI.start {conn : Int} {l : List It} : LeastI conn l 0 1 := ⟨Nat.le_refl _, by omega, fun m h1 h2 => by omega, .inl fun j p hj => by omega⟩
theorem LeastI.step {conn : Int} {l : List It} {i w : Nat} {p : It} (h : LeastI conn l i w) (hs : SrtL l) (hp : l[i]? = some p) (hne : ¬ (p.1.1 = conn ∧ p.1.2 = (w : Int))) : LeastI conn l (i + 1) w := by
  refine ⟨h.one, by have := h.le; omega, h.all, ?_⟩
  rcases h.or with ho | ho
  · by_cases hc : p.1.1 = conn
    · by_cases hlt : p.1.2 < (w : Int)
      · refine .inl fun j q hj hq hqc => ?_
        by_cases e : j = i
        · subst e; rw [hp] at hq; cases hq; exact hlt
        · exact ho j q (by omega) hq hqc
      · refine .inr (aget_none.2 fun q hq e => ?_)
        obtain ⟨j, hj⟩ := List.mem_iff_getElem?.1 hq
        have hq1 : q.1.1 = conn := by rw [e]
        have hq2 : q.1.2 = (w : Int) := by rw [e]
        rcases Nat.lt_trichotomy j i with hji | rfl | hji
        · have := ho j q hji hj hq1; omega
        · rw [hp] at hj; cases hj; exact hne ⟨hq1, hq2⟩
        · have h3 := hs.lt hp hj hji
          rw [ltK_iff] at h3
          have : ¬ p.1.2 = (w : Int) := fun e2 => hne ⟨hc, e2⟩
          omega
    · refine .inl fun j q hj hq hqc => ?_
      by_cases e : j = i
      · subst e; rw [hp] at hq; cases hq; exact absurd hqc hc
      · exact ho j q (by omega) hq hqc
  · exact .inr ho
theorem LeastI.up {conn : Int} {l : List It} {i w : Nat} {p : It} (h : LeastI conn l i w) (hp : l[i]? = some p) (h1 : p.1.1 = conn) (h2 : p.1.2 = (w : Int)) : LeastI conn l (i + 1) (w + 1) := by
  have hin : aget (conn, (w : Int)) l ≠ none := fun e => by
    have := aget_none.1 e p (List.mem_of_getElem? hp)
    exact this (Prod.ext h1 h2)
  refine ⟨by omega, by have := h.le; omega, fun m h3 h4 => ?_, ?_⟩
  · by_cases e : m = w
    · rw [e]; exact hin
    · exact h.all m h3 (by omega)
  · rcases h.or with ho | ho
    · refine .inl fun j q hj hq hqc => ?_
      by_cases e : j = i
      · subst e; rw [hp] at hq; cases hq; omega
      · have := ho j q (by omega) hq hqc; omega
    · exact absurd ho hin
theorem LeastI.fin {conn : Int} {l : List It} {i w : Nat} (h : LeastI conn l i w) (hi : l.length ≤ i) {n : Nat} (h1 : 1 ≤ n) (h2 : aget (conn, (n : Int)) l = none) (h3 : ∀ m : Nat, 1 ≤ m → m < n → aget (conn, (m : Int)) l ≠ none) : n = w := by
  have hw : aget (conn, (w : Int)) l = none := by
    rcases h.or with ho | ho
    · refine aget_none.2 fun q hq e => ?_
      obtain ⟨j, hj⟩ := List.mem_iff_getElem?.1 hq
      have hq1 : q.1.1 = conn := by rw [e]
      have hq2 : q.1.2 = (w : Int) := by rw [e]
      have := ho j q (by have := (List.getElem?_eq_some_iff.1 hj).1; omega) hj hq1
      omega
    · exact ho
  rcases Nat.lt_trichotomy n w with hlt | rfl | hlt
  · exact absurd h2 (h.all n h1 hlt)
  · rfl
  · exact absurd hw (h3 w h.one hlt)
end Go.Proofs.Ytlngegoamfklgaa
