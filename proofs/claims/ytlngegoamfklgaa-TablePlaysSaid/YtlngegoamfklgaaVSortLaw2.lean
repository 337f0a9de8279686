/- Sorting by exchanges: parting by a pivot. No program here. -/
import Derived.Test.YtlngegoamfklgaaVSortLaw
namespace Go.Proofs.Ytlngegoamfklgaa

section
variable {α : Type} [Inhabited α]
theorem by_not {x y : Bool} (h : x = y) : (!x) = !y := by rw [h]
theorem not_by {x y : Bool} (h : (!x) = y) : x = !y := by rw [← h, Bool.not_not]
/-- Parted so far: left of i what passes with the element at a, right of j what does not. -/
structure Part (q : α → α → Bool) (a c i j : Nat) (M : List α) : Prop where
  ai : a + 1 ≤ i
  ij : i ≤ j + 1
  jc : j < c
  lo : ∀ k, a < k → k < i → q M[a]! M[k]! = true
  hi : ∀ k, j < k → k < c → q M[a]! M[k]! = false
variable {q : α → α → Bool} {a c i j : Nat} {M : List α}
theorem Part.start (h : a < c) : Part q a c (a + 1) (c - 1) M := ⟨Nat.le_refl _, by omega, by omega, fun k h1 h2 => by omega, fun k h1 h2 => by omega⟩
theorem Part.up (h : Part q a c i j M) (hij : i ≤ j) (hq : q M[a]! M[i]! = true) : Part q a c (i + 1) j M := by
  refine ⟨by have := h.ai; omega, by omega, h.jc, fun k h1 h2 => ?_, h.hi⟩
  by_cases e : k = i
  · rw [e]; exact hq
  · exact h.lo k h1 (by omega)
theorem Part.down (h : Part q a c i j M) (hij : i ≤ j) (hq : q M[a]! M[j]! = false) : Part q a c i (j - 1) M := by
  refine ⟨h.ai, by have := h.ai; omega, by have := h.jc; omega, h.lo, fun k h1 h2 => ?_⟩
  by_cases e : k = j
  · rw [e]; exact hq
  · exact h.hi k (by omega) h2
theorem Part.lt (_ : Part q a c i j M) (hij : i ≤ j) (h1 : q M[a]! M[i]! = false) (h2 : q M[a]! M[j]! = true) : i < j := by
  rcases Nat.lt_or_ge i j with h | h
  · exact h
  · have e : i = j := by omega
    rw [e, h2] at h1; cases h1
theorem Part.swap (h : Part q a c i j M) (hij : i ≤ j) (h1 : q M[a]! M[i]! = false) (h2 : q M[a]! M[j]! = true) (hc : c ≤ M.length) : Part q a c (i + 1) (j - 1) (exch M i j) := by
  have hl := h.lt hij h1 h2
  have h3 := h.ai
  have h4 := h.jc
  have g := fun k => exch_get (L := M) (i := i) (j := j) (by omega) (by omega) k
  refine ⟨by omega, by omega, by omega, fun k k1 k2 => ?_, fun k k1 k2 => ?_⟩
  · rw [g a, g k, if_neg (by omega), if_neg (by omega), if_neg (show ¬ k = j by omega)]
    by_cases e : k = i
    · rw [if_pos e]; exact h2
    · rw [if_neg e]; exact h.lo k k1 (by omega)
  · rw [g a, g k, if_neg (by omega), if_neg (by omega), if_neg (show ¬ k = i by omega)]
    by_cases e : k = j
    · rw [if_pos e]; exact h1
    · rw [if_neg e]; exact h.hi k (by omega) k2
theorem Part.head (h : Part q a c i j M) (hij : i ≤ j) (hc : c ≤ M.length) : (exch M i j)[a]! = M[a]! := by
  have h3 := h.ai
  have h4 := h.jc
  rw [exch_get (by omega) (by omega), if_neg (by omega), if_neg (by omega)]
variable {lt : α → α → Bool}
/-- The pivot in its place. -/
theorem Part.mid (O : Ord' lt) (h : Part (fun p x => lt x p) a c i j M) (hij : ¬ i ≤ j) (hc : c ≤ M.length) :
    (∀ k, a ≤ k → k < j → lt (exch M j a)[j]! (exch M j a)[k]! = false) ∧ (∀ k, j < k → k < c → lt (exch M j a)[k]! (exch M j a)[j]! = false) := by
  have h1 := h.ai
  have h2 := h.ij
  have h3 := h.jc
  have g := fun k => exch_get (L := M) (i := j) (j := a) (by omega) (by omega) k
  have gj : (exch M j a)[j]! = M[a]! := by
    rw [g j]
    by_cases e : j = a
    · rw [if_pos e, e]
    · rw [if_neg e, if_pos rfl]
  refine ⟨fun k k1 k2 => ?_, fun k k1 k2 => ?_⟩
  · rw [gj, g k]
    by_cases e : k = a
    · rw [if_pos e]; exact O.asymm (h.lo j (by omega) (by omega))
    · rw [if_neg e, if_neg (by omega)]; exact O.asymm (h.lo k (by omega) (by omega))
  · rw [gj, g k, if_neg (by omega), if_neg (by omega)]
    exact h.hi k k1 k2
theorem Srt.next {a i : Nat} {M : List α} (O : Ord' lt) (h : Srt lt a i M) (ha : a + 1 ≤ i) (h1 : lt M[i]! M[i - 1]! = false) : Srt lt a (i + 1) M := fun p q h2 h3 h4 => by
  by_cases e : q = i
  · subst e
    by_cases e2 : p = q - 1
    · rw [e2]; exact h1
    · exact O.trans (h p (q - 1) h2 (by omega) (by omega)) h1
  · exact h p q h2 h3 (by omega)
theorem Srt.keep {a i : Nat} {M N : List α} (h : Srt lt a i M) (he : ∀ k, a ≤ k → k < i → N[k]! = M[k]!) : Srt lt a i N := fun p q h2 h3 h4 => by
  rw [he p h2 (by omega), he q (by omega) h4]; exact h p q h2 h3 h4
theorem LB.part {x y m : Nat} {L : List α} (h : LB lt x y L) (hm : m ≤ y) : LB lt x m L := fun h0 k h1 h2 => h h0 k h1 (by omega)
theorem LB.next {y m : Nat} {L : List α} (h2 : ∀ k, m < k → k < y → lt L[k]! L[m]! = false) : LB lt (m + 1) y L := fun _ k h3 h4 => h2 k (by omega) h4
theorem Fence.fin {a c x y : Nat} {L M N : List α} (h : Fence lt a c x y M) (hM : Mix a c L M) (hax : a ≤ x) (hyc : y ≤ c) (hc : c ≤ L.length) (k1 : Mix x y M N) (k2 : Srt lt x y N) : Mix a c L N ∧ Srt lt a c N :=
  ⟨hM.trans (k1.wide hax hyc), (h.mix k1 hax hyc (by rw [hM.len]; exact hc)).done k2⟩
theorem Fence.goL (O : Ord' lt) {a c x y m : Nat} {M N : List α} (h : Fence lt a c x y M) (hax : a ≤ x) (hyc : y ≤ c) (hxm : x ≤ m) (hmy : m < y) (hc : c ≤ M.length) (h1 : ∀ k, x ≤ k → k < m → lt M[m]! M[k]! = false) (h2 : ∀ k, m < k → k < y → lt M[k]! M[m]! = false)
    (k1 : Mix x m M N) (k2 : Srt lt x m N) : Fence lt a c (m + 1) y N := by
  have hF := h.mix (k1.wide (Nat.le_refl _) (by omega)) hax hyc hc
  refine hF.left O hax hyc hxm hmy (fun k q1 q2 => ?_) (fun k q1 q2 => ?_) k2
  · rw [k1.out m (by omega)]
    exact k1.all (by omega) (Q := fun v => lt M[m]! v = false) h1 k q1 q2
  · rw [k1.out m (by omega), k1.out k (by omega)]
    exact h2 k q1 q2
theorem Fence.goR (O : Ord' lt) {a c x y m : Nat} {M N : List α} (h : Fence lt a c x y M) (hax : a ≤ x) (hyc : y ≤ c) (hxm : x ≤ m) (hmy : m < y) (hc : c ≤ M.length) (h1 : ∀ k, x ≤ k → k < m → lt M[m]! M[k]! = false) (h2 : ∀ k, m < k → k < y → lt M[k]! M[m]! = false)
    (k1 : Mix (m + 1) y M N) (k2 : Srt lt (m + 1) y N) : Fence lt a c x m N := by
  have hF := h.mix (k1.wide (by omega) (Nat.le_refl _)) hax hyc hc
  refine hF.right O hax hyc hxm hmy (fun k q1 q2 => ?_) (fun k q1 q2 => ?_) k2
  · rw [k1.out m (by omega), k1.out k (by omega)]
    exact h1 k q1 q2
  · rw [k1.out m (by omega)]
    exact k1.all (by omega) (Q := fun v => lt v M[m]! = false) (fun k q1 q2 => h2 k (by omega) q2) k (by omega) q2
theorem Fence.goE (O : Ord' lt) {a c x y m pv : Nat} {M N : List α} (h : Fence lt a c x y M) (hLB : LB lt x y M) (hx : 0 < x) (hpv : lt M[x - 1]! M[pv]! = false) (hax : a ≤ x) (hyc : y ≤ c) (hxm : x < m) (hmy : m ≤ y) (hc : c ≤ M.length) (k1 : Mix x y M N)
    (h1 : ∀ k, x ≤ k → k < m → lt M[pv]! N[k]! = false) : Fence lt a c m y N := by
  have hF := h.mix k1 hax hyc hc
  have hall : ∀ k, x ≤ k → k < y → lt N[k]! M[pv]! = false := k1.all (by omega) (Q := fun v => lt v M[pv]! = false) fun k q1 q2 => O.trans hpv (hLB hx k q1 q2)
  refine hF.least hax hyc (by omega) hmy fun k j q1 q2 q3 q4 => O.trans (h1 k q1 q2) (hall j q3 q4)
end
end Go.Proofs.Ytlngegoamfklgaa
