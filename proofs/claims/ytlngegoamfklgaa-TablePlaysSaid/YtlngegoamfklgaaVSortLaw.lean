/- Sorting by exchanges: what lists hold. No program here. -/
namespace Go.Proofs.Ytlngegoamfklgaa

section
variable {α : Type}
theorem set_perm_cons {x y : α} : ∀ {L : List α} {j : Nat}, L[j]? = some y → (y :: L.set j x).Perm (x :: L)
  | [], j, h => by simp at h
  | z :: L, 0, h => by
    simp at h
    subst h
    exact List.Perm.swap _ _ _
  | z :: L, j + 1, h => by
    have ih := set_perm_cons (x := x) (L := L) (j := j) (by simpa using h)
    simp only [List.set_cons_succ]
    exact (List.Perm.swap _ _ _).trans ((ih.cons z).trans (List.Perm.swap _ _ _))
theorem set2_perm {L : List α} {i j : Nat} {x y : α} (hi : L[i]? = some x) (hj : L[j]? = some y) : ((L.set i y).set j x).Perm L := by
  induction L generalizing i j with
  | nil => simp at hi
  | cons z L ih =>
    cases i with
    | zero =>
      simp at hi
      subst hi
      cases j with
      | zero => simp at hj; subst hj; simp
      | succ j =>
        simp only [List.set_cons_zero, List.set_cons_succ]
        exact set_perm_cons (by simpa using hj)
    | succ i =>
      cases j with
      | zero =>
        simp at hj
        subst hj
        simp only [List.set_cons_zero, List.set_cons_succ]
        exact set_perm_cons (by simpa using hi)
      | succ j =>
        simp only [List.set_cons_succ]
        exact (ih (by simpa using hi) (by simpa using hj)).cons z
/-- An order, by 'less'. -/
structure Ord' (lt : α → α → Bool) : Prop where
  asymm : ∀ {x y}, lt x y = true → lt y x = false
  trans : ∀ {x y z}, lt y x = false → lt z y = false → lt z x = false
theorem Ord'.irr {lt : α → α → Bool} (h : Ord' lt) (x : α) : lt x x = false := by
  cases e : lt x x with
  | false => rfl
  | true => have := h.asymm e; rw [e] at this; cases this
/-- Two lists of the same elements in order are one, where no two can't be told apart. -/
theorem srt_eq {lt : α → α → Bool} (O : Ord' lt) (hT : ∀ x y, lt x y = false → lt y x = false → x = y) : ∀ {L M : List α}, L.Perm M → L.Pairwise (fun x y => lt y x = false) → M.Pairwise (fun x y => lt y x = false) → L = M
  | [], M, hp, _, _ => by rw [hp.nil_eq]
  | x :: L, [], hp, _, _ => by have := hp.length_eq; simp at this
  | x :: L, y :: M, hp, h1, h2 => by
    rw [List.pairwise_cons] at h1 h2
    have exy : x = y := by
      have hx := hp.mem_iff.1 (List.mem_cons_self (a := x) (l := L))
      have hy := hp.mem_iff.2 (List.mem_cons_self (a := y) (l := M))
      rcases List.mem_cons.1 hx with e | hx
      · exact e
      · rcases List.mem_cons.1 hy with e | hy
        · exact e.symm
        · exact hT x y (h2.1 x hx) (h1.1 y hy)
    subst exy
    rw [srt_eq O hT (List.Perm.cons_inv hp) h1.2 h2.2]
end
section
variable {α : Type} [Inhabited α]
theorem bang_get {L : List α} {i : Nat} (h : i < L.length) : L[i]? = some L[i]! := by
  rw [List.getElem?_eq_getElem h, getElem!_pos L i h]
theorem bang_eq {L : List α} {i : Nat} {x : α} (h : L[i]? = some x) : L[i]! = x := by
  obtain ⟨h1, h2⟩ := List.getElem?_eq_some_iff.1 h
  rw [getElem!_pos L i h1]; exact h2
theorem ext_bang {L M : List α} (h : L.length = M.length) (he : ∀ i, i < L.length → L[i]! = M[i]!) : L = M := by
  refine List.ext_getElem h fun i h1 h2 => ?_
  have := he i h1
  rwa [getElem!_pos L i h1, getElem!_pos M i h2] at this
/-- Two elements exchanged. -/
def exch (L : List α) (i j : Nat) : List α := (L.set i L[j]!).set j L[i]!
theorem exch_len {L : List α} {i j : Nat} : (exch L i j).length = L.length := by simp [exch]
theorem exch_get {L : List α} {i j : Nat} (hi : i < L.length) (hj : j < L.length) (k : Nat) : (exch L i j)[k]! = if k = j then L[i]! else if k = i then L[j]! else L[k]! := by
  by_cases hk : k < L.length
  · rw [getElem!_pos (exch L i j) k (by rw [exch_len]; exact hk)]
    have e : (exch L i j)[k]'(by rw [exch_len]; exact hk) = if j = k then L[i]! else if i = k then L[j]! else L[k] := by
      unfold exch
      rw [List.getElem_set, List.getElem_set]
    rw [e, getElem!_pos L k hk]
    by_cases e1 : j = k
    · rw [if_pos e1, if_pos e1.symm]
    · rw [if_neg e1]
      by_cases e2 : i = k
      · rw [if_pos e2, if_neg (show ¬ k = j from fun h => e1 h.symm), if_pos e2.symm]
      · rw [if_neg e2, if_neg (show ¬ k = j from fun h => e1 h.symm), if_neg (show ¬ k = i from fun h => e2 h.symm)]
  · rw [if_neg (by omega), if_neg (by omega), getElem!_neg (exch L i j) k (by rw [exch_len]; exact hk), getElem!_neg L k hk]
theorem exch_perm {L : List α} {i j : Nat} (hi : i < L.length) (hj : j < L.length) : (exch L i j).Perm L := set2_perm (bang_get hi) (bang_get hj)
/-- The same elements, turned about from a to b alone. -/
structure Mix (a b : Nat) (L M : List α) : Prop where
  perm : M.Perm L
  out : ∀ k, k < a ∨ b ≤ k → M[k]! = L[k]!
theorem Mix.len {a b : Nat} {L M : List α} (h : Mix a b L M) : M.length = L.length := h.perm.length_eq
theorem Mix.refl {a b : Nat} {L : List α} : Mix a b L L := ⟨.refl _, fun _ _ => rfl⟩
theorem Mix.trans {a b : Nat} {L M N : List α} (h : Mix a b L M) (k : Mix a b M N) : Mix a b L N := ⟨k.perm.trans h.perm, fun i hi => (k.out i hi).trans (h.out i hi)⟩
theorem Mix.wide {a b a' b' : Nat} {L M : List α} (h : Mix a b L M) (h1 : a' ≤ a) (h2 : b ≤ b') : Mix a' b' L M := ⟨h.perm, fun k hk => h.out k (by omega)⟩
theorem Mix.exch {a b i j : Nat} {L M : List α} (h : Mix a b L M) (h1 : a ≤ i) (h2 : i < b) (h3 : a ≤ j) (h4 : j < b) (hb : b ≤ L.length) : Mix a b L (exch M i j) := by
  have hl := h.len
  refine ⟨(exch_perm (by omega) (by omega)).trans h.perm, fun k hk => ?_⟩
  rw [exch_get (by omega) (by omega), if_neg (by omega), if_neg (by omega)]
  exact h.out k hk
theorem Mix.mid {a b : Nat} {L M : List α} (h : Mix a b L M) (hab : a ≤ b) (hb : b ≤ L.length) : ((M.drop a).take (b - a)).Perm ((L.drop a).take (b - a)) := by
  have hl := h.len
  have split : ∀ X : List α, X = X.take a ++ ((X.drop a).take (b - a) ++ X.drop b) := fun X => by
    have h1 : (X.drop a).take (b - a) ++ X.drop b = X.drop a := by
      have : X.drop b = (X.drop a).drop (b - a) := by rw [List.drop_drop]; congr 1; omega
      rw [this, List.take_append_drop]
    rw [h1, List.take_append_drop]
  have h1 : M.take a = L.take a := by
    refine ext_bang (by simp [hl]) fun i hi => ?_
    simp at hi
    have := h.out i (by omega)
    rw [getElem!_pos (M.take a) i (by simp; omega), getElem!_pos (L.take a) i (by simp; omega)]
    rw [getElem!_pos M i (by omega), getElem!_pos L i (by omega)] at this
    simpa using this
  have h2 : M.drop b = L.drop b := by
    refine ext_bang (by simp [hl]) fun i hi => ?_
    simp at hi
    have := h.out (b + i) (by omega)
    rw [getElem!_pos (M.drop b) i (by simp; omega), getElem!_pos (L.drop b) i (by simp; omega)]
    rw [getElem!_pos M (b + i) (by omega), getElem!_pos L (b + i) (by omega)] at this
    simpa using this
  have hp := h.perm
  rw [split M, split L, h1, h2] at hp
  exact (List.perm_append_right_iff _).1 ((List.perm_append_left_iff _).1 hp)
theorem Mix.all {a b : Nat} {L M : List α} (h : Mix a b L M) (hb : b ≤ L.length) {Q : α → Prop} (hq : ∀ k, a ≤ k → k < b → Q L[k]!) : ∀ k, a ≤ k → k < b → Q M[k]! := fun k h1 h2 => by
  have hl := h.len
  have hp := h.mid (by omega) hb
  have hm : M[k]! ∈ (M.drop a).take (b - a) := by
    rw [getElem!_pos M k (by omega)]
    refine List.mem_iff_getElem.2 ⟨k - a, by simp; omega, ?_⟩
    simp only [List.getElem_take, List.getElem_drop]
    congr 1; omega
  have := hp.mem_iff.1 hm
  obtain ⟨i, hi, he⟩ := List.mem_iff_getElem.1 this
  simp at hi
  simp only [List.getElem_take, List.getElem_drop] at he
  rw [← he, ← getElem!_pos L (a + i) (by omega)]
  exact hq (a + i) (by omega) (by omega)
/-- In order from a to b. -/
def Srt (lt : α → α → Bool) (a b : Nat) (L : List α) : Prop := ∀ i j, a ≤ i → i < j → j < b → lt L[j]! L[i]! = false
variable {lt : α → α → Bool}
theorem Srt.one {a b : Nat} {L : List α} (h : b ≤ a + 1) : Srt lt a b L := fun i j h1 h2 h3 => by omega
/-- All but the element at j in order; what stands behind j is not less. -/
structure Ins (lt : α → α → Bool) (a i j : Nat) (L : List α) : Prop where
  ord : ∀ p q, a ≤ p → p < q → q ≤ i → p ≠ j → q ≠ j → lt L[q]! L[p]! = false
  up : ∀ q, j < q → q ≤ i → lt L[q]! L[j]! = false
theorem Ins.start {a i : Nat} {L : List α} (h : Srt lt a i L) : Ins lt a i i L := ⟨fun p q h1 h2 h3 h4 h5 => h p q h1 h2 (by omega), fun q h1 h2 => by omega⟩
theorem Ins.done (O : Ord' lt) {a i j : Nat} {L : List α} (h : Ins lt a i j L) (hj : j ≤ i) (hs : j = a ∨ (a < j ∧ lt L[j]! L[j - 1]! = false)) : Srt lt a (i + 1) L := fun p q h1 h2 h3 => by
  by_cases e1 : q = j
  · subst e1
    rcases hs with e | ⟨h4, h5⟩
    · omega
    · by_cases e2 : p = q - 1
      · subst e2; exact h5
      · exact O.trans (h.ord p (q - 1) h1 (by omega) (by omega) (by omega) (by omega)) h5
  · by_cases e2 : p = j
    · subst e2; exact h.up q h2 (by omega)
    · exact h.ord p q h1 h2 (by omega) e2 e1
theorem Ins.step (O : Ord' lt) {a i j : Nat} {L : List α} (h : Ins lt a i j L) (hj : a < j) (hji : j ≤ i) (hi : i < L.length) (hl : lt L[j]! L[j - 1]! = true) : Ins lt a i (j - 1) (exch L j (j - 1)) := by
  have g := fun k => exch_get (L := L) (i := j) (j := j - 1) (by omega) (by omega) k
  refine ⟨fun p q h1 h2 h3 h4 h5 => ?_, fun q h1 h2 => ?_⟩
  · rw [g q, g p, if_neg h5, if_neg h4]
    by_cases e1 : q = j
    · rw [if_pos e1, if_neg (by omega)]
      exact h.ord p (j - 1) h1 (by omega) (by omega) (by omega) (by omega)
    · rw [if_neg e1]
      by_cases e2 : p = j
      · rw [if_pos e2]; exact h.ord (j - 1) q (by omega) (by omega) h3 (by omega) e1
      · rw [if_neg e2]; exact h.ord p q h1 h2 h3 e2 e1
  · rw [g q, g (j - 1), if_neg (by omega), if_pos rfl]
    by_cases e1 : q = j
    · rw [if_pos e1]; exact O.asymm hl
    · rw [if_neg e1]; exact h.up q (by omega) h2
/-! ### Heaps -/
def kid (r c : Nat) : Prop := c = 2 * r + 1 ∨ c = 2 * r + 2
def Heap (lt : α → α → Bool) (f lo hi : Nat) (L : List α) : Prop := ∀ r c, lo ≤ r → kid r c → c < hi → lt L[f + r]! L[f + c]! = false
structure Sift (lt : α → α → Bool) (f lo hi root : Nat) (L : List α) : Prop where
  own : ∀ r c, lo ≤ r → r ≠ root → kid r c → c < hi → lt L[f + r]! L[f + c]! = false
  up : ∀ p c, lo ≤ p → kid p root → kid root c → c < hi → lt L[f + p]! L[f + c]! = false
theorem Sift.start {f lo hi : Nat} {L : List α} (h : Heap lt f (lo + 1) hi L) : Sift lt f lo hi lo L :=
  ⟨fun r c h1 h2 h3 h4 => h r c (by omega) h3 h4, fun p c h1 h2 h3 h4 => by rcases h2 with h2 | h2 <;> omega⟩
theorem Sift.done {f lo hi root : Nat} {L : List α} (h : Sift lt f lo hi root L) (hr : ∀ c, kid root c → c < hi → lt L[f + root]! L[f + c]! = false) : Heap lt f lo hi L := fun r c h1 h2 h3 => by
  by_cases e : r = root
  · subst e; exact hr c h2 h3
  · exact h.own r c h1 e h2 h3
theorem Sift.step (O : Ord' lt) {f lo hi root ch : Nat} {L : List α} (h : Sift lt f lo hi root L) (hk : kid root ch) (hc : ch < hi) (hlo : lo ≤ root) (hL : f + hi ≤ L.length) (hbig : ∀ c, kid root c → c < hi → lt L[f + ch]! L[f + c]! = false) (hl : lt L[f + root]! L[f + ch]! = true) :
    Sift lt f lo hi ch (exch L (f + root) (f + ch)) := by
  have hrc : root < ch := by rcases hk with h | h <;> omega
  have g := fun k => exch_get (L := L) (i := f + root) (j := f + ch) (by omega) (by omega) k
  refine ⟨fun r c h1 h2 h3 h4 => ?_, fun p c h1 h2 h3 h4 => ?_⟩
  · have hrc' : r < c := by rcases h3 with h | h <;> omega
    rw [g (f + r), g (f + c), if_neg (by omega)]
    by_cases e1 : r = root
    · subst e1
      rw [if_pos rfl]
      by_cases e2 : c = ch
      · subst e2; rw [if_pos rfl]; exact O.asymm hl
      · rw [if_neg (by omega), if_neg (by omega)]; exact hbig c h3 h4
    · rw [if_neg (by omega)]
      have e2 : c ≠ ch := fun e => by subst e; rcases hk with h | h <;> rcases h3 with h' | h' <;> omega
      rw [if_neg (by omega)]
      by_cases e3 : c = root
      · subst e3
        rw [if_pos rfl]
        exact h.up r ch h1 h3 hk hc
      · rw [if_neg (by omega)]; exact h.own r c h1 e1 h3 h4
  · have e : p = root := by rcases hk with h | h <;> rcases h2 with h' | h' <;> omega
    have h5 : ch < c := by rcases h3 with h | h <;> omega
    subst e
    rw [g (f + p), g (f + c), if_neg (by omega), if_pos rfl, if_neg (by omega), if_neg (by omega)]
    exact h.own ch c (by omega) (by omega) h3 h4
theorem Heap.top (O : Ord' lt) {f hi : Nat} {L : List α} (h : Heap lt f 0 hi L) : ∀ k, k < hi → lt L[f]! L[f + k]! = false := by
  intro k
  induction k using Nat.strongRecOn with
  | _ k ih =>
    intro hk
    by_cases e : k = 0
    · subst e; exact O.irr _
    · have hp : kid ((k - 1) / 2) k := by unfold kid; omega
      have h1 := ih ((k - 1) / 2) (by omega) (by omega)
      exact O.trans (h _ _ (by omega) hp hk) h1
/-! ### Fences: what lies outside the range that is left is where it belongs -/
structure Fence (lt : α → α → Bool) (a b x y : Nat) (L : List α) : Prop where
  lo : ∀ i j, a ≤ i → i < x → i < j → j < b → lt L[j]! L[i]! = false
  hi : ∀ i j, a ≤ j → j < i → y ≤ i → i < b → lt L[i]! L[j]! = false
theorem Fence.nil {a b : Nat} {L : List α} : Fence lt a b a b L := ⟨fun i j h1 h2 => by omega, fun i j h1 h2 h3 h4 => by omega⟩
theorem Fence.mix {a b x y : Nat} {L M : List α} (h : Fence lt a b x y L) (hm : Mix x y L M) (hax : a ≤ x) (hyb : y ≤ b) (hb : b ≤ L.length) : Fence lt a b x y M := by
  refine ⟨fun i j h1 h2 h3 h4 => ?_, fun i j h1 h2 h3 h4 => ?_⟩
  · rw [hm.out i (by omega)]
    by_cases hj : j < x ∨ y ≤ j
    · rw [hm.out j hj]; exact h.lo i j h1 h2 h3 h4
    · exact hm.all (by omega) (Q := fun v => lt v L[i]! = false) (fun k k1 k2 => h.lo i k h1 h2 (by omega) (by omega)) j (by omega) (by omega)
  · rw [hm.out i (by omega)]
    by_cases hj : j < x ∨ y ≤ j
    · rw [hm.out j hj]; exact h.hi i j h1 h2 h3 h4
    · exact hm.all (by omega) (Q := fun v => lt L[i]! v = false) (fun k k1 k2 => h.hi i k (by omega) (by omega) h3 h4) j (by omega) (by omega)
theorem Fence.done {a b x y : Nat} {L : List α} (h : Fence lt a b x y L) (hs : Srt lt x y L) : Srt lt a b L := fun i j h1 h2 h3 => by
  by_cases e1 : i < x
  · exact h.lo i j h1 e1 h2 h3
  · by_cases e2 : y ≤ j
    · exact h.hi j i h1 h2 e2 h3
    · exact hs i j (by omega) h2 (by omega)
/-- The pivot in its place, what lies left of it in order: go on behind it. -/
theorem Fence.left (O : Ord' lt) {a b x y m : Nat} {L : List α} (h : Fence lt a b x y L) (hax : a ≤ x) (hyb : y ≤ b) (hxm : x ≤ m) (hmy : m < y) (h1 : ∀ k, x ≤ k → k < m → lt L[m]! L[k]! = false) (h2 : ∀ k, m < k → k < y → lt L[k]! L[m]! = false) (hs : Srt lt x m L) : Fence lt a b (m + 1) y L := by
  refine ⟨fun i j k1 k2 k3 k4 => ?_, h.hi⟩
  by_cases e1 : i < x
  · exact h.lo i j k1 e1 k3 k4
  · by_cases e2 : y ≤ j
    · exact h.hi j i k1 k3 e2 k4
    · by_cases e3 : i = m
      · subst e3; exact h2 j k3 (by omega)
      · by_cases e4 : j < m
        · exact hs i j (by omega) k3 e4
        · by_cases e5 : j = m
          · subst e5; exact h1 i (by omega) k3
          · exact O.trans (h1 i (by omega) (by omega)) (h2 j (by omega) (by omega))
theorem Fence.right (O : Ord' lt) {a b x y m : Nat} {L : List α} (h : Fence lt a b x y L) (hax : a ≤ x) (hyb : y ≤ b) (hxm : x ≤ m) (hmy : m < y) (h1 : ∀ k, x ≤ k → k < m → lt L[m]! L[k]! = false) (h2 : ∀ k, m < k → k < y → lt L[k]! L[m]! = false) (hs : Srt lt (m + 1) y L) : Fence lt a b x m L := by
  refine ⟨h.lo, fun i j k1 k2 k3 k4 => ?_⟩
  by_cases e1 : y ≤ i
  · exact h.hi i j k1 k2 e1 k4
  · by_cases e2 : j < x
    · exact h.lo j i k1 e2 k2 k4
    · by_cases e3 : i = m
      · subst e3; exact h1 j (by omega) k2
      · by_cases e4 : m < j
        · exact hs j i (by omega) k2 (by omega)
        · by_cases e5 : j = m
          · subst e5; exact h2 i (by omega) (by omega)
          · exact O.trans (h1 j (by omega) (by omega)) (h2 i (by omega) (by omega))
/-- The least ones in front: go on behind them. -/
theorem Fence.least {a b x y m : Nat} {L : List α} (h : Fence lt a b x y L) (hax : a ≤ x) (hyb : y ≤ b) (hxm : x ≤ m) (hmy : m ≤ y) (h1 : ∀ k j, x ≤ k → k < m → x ≤ j → j < y → lt L[j]! L[k]! = false) : Fence lt a b m y L := by
  refine ⟨fun i j k1 k2 k3 k4 => ?_, h.hi⟩
  by_cases e1 : i < x
  · exact h.lo i j k1 e1 k3 k4
  · by_cases e2 : y ≤ j
    · exact h.hi j i k1 k3 e2 k4
    · exact h1 i j (by omega) k2 (by omega) (by omega)
/-- No element from a to b is less than the one ahead of a. -/
def LB (lt : α → α → Bool) (a b : Nat) (L : List α) : Prop := 0 < a → ∀ k, a ≤ k → k < b → lt L[k]! L[a - 1]! = false
theorem LB.mix {a b : Nat} {L M : List α} (h : LB lt a b L) (hm : Mix a b L M) (hb : b ≤ L.length) : LB lt a b M := fun h0 => by
  rw [hm.out (a - 1) (by omega)]
  exact hm.all hb (Q := fun v => lt v L[a - 1]! = false) (h h0)
theorem Fence.lb {a b x y : Nat} {L : List α} (h : Fence lt a b x y L) (hl : LB lt a b L) (hax : a ≤ x) (hyb : y ≤ b) : LB lt x y L := fun h0 k h1 h2 => by
  by_cases e : x = a
  · subst e; exact hl h0 k h1 (by omega)
  · exact h.lo (x - 1) k (by omega) (by omega) (by omega) (by omega)
theorem Srt.pw {L : List α} (h : Srt lt 0 L.length L) : L.Pairwise (fun x y => lt y x = false) := by
  rw [List.pairwise_iff_getElem]
  intro i j hi hj hij
  have := h i j (by omega) hij hj
  rwa [getElem!_pos L j hj, getElem!_pos L i hi] at this
end
end Go.Proofs.Ytlngegoamfklgaa
