/- Control messages as bytes: the plain law. No program here. -/
import Derived.Test.YtogkdcbcmhhhcaaVStr
import Derived.Test.YtogkdcbcmhhhcaaVMsg2
namespace Go.Proofs.Ytogkdcbcmhhhcaa
open Go

def isTxt (k : Int) : Bool := decide (4 < k)
/-- How many bytes stand ahead of the noughts at the end. -/
def stripN (L : List Int) : Nat → Nat
  | 0 => 0
  | n + 1 => if L[n]? = some 0 then stripN L n else n + 1
def stripL (L : List Int) : List Int := L.take (stripN L L.length)
theorem stripN_le (L : List Int) : ∀ n, stripN L n ≤ n
  | 0 => Nat.le_refl _
  | n + 1 => by
    unfold stripN
    split
    · have := stripN_le L n; omega
    · exact Nat.le_refl _
theorem stripN_zero (L : List Int) : ∀ n j, stripN L n ≤ j → j < n → L[j]? = some 0
  | 0, j, _, h => by omega
  | n + 1, j, h1, h2 => by
    unfold stripN at h1
    split at h1
    · rename_i h
      by_cases e : j = n
      · subst e; exact h
      · exact stripN_zero L n j h1 (by omega)
    · omega
theorem stripN_cong {L M : List Int} : ∀ n, (∀ j, j < n → L[j]? = M[j]?) → stripN L n = stripN M n
  | 0, _ => rfl
  | n + 1, h => by
    unfold stripN
    rw [h n (by omega), stripN_cong n (fun j hj => h j (by omega))]
theorem stripN_zeros (L : List Int) (n : Nat) : ∀ m, (∀ j, n ≤ j → j < n + m → L[j]? = some 0) → stripN L (n + m) = stripN L n
  | 0, _ => rfl
  | m + 1, h => by
    show stripN L ((n + m) + 1) = _
    rw [stripN, if_pos (h (n + m) (by omega) (by omega))]
    exact stripN_zeros L n m fun j h1 h2 => h j h1 (by omega)
theorem stripN_idem (L : List Int) : ∀ n, stripN L (stripN L n) = stripN L n
  | 0 => rfl
  | n + 1 => by
    rw [stripN]
    split
    · exact stripN_idem L n
    · rename_i h; rw [stripN, if_neg h]
theorem stripL_len (L : List Int) : (stripL L).length = stripN L L.length := by
  have := stripN_le L L.length
  unfold stripL
  rw [List.length_take]; omega
theorem stripL_eq {L : List Int} : stripL L = L ↔ stripN L L.length = L.length :=
  ⟨fun h => by have := stripL_len L; rw [h] at this; exact this.symm, fun h => by unfold stripL; rw [h]; exact List.take_of_length_le (Nat.le_refl _)⟩
theorem stripL_idem (L : List Int) : stripL (stripL L) = stripL L := by
  rw [stripL_eq, stripL_len]
  have hle := stripN_le L L.length
  rw [stripN_cong (M := L) _ (fun j hj => by unfold stripL; rw [List.getElem?_take, if_pos hj])]
  exact stripN_idem L _
theorem stripL_isB {L : List Int} (h : IsB L) : IsB (stripL L) := h.take _
/-- A text with noughts behind it. -/
def padT (k : Nat) (t : List Int) : List Int := t ++ List.replicate (k - t.length) 0
theorem padT_strip (L : List Int) : padT L.length (stripL L) = L := by
  have hle := stripN_le L L.length
  have hsl := stripL_len L
  unfold padT
  apply List.ext_getElem?
  intro i
  rw [List.getElem?_append, hsl]
  split
  · rename_i h
    unfold stripL
    rw [List.getElem?_take, if_pos h]
  · rename_i h
    rw [List.getElem?_replicate]
    by_cases hi : i < L.length
    · rw [if_pos (by omega)]
      exact (stripN_zero L _ i (by omega) hi).symm
    · rw [if_neg (by omega), List.getElem?_eq_none (by omega)]
theorem strip_padT {k : Nat} {t : List Int} (h : stripL t = t) (hl : t.length ≤ k) : stripL (padT k t) = t := by
  have h1 := stripL_eq.1 h
  have hlen : (padT k t).length = t.length + (k - t.length) := by simp [padT]
  have hN : stripN (padT k t) (padT k t).length = t.length := by
    rw [hlen, stripN_zeros _ _ _ (fun j h1 h2 => by
      unfold padT
      rw [List.getElem?_append, if_neg (by omega), List.getElem?_replicate, if_pos (by omega)])]
    rw [stripN_cong (M := t) _ (fun j hj => by unfold padT; rw [List.getElem?_append, if_pos hj])]
    exact h1
  unfold stripL
  rw [hN]
  unfold padT
  rw [List.take_append_of_le_length (Nat.le_refl _), List.take_of_length_le (Nat.le_refl _)]
theorem padT_len {k : Nat} {t : List Int} (h : t.length ≤ k) : (padT k t).length = k := by simp [padT]; omega
def tOk (k : Int) (t : List Int) : Bool := decide ((t.length : Int) ≤ k) && decide (stripL t = t)

/-! ### Parts -/
def bK : List Int → List Int → List (List Int) → List Int
  | [], _, _ => []
  | k :: K, N, T => if k < 0 then List.replicate (-k).toNat 0 ++ bK K N T
      else if 4 < k then padT k.toNat (T.headD []) ++ bK K N T.tail
      else beL (N.headD 0) k.toNat ++ bK K N.tail T
def rK : List Int → List Int → List (List Int) → Bool
  | [], N, T => N.all (fun x => decide (x = 0)) && T.all (fun x => decide (x = []))
  | k :: K, N, T => if k < 0 then rK K N T else if 4 < k then tOk k (T.headD []) && rK K N T.tail else decide (N.headD 0 < 256 ^ k.toNat) && rK K N.tail T
def pK : List Int → List Int → Option (List Int × List (List Int))
  | [], _ => some ([], [])
  | k :: K, L => if k < 0 then (if (L.take (-k).toNat).all (fun x => decide (x = 0)) = true then pK K (L.drop (-k).toNat) else none)
     else if 4 < k then (pK K (L.drop k.toNat)).map fun p => (p.1, stripL (L.take k.toNat) :: p.2)
     else (pK K (L.drop k.toNat)).map fun p => (numL (L.take k.toNat) :: p.1, p.2)
def kOk (k : Int) : Prop := k = -3 ∨ k = -2 ∨ k = 1 ∨ k = 2 ∨ k = 4 ∨ k = 64 ∨ k = 128
instance (k : Int) : Decidable (kOk k) := by unfold kOk; exact inferInstance
def sumN : List Int → Nat
  | [] => 0
  | k :: K => k.natAbs + sumN K
theorem layout_kOk (t : Int) : ∀ k ∈ layoutL t, kOk k := (by decide : ∀ K ∈ layouts, ∀ k ∈ K, kOk k) _ (layout_mem t)
theorem layout_txt (t : Int) : (layoutL t).countP isTxt ≤ 3 := (by decide : ∀ K ∈ layouts, K.countP isTxt ≤ 3) _ (layout_mem t)
theorem layout_sum (t : Int) : sumN (layoutL t) ≤ 300 := (by decide : ∀ K ∈ layouts, sumN K ≤ 300) _ (layout_mem t)
/-- So many bytes a message of a type has. -/
def sizeT (t : Int) : Int := if layoutL t = [] then 0 else 12 + (sumN (layoutL t) : Int)
theorem sizeT_pos {t : Int} : 0 < sizeT t ↔ layoutL t ≠ [] := by
  unfold sizeT
  split
  · rename_i h; simp [h]
  · rename_i h; simp [h]; omega
theorem bK_nil (N : List Int) (T : List (List Int)) : bK [] N T = [] := rfl
section
variable {k : Int} {K N : List Int} {T : List (List Int)} {L : List Int}
theorem bK_neg (h : k < 0) : bK (k :: K) N T = List.replicate (-k).toNat 0 ++ bK K N T := if_pos h
theorem bK_txt (h : 4 < k) : bK (k :: K) N T = padT k.toNat (T.headD []) ++ bK K N T.tail := by rw [bK, if_neg (by omega), if_pos h]
theorem bK_num (h : 0 ≤ k) (h4 : k ≤ 4) : bK (k :: K) N T = beL (N.headD 0) k.toNat ++ bK K N.tail T := by rw [bK, if_neg (by omega), if_neg (by omega)]
theorem rK_neg (h : k < 0) : rK (k :: K) N T = rK K N T := if_pos h
theorem rK_txt (h : 4 < k) : rK (k :: K) N T = (tOk k (T.headD []) && rK K N T.tail) := by rw [rK, if_neg (by omega), if_pos h]
theorem rK_num (h : 0 ≤ k) (h4 : k ≤ 4) : rK (k :: K) N T = (decide (N.headD 0 < 256 ^ k.toNat) && rK K N.tail T) := by rw [rK, if_neg (by omega), if_neg (by omega)]
theorem pK_neg (h : k < 0) : pK (k :: K) L = if (L.take (-k).toNat).all (fun x => decide (x = 0)) = true then pK K (L.drop (-k).toNat) else none := if_pos h
theorem pK_txt (h : 4 < k) : pK (k :: K) L = (pK K (L.drop k.toNat)).map fun p => (p.1, stripL (L.take k.toNat) :: p.2) := by rw [pK, if_neg (by omega), if_pos h]
theorem pK_num (h : 0 ≤ k) (h4 : k ≤ 4) : pK (k :: K) L = (pK K (L.drop k.toNat)).map fun p => (numL (L.take k.toNat) :: p.1, p.2) := by rw [pK, if_neg (by omega), if_neg (by omega)]
end
theorem all_zeros : ∀ (L : List Int), L.all (fun x => decide (x = 0)) = true → L = List.replicate L.length 0
  | [], _ => rfl
  | x :: L, h => by
    simp only [List.all_cons, Bool.and_eq_true, decide_eq_true_eq] at h
    rw [List.length_cons, List.replicate_succ, ← all_zeros L h.2, h.1]
theorem all_nils : ∀ (L : List (List Int)), L.all (fun x => decide (x = [])) = true → L = List.replicate L.length []
  | [], _ => rfl
  | x :: L, h => by
    simp only [List.all_cons, Bool.and_eq_true, decide_eq_true_eq] at h
    rw [List.length_cons, List.replicate_succ, ← all_nils L h.2, h.1]
theorem zeros_all (n : Nat) : (List.replicate n (0 : Int)).all (fun x => decide (x = 0)) = true := by
  rw [List.all_eq_true]; intro x hx; simp [List.eq_of_mem_replicate hx]
theorem nils_all (n : Nat) : (List.replicate n ([] : List Int)).all (fun x => decide (x = [])) = true := by
  rw [List.all_eq_true]; intro x hx; simp [List.eq_of_mem_replicate hx]
/-- What is built is parsed as it was. -/
theorem pK_bK : ∀ (K N : List Int) (T : List (List Int)), (∀ k ∈ K, kOk k) → K.countP isNum ≤ N.length → K.countP isTxt ≤ T.length → (∀ x ∈ N, 0 ≤ x) → rK K N T = true →
    ∃ a b, pK K (bK K N T) = some (a, b) ∧ N = a ++ List.replicate (N.length - a.length) 0 ∧ T = b ++ List.replicate (T.length - b.length) []
  | [], N, T, _, _, _, _, h => by
    simp only [rK, Bool.and_eq_true] at h
    exact ⟨[], [], rfl, by simpa using all_zeros N h.1, by simpa using all_nils T h.2⟩
  | k :: K, N, T, hk, hN, hT, h0, h => by
    have hk1 := hk k (by simp)
    have hk2 : ∀ k ∈ K, kOk k := fun x hx => hk x (by simp [hx])
    unfold kOk at hk1
    rw [List.countP_cons] at hN hT
    by_cases c1 : k < 0
    · rw [rK_neg c1] at h
      obtain ⟨a, b, h1, h2, h3⟩ := pK_bK K N T hk2 (by omega) (by omega) h0 h
      refine ⟨a, b, ?_, h2, h3⟩
      rw [bK_neg c1, pK_neg c1, List.take_append_of_le_length (by simp), List.take_of_length_le (by simp), if_pos (zeros_all _), List.drop_append_of_le_length (by simp), List.drop_of_length_le (by simp)]
      exact h1
    by_cases c2 : 4 < k
    · rw [rK_txt c2, Bool.and_eq_true] at h
      obtain ⟨ht, h⟩ := h
      simp only [tOk, Bool.and_eq_true, decide_eq_true_eq] at ht
      have e1 : isTxt k = true := by simp [isTxt, c2]
      have e2 : isNum k = false := by simp [isNum]; omega
      rw [e1] at hT; rw [e2] at hN
      simp only [if_true] at hT
      obtain ⟨t, T', rfl⟩ : ∃ t T', T = t :: T' := by
        cases T with
        | nil => simp at hT
        | cons t T' => exact ⟨t, T', rfl⟩
      simp only [List.headD_cons, List.tail_cons] at ht h
      obtain ⟨a, b, h1, h2, h3⟩ := pK_bK K N T' hk2 (by simpa using hN) (by simp at hT; omega) h0 h
      have hpl : (padT k.toNat t).length = k.toNat := padT_len (by omega)
      refine ⟨a, t :: b, ?_, h2, ?_⟩
      · rw [bK_txt c2, pK_txt c2, List.headD_cons, List.tail_cons, List.take_append_of_le_length (by omega), List.take_of_length_le (by omega), List.drop_append_of_le_length (by omega), List.drop_of_length_le (by omega), List.nil_append, h1,
          strip_padT ht.2 (by omega)]
        rfl
      · rw [List.cons_append, List.length_cons, List.length_cons, Nat.add_sub_add_right, ← h3]
    · have hk3 : 0 ≤ k ∧ k ≤ 4 ∧ 0 < k := by omega
      rw [rK_num hk3.1 hk3.2.1, Bool.and_eq_true, decide_eq_true_eq] at h
      obtain ⟨ht, h⟩ := h
      have e2 : isNum k = true := by simp [isNum]; omega
      have e1 : isTxt k = false := by simp [isTxt]; omega
      rw [e1] at hT; rw [e2] at hN
      simp only [if_true] at hN
      obtain ⟨x, N', rfl⟩ : ∃ t T', N = t :: T' := by
        cases N with
        | nil => simp at hN
        | cons t T' => exact ⟨t, T', rfl⟩
      simp only [List.headD_cons, List.tail_cons] at ht h
      obtain ⟨a, b, h1, h2, h3⟩ := pK_bK K N' T hk2 (by simp at hN; omega) (by simpa using hT) (fun y hy => h0 y (by simp [hy])) h
      have hpl : (beL x k.toNat).length = k.toNat := beL_len _ _
      have hx0 := h0 x (by simp)
      have hnb : numL (beL x k.toNat) = x := by
        rw [numL_beL x hx0 k.toNat]
        exact Int.emod_eq_of_lt hx0 ht
      refine ⟨x :: a, b, ?_, ?_, h3⟩
      · rw [bK_num hk3.1 hk3.2.1, pK_num hk3.1 hk3.2.1, List.headD_cons, List.tail_cons, List.take_append_of_le_length (by omega), List.take_of_length_le (by omega), List.drop_append_of_le_length (by omega), List.drop_of_length_le (by omega), List.nil_append, h1, hnb]
        rfl
      · rw [List.cons_append, List.length_cons, List.length_cons, Nat.add_sub_add_right, ← h2]
/-- What is parsed is built as it was. -/
theorem bK_pK : ∀ (K L a : List Int) (b : List (List Int)) (p q : Nat), (∀ k ∈ K, kOk k) → IsB L → L.length = sumN K → pK K L = some (a, b) →
    rK K (a ++ List.replicate p 0) (b ++ List.replicate q []) = true ∧ bK K (a ++ List.replicate p 0) (b ++ List.replicate q []) = L ∧ a.length = K.countP isNum ∧ b.length = K.countP isTxt ∧ (∀ x ∈ a, 0 ≤ x ∧ x < 4294967296) ∧ ∀ t ∈ b, IsB t
  | [], L, a, b, p, q, _, _, hl, h => by
    simp only [pK, Option.some.injEq, Prod.mk.injEq] at h
    obtain ⟨rfl, rfl⟩ := h
    have : L = [] := List.eq_nil_of_length_eq_zero hl
    subst this
    simp only [rK, List.nil_append, bK, Bool.and_eq_true]
    exact ⟨⟨zeros_all _, nils_all _⟩, by trivial, by trivial, by trivial, (by intro x hx; cases hx), (by intro x hx; cases hx)⟩
  | k :: K, L, a, b, p, q, hk, hB, hl, h => by
    have hk1 := hk k (by simp)
    have hk2 : ∀ k ∈ K, kOk k := fun x hx => hk x (by simp [hx])
    unfold kOk at hk1
    rw [List.countP_cons, List.countP_cons]
    simp only [sumN] at hl
    by_cases c1 : k < 0
    · rw [pK_neg c1] at h
      split at h
      · rename_i hz
        obtain ⟨h1, h2, h3, h4, h5, h6⟩ := bK_pK K (L.drop (-k).toNat) a b p q hk2 (hB.drop _) (by rw [List.length_drop]; omega) h
        have e1 : isTxt k = false := by simp [isTxt]; omega
        have e2 : isNum k = false := by simp [isNum]; omega
        rw [e1, e2, rK_neg c1, bK_neg c1]
        have hzz := all_zeros _ hz
        rw [List.length_take, Nat.min_eq_left (by omega)] at hzz
        exact ⟨h1, by rw [h2, ← hzz, List.take_append_drop], by simpa using h3, by simpa using h4, h5, h6⟩
      · cases h
    by_cases c2 : 4 < k
    · rw [pK_txt c2, Option.map_eq_some_iff] at h
      obtain ⟨⟨a', b'⟩, h, he⟩ := h
      simp only [Prod.mk.injEq] at he
      obtain ⟨rfl, rfl⟩ := he
      obtain ⟨h1, h2, h3, h4, h5, h6⟩ := bK_pK K (L.drop k.toNat) a' b' p q hk2 (hB.drop _) (by rw [List.length_drop]; omega) h
      have e1 : isTxt k = true := by simp [isTxt, c2]
      have e2 : isNum k = false := by simp [isNum]; omega
      have htl : (L.take k.toNat).length = k.toNat := by rw [List.length_take]; omega
      rw [e1, e2, rK_txt c2, bK_txt c2]
      simp only [List.cons_append, List.headD_cons, List.tail_cons, Bool.and_eq_true]
      refine ⟨⟨?_, h1⟩, ?_, by simpa using h3, by simp [h4], h5, ?_⟩
      · simp only [tOk, Bool.and_eq_true, decide_eq_true_eq]
        have := stripL_len (L.take k.toNat)
        have := stripN_le (L.take k.toNat) (L.take k.toNat).length
        exact ⟨by omega, stripL_idem _⟩
      · have := padT_strip (L.take k.toNat)
        rw [htl] at this
        rw [this, h2, List.take_append_drop]
      · intro t ht
        rcases List.mem_cons.1 ht with rfl | ht
        · exact stripL_isB (hB.take _)
        · exact h6 t ht
    · have hk3 : 0 ≤ k ∧ k ≤ 4 ∧ 0 < k := by omega
      rw [pK_num hk3.1 hk3.2.1, Option.map_eq_some_iff] at h
      obtain ⟨⟨a', b'⟩, h, he⟩ := h
      simp only [Prod.mk.injEq] at he
      obtain ⟨rfl, rfl⟩ := he
      obtain ⟨h1, h2, h3, h4, h5, h6⟩ := bK_pK K (L.drop k.toNat) a' b' p q hk2 (hB.drop _) (by rw [List.length_drop]; omega) h
      have e2 : isNum k = true := by simp [isNum]; omega
      have e1 : isTxt k = false := by simp [isTxt]; omega
      have htl : (L.take k.toNat).length = k.toNat := by rw [List.length_take]; omega
      have hr := numL_range _ (L.take k.toNat) htl (hB.take _)
      rw [htl] at hr
      rw [e1, e2, rK_num hk3.1 hk3.2.1, bK_num hk3.1 hk3.2.1]
      simp only [List.cons_append, List.headD_cons, List.tail_cons, Bool.and_eq_true, decide_eq_true_eq]
      refine ⟨⟨decide_eq_true hr.2, h1⟩, ?_, by simp [h3], by simpa using h4, ?_, h6⟩
      · rw [numL_eq_beL _ _ htl (hB.take _), h2, List.take_append_drop]
      · intro x hx
        rcases List.mem_cons.1 hx with rfl | hx
        · refine ⟨hr.1, Int.lt_of_lt_of_le hr.2 ?_⟩
          have : k.toNat = 1 ∨ k.toNat = 2 ∨ k.toNat = 4 := by omega
          rcases this with e | e | e <;> rw [e] <;> decide
        · exact h5 x hx
theorem bK_len : ∀ (K N : List Int) (T : List (List Int)), (∀ k ∈ K, kOk k) → rK K N T = true → (bK K N T).length = sumN K
  | [], N, T, _, _ => rfl
  | k :: K, N, T, hk, h => by
    have hk1 := hk k (by simp)
    have hk2 : ∀ k ∈ K, kOk k := fun x hx => hk x (by simp [hx])
    unfold kOk at hk1
    simp only [sumN]
    by_cases c1 : k < 0
    · rw [rK_neg c1] at h
      rw [bK_neg c1, List.length_append, bK_len K N T hk2 h, List.length_replicate]; omega
    by_cases c2 : 4 < k
    · rw [rK_txt c2, Bool.and_eq_true] at h
      simp only [tOk, Bool.and_eq_true, decide_eq_true_eq] at h
      rw [bK_txt c2, List.length_append, bK_len K N _ hk2 h.2, padT_len (by omega)]; omega
    · rw [rK_num (by omega) (by omega), Bool.and_eq_true] at h
      rw [bK_num (by omega) (by omega), List.length_append, bK_len K _ T hk2 h.2, beL_len]; omega
theorem bK_isB : ∀ (K N : List Int) (T : List (List Int)), (∀ t ∈ T, IsB t) → IsB (bK K N T)
  | [], N, T, _ => isB_nil
  | k :: K, N, T, hT => by
    have hz : ∀ n, IsB (List.replicate n 0) := fun n x hx => by rw [List.eq_of_mem_replicate hx]; omega
    have hh : IsB (T.headD []) := by
      cases T with
      | nil => exact isB_nil
      | cons t T => exact hT t (by simp)
    by_cases c1 : k < 0
    · rw [bK_neg c1]; exact (hz _).append (bK_isB K N T hT)
    by_cases c2 : 4 < k
    · rw [bK_txt c2]; exact (hh.append (hz _)).append (bK_isB K N _ fun t ht => hT t (List.mem_of_mem_tail ht))
    · rw [bK_num (by omega) (by omega)]; exact (beL_isB _ _).append (bK_isB K _ T hT)
end Go.Proofs.Ytogkdcbcmhhhcaa
