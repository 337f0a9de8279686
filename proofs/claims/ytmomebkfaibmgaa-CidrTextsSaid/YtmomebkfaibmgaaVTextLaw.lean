/- Numbers, addresses and prefixes as texts: the plain law. No program here. -/
import Derived.Test.YtmomebkfaibmgaaVStr
namespace Go.Proofs.Ytmomebkfaibmgaa
open Go

theorem digs_small {k n : Nat} (h : n < 10) : digs k n = [48 + (n : Int)] := by
  cases k with
  | zero => rfl
  | succ k => rw [digs, if_pos h]
theorem digs_big {k n : Nat} (h : ¬ n < 10) : digs (k + 1) n = digs k (n / 10) ++ [48 + ((n % 10 : Nat) : Int)] := by rw [digs, if_neg h]
theorem digs_eq : ∀ (k j n : Nat), n < 10 ^ (k + 1) → n < 10 ^ (j + 1) → digs k n = digs j n
  | 0, j, n, h, _ => by
    have : n < 10 := by simpa using h
    rw [digs_small this, digs_small this]
  | k + 1, 0, n, _, h => by
    have : n < 10 := by simpa using h
    rw [digs_small this, digs_small this]
  | k + 1, j + 1, n, h1, h2 => by
    by_cases h : n < 10
    · rw [digs_small h, digs_small h]
    · rw [digs_big h, digs_big h, digs_eq k j (n / 10) (by rw [Nat.pow_succ] at h1; omega) (by rw [Nat.pow_succ] at h2; omega)]
theorem digs_pos (k n : Nat) : 0 < (digs k n).length := by
  cases k with
  | zero => simp [digs]
  | succ k => rw [digs]; split <;> simp
theorem digs_ok : ∀ (k n : Nat), n < 10 ^ (k + 1) → ∀ c ∈ digs k n, 48 ≤ c ∧ c ≤ 57
  | 0, n, h, c, hc => by
    simp only [Nat.zero_add, Nat.pow_one] at h
    simp [digs] at hc; omega
  | k + 1, n, h, c, hc => by
    by_cases h10 : n < 10
    · rw [digs_small h10] at hc; simp at hc; omega
    · rw [digs_big h10] at hc
      rcases List.mem_append.1 hc with hc | hc
      · exact digs_ok k (n / 10) (by rw [Nat.pow_succ] at h; omega) c hc
      · simp at hc; omega
theorem digs_all {k n : Nat} (h : n < 10 ^ (k + 1)) : (digs k n).all digOk = true := by
  rw [List.all_eq_true]
  intro c hc
  have := digs_ok k n h c hc
  simp [digOk]; omega
theorem valL_digs : ∀ (k n : Nat), n < 10 ^ (k + 1) → valL (digs k n) = n
  | 0, n, h => by simp [digs, valL]; omega
  | k + 1, n, h => by
    by_cases h10 : n < 10
    · rw [digs_small h10]; simp [valL]; omega
    · rw [digs_big h10, valL_snoc, valL_digs k (n / 10) (by rw [Nat.pow_succ] at h; omega)]; omega
/-- Digits, and no nought ahead of others. -/
def plainN (L : List Int) : Bool := decide (0 < L.length) && (decide (L.length = 1) || decide (L.getD 0 0 ≠ 48))
theorem list_snoc {α : Type} {L : List α} (h : 0 < L.length) : ∃ M c, L = M ++ [c] := by
  have hne : L ≠ [] := by rintro rfl; simp at h
  exact ⟨L.dropLast, L.getLast hne, (List.dropLast_concat_getLast hne).symm⟩
theorem valL_zero : ∀ (n : Nat) (L : List Int), L.length = n → L.all digOk = true → valL L = 0 → L.getD 0 48 = 48
  | 0, L, hn, _, _ => by
    have := List.eq_nil_of_length_eq_zero hn
    subst this; rfl
  | n + 1, L, hn, h, hv => by
    obtain ⟨M, c, rfl⟩ := list_snoc (L := L) (by omega)
    rw [valL_snoc] at hv
    rw [List.all_append, Bool.and_eq_true] at h
    have hc : 48 ≤ c ∧ c ≤ 57 := by have := h.2; simp [digOk] at this; omega
    have hM : M.length = n := by simpa using hn
    have hb := valL_bound M 0 0 h.1 (Int.le_refl _) (by decide)
    have hM0 : 0 ≤ valL M := hb.1
    cases M with
    | nil => simp [valL] at hv ⊢; omega
    | cons x M =>
      have := valL_zero n (x :: M) hM h.1 (by omega)
      simpa using this
theorem digs_val : ∀ (n : Nat) (L : List Int) (k : Nat), L.length = n → L.all digOk = true → n ≤ k + 1 → (digs k (valL L).toNat = L ↔ plainN L = true)
  | 0, L, k, hn, _, _ => by
    have := List.eq_nil_of_length_eq_zero hn
    subst this
    have := digs_pos k (valL []).toNat
    constructor
    · intro h; rw [h] at this; simp at this
    · intro h; simp [plainN] at h
  | n + 1, L, k, hn, h, hk => by
    obtain ⟨M, c, rfl⟩ := list_snoc (L := L) (by omega)
    rw [List.all_append, Bool.and_eq_true] at h
    have hc : 48 ≤ c ∧ c ≤ 57 := by have := h.2; simp [digOk] at this; omega
    have hM : M.length = n := by simpa using hn
    have hb := valL_bound M 0 0 h.1 (Int.le_refl _) (by decide)
    have hM0 : 0 ≤ valL M := hb.1
    rw [valL_snoc]
    by_cases hn0 : n = 0
    · have hMn : M = [] := List.eq_nil_of_length_eq_zero (by omega)
      subst hMn
      have hv : (10 * valL [] + c - 48).toNat < 10 := by simp [valL]; omega
      rw [digs_small hv]
      simp [plainN, valL]; omega
    · obtain ⟨k', rfl⟩ : ∃ k', k = k' + 1 := ⟨k - 1, by omega⟩
      have hl1 : (M ++ [c]).length = M.length + 1 := by rw [List.length_append]; rfl
      have hlen : ¬ (M ++ [c]).length = 1 := by omega
      have hg : (M ++ [c]).getD 0 0 = M.getD 0 0 := by
        rw [List.getD_eq_getElem?_getD, List.getD_eq_getElem?_getD, List.getElem?_append_left (by omega)]
      by_cases hz : valL M = 0
      · have hv : (10 * valL M + c - 48).toNat < 10 := by omega
        have h48 := valL_zero n M hM h.1 hz
        rw [digs_small hv]
        have hg2 : M.getD 0 0 = 48 := by
          rw [List.getD_eq_getElem?_getD, List.getElem?_eq_getElem (by omega)] at h48 ⊢
          exact h48
        constructor
        · intro e
          have := congrArg List.length e
          rw [hl1] at this
          simp only [List.length_cons, List.length_nil] at this
          omega
        · intro e
          have : plainN (M ++ [c]) = false := by
            unfold plainN
            rw [hg, hg2, decide_eq_false hlen]
            simp
          rw [this] at e
          cases e
      · have hv : ¬ (10 * valL M + c - 48).toNat < 10 := by omega
        rw [digs_big hv]
        have e1 : (10 * valL M + c - 48).toNat / 10 = (valL M).toNat := by omega
        have e2 : 48 + (((10 * valL M + c - 48).toNat % 10 : Nat) : Int) = c := by omega
        rw [e1, e2]
        have ih := digs_val n M k' hM h.1 (by omega)
        have hp : plainN (M ++ [c]) = plainN M := by
          unfold plainN
          rw [hg, decide_eq_false hlen, decide_eq_true (show 0 < (M ++ [c]).length by omega), decide_eq_true (show 0 < M.length by omega)]
          by_cases h1 : M.length = 1
          · have hx : M.getD 0 0 ≠ 48 := by
              intro e
              apply hz
              match M, h1 with
              | [x], _ => simp at e; subst e; simp [valL]
            rw [decide_eq_true h1, decide_eq_true hx]
            rfl
          · rw [decide_eq_false h1]
        rw [hp, ← ih]
        constructor
        · intro e; exact List.append_cancel_right e
        · intro e; rw [e]
/-- The number of digits, as it is read. -/
def rdH (L : List Int) : Int × Bool := if L.length ≤ 13 ∧ plainN L = true ∧ L.all digOk = true ∧ valL L ≤ 1099511627776 then (valL L, true) else (0, false)
theorem rdN_eq (L : List Int) : rdN L = rdH L := by
  unfold rdN rdH
  by_cases h1 : 13 < L.length
  · rw [if_pos h1, if_neg (by omega)]
  rw [if_neg h1]
  by_cases h2 : L.all digOk = true
  · rw [if_pos h2]
    have := digs_val L.length L 13 rfl h2 (by omega)
    by_cases h3 : plainN L = true
    · by_cases h4 : valL L ≤ 1099511627776
      · rw [if_pos ⟨this.2 h3, h4⟩, if_pos ⟨by omega, h3, h2, h4⟩]
      · rw [if_neg (fun h => h4 h.2), if_neg (fun h => h4 h.2.2.2)]
    · rw [if_neg (fun h => h3 (this.1 h.1)), if_neg (fun h => h3 h.2.1)]
  · rw [if_neg h2, if_neg (fun h => h2 h.2.2.1)]
theorem rdN_digs {k n : Nat} (h : n ≤ 1099511627776) (hk : n < 10 ^ (k + 1)) : rdN (digs k n) = ((n : Int), true) := by
  have h13 : n < 10 ^ (13 + 1) := by omega
  rw [digs_eq k 13 n hk h13]
  unfold rdN
  have hv := valL_digs 13 n h13
  have hl := digs_len 13 n
  have hall := digs_all h13
  have hlen : ¬ 13 < (digs 13 n).length := by
    have h12 : n < 10 ^ (12 + 1) := by omega
    have := digs_len 12 n
    rw [digs_eq 13 12 n h13 h12]; omega
  rw [if_neg hlen, if_pos hall, hv, Int.toNat_natCast, if_pos ⟨rfl, by omega⟩]
/-! ### What stands between bytes -/
theorem splF_clean (c : Int) : ∀ (L : List Int) (acc : List (List Int)) (one : List Int), c ∉ L → L.foldl (splS c) (acc, one) = (acc, one ++ L)
  | [], acc, one, _ => by simp
  | x :: L, acc, one, h => by
    simp only [List.mem_cons, not_or] at h
    rw [List.foldl_cons]
    have : splS c (acc, one) x = (acc, one ++ [x]) := if_neg (fun e => h.1 e.symm)
    rw [this, splF_clean c L acc _ h.2]
    simp
theorem splL_clean {c : Int} {L : List Int} (h : c ∉ L) : splL c L = [L] := by
  unfold splL splF
  rw [splF_clean c L [] [] h]
  rfl
theorem splF_acc (c : Int) : ∀ (L : List Int) (acc : List (List Int)) (one : List Int), L.foldl (splS c) (acc, one) = (acc ++ (L.foldl (splS c) ([], one)).1, (L.foldl (splS c) ([], one)).2)
  | [], acc, one => by simp
  | x :: L, acc, one => by
    rw [List.foldl_cons, List.foldl_cons]
    by_cases h : x = c
    · have e1 : splS c (acc, one) x = (acc ++ [one], []) := if_pos h
      have e2 : splS c ([], one) x = ([one], []) := if_pos h
      rw [e1, e2, splF_acc c L (acc ++ [one]) [], splF_acc c L [one] []]
      simp
    · have e1 : splS c (acc, one) x = (acc, one ++ [x]) := if_neg h
      have e2 : splS c ([], one) x = ([], one ++ [x]) := if_neg h
      rw [e1, e2, splF_acc c L acc _]
theorem splL_cons {c : Int} {A B : List Int} (h : c ∉ A) : splL c (A ++ c :: B) = A :: splL c B := by
  unfold splL splF
  rw [List.foldl_append, splF_clean c A [] [] h, List.foldl_cons]
  have e : splS c ([], [] ++ A) c = ([A], []) := by unfold splS; simp
  rw [e, splF_acc c B [A] []]
  simp
theorem digs_no {c : Int} {k n : Nat} (h : n < 10 ^ (k + 1)) (hc : ¬ (48 ≤ c ∧ c ≤ 57)) : c ∉ digs k n := fun hm => hc (digs_ok k n h c hm)
end Go.Proofs.Ytmomebkfaibmgaa
