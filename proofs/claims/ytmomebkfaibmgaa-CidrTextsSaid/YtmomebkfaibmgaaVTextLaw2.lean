/- Addresses and prefixes as texts: the plain law. No program here. -/
import Derived.Test.YtmomebkfaibmgaaVTextLaw
import Derived.Test.YtmomebkfaibmgaaCidrLaw
namespace Go.Proofs.Ytmomebkfaibmgaa
open Go

/-- Is it a number of a byte? -/
def chunkOk (M : List Int) : Bool := (rdH M).2 && decide ((rdH M).1 ≤ 255)
/-- The address of a text. -/
def addrR (L : List Int) : Int × Bool :=
  if (splL 46 L).length = 4 ∧ (splL 46 L).all chunkOk = true then (numL ((splL 46 L).map fun M => (rdH M).1), true) else (0, false)
def addrT (a : Int) : List Int := digs 2 (a / 16777216 % 256).toNat ++ 46 :: (digs 2 (a / 65536 % 256).toNat ++ 46 :: (digs 2 (a / 256 % 256).toNat ++ 46 :: digs 2 (a % 256).toNat))
theorem rdH_nonneg {L : List Int} : 0 ≤ (rdH L).1 ∧ (rdH L).1 ≤ 1099511627776 := by
  unfold rdH
  split
  · rename_i h
    have := valL_bound L 0 0 h.2.2.1 (Int.le_refl _) (by decide)
    exact ⟨this.1, h.2.2.2⟩
  · simp
theorem rdH_byte {n : Nat} (h : n < 256) : rdH (digs 2 n) = ((n : Int), true) := by
  rw [← rdN_eq]
  exact rdN_digs (by omega) (by omega)
theorem chunk_byte {n : Nat} (h : n < 256) : chunkOk (digs 2 n) = true := by
  unfold chunkOk
  rw [rdH_byte h]
  simp; omega
theorem splL_addr (a : Int) : splL 46 (addrT a) = [digs 2 (a / 16777216 % 256).toNat, digs 2 (a / 65536 % 256).toNat, digs 2 (a / 256 % 256).toNat, digs 2 (a % 256).toNat] := by
  have hno : ∀ x : Int, 46 ∉ digs 2 (x % 256).toNat := fun x => digs_no (by omega) (by omega)
  unfold addrT
  rw [splL_cons (hno _), splL_cons (hno _), splL_cons (hno _), splL_clean (hno _)]
theorem addrR_T {a : Int} (h0 : 0 ≤ a) (h1 : a < 4294967296) : addrR (addrT a) = (a, true) := by
  unfold addrR
  rw [splL_addr]
  have hb : ∀ x : Int, (x % 256).toNat < 256 := fun x => by omega
  rw [if_pos ⟨rfl, by simp only [List.all_cons, List.all_nil, chunk_byte (hb _), Bool.and_true]⟩]
  simp only [List.map_cons, List.map_nil, rdH_byte (hb _), Prod.mk.injEq, and_true]
  simp [numL]
  omega
theorem addrT_no {a c : Int} (hc : ¬ (48 ≤ c ∧ c ≤ 57)) (hc2 : c ≠ 46) : c ∉ addrT a := by
  have hno : ∀ x : Int, c ∉ digs 2 (x % 256).toNat := fun x => digs_no (by omega) hc
  unfold addrT
  simp only [List.mem_append, List.mem_cons, not_or]
  exact ⟨hno _, hc2, hno _, hc2, hno _, hc2, hno _⟩
theorem addrT_isB (a : Int) : IsB (addrT a) := by
  have hd : ∀ x : Int, IsB (digs 2 (x % 256).toNat) := fun x => digs_isB _ _ (by omega)
  have h46 : IsB [46] := isB_one (by omega) (by omega)
  unfold addrT
  exact (hd _).append (h46.append ((hd _).append (h46.append ((hd _).append (h46.append (hd _))))))
theorem addrT_len (a : Int) : (addrT a).length ≤ 15 := by
  have := digs_len 2 (a / 16777216 % 256).toNat
  have := digs_len 2 (a / 65536 % 256).toNat
  have := digs_len 2 (a / 256 % 256).toNat
  have := digs_len 2 (a % 256).toNat
  unfold addrT
  simp only [List.length_append, List.length_cons]
  omega
/-! ### What stands between bytes -/
theorem splL_last {c : Int} {A B : List Int} (h : c ∉ B) : splL c (A ++ c :: B) = splL c A ++ [B] := by
  unfold splL splF
  rw [List.foldl_append, List.foldl_cons]
  generalize A.foldl (splS c) ([], []) = q
  obtain ⟨acc, one⟩ := q
  have e : splS c (acc, one) c = (acc ++ [one], []) := if_pos rfl
  rw [e, splF_clean c B _ [] h]
  simp
theorem splL_pos (c : Int) (L : List Int) : 0 < (splL c L).length := by simp [splL]
theorem splF_cnt (c : Int) : ∀ (L : List Int) (s : List (List Int) × List Int), c ∈ L → s.1.length < (L.foldl (splS c) s).1.length
  | [], s, h => by cases h
  | x :: L, s, h => by
    rw [List.foldl_cons]
    have hmono : ∀ (L : List Int) (s : List (List Int) × List Int), s.1.length ≤ (L.foldl (splS c) s).1.length := by
      intro L
      induction L with
      | nil => intro s; exact Nat.le_refl _
      | cons y L ih =>
        intro s
        rw [List.foldl_cons]
        refine Nat.le_trans ?_ (ih _)
        unfold splS; split <;> simp
    by_cases hx : x = c
    · have e : splS c s x = (s.1 ++ [s.2], []) := if_pos hx
      rw [e]
      have := hmono L (s.1 ++ [s.2], [])
      simp at this; omega
    · have e : splS c s x = (s.1, s.2 ++ [x]) := if_neg hx
      rw [e]
      have hL : c ∈ L := by
        rcases List.mem_cons.1 h with h | h
        · exact absurd h.symm hx
        · exact h
      exact splF_cnt c L (s.1, s.2 ++ [x]) hL
theorem splL_many {c : Int} {L : List Int} (h : c ∈ L) : 2 ≤ (splL c L).length := by
  have := splF_cnt c L ([], []) h
  unfold splL splF
  simp at this ⊢
  omega
/-- Each byte that is none between stands in a part. -/
theorem splF_mem (c : Int) : ∀ (L : List Int) (s : List (List Int) × List Int) (x : Int), ((∃ M ∈ s.1, x ∈ M) ∨ x ∈ s.2 ∨ x ∈ L) → x ≠ c → (∃ M ∈ (L.foldl (splS c) s).1, x ∈ M) ∨ x ∈ (L.foldl (splS c) s).2
  | [], s, x, h, _ => by
    rcases h with h | h | h
    · exact .inl h
    · exact .inr h
    · cases h
  | y :: L, s, x, h, hx => by
    rw [List.foldl_cons]
    refine splF_mem c L _ x ?_ hx
    unfold splS
    split
    · rename_i hy
      rcases h with ⟨M, h1, h2⟩ | h | h
      · exact .inl ⟨M, by simp [h1], h2⟩
      · exact .inl ⟨s.2, by simp, h⟩
      · rcases List.mem_cons.1 h with h | h
        · exact absurd (h.trans hy) hx
        · exact .inr (.inr h)
    · rcases h with ⟨M, h1, h2⟩ | h | h
      · exact .inl ⟨M, h1, h2⟩
      · exact .inr (.inl (by simp [h]))
      · rcases List.mem_cons.1 h with h | h
        · exact .inr (.inl (by simp [h]))
        · exact .inr (.inr h)
theorem splL_mem {c x : Int} {L : List Int} (h : x ∈ L) (hx : x ≠ c) : ∃ M ∈ splL c L, x ∈ M := by
  have := splF_mem c L ([], []) x (.inr (.inr h)) hx
  unfold splL splF
  rcases this with ⟨M, h1, h2⟩ | h2
  · exact ⟨M, by simp [h1], h2⟩
  · exact ⟨_, by simp, h2⟩
theorem addrR_bad {L : List Int} (h : 47 ∈ L) : addrR L = (0, false) := by
  unfold addrR
  rw [if_neg]
  rintro ⟨_, hall⟩
  obtain ⟨M, h1, h2⟩ := splL_mem (c := 46) h (by omega)
  have := List.all_eq_true.1 hall M h1
  unfold chunkOk rdH at this
  rw [Bool.and_eq_true] at this
  split at this
  · rename_i hh
    have := List.all_eq_true.1 hh.2.2.1 47 h2
    simp [digOk] at this
  · simp at this
/-! ### Prefixes -/
structure PF where
  a : Int
  b : Int
/-- The prefix of a text's two parts. -/
def pfOf (A B : List Int) : PF × Bool := if (addrR A).2 = true ∧ (rdH B).2 = true ∧ rightB (addrR A).1 (rdH B).1 = true then (⟨(addrR A).1, (rdH B).1⟩, true) else (⟨0, 0⟩, false)
/-- As the document has it. -/
def pfR (L : List Int) : PF × Bool := match splL 47 L with
  | [A, B] => pfOf A B
  | _ => (⟨0, 0⟩, false)
/-- What stands ahead of the last stroke, and behind it. -/
def lastAt (L : List Int) : Nat → Option Nat
  | 0 => none
  | n + 1 => if L[n]? = some 47 then some n else lastAt L n
theorem lastAt_lt (L : List Int) : ∀ n k, lastAt L n = some k → k < n ∧ L[k]? = some 47
  | 0, k, h => by cases h
  | n + 1, k, h => by
    unfold lastAt at h
    split at h
    · rename_i h1
      cases h
      exact ⟨by omega, h1⟩
    · have := lastAt_lt L n k h
      exact ⟨by omega, this.2⟩
theorem lastAt_no (L : List Int) : ∀ n j, (∀ k, lastAt L n = some k → k < j) → j < n → L[j]? ≠ some 47
  | 0, j, _, h => by omega
  | n + 1, j, h, hj => by
    by_cases h1 : L[n]? = some 47
    · have := h n (if_pos h1)
      omega
    · by_cases e : j = n
      · subst e; exact h1
      · exact lastAt_no L n j (fun k hk => h k ((if_neg h1).trans hk)) (by omega)
theorem pfR_none {L : List Int} (h : lastAt L L.length = none) : pfR L = (⟨0, 0⟩, false) := by
  have hno : 47 ∉ L := fun hm => by
    obtain ⟨i, hi, he⟩ := List.mem_iff_getElem.1 hm
    have := lastAt_no L L.length i (fun k hk => by rw [h] at hk; cases hk) hi
    rw [List.getElem?_eq_getElem hi, he] at this
    exact this rfl
  unfold pfR
  rw [splL_clean hno]
theorem pfR_some {L : List Int} {k : Nat} (h : lastAt L L.length = some k) : pfR L = pfOf (L.take k) (L.drop (k + 1)) := by
  obtain ⟨hk, h47⟩ := lastAt_lt L L.length k h
  have hB : 47 ∉ L.drop (k + 1) := fun hm => by
    obtain ⟨i, hi, he⟩ := List.mem_iff_getElem.1 hm
    rw [List.length_drop] at hi
    have := lastAt_no L L.length (k + 1 + i) (fun k' hk' => by rw [h] at hk'; cases hk'; omega) (by omega)
    rw [List.getElem_drop] at he
    rw [List.getElem?_eq_getElem (by omega), he] at this
    exact this rfl
  have hL : L = L.take k ++ 47 :: L.drop (k + 1) := by
    obtain ⟨h1, h2⟩ := List.getElem?_eq_some_iff.1 h47
    conv => lhs; rw [← List.take_append_drop k L, List.drop_eq_getElem_cons h1, h2]
  have hs : splL 47 L = splL 47 (L.take k) ++ [L.drop (k + 1)] := by
    conv => lhs; rw [hL]
    exact splL_last hB
  unfold pfR
  rw [hs]
  by_cases hA : 47 ∈ L.take k
  · have h2 := splL_many hA
    have hbad : pfOf (L.take k) (L.drop (k + 1)) = (⟨0, 0⟩, false) := by
      unfold pfOf
      rw [addrR_bad hA, if_neg]
      simp
    rw [hbad]
    generalize splL 47 (L.take k) = Q at h2
    match Q, h2 with
    | x :: y :: Q, _ => cases Q <;> rfl
  · rw [splL_clean hA]
    rfl
/-- A prefix as a text. -/
def pfT (p : PF) : List Int := addrT p.a ++ 47 :: digs 18 p.b.toNat
theorem pfT_back {p : PF} (h0 : 0 ≤ p.a) (h1 : p.a < 4294967296) (hr : rightB p.a p.b = true) : pfR (pfT p) = (p, true) := by
  have hb : 0 ≤ p.b ∧ p.b ≤ 32 := by
    unfold rightB at hr
    rw [decide_eq_true_eq] at hr
    exact ⟨hr.1, hr.2.1⟩
  have hA : 47 ∉ addrT p.a := addrT_no (by omega) (by omega)
  have hB : 47 ∉ digs 18 p.b.toNat := digs_no (by omega) (by omega)
  unfold pfR pfT
  rw [splL_cons hA, splL_clean hB]
  simp only
  unfold pfOf
  have e : rdH (digs 18 p.b.toNat) = (p.b, true) := by
    rw [← rdN_eq, rdN_digs (by omega) (by omega), show ((p.b.toNat : Nat) : Int) = p.b by omega]
  rw [addrR_T h0 h1, e, if_pos ⟨rfl, rfl, hr⟩]
end Go.Proofs.Ytmomebkfaibmgaa
