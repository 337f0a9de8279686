/- Strings as lists of bytes. No program here. -/
import Derived.Test.YtmomebkfaibmgaaVData
namespace Go.Proofs.Ytmomebkfaibmgaa
open Go

theorem ba_ext {a b : ByteArray} (h : a.data.toList = b.data.toList) : a = b := by
  cases a; cases b
  simp only [ByteArray.mk.injEq]
  exact Array.toList_inj.1 h
theorem foldl_push_list : ∀ (L : List Int) (r : ByteArray), (L.foldl (fun r n => r.push (UInt8.ofNat n.toNat)) r).data.toList = r.data.toList ++ L.map fun n => UInt8.ofNat n.toNat
  | [], r => by simp
  | x :: L, r => by rw [List.foldl_cons, foldl_push_list L, List.map_cons]; simp [ByteArray.push]
theorem strOf_list (L : List Int) : (strOf L).data.toList = L.map fun n => UInt8.ofNat n.toNat := by
  unfold strOf
  rw [foldl_push_list]
  rfl
theorem strOf_size (L : List Int) : (strOf L).size = L.length := by
  have := congrArg List.length (strOf_list L)
  simpa using this
theorem strOf_append (L M : List Int) : strOf L ++ strOf M = strOf (L ++ M) := ba_ext (by
  rw [ByteArray.data_append, Array.toList_append, strOf_list, strOf_list, strOf_list, List.map_append])
theorem bytesOf_isB (s : ByteArray) : IsB (bytesOf s) := by
  intro x hx
  obtain ⟨b, _, rfl⟩ := List.mem_map.1 hx
  have := b.toNat_lt
  omega
theorem bytesOf_len (s : ByteArray) : (bytesOf s).length = s.size := by
  rw [bytesOf, List.length_map, Array.length_toList]; rfl
theorem bytesOf_strOf {L : List Int} (h : IsB L) : bytesOf (strOf L) = L := by
  unfold bytesOf
  rw [strOf_list, List.map_map]
  refine (List.map_congr_left fun x hx => ?_).trans (List.map_id _)
  obtain ⟨h0, h1⟩ := h x hx
  simp only [Function.comp, id_eq]
  rw [UInt8.toNat_ofNat']
  omega
theorem strOf_bytesOf (s : ByteArray) : strOf (bytesOf s) = s := ba_ext (by
  rw [strOf_list, bytesOf, List.map_map]
  refine (List.map_congr_left fun x _ => ?_).trans (List.map_id _)
  simp [Function.comp])
theorem strOf_inj {L M : List Int} (h : IsB L) (k : IsB M) : strOf L = strOf M ↔ L = M :=
  ⟨fun e => by rw [← bytesOf_strOf h, ← bytesOf_strOf k, e], fun e => by rw [e]⟩
theorem strOf_eq_dec {L M : List Int} (h : IsB L) (k : IsB M) : decide (strOf L = strOf M) = decide (L = M) := decide_eq_decide.2 (strOf_inj h k)
theorem strOf_nil : (⟨#[]⟩ : ByteArray) = strOf [] := rfl
theorem strOf_ext (L : List Int) (a b : Nat) : (strOf L).extract a b = strOf ((L.take b).drop a) := ba_ext (by
  rw [ByteArray.data_extract, strOf_list]
  rw [Array.toList_extract, strOf_list]
  simp only [List.extract, List.map_drop, List.map_take]
  rw [List.drop_take])
theorem byL_strOf {L : List Int} (h : IsB L) : byL (strOf L) = bs L := by
  show bs (bytesOf (strOf L)) = bs L
  rw [bytesOf_strOf h]
theorem byL_bs (s : ByteArray) : byL s = bs (bytesOf s) := rfl
theorem isB_one {x : Int} (h0 : 0 ≤ x) (h1 : x < 256) : IsB [x] := by
  intro y hy
  simp at hy
  subst hy
  exact ⟨h0, h1⟩
theorem isB_nil : IsB [] := by intro x hx; cases hx

/-! ### Digits -/
def digs : Nat → Nat → List Int
  | 0, n => [48 + (n : Int)]
  | k + 1, n => if n < 10 then [48 + (n : Int)] else digs k (n / 10) ++ [48 + ((n % 10 : Nat) : Int)]
theorem digs_len : ∀ (k n : Nat), (digs k n).length ≤ k + 1
  | 0, n => by simp [digs]
  | k + 1, n => by
    unfold digs
    split
    · simp
    · have := digs_len k (n / 10)
      simp; omega
theorem digs_isB : ∀ (k n : Nat), n < 10 ^ (k + 1) → IsB (digs k n)
  | 0, n, h => by simp only [Nat.zero_add, Nat.pow_one] at h; exact isB_one (by omega) (by omega)
  | k + 1, n, h => by
    unfold digs
    split
    · exact isB_one (by omega) (by omega)
    · refine (digs_isB k (n / 10) ?_).append (isB_one (by omega) (by omega))
      rw [Nat.pow_succ] at h
      omega
def digOk (c : Int) : Bool := decide (48 ≤ c) && decide (c ≤ 57)
def valL (L : List Int) : Int := L.foldl (fun v c => 10 * v + c - 48) 0
theorem valL_snoc (L : List Int) (c : Int) : valL (L ++ [c]) = 10 * valL L + c - 48 := by simp [valL]
theorem valL_bound : ∀ (L : List Int) (v : Int) (m : Nat), L.all digOk = true → 0 ≤ v → v < (10 : Int) ^ m → 0 ≤ L.foldl (fun v c => 10 * v + c - 48) v ∧ L.foldl (fun v c => 10 * v + c - 48) v < (10 : Int) ^ (m + L.length)
  | [], v, m, _, h0, h1 => ⟨h0, h1⟩
  | c :: L, v, m, h, h0, h1 => by
    simp only [List.all_cons, Bool.and_eq_true, digOk, decide_eq_true_eq] at h
    rw [List.foldl_cons, List.length_cons, show m + (L.length + 1) = (m + 1) + L.length by omega]
    refine valL_bound L _ (m + 1) (by simpa [digOk] using h.2) (by omega) ?_
    rw [Int.pow_succ]; omega
theorem pow10_le {k : Nat} (h : k ≤ 13) : (10 : Int) ^ k ≤ 10000000000000 := by
  have h13 : ∀ k : Nat, k ≤ 13 → (10 : Int) ^ k ≤ 10000000000000 := by decide
  exact h13 _ h
theorem valL_le {L : List Int} (h : L.all digOk = true) (hl : L.length ≤ 13) : 0 ≤ valL L ∧ valL L < 10000000000000 := by
  have := valL_bound L 0 0 h (Int.le_refl _) (by decide)
  have h2 := pow10_le hl
  rw [Nat.zero_add] at this
  exact ⟨this.1, by have := this.2; unfold valL; omega⟩
/-- The number of digits, if there is one. -/
def rdN (L : List Int) : Int × Bool :=
  if 13 < L.length then (0, false) else if L.all digOk = true then (if digs 13 (valL L).toNat = L ∧ valL L ≤ 1099511627776 then (valL L, true) else (0, false)) else (0, false)

/-! ### Words -/
def ss (LL : List (List Int)) : List V := LL.map fun L => .sc (.string (strOf L))
theorem ss_len (LL : List (List Int)) : (ss LL).length = LL.length := by simp [ss]
theorem ss_get (LL : List (List Int)) (i : Nat) : (ss LL)[i]? = (LL[i]?).map fun L => .sc (.string (strOf L)) := by simp [ss]
theorem ss_append (A B : List (List Int)) : ss A ++ ss B = ss (A ++ B) := by simp [ss]
theorem allSz_ss (LL : List (List Int)) : allSz 1 (ss LL) := fun d hd => by
  obtain ⟨x, _, rfl⟩ := List.mem_map.1 hd; rfl
def splS (c : Int) (s : List (List Int) × List Int) (x : Int) : List (List Int) × List Int := if x = c then (s.1 ++ [s.2], []) else (s.1, s.2 ++ [x])
def splF (c : Int) (L : List Int) : List (List Int) × List Int := L.foldl (splS c) ([], [])
def splL (c : Int) (L : List Int) : List (List Int) := (splF c L).1 ++ [(splF c L).2]
theorem splF_snoc (c : Int) (L : List Int) (x : Int) : splF c (L ++ [x]) = splS c (splF c L) x := by simp [splF]
theorem splF_ok (c : Int) : ∀ (L : List Int) (s : List (List Int) × List Int), IsB L → (∀ M ∈ s.1, IsB M) → IsB s.2 → (∀ M ∈ (L.foldl (splS c) s).1, IsB M) ∧ IsB (L.foldl (splS c) s).2
  | [], s, _, h1, h2 => ⟨h1, h2⟩
  | x :: L, s, h, h1, h2 => by
    rw [List.foldl_cons]
    have hx := h x (by simp)
    refine splF_ok c L _ (fun y hy => h y (by simp [hy])) ?_ ?_
    · unfold splS
      split
      · intro M hM
        rcases List.mem_append.1 hM with hM | hM
        · exact h1 M hM
        · simp at hM; subst hM; exact h2
      · exact h1
    · unfold splS
      split
      · exact isB_nil
      · exact h2.append (isB_one hx.1 hx.2)
theorem splF_len (c : Int) : ∀ (L : List Int) (s : List (List Int) × List Int), (L.foldl (splS c) s).1.length ≤ s.1.length + L.length ∧ (L.foldl (splS c) s).2.length ≤ s.2.length + L.length
  | [], s => ⟨by simp, by simp⟩
  | x :: L, s => by
    rw [List.foldl_cons]
    obtain ⟨h1, h2⟩ := splF_len c L (splS c s x)
    have : (splS c s x).1.length ≤ s.1.length + 1 ∧ (splS c s x).2.length ≤ s.2.length + 1 := by
      unfold splS
      split
      · exact ⟨by simp, by simp⟩
      · exact ⟨by simp, by simp⟩
    simp only [List.length_cons]
    omega
theorem splL_isB {c : Int} {L : List Int} (h : IsB L) : ∀ M ∈ splL c L, IsB M := by
  obtain ⟨h1, h2⟩ := splF_ok c L ([], []) h (by intro M hM; cases hM) isB_nil
  intro M hM
  rcases List.mem_append.1 hM with hM | hM
  · exact h1 M hM
  · simp at hM; subst hM; exact h2
theorem splL_len (c : Int) (L : List Int) : (splL c L).length ≤ L.length + 1 := by
  have := (splF_len c L ([], [])).1
  unfold splL splF
  simp at this ⊢
  exact this
def wordsL (L : List Int) : List (List Int) := (splL 32 L).filter fun M => M ≠ []
theorem wordsL_isB {L : List Int} (h : IsB L) : ∀ M ∈ wordsL L, IsB M := fun M hM => splL_isB h M (List.mem_filter.1 hM).1
end Go.Proofs.Ytmomebkfaibmgaa
