/- Plain facts: numbers put one behind the other are read as they were. No program in sight. -/
import Derived.Test.YtnbokpfkcfhgbaaBeLaw
namespace Go.Proofs.Ytnbokpfkcfhgbaa
open Go

def chunk (x s : Int) : List Int := if s < 1 ∨ 8 < s then [] else beL x s.toNat
def catL (l ss : List Int) : Nat → List Int
  | 0 => []
  | k + 1 => catL l ss k ++ chunk (l.getD k 0) (ss.getD k 0)
theorem chunk_len (x s : Int) : (chunk x s).length ≤ 8 := by
  unfold chunk
  split
  · simp
  · rw [beL_len]; omega
theorem chunk_isB (x s : Int) : IsB (chunk x s) := by
  unfold chunk
  split
  · intro x hx; simp at hx
  · exact beL_isB _ _
theorem catL_len (l ss : List Int) : ∀ k, (catL l ss k).length ≤ 8 * k
  | 0 => by simp [catL]
  | k + 1 => by
    have := catL_len l ss k
    have := chunk_len (l.getD k 0) (ss.getD k 0)
    simp only [catL, List.length_append]
    omega
theorem catL_isB (l ss : List Int) : ∀ k, IsB (catL l ss k)
  | 0 => fun x hx => by simp [catL] at hx
  | k + 1 => (catL_isB l ss k).append (chunk_isB _ _)
theorem catL_pre (l ss : List Int) (k : Nat) : ∀ m, k ≤ m → ∃ R, catL l ss m = catL l ss k ++ R
  | 0, h => ⟨[], by rw [show k = 0 from by omega]; simp⟩
  | m + 1, h => by
    by_cases e : k = m + 1
    · subst e; exact ⟨[], by simp⟩
    · obtain ⟨R, hR⟩ := catL_pre l ss k m (by omega)
      exact ⟨R ++ chunk (l.getD m 0) (ss.getD m 0), by simp [catL, hR]⟩
/-- What is read at place k. -/
theorem catL_read (l ss : List Int) {k m : Nat} (hkm : k < m) {x s : Int} (hx : l[k]? = some x) (hs : ss[k]? = some s) (h1 : 1 ≤ s) (h8 : s ≤ 8) (hx0 : 0 ≤ x) :
    numL (((catL l ss m).drop (catL l ss k).length).take s.toNat) = x % 256 ^ s.toNat ∧ (catL l ss (k + 1)).length = (catL l ss k).length + s.toNat ∧ s ≤ ((catL l ss m).length : Int) - (catL l ss k).length := by
  obtain ⟨R, hR⟩ := catL_pre l ss (k + 1) m hkm
  have ex : l.getD k 0 = x := by simp [List.getD, hx]
  have es : ss.getD k 0 = s := by simp [List.getD, hs]
  have ec : chunk x s = beL x s.toNat := if_neg (by omega)
  have e1 : catL l ss (k + 1) = catL l ss k ++ beL x s.toNat := by rw [catL, ex, es, ec]
  have e2 : (catL l ss m).drop (catL l ss k).length = beL x s.toNat ++ R := by
    rw [hR, e1, List.append_assoc, List.drop_left]
  refine ⟨?_, ?_, ?_⟩
  · rw [e2]
    have := List.take_left (l₁ := beL x s.toNat) (l₂ := R)
    rw [beL_len] at this
    rw [this, numL_beL x hx0]
  · rw [e1, List.length_append, beL_len]
  · rw [hR, e1, List.length_append, List.length_append, beL_len]
    omega
theorem catL_skip (l ss : List Int) {k : Nat} {s : Int} (hs : ss[k]? = some s) (h : s < 1 ∨ 8 < s) : catL l ss (k + 1) = catL l ss k := by
  have es : ss.getD k 0 = s := by simp [List.getD, hs]
  rw [catL, es, show chunk (l.getD k 0) s = [] from if_pos h, List.append_nil]
theorem catL_mono (l ss : List Int) {k m : Nat} (h : k ≤ m) : (catL l ss k).length ≤ (catL l ss m).length := by
  obtain ⟨R, hR⟩ := catL_pre l ss k m h
  rw [hR, List.length_append]
  omega
end Go.Proofs.Ytnbokpfkcfhgbaa
