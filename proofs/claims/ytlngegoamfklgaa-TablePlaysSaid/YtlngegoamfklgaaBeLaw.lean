/- Plain facts: numbers as bytes, the highest first. No program in sight. -/
import Derived.Laws.BitsAllLaws
namespace Go.Proofs.Ytlngegoamfklgaa
open Go

/-- The low k bytes of a number, the highest first. -/
def beL (n : Int) : Nat → List Int
  | 0 => []
  | k + 1 => (n / 256 ^ k % 256) :: beL n k
def numL (L : List Int) : Int := L.foldl (fun n c => 256 * n + c) 0
/-- Each is a byte. -/
def IsB (L : List Int) : Prop := ∀ x ∈ L, 0 ≤ x ∧ x < 256

theorem beL_len (n : Int) : ∀ k, (beL n k).length = k
  | 0 => rfl
  | k + 1 => by simp [beL, beL_len n k]
theorem beL_isB (n : Int) : ∀ k, IsB (beL n k)
  | 0 => fun x hx => by simp [beL] at hx
  | k + 1 => fun x hx => by
    simp only [beL, List.mem_cons] at hx
    rcases hx with rfl | hx
    · omega
    · exact beL_isB n k x hx
theorem IsB.append {L M : List Int} (h : IsB L) (h' : IsB M) : IsB (L ++ M) := fun x hx => by
  rcases List.mem_append.1 hx with h1 | h1
  · exact h x h1
  · exact h' x h1
theorem IsB.take {L : List Int} (h : IsB L) (k : Nat) : IsB (L.take k) := fun x hx => h x (List.mem_of_mem_take hx)
theorem IsB.drop {L : List Int} (h : IsB L) (k : Nat) : IsB (L.drop k) := fun x hx => h x (List.mem_of_mem_drop hx)
theorem IsB.get {L : List Int} (h : IsB L) {i : Nat} {x : Int} (hx : L[i]? = some x) : 0 ≤ x ∧ x < 256 := h x (List.mem_of_getElem? hx)
theorem numL_nil : numL [] = 0 := rfl
theorem numL_snoc (L : List Int) (c : Int) : numL (L ++ [c]) = 256 * numL L + c := by simp [numL]
theorem pow256_pos (k : Nat) : (0 : Int) < 256 ^ k := Int.pow_pos (by omega)
theorem numL_range : ∀ (n : Nat) (L : List Int), L.length = n → IsB L → 0 ≤ numL L ∧ numL L < 256 ^ L.length
  | 0, L, hn, _ => by
    obtain rfl := List.eq_nil_of_length_eq_zero hn
    simp [numL]
  | n + 1, L, hn, h => by
    have hne : L ≠ [] := by rintro rfl; simp at hn
    obtain ⟨M, c, rfl⟩ : ∃ M c, L = M ++ [c] := ⟨L.dropLast, L.getLast hne, (List.dropLast_concat_getLast hne).symm⟩
    have hM : M.length = n := by simpa using hn
    obtain ⟨h1, h2⟩ := numL_range n M hM (fun x hx => h x (by simp [hx]))
    obtain ⟨h3, h4⟩ := h c (by simp)
    rw [numL_snoc, List.length_append, List.length_singleton, Int.pow_succ]
    omega
theorem numL_cons (c : Int) : ∀ (L : List Int), numL (c :: L) = c * 256 ^ L.length + numL L := by
  have h : ∀ (L : List Int) (a : Int), L.foldl (fun n c => 256 * n + c) a = a * 256 ^ L.length + L.foldl (fun n c => 256 * n + c) 0 := by
    intro L
    induction L with
    | nil => intro a; simp
    | cons x L ih =>
      intro a
      simp only [List.foldl_cons, List.length_cons]
      rw [ih (256 * a + x), ih (256 * 0 + x), Int.pow_succ]
      simp only [Int.add_mul, Int.mul_zero, Int.zero_add]
      rw [show 256 * a * 256 ^ L.length = a * (256 ^ L.length * 256) from by rw [Int.mul_comm 256 a, Int.mul_assoc, Int.mul_comm 256]]
      omega
  intro L
  unfold numL
  rw [List.foldl_cons, h L (256 * 0 + c)]
  simp
theorem emod_mul_256 (n m : Int) (hm : 0 < m) : n % (m * 256) = n % m + m * (n / m % 256) := by
  have e1 := Int.mul_ediv_add_emod n m
  have e2 := Int.mul_ediv_add_emod (n / m) 256
  have b1 := Int.emod_nonneg n (show m ≠ 0 by omega)
  have b2 := Int.emod_lt_of_pos n hm
  have b3 := Int.emod_nonneg (n / m) (show (256 : Int) ≠ 0 by omega)
  have b4 := Int.emod_lt_of_pos (n / m) (show (0 : Int) < 256 by omega)
  generalize n % m = r at *
  generalize n / m % 256 = s at *
  generalize n / m / 256 = q at *
  have e3 : m * (256 * q + s) = m * 256 * q + m * s := by rw [Int.mul_add, Int.mul_assoc]
  have h1 : 0 ≤ m * s := Int.mul_nonneg (by omega) b3
  have h2 : m * s ≤ m * 255 := Int.mul_le_mul_of_nonneg_left (by omega) (by omega)
  have e4 : n = r + m * s + m * 256 * q := by rw [← e1, ← e2, e3]; omega
  rw [e4, Int.add_mul_emod_self_left, Int.emod_eq_of_lt (by omega) (by omega)]
theorem numL_beL (n : Int) (hn : 0 ≤ n) : ∀ k, numL (beL n k) = n % 256 ^ k
  | 0 => by simp [beL, numL, Int.emod_one]
  | k + 1 => by
    rw [beL, numL_cons, beL_len, numL_beL n hn k, Int.pow_succ]
    have e := Int.emod_emod_of_dvd n (show (256 ^ k : Int) ∣ 256 ^ k * 256 from ⟨256, rfl⟩)
    have e1 : n % (256 ^ k * 256) = n % 256 ^ k + 256 ^ k * (n / 256 ^ k % 256) := by
      exact emod_mul_256 n _ (pow256_pos k)
    rw [e1, Int.mul_comm (256 ^ k)]
    omega
theorem numL_eq_beL : ∀ (n : Nat) (L : List Int), L.length = n → IsB L → beL (numL L) n = L
  | 0, L, hn, _ => by
    obtain rfl := List.eq_nil_of_length_eq_zero hn
    rfl
  | n + 1, c :: L, hn, h => by
    have hL : L.length = n := by simpa using hn
    have hB : IsB L := fun x hx => h x (by simp [hx])
    obtain ⟨h1, h2⟩ := numL_range n L hL hB
    obtain ⟨h3, h4⟩ := h c (by simp)
    have hp := pow256_pos n
    rw [hL] at h2
    have key : ∀ (k : Nat), k ≤ n → beL (c * 256 ^ n + numL L) k = beL (numL L) k := by
      intro k
      induction k with
      | zero => intro _; rfl
      | succ k ih =>
        intro hk
        simp only [beL]
        rw [ih (by omega)]
        congr 1
        have e : (256 : Int) ^ n = 256 ^ k * (256 * 256 ^ (n - k - 1)) := by
          rw [← Int.mul_assoc, ← Int.pow_succ, ← Int.pow_add]
          congr 1
          omega
        rw [e, show c * (256 ^ k * (256 * 256 ^ (n - k - 1))) + numL L = numL L + 256 ^ k * (c * 256 ^ (n - k - 1) * 256) from by
          rw [Int.add_comm]
          congr 1
          rw [← Int.mul_assoc, Int.mul_comm c, Int.mul_assoc, Int.mul_assoc c, Int.mul_comm (256 ^ (n - k - 1)) 256]]
        rw [Int.add_mul_ediv_left _ _ (by have := pow256_pos k; omega), Int.add_mul_emod_self_right]
    rw [numL_cons, hL, beL, key n (Nat.le_refl _), numL_eq_beL n L hL hB]
    congr 1
    rw [Int.add_comm, Int.add_mul_ediv_right _ _ (by omega), Int.ediv_eq_zero_of_lt h1 h2]
    omega
theorem beL_snoc (n : Int) (hn : 0 ≤ n) : ∀ k, beL n (k + 1) = beL (n / 256) k ++ [n % 256]
  | 0 => by simp [beL]
  | k + 1 => by
    rw [beL, beL_snoc n hn k, beL, List.cons_append]
    congr 2
    rw [Int.pow_succ, Int.mul_comm, Int.ediv_ediv_of_nonneg (by omega)]

/-- 'n<<8 | c'. -/
theorem u16_join (a b : Int) (ha : 0 ≤ a) (ha' : a < 256) (hb : 0 ≤ b) (hb' : b < 256) : bits .or .u16 (a * 256) b = 256 * a + b := by
  rw [u16_or _ _ (by omega) (by omega) (by omega) (by omega), nat_join 8 _ _ (by omega) (by omega)]
  omega
theorem u32_join (a b : Int) (ha : 0 ≤ a) (ha' : a < 65536) (hb : 0 ≤ b) (hb' : b < 65536) : bits .or .u32 (a * 65536) b = 65536 * a + b := by
  rw [u32_or _ _ (by omega) (by omega) (by omega) (by omega), nat_join 16 _ _ (by omega) (by omega)]
  omega
theorem u64_join (a b : Int) (ha : 0 ≤ a) (ha' : a < 72057594037927936) (hb : 0 ≤ b) (hb' : b < 256) : bits .or .u64 (a * 256) b = 256 * a + b := by
  rw [u64_or _ _ (by omega) (by omega) (by omega) (by omega), nat_join 8 _ _ (by omega) (by omega)]
  omega
end Go.Proofs.Ytlngegoamfklgaa
