/- Plain facts on prefixes: the mask, 'a &^ mask', 'a & mask', and which addresses a prefix has. No program in sight. -/
import Derived.Laws.BitsAllLaws
namespace Go.Proofs.Ytmomebkfaibmgaa
open Go

/-- The mask of so many bits, as the program reckons it. -/
def maskN (b : Int) : Int := if b < 0 then 0 else if 32 < b then 4294967295 else 4294967295 * 2 ^ (32 - b).toNat % 4294967296
/-- How many addresses a prefix of so many bits has. -/
def sizeN (b : Int) : Int := 2 ^ (32 - b).toNat
/-- May the prefix be? -/
def rightB (a b : Int) : Bool := decide (0 ≤ b ∧ b ≤ 32 ∧ a % sizeN b = 0)
/-- Has it the address? -/
def hasB (a b x : Int) : Bool := rightB a b && decide (a ≤ x ∧ x ≤ a + sizeN b - 1)
/-- Has 'a/b' all of 'c/d'? -/
def withinB (a b c d : Int) : Bool := rightB a b && rightB c d && decide (c ≤ a ∧ a + sizeN b - 1 ≤ c + sizeN d - 1)

theorem sizeN_pos (b : Int) : 0 < sizeN b := by
  unfold sizeN; exact Int.pow_pos (by omega)
theorem sizeN_le (b : Int) (h : 0 ≤ b) : sizeN b ≤ 4294967296 := by
  unfold sizeN
  have : (2 : Int) ^ (32 - b).toNat ≤ 2 ^ 32 := by
    have h1 : (2 : Nat) ^ (32 - b).toNat ≤ 2 ^ 32 := Nat.pow_le_pow_right (by omega) (by omega)
    exact_mod_cast h1
  simpa using this
theorem sizeN_nat (b : Int) : sizeN b = ((2 ^ (32 - b).toNat : Nat) : Int) := by
  unfold sizeN; rw [Int.natCast_pow]; rfl
theorem sizeN_dvd (b d : Int) (h : d ≤ b) : sizeN b ∣ sizeN d := by
  unfold sizeN
  exact ⟨2 ^ ((32 - d).toNat - (32 - b).toNat), by rw [← Int.pow_add]; congr 1; omega⟩
theorem sizeN_mono (b d : Int) (h : d ≤ b) : sizeN b ≤ sizeN d :=
  Int.le_of_dvd (sizeN_pos d) (sizeN_dvd b d h)
theorem maskN_in (b : Int) (h0 : 0 ≤ b) (h1 : b ≤ 32) : maskN b = 4294967296 - sizeN b := by
  have h := sizeN_pos b
  have h' := sizeN_le b h0
  unfold maskN
  rw [if_neg (by omega), if_neg (by omega)]
  unfold sizeN at *
  omega

theorem nat_and_high (x k : Nat) (hk : k ≤ 32) (hx : x < 4294967296) : x &&& (4294967296 - 2 ^ k) = x - x % 2 ^ k := by
  have e1 : 4294967296 - 2 ^ k = (2 ^ (32 - k) - 1) <<< k := by
    have : (2 : Nat) ^ (32 - k) * 2 ^ k = 4294967296 := by rw [← Nat.pow_add, show 32 - k + k = 32 from by omega]
    rw [Nat.shiftLeft_eq, Nat.sub_mul, this, Nat.one_mul]
  have e2 : x - x % 2 ^ k = (x >>> k) <<< k := by
    rw [Nat.shiftLeft_eq, Nat.shiftRight_eq_div_pow]
    have := Nat.div_add_mod x (2 ^ k)
    rw [Nat.mul_comm] at this
    omega
  rw [e1, e2]
  apply Nat.eq_of_testBit_eq
  intro i
  rw [Nat.testBit_and, Nat.testBit_shiftLeft, Nat.testBit_shiftLeft, Nat.testBit_two_pow_sub_one, Nat.testBit_shiftRight]
  by_cases hi : k ≤ i
  · rw [show k + (i - k) = i from by omega]
    by_cases h32 : i < 32
    · have : i - k < 32 - k := by omega
      simp [hi, this]
    · have hf : x.testBit i = false := Nat.testBit_lt_two_pow (Nat.lt_of_lt_of_le hx (by
        have : (2 : Nat) ^ 32 ≤ 2 ^ i := Nat.pow_le_pow_right (by omega) (by omega)
        simpa using this))
      simp [hf]
  · simp [hi]

theorem andNot_mask (a b : Int) (h0 : 0 ≤ a) (h1 : a < 4294967296) (hb0 : 0 ≤ b) (hb1 : b ≤ 32) : bits .andNot .u32 a (maskN b) = a % sizeN b := by
  have hp := sizeN_pos b
  have hl := sizeN_le b hb0
  have hm := maskN_in b hb0 hb1
  rw [u32_andNot a _ h0 h1 (by omega) (by omega), hm]
  have e : 4294967295 - (4294967296 - sizeN b).toNat = 2 ^ (32 - b).toNat - 1 := by
    have := sizeN_nat b
    omega
  rw [e, Nat.and_two_pow_sub_one_eq_mod, Int.natCast_emod, sizeN_nat]
  congr 1
  omega

theorem and_mask (x b : Int) (h0 : 0 ≤ x) (h1 : x < 4294967296) (hb0 : 0 ≤ b) (hb1 : b ≤ 32) : bits .and .u32 x (maskN b) = x - x % sizeN b := by
  have hp := sizeN_pos b
  have hl := sizeN_le b hb0
  have hm := maskN_in b hb0 hb1
  rw [u32_and x _ h0 h1 (by omega) (by omega), hm]
  have e : (4294967296 - sizeN b).toNat = 4294967296 - 2 ^ (32 - b).toNat := by
    have := sizeN_nat b
    omega
  rw [e, nat_and_high _ _ (by omega) (by omega)]
  have h2 : x.toNat % 2 ^ (32 - b).toNat ≤ x.toNat := Nat.mod_le _ _
  rw [Int.ofNat_sub h2, Int.natCast_emod, ← sizeN_nat]
  have : ((x.toNat : Nat) : Int) = x := by omega
  rw [this]

/-- The program's own test of an address. -/
theorem has_eq (a b x : Int) (h0 : 0 ≤ a) (x0 : 0 ≤ x) (hr : rightB a b = true) : (x - x % sizeN b == a) = decide (a ≤ x ∧ x ≤ a + sizeN b - 1) := by
  simp only [rightB, decide_eq_true_eq] at hr
  obtain ⟨hb0, hb1, hm⟩ := hr
  have hp := sizeN_pos b
  have e1 : a = sizeN b * (a / sizeN b) := by have := Int.mul_ediv_add_emod a (sizeN b); omega
  have e2 := Int.mul_ediv_add_emod x (sizeN b)
  have e3 := Int.emod_nonneg x (show sizeN b ≠ 0 by omega)
  have e4 := Int.emod_lt_of_pos x hp
  rw [Bool.eq_iff_iff]
  simp only [beq_iff_eq, decide_eq_true_eq]
  constructor
  · intro h; omega
  · rintro ⟨h, h'⟩
    have : x / sizeN b = a / sizeN b := by
      apply Int.le_antisymm
      · have : x / sizeN b < a / sizeN b + 1 := by
          apply Int.ediv_lt_of_lt_mul hp
          rw [Int.add_mul, Int.mul_comm]
          omega
        omega
      · exact Int.ediv_le_ediv hp h
    rw [this] at e2
    omega
theorem sizeN_lt (b d : Int) (hb : b < d) (hd : d ≤ 32) : sizeN d < sizeN b := by
  have h1 := sizeN_mono (b + 1) d |> fun _ => sizeN_mono d (b + 1) (by omega)
  have h2 : sizeN b = 2 * sizeN (b + 1) := by
    unfold sizeN
    rw [show (32 - b).toNat = (32 - (b + 1)).toNat + 1 from by omega, Int.pow_succ]
    omega
  have := sizeN_pos (b + 1)
  omega
theorem within_eq (a b c d : Int) (hr : rightB a b = true) : withinB a b c d = (decide (d ≤ b) && hasB c d a) := by
  have hr' := hr
  simp only [rightB, decide_eq_true_eq] at hr'
  obtain ⟨hb0, hb1, hm⟩ := hr'
  unfold withinB hasB
  rw [hr, Bool.true_and]
  cases hc : rightB c d
  · simp
  · simp only [rightB, decide_eq_true_eq] at hc
    obtain ⟨hd0, hd1, hm2⟩ := hc
    rw [Bool.true_and, Bool.true_and, Bool.eq_iff_iff]
    simp only [Bool.and_eq_true, decide_eq_true_eq]
    have p1 := sizeN_pos b
    have p2 := sizeN_pos d
    constructor
    · rintro ⟨h1, h2⟩
      have hdb : d ≤ b := by
        rcases Int.lt_or_le b d with h | h
        · have := sizeN_lt b d h hd1; omega
        · exact h
      exact ⟨hdb, h1, by omega⟩
    · rintro ⟨h1, h2, h3⟩
      refine ⟨h2, ?_⟩
      obtain ⟨q, hq⟩ := sizeN_dvd b d h1
      have ea := Int.mul_ediv_add_emod a (sizeN b)
      have ec := Int.mul_ediv_add_emod c (sizeN d)
      rw [hm] at ea
      rw [hm2] at ec
      have e3 : c + sizeN d = sizeN b * (q * (c / sizeN d) + q) := by
        rw [Int.mul_add, ← Int.mul_assoc, ← hq]
        omega
      generalize q * (c / sizeN d) + q = m at e3
      have h4 : a / sizeN b < m := by
        apply Int.lt_of_mul_lt_mul_left (a := sizeN b) _ (by omega)
        omega
      have h5 : sizeN b * (a / sizeN b + 1) ≤ sizeN b * m := Int.mul_le_mul_of_nonneg_left (by omega) (by omega)
      rw [Int.mul_add] at h5
      omega

def clampN (b : Int) : Int := if b < 0 then 0 else if 32 < b then 32 else b
theorem clampN_in (b : Int) : 0 ≤ clampN b ∧ clampN b ≤ 32 := by
  unfold clampN
  split
  · omega
  · split <;> omega
theorem maskN_clamp (b : Int) : maskN b = maskN (clampN b) := by
  unfold clampN
  split
  · rename_i h; simp [maskN, h]
  · split
    · rename_i h h'; simp [maskN, h, h']
    · rfl
def cmpI (a b : Int) : Int := if a < b then -1 else if b < a then 1 else 0
def cmpP (a b c d : Int) : Int := if cmpI a c = 0 then cmpI b d else cmpI a c
end Go.Proofs.Ytmomebkfaibmgaa
