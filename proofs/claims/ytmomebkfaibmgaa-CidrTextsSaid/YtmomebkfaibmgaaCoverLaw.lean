/- Plain facts: the fewest prefixes from one address up to another one. -/
import Derived.Test.YtmomebkfaibmgaaCidrLaw
namespace Go.Proofs.Ytmomebkfaibmgaa
open Go

/-- May a prefix of b bits begin at f, without going beyond t? -/
def okB (f t b : Int) : Bool := decide (f % sizeN b = 0 ∧ f + sizeN b - 1 ≤ t)
/-- The least bits that may. -/
def bitsOf (f t : Int) : Int := (((List.range 33).findIdx fun b => okB f t (b : Nat)) : Nat)

theorem sizeN_32 : sizeN 32 = 1 := rfl
theorem okB_32 {f t : Int} (h : f ≤ t) : okB f t 32 = true := by
  unfold okB
  rw [decide_eq_true_eq, sizeN_32]
  exact ⟨Int.emod_one f, by omega⟩
theorem bits_lt {f t : Int} (h : f ≤ t) : ((List.range 33).findIdx fun b => okB f t (b : Nat)) < 33 := by
  have := List.findIdx_lt_length_of_exists (p := fun b : Nat => okB f t (b : Nat)) (xs := List.range 33) ⟨32, by simp, okB_32 h⟩
  simpa using this
theorem bits_range {f t : Int} (h : f ≤ t) : 0 ≤ bitsOf f t ∧ bitsOf f t ≤ 32 := by
  have := bits_lt h
  unfold bitsOf
  omega
theorem bitsOf_ok {f t : Int} (h : f ≤ t) : okB f t (bitsOf f t) = true := by
  have h1 := bits_lt h
  have := List.findIdx_getElem (p := fun b : Nat => okB f t (b : Nat)) (xs := List.range 33) (w := by simpa using h1)
  simpa [bitsOf] using this
theorem bits_min {f t b : Int} (hb : 0 ≤ b) (h : b < bitsOf f t) : okB f t b = false := by
  obtain ⟨n, rfl⟩ := Int.eq_ofNat_of_zero_le hb
  unfold bitsOf at h
  have h1 := List.not_of_lt_findIdx (p := fun b : Nat => okB f t (b : Nat)) (xs := List.range 33) (i := n) (by omega)
  simpa using h1
theorem okB_mono {f t b c : Int} (h : okB f t b = true) (hbc : b ≤ c) : okB f t c = true := by
  simp only [okB, decide_eq_true_eq] at *
  obtain ⟨h1, h2⟩ := h
  have hd := sizeN_dvd c b hbc
  have hm := sizeN_mono c b hbc
  refine ⟨?_, by omega⟩
  have : sizeN b ∣ f := Int.dvd_of_emod_eq_zero h1
  exact Int.emod_eq_zero_of_dvd (Int.dvd_trans hd this)
theorem bits_go {f t b : Int} (h : bitsOf f t < b) (hb : b ≤ 32) (hft : f ≤ t) : okB f t (b - 1) = true := okB_mono (bitsOf_ok hft) (by omega)
theorem bits_at {f t b : Int} (hb : 0 ≤ b) (h : b = bitsOf f t) (hft : f ≤ t) : okB f t b = true ∧ (0 < b → okB f t (b - 1) = false) :=
  ⟨by rw [h]; exact bitsOf_ok hft, fun h0 => bits_min (by omega) (by omega)⟩

/-- The list, with fuel. -/
def coverF : Nat → Int → Int → List (Int × Int)
  | 0, _, _ => []
  | n + 1, f, t => if f ≤ t then (f, bitsOf f t) :: coverF n (f + sizeN (bitsOf f t)) t else []
def coverL (f t : Int) : List (Int × Int) := coverF (t + 1 - f).toNat f t
theorem coverF_fuel : ∀ (n m : Nat) (f t : Int), (t + 1 - f).toNat ≤ n → (t + 1 - f).toNat ≤ m → coverF n f t = coverF m f t
  | 0, 0, _, _, _, _ => rfl
  | 0, m + 1, f, t, h, _ => by simp only [coverF]; rw [if_neg (by omega)]
  | n + 1, 0, f, t, _, h => by simp only [coverF]; rw [if_neg (by omega)]
  | n + 1, m + 1, f, t, hn, hm => by
    simp only [coverF]
    split
    · have := sizeN_pos (bitsOf f t)
      rw [coverF_fuel n m _ t (by omega) (by omega)]
    · rfl
theorem coverL_step {f t : Int} (h : f ≤ t) : coverL f t = (f, bitsOf f t) :: coverL (f + sizeN (bitsOf f t)) t := by
  have hp := sizeN_pos (bitsOf f t)
  have e : (t + 1 - f).toNat = (t - f).toNat + 1 := by omega
  unfold coverL
  rw [e]
  simp only [coverF]
  rw [if_pos h, coverF_fuel _ _ _ t (by omega) (Nat.le_refl _)]
theorem coverL_end {f t : Int} (h : t < f) : coverL f t = [] := by
  unfold coverL
  rw [show (t + 1 - f).toNat = 0 from by omega]
  rfl
theorem bits_next {f t : Int} (h : f ≤ t) : f + sizeN (bitsOf f t) ≤ t + 1 := by
  have := bitsOf_ok h
  simp only [okB, decide_eq_true_eq] at this
  omega
theorem bits_mod {f t : Int} (h : f ≤ t) : f % sizeN (bitsOf f t) = 0 := by
  have := bitsOf_ok h
  simp only [okB, decide_eq_true_eq] at this
  exact this.1

/-- 'a | ^mask': the last address of the prefix that begins at a. -/
theorem or_low (a b : Int) (h0 : 0 ≤ a) (h1 : a < 4294967296) (hb0 : 0 ≤ b) (hb1 : b ≤ 32) (hm : a % sizeN b = 0) : bits .or .u32 a (sizeN b - 1) = a + (sizeN b - 1) := by
  have hp := sizeN_pos b
  have hl := sizeN_le b hb0
  rw [u32_or a _ h0 h1 (by omega) (by omega)]
  have e := sizeN_nat b
  have e2 : (sizeN b - 1).toNat < 2 ^ (32 - b).toNat := by omega
  rw [nat_join (32 - b).toNat _ _ ?_ e2]
  · omega
  · have : ((a.toNat % 2 ^ (32 - b).toNat : Nat) : Int) = 0 := by
      rw [Int.natCast_emod, ← e]
      have : ((a.toNat : Nat) : Int) = a := by omega
      rw [this, hm]
    omega
theorem xor_mask (b : Int) (hb0 : 0 ≤ b) (hb1 : b ≤ 32) : bits .xor .u32 IntKind.u32.max (maskN b) = sizeN b - 1 := by
  have hp := sizeN_pos b
  have hl := sizeN_le b hb0
  have hm := maskN_in b hb0 hb1
  have hk : IntKind.u32.max = 4294967295 := rfl
  rw [hk, u32_xor _ _ (by omega) (by omega) (by omega) (by omega)]
  have h : ∀ x : Nat, x < 4294967296 → 4294967295 ^^^ x = 4294967295 - x := by
    intro x hx
    have h1 : (BitVec.allOnes 32 ^^^ BitVec.ofNat 32 x) = ~~~ (BitVec.ofNat 32 x) := BitVec.allOnes_xor
    have h2 := congrArg BitVec.toNat h1
    rw [BitVec.toNat_xor, BitVec.toNat_not, BitVec.toNat_ofNat, BitVec.toNat_allOnes, Nat.mod_eq_of_lt (by omega)] at h2
    simpa using h2
  have e : (4294967295 : Int).toNat = 4294967295 := rfl
  rw [e, h _ (by omega)]
  omega
theorem last_at (f b : Int) (h0 : 0 ≤ f) (h1 : f < 4294967296) (hb0 : 0 ≤ b) (hb1 : b ≤ 32) (hm : f % sizeN b = 0) :
    bits .or .u32 f (bits .xor .u32 IntKind.u32.max (maskN b)) = f + (sizeN b - 1) := by
  rw [xor_mask b hb0 hb1, or_low f b h0 h1 hb0 hb1 hm]
end Go.Proofs.Ytmomebkfaibmgaa
