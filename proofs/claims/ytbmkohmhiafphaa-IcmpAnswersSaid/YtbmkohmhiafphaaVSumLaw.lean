/- The checksum of the Internet, plainly. -/
import Derived.Test.YtbmkohmhiafphaaVRef1
namespace Go.Proofs.Ytbmkohmhiafphaa
open Go Go.RowKit

/-- What folding leaves of a sum of words. -/
def nrm (S : Int) : Int := if S = 0 then 0 else (S - 1) % 65535 + 1
theorem nrm_step {S x : Int} (h : 0 ≤ S) (h0 : 0 ≤ x) (h1 : x ≤ 65535) : (nrm S + x) / 65536 + (nrm S + x) % 65536 = nrm (S + x) := by
  unfold nrm
  split <;> split <;> omega
theorem nrm_fold {n : Int} (h : 0 ≤ n) : nrm (n / 65536 + n % 65536) = nrm n := by
  unfold nrm
  split <;> split <;> omega
theorem nrm_small {n : Int} (h : 0 ≤ n) (h1 : n ≤ 65535) : nrm n = n := by
  unfold nrm
  split <;> omega
theorem nrm_range {n : Int} (h : 0 ≤ n) : 0 ≤ nrm n ∧ nrm n ≤ 65535 := by
  unfold nrm
  split <;> omega
/-- The sum of the first i bytes as words. -/
def sumP (L : List Int) : Nat → Int
  | 0 => 0
  | i + 1 => sumP L i + (if i % 2 = 1 then L.getD i 0 else 256 * L.getD i 0)
def ckS (L : List Int) : Int := 65535 - nrm (sumP L L.length)
theorem isB_at {L : List Int} (h : IsB L) (i : Nat) : 0 ≤ L.getD i 0 ∧ L.getD i 0 < 256 := by
  rw [List.getD_eq_getElem?_getD]
  rcases hx : L[i]? with _ | x
  · exact ⟨Int.le_refl _, by decide⟩
  · have := h x (List.mem_of_getElem? hx)
    simp only [Option.getD_some]
    omega
theorem sumP_range {L : List Int} (h : IsB L) : ∀ i, 0 ≤ sumP L i ∧ sumP L i ≤ 65280 * (i : Int)
  | 0 => by simp [sumP]
  | i + 1 => by
    have := sumP_range h i
    have := isB_at h i
    unfold sumP
    split <;> omega
theorem ckS_range {L : List Int} (h : IsB L) : 0 ≤ ckS L ∧ ckS L ≤ 65535 := by
  have := nrm_range (sumP_range h L.length).1
  unfold ckS
  omega
end Go.Proofs.Ytbmkohmhiafphaa
