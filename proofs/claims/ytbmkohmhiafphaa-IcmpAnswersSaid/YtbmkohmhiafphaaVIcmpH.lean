/- Arguments: addresses and messages. -/
import Derived.Test.YtbmkohmhiafphaaVIcmp
import Derived.Test.YtbmkohmhiafphaaVSeat
namespace Go.Proofs.Ytbmkohmhiafphaa
open Go Go.RowKit

theorem has_u32 {ds : List V} (h : Sh.Has (.int .u32) ds) : ∃ n : Int, ds = [.sc (.int .u32 n)] ∧ 0 ≤ n ∧ n < 4294967296 := by
  cases h with
  | int _ n hw => have := bounds_u32 hw; exact ⟨n, rfl, by omega, by omega⟩
theorem has_ms {ds : List V} (h : Sh.Has (.st [.int .u8, .int .u8, .int .u32, .sl (.int .u8)]) ds) : ∃ t : MS, t.Ok ∧ V.agg ds = t.v .no := by
  cases h with
  | st _ _ h =>
  cases h with
  | cons _ _ _ _ h0 h =>
  cases h with
  | cons _ _ _ _ h1 h =>
  cases h with
  | cons _ _ _ _ h2 h =>
  cases h with
  | cons _ _ _ _ h3 h =>
  cases h with
  | nil =>
  obtain ⟨D, hD, rfl⟩ := has_bytes h3
  cases h0 with
  | int _ c0 k0 =>
  cases h1 with
  | int _ c1 k1 =>
  cases h2 with
  | int _ c2 k2 =>
  have := bounds_u8 k0
  have := bounds_u8 k1
  have := bounds_u32 k2
  exact ⟨⟨c0, c1, c2, D⟩, ⟨by simp only; omega, by simp only; omega, by simp only; omega, hD⟩, rfl⟩

end Go.Proofs.Ytbmkohmhiafphaa
