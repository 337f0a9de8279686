/- The example of chapter 26's statements. -/
import Derived.Test.YtnbokpfkcfhgbaaCoverRef
namespace Go.Proofs.Ytnbokpfkcfhgbaa
open Go Go.RowKit

theorem cover_ex : coverL 167772161 167772164 = [(167772161, 32), (167772162, 31), (167772164, 32)] := by decide +kernel

set_option maxHeartbeats 1000000 in
theorem cidrAlive_walk (w : World) : Calls Try.prog 24 #[] w (Pure w (.bool true)) := by
  go_enter Try.func24, Try.ntmps24
  go_wp2_with fail
  refine (Cover_any 167772161 167772164 _ (by omega) (by omega) (by omega) (by omega)).mono ?_
  rintro e w1 ⟨A, c, rfl, hm, hE, hb1⟩
  rw [cover_ex] at hm hE ⊢
  go_wp2_with fail
  have hB := elems_new w1 (size := 2) (Ls := [(167772161, 32), (167772162, 31), (167772164, 32)].map pfx) (by simp [pfx]) #[.int .u32 167772161, .int .i64 32, .int .u32 167772162, .int .i64 31, .int .u32 167772164, .int .i64 32] 32 (by simp [pfx])
  refine (eqPrefix_any _ _ _ _ _ _ _ _ _ rfl rfl hm (hE.keep ((Below.refl _ _).alloc (Nat.le_refl _) _)) hB).mono ?_
  rintro e w2 ⟨rfl, hb2⟩
  go_wp2_with fail
  go_ret
  exact ⟨rfl, below_on hb1 (below_new hb2)⟩
end Go.Proofs.Ytnbokpfkcfhgbaa
