/- The walk of the reference's Cover. -/
import Derived.Test.YtnbokpfkcfhgbaaCover2
namespace Go.Proofs.Ytnbokpfkcfhgbaa
open Go Go.RowKit
attribute [local go_sem ↓] Go.wp_at_zero Go.wp_at_succ
attribute [local go_sem] eqPfx guardPfx

set_option maxRecDepth 100000 in
set_option maxHeartbeats 4000000 in
theorem refCover_any (f0 t : Int) (w : World) (h0 : 0 ≤ f0) (h1 : f0 < 4294967296) (h2 : 0 ≤ t) (h3 : t < 4294967296) :
    Calls Try.prog 23 #[.int .i64 f0, .int .i64 t] w (NewPfx w (coverL f0 t)) := by
  go_enter Try.func23, Try.ntmps23
  go_wp2
  go_loopw [0, 5] (fun fv v wr => ∃ (f : Int) (acc : List (Int × Int)), fv = .int .i64 f ∧ f0 ≤ f ∧ f ≤ 4294967296 ∧ wr.ownsRow w.heap.size 32 2 v acc.length (acc.map pfx).flatten ∧ Below w.heap.size w wr
    ∧ (acc.length : Int) ≤ f - f0 ∧ Hid (acc ++ coverL f t = coverL f0 t)) (fun fv _ _ => (t + 1 - intOf fv).toNat)
  case atStart => exact ⟨f0, [], rfl, by omega, by omega, World.ownsRow_nil _ _ _ _, Below.refl _ _, by simp, by simp [Hid]⟩
  case round =>
    obtain ⟨f, acc, rfl, hf0, hf1, hown, hb, hlen, HC⟩ := hrel
    by_cases hft : f ≤ t
    · obtain ⟨b0, b32⟩ := bits_range hft
      obtain ⟨wo, rfl⟩ : ∃ wo : World, wo = wr := ⟨_, rfl⟩
      go_wp2
      go_loopw [6] (fun bv wi => ∃ b : Int, bv = .int .i64 b ∧ b ≤ bitsOf f t ∧ 0 ≤ b ∧ wo = wi) (fun bv _ => (bitsOf f t - intOf bv).toNat)
      case atStart => exact ⟨0, rfl, by omega, by omega, rfl⟩
      case round =>
        obtain ⟨b, rfl, hbb, hb0, rfl⟩ := hrel
        have hsp := sizeN_pos b
        have hsl := sizeN_le b (by omega)
        by_cases hgt : b < bitsOf f t
        · have hno := bits_min hb0 hgt
          by_cases hm : f % sizeN b = 0
          · have hd : decide (t < f + sizeN b - 1) = true := by
              simp only [okB, hm, true_and, decide_eq_false_iff_not] at hno
              simp
              omega
            have g0 : (f % sizeN b == 0) = true := by simp [hm]
            have g1 : (f % sizeN b != 0) = false := by simp [hm]
            clear hm hno
            go_wp2_with fail
            refine (refSize_any _ _ (by omega) (by omega)).mono ?_
            rintro e w1 ⟨rfl, rfl⟩
            go_wp2_with fail
            refine (refSize_any _ _ (by omega) (by omega)).mono ?_
            rintro e w2 ⟨rfl, rfl⟩
            go_wp2_with fail
            go_roundw
            case rel => exact ⟨b + 1, by go_num, by omega, by omega, trivial⟩
            case measure => simp [intOf]; omega
          · have g0 : (f % sizeN b == 0) = false := by simp [hm]
            have g1 : (f % sizeN b != 0) = true := by simp [hm]
            clear hm hno
            go_wp2_with fail
            refine (refSize_any _ _ (by omega) (by omega)).mono ?_
            rintro e w1 ⟨rfl, rfl⟩
            go_wp2_with fail
            go_roundw
            case rel => exact ⟨b + 1, by go_num, by omega, by omega, trivial⟩
            case measure => simp [intOf]; omega
        · obtain rfl : b = bitsOf f t := by omega
          have hok := bits_ok hft
          simp only [okB, decide_eq_true_eq] at hok
          obtain ⟨hm, hle⟩ := hok
          have g0 : (f % sizeN (bitsOf f t) == 0) = true := by simp [hm]
          have g1 : (f % sizeN (bitsOf f t) != 0) = false := by simp [hm]
          have hd : decide (t < f + sizeN (bitsOf f t) - 1) = false := by simp; omega
          have hx1 : acc.length + 1 ≤ maxLen := by unfold maxLen; omega
          have hx2 : (acc.length + 1) * 16 ≤ 140737488355328 := by omega
          have HC' : Hid ((acc ++ [(f, bitsOf f t)]) ++ coverL (f + sizeN (bitsOf f t)) t = coverL f0 t) := by
            rw [← HC.out, coverL_step hft]
            simp [Hid]
          have hsnoc : Hid ((acc.map pfx).flatten ++ [Value.int .u32 f, Value.int .i64 (bitsOf f t)] = ((acc ++ [(f, bitsOf f t)]).map pfx).flatten) := by
            simp [Hid, pfx]
          have hlen' : (acc ++ [(f, bitsOf f t)]).length = acc.length + 1 := by simp
          have HL := Lib.hid hlen'
          clear hlen' hm
          go_wp2_with fail
          refine (refSize_any _ _ (by omega) (by omega)).mono ?_
          rintro e w1 ⟨rfl, rfl⟩
          go_wp2_with fail
          refine (refSize_any _ _ (by omega) (by omega)).mono ?_
          rintro e w2 ⟨rfl, rfl⟩
          go_wp2_with (at_builtin; refine wpList_app rfl _ _ _ rfl w.heap.size 32 _ 2 16 ei_prefix _ acc.length _ (by rfl) hown 1 #[.int .u32 f, .int .i64 (bitsOf f t)] rfl (by simp) rfl (pfx_one _ _) hx1 hx2 hb.size ?_; intro v' wa hown' hga)
          refine (refSize_any _ _ (by omega) (by omega)).mono ?_
          rintro e w3 ⟨rfl, rfl⟩
          have hba := below_app hb hown hga hb.size
          rw [hsnoc.out] at hown'
          go_wp2_with fail
          go_roundw
          case rel => exact ⟨f + sizeN (bitsOf f t), acc ++ [(f, bitsOf f t)], by go_num, by omega, by have := bits_next hft; omega, by rw [HL.out]; exact hown', hba, by rw [HL.out]; omega, HC'⟩
          case measure => simp [intOf]; omega
    · go_wp2
      go_ret
      exact newPfx_mk hown rfl (by unfold maxLen; omega) hb (by rw [← HC.out, coverL_end (by omega)]; simp)
end Go.Proofs.Ytnbokpfkcfhgbaa
