/- The walk of cidr.Cover. -/
import Derived.Test.YtnbokpfkcfhgbaaCover
namespace Go.Proofs.Ytnbokpfkcfhgbaa
open Go Go.RowKit
attribute [local go_sem ↓] Go.wp_at_zero Go.wp_at_succ
attribute [local go_sem] eqPfx guardPfx

theorem pfx_one (f b : Int) : ∀ u ∈ (#[Value.int .u32 f, Value.int .i64 b] : Array Value).toList, u.oneCell' = true := by simp [Value.oneCell']

/-- A new slice of just these prefixes. -/
def NewPfx (w : World) (L : List (Int × Int)) (e : Ending) (w' : World) : Prop :=
  ∃ A c, e = .returned (.slice A L.length c) ∧ L.length ≤ maxLen ∧ Elems w' A 2 (L.map pfx) ∧ Below w.heap.size w w'

theorem newPfx_mk {w wa : World} {v : Value} {n : Nat} {L L' : List (Int × Int)} (hown : wa.ownsRow w.heap.size 32 2 v n (L.map pfx).flatten) (hn : L.length = n) (hm : n ≤ maxLen) (hb : Below w.heap.size w wa) (he : L = L') :
    NewPfx w L' (.returned v) wa := by
  subst he
  obtain ⟨A, c, rfl, _, _, hE⟩ := own_elems hown (by intro l hl; obtain ⟨p, _, rfl⟩ := List.mem_map.1 hl; rfl) (by simpa using hn)
  subst hn
  exact ⟨A, c, rfl, hm, hE, hb⟩

set_option maxRecDepth 100000 in
set_option maxHeartbeats 4000000 in
theorem Cover_any (f0 t : Int) (w : World) (h0 : 0 ≤ f0) (h1 : f0 < 4294967296) (h2 : 0 ≤ t) (h3 : t < 4294967296) :
    Calls Try.prog 22 #[.int .u32 f0, .int .u32 t] w (NewPfx w (coverL f0 t)) := by
  go_enter Try.func22, Try.ntmps22
  go_wp2
  go_loopw [0, 5] (fun fv v wr => ∃ (f : Int) (acc : List (Int × Int)), fv = .int .u32 f ∧ f0 ≤ f ∧ f ≤ 4294967295 ∧ wr.ownsRow w.heap.size 32 2 v acc.length (acc.map pfx).flatten ∧ Below w.heap.size w wr
    ∧ (acc.length : Int) ≤ f - f0 ∧ Hid (acc ++ coverL f t = coverL f0 t)) (fun fv _ _ => (t + 1 - intOf fv).toNat)
  case atStart => exact ⟨f0, [], rfl, by omega, by omega, World.ownsRow_nil _ _ _ _, Below.refl _ _, by simp, by simp [Hid]⟩
  case round =>
    obtain ⟨f, acc, rfl, hf0, hf1, hown, hb, hlen, HC⟩ := hrel
    by_cases hft : f ≤ t
    · obtain ⟨b0, b32⟩ := bits_range hft
      obtain ⟨wo, rfl⟩ : ∃ wo : World, wo = wr := ⟨_, rfl⟩
      go_wp2
      go_loopw [6] (fun bv wi => ∃ b : Int, bv = .int .i64 b ∧ bitsOf f t ≤ b ∧ b ≤ 32 ∧ Below wo.heap.size wo wi) (fun bv _ => (intOf bv).toNat)
      case atStart => exact ⟨32, rfl, by omega, by omega, Below.refl _ _⟩
      case round =>
        obtain ⟨b, rfl, hbb, hb2, hbw⟩ := hrel
        by_cases hgt : bitsOf f t < b
        · have hok := bits_go hgt hb2 hft
          simp only [okB, decide_eq_true_eq] at hok
          obtain ⟨hm, hle⟩ := hok
          have hO := fun W => Of_any f (b - 1) W (by omega) (by omega) (by omega) (by omega)
          rw [hm, Int.sub_zero] at hO
          have HO := Lib.hid hO
          clear hO
          have hor := last_at f (b - 1) (by omega) (by omega) (by omega) (by omega) hm
          have hor2 : bits .or .u32 f (bits .xor .u32 (if IntKind.u32.signed = true then -1 else IntKind.u32.max) (maskN (b - 1))) = f + (sizeN (b - 1) - 1) := hor
          have hsp := sizeN_pos (b - 1)
          have hsl := sizeN_le (b - 1) (by omega)
          clear hm
          have hd : decide (t < f + (sizeN (b - 1) - 1)) = false := by simp; omega
          go_wp2_with fail
          refine (HO.out _).mono ?_
          rintro e w1 ⟨rfl, hb1⟩
          go_wp2_with fail
          refine (mask_any _ _).mono ?_
          rintro e w2 ⟨rfl, rfl⟩
          go_wp2_with fail
          go_roundw
          case rel => exact ⟨b - 1, rfl, by omega, by omega, below_on (below_on hbw hb1) (below_new (Below.refl _ _))⟩
          case measure => simp [intOf]; omega
        · obtain rfl : b = bitsOf f t := by omega
          obtain ⟨hok, hno⟩ := bits_at (by omega) rfl hft
          simp only [okB, decide_eq_true_eq] at hok
          obtain ⟨hm, hle⟩ := hok
          have hor := last_at f (bitsOf f t) (by omega) (by omega) (by omega) (by omega) hm
          have hsp := sizeN_pos (bitsOf f t)
          have hsl := sizeN_le (bitsOf f t) (by omega)
          clear hm
          have hor2 : bits .or .u32 f (bits .xor .u32 (if IntKind.u32.signed = true then -1 else IntKind.u32.max) (maskN (bitsOf f t))) = f + (sizeN (bitsOf f t) - 1) := hor
          have hx1 : acc.length + 1 ≤ maxLen := by unfold maxLen; omega
          have hx2 : (acc.length + 1) * 16 ≤ 140737488355328 := by omega
          have HC' : Hid ((acc ++ [(f, bitsOf f t)]) ++ coverL (f + sizeN (bitsOf f t)) t = coverL f0 t) := by
            rw [← HC.out, coverL_step hft]
            simp [Hid]
          have hsnoc : Hid ((acc.map pfx).flatten ++ [Value.int .u32 f, Value.int .i64 (bitsOf f t)] = ((acc ++ [(f, bitsOf f t)]).map pfx).flatten) := by
            simp [Hid, pfx]
          have hlen' : (acc ++ [(f, bitsOf f t)]).length = acc.length + 1 := by simp
          have HL := Lib.hid hlen'
          clear hlen'
          by_cases hlast : f + (sizeN (bitsOf f t) - 1) = 4294967295
          · have HLast := Lib.hid hlast
            have hl2 : (f + (sizeN (bitsOf f t) - 1) == 4294967295) = true := by simp [hlast]
            clear hlast
            by_cases hz : bitsOf f t = 0
            ·
              have hz1 : decide (0 < bitsOf f t) = false := by simp; omega
              clear hz
              have hownW := own_below hown (hbw)
              have hbW := below_on hb (hbw)
              go_wp2_with (at_builtin; refine wpList_app rfl _ _ _ rfl w.heap.size 32 _ 2 16 ei_prefix _ acc.length _ (by rfl) hownW 1 #[.int .u32 f, .int .i64 (bitsOf f t)] rfl (by simp) rfl (pfx_one _ _) hx1 hx2 hbW.size ?_; intro v' wa hown' hga)
              refine (mask_any _ _).mono ?_
              rintro e w3 ⟨rfl, rfl⟩
              have hba := below_app hbW hownW hga hbW.size
              rw [hsnoc.out] at hown'
              go_wp2_with fail
              go_ret
              exact newPfx_mk hown' HL.out hx1 hba (by rw [← HC'.out, coverL_end (by have := HLast.out; omega)]; simp)
            ·
              have hz1 : decide (0 < bitsOf f t) = true := by simp; omega
              have hno2 := hno (by omega)
              have hz2 : 1 ≤ bitsOf f t := by omega
              have hsp1 := sizeN_pos (bitsOf f t - 1)
              have hsl1 := sizeN_le (bitsOf f t - 1) (by omega)
              clear hno hz
              have hO := fun W => Of_any f (bitsOf f t - 1) W (by omega) (by omega) (by omega) (by omega)
              by_cases hm1 : f % sizeN (bitsOf f t - 1) = 0
              ·
                rw [hm1, Int.sub_zero] at hO
                have HO := Lib.hid hO
                clear hO
                have hora := last_at f (bitsOf f t - 1) (by omega) (by omega) (by omega) (by omega) hm1
                have horb : bits .or .u32 f (bits .xor .u32 (if IntKind.u32.signed = true then -1 else IntKind.u32.max) (maskN (bitsOf f t - 1))) = f + (sizeN (bitsOf f t - 1) - 1) := hora
                have hd : decide (t < f + (sizeN (bitsOf f t - 1) - 1)) = true := by
                  simp only [okB, hm1, true_and, decide_eq_false_iff_not] at hno2
                  simp
                  omega
                clear hm1 hno2
                go_wp2_with fail
                refine (HO.out _).mono ?_
                rintro e w1 ⟨rfl, hb1⟩
                go_wp2_with fail
                refine (mask_any _ _).mono ?_
                rintro e w2 ⟨rfl, rfl⟩
                have hownW := own_below hown (below_on (below_on hbw hb1) (below_new (o := .cells #[.int .u32 f, .int .i64 (bitsOf f t - 1)] 32) (Below.refl _ _)))
                have hbW := below_on hb (below_on (below_on hbw hb1) (below_new (o := .cells #[.int .u32 f, .int .i64 (bitsOf f t - 1)] 32) (Below.refl _ _)))
                go_wp2_with (at_builtin; refine wpList_app rfl _ _ _ rfl w.heap.size 32 _ 2 16 ei_prefix _ acc.length _ (by rfl) hownW 1 #[.int .u32 f, .int .i64 (bitsOf f t)] rfl (by simp) rfl (pfx_one _ _) hx1 hx2 hbW.size ?_; intro v' wa hown' hga)
                refine (mask_any _ _).mono ?_
                rintro e w3 ⟨rfl, rfl⟩
                have hba := below_app hbW hownW hga hbW.size
                rw [hsnoc.out] at hown'
                go_wp2_with fail
                go_ret
                exact newPfx_mk hown' HL.out hx1 hba (by rw [← HC'.out, coverL_end (by have := HLast.out; omega)]; simp)
              ·
                have hg0 : (f - f % sizeN (bitsOf f t - 1) == f) = false := by simp; omega
                have hg1 : (f - f % sizeN (bitsOf f t - 1) != f) = true := by simp; omega
                generalize f - f % sizeN (bitsOf f t - 1) = g at *
                have HO := Lib.hid hO
                clear hO hm1 hno2
                go_wp2_with fail
                refine (HO.out _).mono ?_
                rintro e w1 ⟨rfl, hb1⟩
                have hownW := own_below hown (below_on (below_on hbw hb1) (below_new (o := .cells #[.int .u32 g, .int .i64 (bitsOf f t - 1)] 32) (Below.refl _ _)))
                have hbW := below_on hb (below_on (below_on hbw hb1) (below_new (o := .cells #[.int .u32 g, .int .i64 (bitsOf f t - 1)] 32) (Below.refl _ _)))
                go_wp2_with (at_builtin; refine wpList_app rfl _ _ _ rfl w.heap.size 32 _ 2 16 ei_prefix _ acc.length _ (by rfl) hownW 1 #[.int .u32 f, .int .i64 (bitsOf f t)] rfl (by simp) rfl (pfx_one _ _) hx1 hx2 hbW.size ?_; intro v' wa hown' hga)
                refine (mask_any _ _).mono ?_
                rintro e w3 ⟨rfl, rfl⟩
                have hba := below_app hbW hownW hga hbW.size
                rw [hsnoc.out] at hown'
                go_wp2_with fail
                go_ret
                exact newPfx_mk hown' HL.out hx1 hba (by rw [← HC'.out, coverL_end (by have := HLast.out; omega)]; simp)
          · have hl2 : (f + (sizeN (bitsOf f t) - 1) == 4294967295) = false := by simp; exact hlast
            by_cases hz : bitsOf f t = 0
            ·
              have hz1 : decide (0 < bitsOf f t) = false := by simp; omega
              clear hz
              have hownW := own_below hown (hbw)
              have hbW := below_on hb (hbw)
              go_wp2_with (at_builtin; refine wpList_app rfl _ _ _ rfl w.heap.size 32 _ 2 16 ei_prefix _ acc.length _ (by rfl) hownW 1 #[.int .u32 f, .int .i64 (bitsOf f t)] rfl (by simp) rfl (pfx_one _ _) hx1 hx2 hbW.size ?_; intro v' wa hown' hga)
              refine (mask_any _ _).mono ?_
              rintro e w3 ⟨rfl, rfl⟩
              have hba := below_app hbW hownW hga hbW.size
              rw [hsnoc.out] at hown'
              go_wp2_with fail
              go_roundw
              case rel => exact ⟨f + sizeN (bitsOf f t), acc ++ [(f, bitsOf f t)], by go_num, by omega, by have := bits_next hft; omega, by rw [HL.out]; exact hown', hba, by rw [HL.out]; omega, HC'⟩
              case measure => simp [intOf]; omega
            ·
              have hz1 : decide (0 < bitsOf f t) = true := by simp; omega
              have hno2 := hno (by omega)
              have hz2 : 1 ≤ bitsOf f t := by omega
              have hsp1 := sizeN_pos (bitsOf f t - 1)
              have hsl1 := sizeN_le (bitsOf f t - 1) (by omega)
              clear hno hz
              have hO := fun W => Of_any f (bitsOf f t - 1) W (by omega) (by omega) (by omega) (by omega)
              by_cases hm1 : f % sizeN (bitsOf f t - 1) = 0
              ·
                rw [hm1, Int.sub_zero] at hO
                have HO := Lib.hid hO
                clear hO
                have hora := last_at f (bitsOf f t - 1) (by omega) (by omega) (by omega) (by omega) hm1
                have horb : bits .or .u32 f (bits .xor .u32 (if IntKind.u32.signed = true then -1 else IntKind.u32.max) (maskN (bitsOf f t - 1))) = f + (sizeN (bitsOf f t - 1) - 1) := hora
                have hd : decide (t < f + (sizeN (bitsOf f t - 1) - 1)) = true := by
                  simp only [okB, hm1, true_and, decide_eq_false_iff_not] at hno2
                  simp
                  omega
                clear hm1 hno2
                go_wp2_with fail
                refine (HO.out _).mono ?_
                rintro e w1 ⟨rfl, hb1⟩
                go_wp2_with fail
                refine (mask_any _ _).mono ?_
                rintro e w2 ⟨rfl, rfl⟩
                have hownW := own_below hown (below_on (below_on hbw hb1) (below_new (o := .cells #[.int .u32 f, .int .i64 (bitsOf f t - 1)] 32) (Below.refl _ _)))
                have hbW := below_on hb (below_on (below_on hbw hb1) (below_new (o := .cells #[.int .u32 f, .int .i64 (bitsOf f t - 1)] 32) (Below.refl _ _)))
                go_wp2_with (at_builtin; refine wpList_app rfl _ _ _ rfl w.heap.size 32 _ 2 16 ei_prefix _ acc.length _ (by rfl) hownW 1 #[.int .u32 f, .int .i64 (bitsOf f t)] rfl (by simp) rfl (pfx_one _ _) hx1 hx2 hbW.size ?_; intro v' wa hown' hga)
                refine (mask_any _ _).mono ?_
                rintro e w3 ⟨rfl, rfl⟩
                have hba := below_app hbW hownW hga hbW.size
                rw [hsnoc.out] at hown'
                go_wp2_with fail
                go_roundw
                case rel => exact ⟨f + sizeN (bitsOf f t), acc ++ [(f, bitsOf f t)], by go_num, by omega, by have := bits_next hft; omega, by rw [HL.out]; exact hown', hba, by rw [HL.out]; omega, HC'⟩
                case measure => simp [intOf]; omega
              ·
                have hg0 : (f - f % sizeN (bitsOf f t - 1) == f) = false := by simp; omega
                have hg1 : (f - f % sizeN (bitsOf f t - 1) != f) = true := by simp; omega
                generalize f - f % sizeN (bitsOf f t - 1) = g at *
                have HO := Lib.hid hO
                clear hO hm1 hno2
                go_wp2_with fail
                refine (HO.out _).mono ?_
                rintro e w1 ⟨rfl, hb1⟩
                have hownW := own_below hown (below_on (below_on hbw hb1) (below_new (o := .cells #[.int .u32 g, .int .i64 (bitsOf f t - 1)] 32) (Below.refl _ _)))
                have hbW := below_on hb (below_on (below_on hbw hb1) (below_new (o := .cells #[.int .u32 g, .int .i64 (bitsOf f t - 1)] 32) (Below.refl _ _)))
                go_wp2_with (at_builtin; refine wpList_app rfl _ _ _ rfl w.heap.size 32 _ 2 16 ei_prefix _ acc.length _ (by rfl) hownW 1 #[.int .u32 f, .int .i64 (bitsOf f t)] rfl (by simp) rfl (pfx_one _ _) hx1 hx2 hbW.size ?_; intro v' wa hown' hga)
                refine (mask_any _ _).mono ?_
                rintro e w3 ⟨rfl, rfl⟩
                have hba := below_app hbW hownW hga hbW.size
                rw [hsnoc.out] at hown'
                go_wp2_with fail
                go_roundw
                case rel => exact ⟨f + sizeN (bitsOf f t), acc ++ [(f, bitsOf f t)], by go_num, by omega, by have := bits_next hft; omega, by rw [HL.out]; exact hown', hba, by rw [HL.out]; omega, HC'⟩
                case measure => simp [intOf]; omega
    · go_wp2
      go_ret
      exact newPfx_mk hown rfl (by unfold maxLen; omega) hb (by rw [← HC.out, coverL_end (by omega)]; simp)
end Go.Proofs.Ytnbokpfkcfhgbaa
