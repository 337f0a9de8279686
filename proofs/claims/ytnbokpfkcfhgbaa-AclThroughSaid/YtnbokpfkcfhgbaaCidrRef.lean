/- Walks of the reference of cidr: Size, Span, Right, Has, Within, Of. -/
import Derived.Test.YtnbokpfkcfhgbaaBase
import Derived.Test.YtnbokpfkcfhgbaaCidrLaw
namespace Go.Proofs.Ytnbokpfkcfhgbaa
open Go Go.RowKit
attribute [local go_sem ↓] Go.wp_at_zero Go.wp_at_succ

set_option maxHeartbeats 400000 in
theorem refSize_any (b : Int) (w : World) (h0 : 0 ≤ b) (h1 : b ≤ 32) :
    Calls Try.prog 70 #[.int .i64 b] w fun e w' => e = .returned (.int .i64 (sizeN b)) ∧ w = w' := by
  go_enter Try.func70, Try.ntmps70
  go_wp2
  go_loop [3, 4] (fun n i => ∃ k : Int, b ≤ k ∧ k ≤ 32 ∧ i = .int .i64 k ∧ n = .int .i64 (2 ^ (k - b).toNat)) (fun _ i => (32 - intOf i).toNat)
  case atStart => exact ⟨b, by omega, by omega, rfl, by simp⟩
  case round =>
    obtain ⟨k, hk0, hk, rfl, rfl⟩ := hrel
    have hp : (0 : Int) < 2 ^ (k - b).toNat := Int.pow_pos (by omega)
    by_cases hlt : k < 32
    · have hq : (2 : Int) ^ (k - b).toNat ≤ 2147483648 := by
        have h1 : (2 : Nat) ^ (k - b).toNat ≤ 2 ^ 31 := Nat.pow_le_pow_right (by omega) (by omega)
        have h2 : ((2 ^ (k - b).toNat : Nat) : Int) ≤ ((2 ^ 31 : Nat) : Int) := by exact_mod_cast h1
        rw [Int.natCast_pow] at h2
        exact h2
      have hs : (2 : Int) * 2 ^ (k - b).toNat = 2 ^ (k + 1 - b).toNat := by
        rw [show (k + 1 - b).toNat = (k - b).toNat + 1 from by omega, Int.pow_succ]
        omega
      have HS := Lib.hid hs
      clear hs
      go_wp2
      go_round
      case rel => exact ⟨k + 1, by omega, by omega, rfl, by rw [← HS.out]⟩
      case measure => simp [intOf]; omega
    · obtain rfl : k = 32 := by omega
      go_wp2
      go_ret
      exact ⟨rfl, rfl⟩

set_option maxHeartbeats 400000 in
theorem refSpan_any (a b : Int) (w : World) (ha : 0 ≤ a) (ha' : a < 4294967296) (h0 : 0 ≤ b) (h1 : b ≤ 32) :
    Calls Try.prog 80 #[.agg #[.int .u32 a, .int .i64 b]] w (Pure w (.tuple #[.int .i64 a, .int .i64 (a + sizeN b - 1)])) := by
  have hp := sizeN_pos b
  have hl := sizeN_le b h0
  have e1 : IntKind.i64.wrap (a + sizeN b) = a + sizeN b := IntWalk.i64_in _ (by omega)
  have e2 : IntKind.i64.wrap (a + sizeN b - 1) = a + sizeN b - 1 := IntWalk.i64_in _ (by omega)
  go_enter Try.func80, Try.ntmps80
  go_wp2
  refine wp_region_calm [(⟨w.heap.size, 0, none⟩, .int .u32 a), (⟨w.heap.size, 1, none⟩, .int .i64 b)] (by simp [Holds.cons, Holds.nil, go_sem]) (by kernel_rfl) (by kernel_rfl) (fun hS => ?_)
  simp only [elemL, List.cons_append, List.nil_append, Holds.cons, Holds.nil, and_true, Nat.add_zero] at hS
  repeat (go_big_quiet_step ((first | (go_at_call 70; exact calm_same (refSize_any _ _ h0 h1)))))
  refine wpQuiet_nil ?_
  clear hS
  intro w1 hb1 hS1
  simp only [elemL, List.cons_append, List.nil_append, Holds.cons, Holds.nil, and_true, Nat.add_zero] at hS1
  go_wp2
  go_ret2
  exact ⟨rfl, below_new hb1⟩

set_option maxHeartbeats 400000 in
theorem refRight_any (a b : Int) (w : World) (ha : 0 ≤ a) (ha' : a < 4294967296) :
    Calls Try.prog 52 #[.agg #[.int .u32 a, .int .i64 b]] w (Pure w (.bool (rightB a b))) := by
  by_cases hb : 0 ≤ b
  · by_cases hb' : b ≤ 32
    · have e : rightB a b = (a % sizeN b == 0) := by
        unfold rightB
        rw [Bool.eq_iff_iff]; simp [hb, hb']
      have hp := sizeN_pos b
      rw [e]
      clear e
      go_enter Try.func52, Try.ntmps52
      go_wp2
      refine wp_region_calm [(⟨w.heap.size, 0, none⟩, .int .u32 a), (⟨w.heap.size, 1, none⟩, .int .i64 b)] (by simp [Holds.cons, Holds.nil, go_sem]) (by kernel_rfl) (by kernel_rfl) (fun hS => ?_)
      simp only [elemL, List.cons_append, List.nil_append, Holds.cons, Holds.nil, and_true, Nat.add_zero] at hS
      repeat (go_big_quiet_step ((first | (go_at_call 70; exact calm_same (refSize_any _ _ hb hb')))))
      refine wpQuiet_nil ?_
      clear hS
      intro w1 hb1 hS1
      simp only [elemL, List.cons_append, List.nil_append, Holds.cons, Holds.nil, and_true, Nat.add_zero] at hS1
      go_wp2
      go_ret
      exact ⟨rfl, below_new hb1⟩
    · have e : rightB a b = false := by simp [rightB, hb']
      have hd : decide (b ≤ 32) = false := by simpa using hb'
      rw [e]
      clear e
      go_enter Try.func52, Try.ntmps52
      go_wp2
      refine wp_region_calm [(⟨w.heap.size, 0, none⟩, .int .u32 a), (⟨w.heap.size, 1, none⟩, .int .i64 b)] (by simp [Holds.cons, Holds.nil, go_sem]) (by kernel_rfl) (by kernel_rfl) (fun hS => ?_)
      simp only [elemL, List.cons_append, List.nil_append, Holds.cons, Holds.nil, and_true, Nat.add_zero] at hS
      repeat (go_big_quiet_step ((fail)))
      refine wpQuiet_nil ?_
      clear hS
      intro w1 hb1 hS1
      simp only [elemL, List.cons_append, List.nil_append, Holds.cons, Holds.nil, and_true, Nat.add_zero] at hS1
      go_wp2
      go_ret
      exact ⟨rfl, below_new hb1⟩
  · have e : rightB a b = false := by simp [rightB, hb]
    have hd : decide (0 ≤ b) = false := by simpa using hb
    rw [e]
    clear e
    go_enter Try.func52, Try.ntmps52
    go_wp2
    refine wp_region_calm [(⟨w.heap.size, 0, none⟩, .int .u32 a), (⟨w.heap.size, 1, none⟩, .int .i64 b)] (by simp [Holds.cons, Holds.nil, go_sem]) (by kernel_rfl) (by kernel_rfl) (fun hS => ?_)
    simp only [elemL, List.cons_append, List.nil_append, Holds.cons, Holds.nil, and_true, Nat.add_zero] at hS
    repeat (go_big_quiet_step ((fail)))
    refine wpQuiet_nil ?_
    clear hS
    intro w1 hb1 hS1
    simp only [elemL, List.cons_append, List.nil_append, Holds.cons, Holds.nil, and_true, Nat.add_zero] at hS1
    go_wp2
    go_ret
    exact ⟨rfl, below_new hb1⟩

set_option maxHeartbeats 400000 in
theorem refHas_any (a b x : Int) (w : World) (ha : 0 ≤ a) (ha' : a < 4294967296) (hx : 0 ≤ x) (hx' : x < 4294967296) :
    Calls Try.prog 54 #[.agg #[.int .u32 a, .int .i64 b], .int .u32 x] w (Pure w (.bool (hasB a b x))) := by
  cases hr : rightB a b
  · have e : hasB a b x = false := by simp [hasB, hr]
    rw [e]
    clear e
    go_enter Try.func54, Try.ntmps54
    go_wp2_with fail
    refine (refRight_any _ _ _ ha ha').mono ?_
    rintro e w1 ⟨rfl, hb1⟩
    obtain ⟨hc1, hf1⟩ := bcell hb1
    go_wp2_with fail
    go_ret
    exact ⟨rfl, below_new hb1⟩
  · have h2 := hr
    simp only [rightB, decide_eq_true_eq] at h2
    obtain ⟨h20, h21, _⟩ := h2
    by_cases hx1 : a ≤ x
    · have e : hasB a b x = decide (x ≤ a + sizeN b - 1) := by simp [hasB, hr, hx1]
      rw [e]
      clear e
      go_enter Try.func54, Try.ntmps54
      go_wp2_with fail
      refine (refRight_any _ _ _ ha ha').mono ?_
      rintro e w1 ⟨rfl, hb1⟩
      obtain ⟨hc1, hf1⟩ := bcell hb1
      go_wp2_with fail
      refine (refSpan_any _ _ _ ha ha' h20 h21).mono ?_
      rintro e w2 ⟨rfl, hb2⟩
      go_wp2_with fail
      go_ret
      exact ⟨rfl, below_on (below_new hb1) hb2⟩
    · have e : hasB a b x = false := by simp [hasB, hx1]
      have hd : decide (a ≤ x) = false := by simpa using hx1
      rw [e]
      clear e
      go_enter Try.func54, Try.ntmps54
      go_wp2_with fail
      refine (refRight_any _ _ _ ha ha').mono ?_
      rintro e w1 ⟨rfl, hb1⟩
      obtain ⟨hc1, hf1⟩ := bcell hb1
      go_wp2_with fail
      refine (refSpan_any _ _ _ ha ha' h20 h21).mono ?_
      rintro e w2 ⟨rfl, hb2⟩
      go_wp2_with fail
      go_ret
      exact ⟨rfl, below_on (below_new hb1) hb2⟩
end Go.Proofs.Ytnbokpfkcfhgbaa
