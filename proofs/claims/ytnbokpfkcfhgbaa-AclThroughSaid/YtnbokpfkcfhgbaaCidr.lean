/- The walks of cidr's and its reference's mask, Right, Has, Size, Span: each hands back just the number or the bool of the plain law; nothing that was there has turned. -/
import Derived.Test.YtnbokpfkcfhgbaaBase
import Derived.Test.YtnbokpfkcfhgbaaCidrLaw
namespace Go.Proofs.Ytnbokpfkcfhgbaa
open Go Go.RowKit
attribute [local go_sem ↓] Go.wp_at_zero Go.wp_at_succ

set_option maxHeartbeats 400000 in
theorem mask_any (b : Int) (w : World) :
    Calls Try.prog 69 #[.int .i64 b] w fun e w' => e = .returned (.int .u32 (maskN b)) ∧ w = w' := by
  by_cases h0 : b < 0
  · have h : maskN b = 0 := by simp [maskN, h0]
    rw [h]
    go_enter Try.func69, Try.ntmps69
    go_wp2
    all_goals (go_ret; exact ⟨rfl, rfl⟩)
  · by_cases h1 : 32 < b
    · have h : maskN b = 4294967295 := by simp [maskN, h0, h1]
      rw [h]
      go_enter Try.func69, Try.ntmps69
      go_wp2
      all_goals (go_ret; exact ⟨rfl, rfl⟩)
    · have h : maskN b = 4294967295 * 2 ^ (32 - b).toNat % 4294967296 := by simp [maskN, h0, h1]
      rw [h]
      clear h
      go_enter Try.func69, Try.ntmps69
      go_wp2
      all_goals (go_ret; exact ⟨rfl, rfl⟩)

set_option maxHeartbeats 400000 in
theorem right_any (a b : Int) (w : World) (ha : 0 ≤ a) (ha' : a < 4294967296) :
    Calls Try.prog 51 #[.agg #[.int .u32 a, .int .i64 b]] w (Pure w (.bool (rightB a b))) := by
  by_cases hb : 0 ≤ b
  · by_cases hb' : b ≤ 32
    · have e : rightB a b = (bits .andNot .u32 a (maskN b) == 0) := by
        rw [andNot_mask a b ha ha' hb hb']
        unfold rightB
        rw [Bool.eq_iff_iff]; simp [hb, hb']
      rw [e]
      clear e
      go_enter Try.func51, Try.ntmps51
      go_wp2
      refine wp_region_calm [(⟨w.heap.size, 0, none⟩, .int .u32 a), (⟨w.heap.size, 1, none⟩, .int .i64 b)] (by simp [Holds.cons, Holds.nil, go_sem]) (by kernel_rfl) (by kernel_rfl) (fun hS => ?_)
      simp only [elemL, List.cons_append, List.nil_append, Holds.cons, Holds.nil, and_true, Nat.add_zero] at hS
      repeat (go_big_quiet_step ((first | (go_at_call 69; exact calm_same (mask_any _ _)))))
      refine wpQuiet_nil ?_
      clear hS
      intro w1 hb1 hS1
      simp only [elemL, List.cons_append, List.nil_append, Holds.cons, Holds.nil, and_true, Nat.add_zero] at hS1
      go_wp2
      go_ret
      exact ⟨rfl, below_new hb1⟩
    · have e : rightB a b = false := by simp [rightB, hb']
      have hd : decide (b ≤ 32) = false := by simpa using hb'
      rw [e]
      clear e
      go_enter Try.func51, Try.ntmps51
      go_wp2
      refine wp_region_calm [(⟨w.heap.size, 0, none⟩, .int .u32 a), (⟨w.heap.size, 1, none⟩, .int .i64 b)] (by simp [Holds.cons, Holds.nil, go_sem]) (by kernel_rfl) (by kernel_rfl) (fun hS => ?_)
      simp only [elemL, List.cons_append, List.nil_append, Holds.cons, Holds.nil, and_true, Nat.add_zero] at hS
      repeat (go_big_quiet_step ((fail)))
      refine wpQuiet_nil ?_
      clear hS
      intro w1 hb1 hS1
      simp only [elemL, List.cons_append, List.nil_append, Holds.cons, Holds.nil, and_true, Nat.add_zero] at hS1
      go_wp2
      go_ret
      exact ⟨rfl, below_new hb1⟩
  · have e : rightB a b = false := by simp [rightB, hb]
    have hd : decide (0 ≤ b) = false := by simpa using hb
    rw [e]
    clear e
    go_enter Try.func51, Try.ntmps51
    go_wp2
    refine wp_region_calm [(⟨w.heap.size, 0, none⟩, .int .u32 a), (⟨w.heap.size, 1, none⟩, .int .i64 b)] (by simp [Holds.cons, Holds.nil, go_sem]) (by kernel_rfl) (by kernel_rfl) (fun hS => ?_)
    simp only [elemL, List.cons_append, List.nil_append, Holds.cons, Holds.nil, and_true, Nat.add_zero] at hS
    repeat (go_big_quiet_step ((fail)))
    refine wpQuiet_nil ?_
    clear hS
    intro w1 hb1 hS1
    simp only [elemL, List.cons_append, List.nil_append, Holds.cons, Holds.nil, and_true, Nat.add_zero] at hS1
    go_wp2
    go_ret
    exact ⟨rfl, below_new hb1⟩

set_option maxHeartbeats 400000 in
theorem has_any (a b x : Int) (w : World) (ha : 0 ≤ a) (ha' : a < 4294967296) (hx : 0 ≤ x) (hx' : x < 4294967296) :
    Calls Try.prog 53 #[.agg #[.int .u32 a, .int .i64 b], .int .u32 x] w (Pure w (.bool (hasB a b x))) := by
  cases hr : rightB a b
  · have e : hasB a b x = false := by simp [hasB, hr]
    rw [e]
    clear e
    go_enter Try.func53, Try.ntmps53
    go_wp2
    refine wp_region_calm [(⟨w.heap.size, 0, none⟩, .int .u32 a), (⟨w.heap.size, 1, none⟩, .int .i64 b)] (by simp [Holds.cons, Holds.nil, go_sem]) (by kernel_rfl) (by kernel_rfl) (fun hS => ?_)
    simp only [elemL, List.cons_append, List.nil_append, Holds.cons, Holds.nil, and_true, Nat.add_zero] at hS
    repeat (go_big_quiet_step ((first | (go_at_call 51; exact calm_of (hr ▸ right_any a b _ ha ha')))))
    refine wpQuiet_nil ?_
    clear hS
    intro w1 hb1 hS1
    simp only [elemL, List.cons_append, List.nil_append, Holds.cons, Holds.nil, and_true, Nat.add_zero] at hS1
    go_wp2
    go_ret
    exact ⟨rfl, below_new hb1⟩
  · have e : hasB a b x = (bits .and .u32 x (maskN b) == a) := by
      have h2 := hr
      simp only [rightB, decide_eq_true_eq] at h2
      rw [and_mask x b hx hx' h2.1 h2.2.1, has_eq a b x ha hx hr]
      simp [hasB, hr]
    rw [e]
    clear e
    go_enter Try.func53, Try.ntmps53
    go_wp2
    refine wp_region_calm [(⟨w.heap.size, 0, none⟩, .int .u32 a), (⟨w.heap.size, 1, none⟩, .int .i64 b)] (by simp [Holds.cons, Holds.nil, go_sem]) (by kernel_rfl) (by kernel_rfl) (fun hS => ?_)
    simp only [elemL, List.cons_append, List.nil_append, Holds.cons, Holds.nil, and_true, Nat.add_zero] at hS
    repeat (go_big_quiet_step ((first | (go_at_call 51; exact calm_of (hr ▸ right_any a b _ ha ha')) | (go_at_call 69; exact calm_same (mask_any _ _)))))
    refine wpQuiet_nil ?_
    clear hS
    intro w1 hb1 hS1
    simp only [elemL, List.cons_append, List.nil_append, Holds.cons, Holds.nil, and_true, Nat.add_zero] at hS1
    go_wp2
    go_ret
    exact ⟨rfl, below_new hb1⟩
end Go.Proofs.Ytnbokpfkcfhgbaa
