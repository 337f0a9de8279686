/- More walks of cidr and its reference: Within, Of, Compare. -/
import Derived.Test.YtnbokpfkcfhgbaaCover
namespace Go.Proofs.Ytnbokpfkcfhgbaa
open Go Go.RowKit
attribute [local go_sem ↓] Go.wp_at_zero Go.wp_at_succ
attribute [local go_sem] eqPfx guardPfx

set_option maxHeartbeats 1000000 in
theorem within_any (a b c d : Int) (w : World) (ha : 0 ≤ a) (ha' : a < 4294967296) (hc : 0 ≤ c) (hc' : c < 4294967296) :
    Calls Try.prog 55 #[.agg #[.int .u32 a, .int .i64 b], .agg #[.int .u32 c, .int .i64 d]] w (Pure w (.bool (withinB a b c d))) := by
  have hR := fun W => right_any a b W ha ha'
  cases hr : rightB a b
  · have e : withinB a b c d = false := by simp [withinB, hr]
    rw [e]
    rw [hr] at hR
    clear e hr
    go_enter Try.func55, Try.ntmps55
    go_wp2_with fail
    refine (hR _).mono ?_
    rintro e w1 ⟨rfl, hb1⟩
    obtain ⟨hc1, hf1⟩ := bcell hb1
    go_wp2_with fail
    go_ret
    exact ⟨rfl, below_new (below_new hb1)⟩
  · have e := within_eq a b c d hr
    rw [hr] at hR
    clear hr
    by_cases hdb : d ≤ b
    · have e2 : withinB a b c d = hasB c d a := by rw [e]; simp [hdb]
      rw [e2]
      clear e e2
      go_enter Try.func55, Try.ntmps55
      go_wp2_with fail
      refine (hR _).mono ?_
      rintro e w1 ⟨rfl, hb1⟩
      obtain ⟨hc1, hf1⟩ := bcell hb1
      go_wp2_with fail
      refine (has_any _ _ _ _ hc hc' ha ha').mono ?_
      rintro e w2 ⟨rfl, hb2⟩
      go_wp2_with fail
      go_ret
      exact ⟨rfl, below_on (below_new (below_new hb1)) hb2⟩
    · have e2 : withinB a b c d = false := by rw [e]; simp [hdb]
      have hd : decide (d ≤ b) = false := by simpa using hdb
      rw [e2]
      clear e e2
      go_enter Try.func55, Try.ntmps55
      go_wp2_with fail
      refine (hR _).mono ?_
      rintro e w1 ⟨rfl, hb1⟩
      obtain ⟨hc1, hf1⟩ := bcell hb1
      go_wp2_with fail
      go_ret
      exact ⟨rfl, below_new (below_new hb1)⟩

set_option maxHeartbeats 1000000 in
theorem refWithin_any (a b c d : Int) (w : World) (ha : 0 ≤ a) (ha' : a < 4294967296) (hc : 0 ≤ c) (hc' : c < 4294967296) :
    Calls Try.prog 47 #[.agg #[.int .u32 a, .int .i64 b], .agg #[.int .u32 c, .int .i64 d]] w (Pure w (.bool (withinB a b c d))) := by
  have hR := fun W => refRight_any a b W ha ha'
  have hS := fun W => refRight_any c d W hc hc'
  cases hr : rightB a b
  · have e : withinB a b c d = false := by simp [withinB, hr]
    rw [e]
    rw [hr] at hR
    clear e hr
    go_enter Try.func47, Try.ntmps47
    go_wp2_with fail
    refine (hR _).mono ?_
    rintro e w1 ⟨rfl, hb1⟩
    obtain ⟨hc1, hf1⟩ := bcell hb1
    go_wp2_with fail
    go_ret
    exact ⟨rfl, below_new (below_new hb1)⟩
  · cases hs : rightB c d
    · have e : withinB a b c d = false := by simp [withinB, hs]
      rw [e]
      rw [hr] at hR
      rw [hs] at hS
      clear e hr hs
      go_enter Try.func47, Try.ntmps47
      go_wp2_with fail
      refine (hR _).mono ?_
      rintro e w1 ⟨rfl, hb1⟩
      obtain ⟨hc1, hf1⟩ := bcell hb1
      go_wp2_with fail
      refine (hS _).mono ?_
      rintro e w2 ⟨rfl, hb2⟩
      obtain ⟨hc2, hf2⟩ := bcell hb2
      go_wp2_with fail
      go_ret
      exact ⟨rfl, below_on (below_new (below_new hb1)) hb2⟩
    · have e : withinB a b c d = (decide (c ≤ a) && decide (a + sizeN b ≤ c + sizeN d)) := by
        simp [withinB, hr, hs]
      rw [hr] at hR
      rw [hs] at hS
      simp only [rightB, decide_eq_true_eq] at hr hs
      obtain ⟨hb0, hb32, _⟩ := hr
      obtain ⟨hd0, hd32, _⟩ := hs
      rw [e]
      clear e
      have q1 := sizeN_pos b
      have q2 := sizeN_le b hb0
      have q3 := sizeN_pos d
      have q4 := sizeN_le d hd0
      cases g1 : decide (c ≤ a)
      ·
        go_enter Try.func47, Try.ntmps47
        go_wp2_with fail
        refine (hR _).mono ?_
        rintro e w1 ⟨rfl, hb1⟩
        obtain ⟨hc1, hf1⟩ := bcell hb1
        have hL1 := (boxes2 w #[.int .u32 a, .int .i64 b] #[.int .u32 c, .int .i64 d] 32 32).keep hb1
        clear hc1 hf1
        have hL2 := hL1
        simp only [elemL, List.cons_append, List.nil_append, Holds.cons, Holds.nil, and_true, Nat.add_zero, Nat.zero_add] at hL1
        go_wp2_with fail
        refine (hS _).mono ?_
        rintro e w2 ⟨rfl, hb2⟩
        obtain ⟨hc2, hf2⟩ := bcell hb2
        replace hL2 := hL2.keep hb2
        have hL3 := hL2
        clear hc2 hf2 hL1
        simp only [elemL, List.cons_append, List.nil_append, Holds.cons, Holds.nil, and_true, Nat.add_zero, Nat.zero_add] at hL2
        go_wp2_with fail
        refine (refSpan_any _ _ _ ha ha' hb0 hb32).mono ?_
        rintro e w3 ⟨rfl, hb3⟩
        replace hL3 := hL3.keep hb3
        clear hL2
        simp only [elemL, List.cons_append, List.nil_append, Holds.cons, Holds.nil, and_true, Nat.add_zero, Nat.zero_add] at hL3
        go_wp2_with fail
        refine (refSpan_any _ _ _ hc hc' hd0 hd32).mono ?_
        rintro e w4 ⟨rfl, hb4⟩
        go_wp2_with fail
        go_ret
        exact ⟨rfl, below_on (below_on (below_on (below_new (below_new hb1)) hb2) hb3) hb4⟩
      ·
        go_enter Try.func47, Try.ntmps47
        go_wp2_with fail
        refine (hR _).mono ?_
        rintro e w1 ⟨rfl, hb1⟩
        obtain ⟨hc1, hf1⟩ := bcell hb1
        have hL1 := (boxes2 w #[.int .u32 a, .int .i64 b] #[.int .u32 c, .int .i64 d] 32 32).keep hb1
        clear hc1 hf1
        have hL2 := hL1
        simp only [elemL, List.cons_append, List.nil_append, Holds.cons, Holds.nil, and_true, Nat.add_zero, Nat.zero_add] at hL1
        go_wp2_with fail
        refine (hS _).mono ?_
        rintro e w2 ⟨rfl, hb2⟩
        obtain ⟨hc2, hf2⟩ := bcell hb2
        replace hL2 := hL2.keep hb2
        have hL3 := hL2
        clear hc2 hf2 hL1
        simp only [elemL, List.cons_append, List.nil_append, Holds.cons, Holds.nil, and_true, Nat.add_zero, Nat.zero_add] at hL2
        go_wp2_with fail
        refine (refSpan_any _ _ _ ha ha' hb0 hb32).mono ?_
        rintro e w3 ⟨rfl, hb3⟩
        replace hL3 := hL3.keep hb3
        clear hL2
        simp only [elemL, List.cons_append, List.nil_append, Holds.cons, Holds.nil, and_true, Nat.add_zero, Nat.zero_add] at hL3
        go_wp2_with fail
        refine (refSpan_any _ _ _ hc hc' hd0 hd32).mono ?_
        rintro e w4 ⟨rfl, hb4⟩
        go_wp2_with fail
        go_ret
        exact ⟨ret_bool (by simp), below_on (below_on (below_on (below_new (below_new hb1)) hb2) hb3) hb4⟩

set_option maxHeartbeats 1000000 in
theorem Of_full (a b : Int) (w : World) (h0 : 0 ≤ a) (h1 : a < 4294967296) :
    Calls Try.prog 56 #[.int .u32 a, .int .i64 b] w (Pure w (.agg #[.int .u32 (a - a % sizeN (clampN b)), .int .i64 (clampN b)])) := by
  obtain ⟨c0, c1⟩ := clampN_in b
  have hM := fun W => mask_any b W
  rw [maskN_clamp] at hM
  have e := and_mask a (clampN b) h0 h1 c0 c1
  by_cases g0 : b < 0
  · have ec : clampN b = 0 := by simp [clampN, g0]
    rw [ec] at hM e ⊢
    clear ec
    go_enter Try.func56, Try.ntmps56
    go_wp2_with fail
    refine (hM _).mono ?_
    rintro e w' ⟨rfl, rfl⟩
    go_wp2_with fail
    all_goals exact bodyPost_ret (v := .agg #[.int .u32 (a - a % sizeN 0), .int .i64 0]) (by simp [results, Try.results56, go_sem]) rfl ⟨rfl, below_new (Below.refl _ _)⟩
  · by_cases g1 : 32 < b
    · have ec : clampN b = 32 := by simp [clampN, g0, g1]
      rw [ec] at hM e ⊢
      clear ec
      go_enter Try.func56, Try.ntmps56
      go_wp2_with fail
      refine (hM _).mono ?_
      rintro e w' ⟨rfl, rfl⟩
      go_wp2_with fail
      all_goals exact bodyPost_ret (v := .agg #[.int .u32 (a - a % sizeN 32), .int .i64 32]) (by simp [results, Try.results56, go_sem]) rfl ⟨rfl, below_new (Below.refl _ _)⟩
    · have ec : clampN b = b := by simp [clampN, g0, g1]
      rw [ec]
      exact Of_any a b w h0 h1 (by omega) (by omega)

set_option maxHeartbeats 1000000 in
theorem refOf_core (a b cb s : Int) (w : World) (h0 : 0 ≤ a) (h1 : a < 4294967296) (s0 : 0 < s) (hS : ∀ W, Calls Try.prog 70 #[.int .i64 cb] W fun e w' => e = .returned (.int .i64 s) ∧ W = w')
    (hc : (b < 0 ∧ cb = 0) ∨ (0 ≤ b ∧ 32 < b ∧ cb = 32) ∨ (0 ≤ b ∧ b ≤ 32 ∧ cb = b)) :
    Calls Try.prog 57 #[.int .u32 a, .int .i64 b] w (Pure w (.agg #[.int .u32 (a - a % s), .int .i64 cb])) := by
  have hq : a / s * s = a - a % s := by
    have := Int.mul_ediv_add_emod a s
    rw [Int.mul_comm] at this
    omega
  have hm := Int.emod_nonneg a (show s ≠ 0 by omega)
  have hd0 : 0 ≤ a / s := Int.ediv_nonneg h0 (by omega)
  have hd1 : a / s ≤ a := Int.ediv_le_self _ h0
  have hd2 : 0 ≤ a / s * s := Int.mul_nonneg hd0 (by omega)
  have hwr : IntKind.i64.wrap (a / s * s) = a - a % s := by rw [hq]; exact IntWalk.i64_in _ (by omega)
  have hwu : IntKind.u32.wrap (a - a % s) = a - a % s := IntWalk.u32_in _ (by omega)
  have hwd : IntKind.i64.wrap (a / s) = a / s := IntWalk.i64_in _ (by omega)
  have hwr2 : IntKind.i64.wrap (a - a % s) = a - a % s := IntWalk.i64_in _ (by omega)
  have hwa : IntKind.i64.wrap a = a := IntWalk.i64_in _ (by omega)
  have hfin : IntKind.u32.wrap (IntKind.i64.wrap (IntKind.i64.wrap ((IntKind.i64.wrap a).tdiv s) * s)) = a - a % s := by
    rw [hwa, Int.tdiv_eq_ediv_of_nonneg h0, hwd, hwr, hwu]
  have HF := Lib.hid hfin
  clear hfin hwa
  have z0 : (s == 0) = false := by simp; omega
  have z1 : ¬ s = 0 := by omega
  rcases hc with ⟨g0, rfl⟩ | ⟨g0, g1, rfl⟩ | ⟨g0, g1, rfl⟩
  ·
    have HS := Lib.hid hS
    clear hS
    go_enter Try.func57, Try.ntmps57
    go_wp2_with fail
    go_region_held3 (fun _ => True) (trivial) (first | (go_at_call 70; refine (HS.out _).mono ?_; rintro e w' ⟨rfl, rfl⟩))
    go_wp2_with fail
    exact bodyPost_ret (v := .agg #[.int .u32 (a - a % s), .int .i64 0]) (by simp [results, Try.results57, go_sem, HF.out]) rfl ⟨rfl, (below_new (Below.refl _ _)).drew⟩
  ·
    have HS := Lib.hid hS
    clear hS
    go_enter Try.func57, Try.ntmps57
    go_wp2_with fail
    go_region_held3 (fun _ => True) (trivial) (first | (go_at_call 70; refine (HS.out _).mono ?_; rintro e w' ⟨rfl, rfl⟩))
    go_wp2_with fail
    exact bodyPost_ret (v := .agg #[.int .u32 (a - a % s), .int .i64 32]) (by simp [results, Try.results57, go_sem, HF.out]) rfl ⟨rfl, (below_new (Below.refl _ _)).drew⟩
  ·
    have HS := Lib.hid hS
    clear hS
    go_enter Try.func57, Try.ntmps57
    go_wp2_with fail
    go_region_held3 (fun _ => True) (trivial) (first | (go_at_call 70; refine (HS.out _).mono ?_; rintro e w' ⟨rfl, rfl⟩))
    go_wp2_with fail
    exact bodyPost_ret (v := .agg #[.int .u32 (a - a % s), .int .i64 cb]) (by simp [results, Try.results57, go_sem, HF.out]) rfl ⟨rfl, (below_new (Below.refl _ _)).drew⟩

theorem refOf_full (a b : Int) (w : World) (h0 : 0 ≤ a) (h1 : a < 4294967296) :
    Calls Try.prog 57 #[.int .u32 a, .int .i64 b] w (Pure w (.agg #[.int .u32 (a - a % sizeN (clampN b)), .int .i64 (clampN b)])) := by
  obtain ⟨c0, c1⟩ := clampN_in b
  refine refOf_core a b (clampN b) (sizeN (clampN b)) w h0 h1 (sizeN_pos _) (fun W => refSize_any (clampN b) W c0 c1) ?_
  unfold clampN
  by_cases g0 : b < 0
  · left; exact ⟨g0, by rw [if_pos g0]⟩
  · right
    by_cases g1 : 32 < b
    · left; exact ⟨by omega, g1, by rw [if_neg g0, if_pos g1]⟩
    · right; exact ⟨by omega, by omega, by rw [if_neg g0, if_neg g1]⟩

/-! ### cmp -/
set_option maxHeartbeats 400000 in
theorem nanAddr_any (a : Int) (w : World) : Calls Try.prog 97 #[.int .u32 a] w fun e w' => e = .returned (.bool false) ∧ w = w' := by
  go_enter Try.func97, Try.ntmps97
  go_wp2
  go_ret
  exact ⟨rfl, rfl⟩
set_option maxHeartbeats 400000 in
theorem nanInt_any (a : Int) (w : World) : Calls Try.prog 98 #[.int .i64 a] w fun e w' => e = .returned (.bool false) ∧ w = w' := by
  go_enter Try.func98, Try.ntmps98
  go_wp2
  go_ret
  exact ⟨rfl, rfl⟩
set_option maxHeartbeats 400000 in
theorem cmpAddr_any (a b : Int) (w : World) : Calls Try.prog 83 #[.int .u32 a, .int .u32 b] w fun e w' => e = .returned (.int .i64 (cmpI a b)) ∧ w = w' := by
  have hc : (a < b ∧ cmpI a b = -1) ∨ (¬ a < b ∧ b < a ∧ cmpI a b = 1) ∨ (¬ a < b ∧ ¬ b < a ∧ cmpI a b = 0) := by
    unfold cmpI; split <;> (try split) <;> simp_all
  rcases hc with ⟨g, e⟩ | ⟨g, g', e⟩ | ⟨g, g', e⟩
  all_goals
    rw [e]
    clear e
    go_enter Try.func83, Try.ntmps83
    go_wp2_with fail
    refine (nanAddr_any _ _).mono ?_
    rintro e w1 ⟨rfl, rfl⟩
    go_wp2_with fail
    refine (nanAddr_any _ _).mono ?_
    rintro e w1 ⟨rfl, rfl⟩
    go_wp2_with fail
    go_ret
    exact ⟨rfl, rfl⟩
set_option maxHeartbeats 400000 in
theorem cmpInt_any (a b : Int) (w : World) : Calls Try.prog 84 #[.int .i64 a, .int .i64 b] w fun e w' => e = .returned (.int .i64 (cmpI a b)) ∧ w = w' := by
  have hc : (a < b ∧ cmpI a b = -1) ∨ (¬ a < b ∧ b < a ∧ cmpI a b = 1) ∨ (¬ a < b ∧ ¬ b < a ∧ cmpI a b = 0) := by
    unfold cmpI; split <;> (try split) <;> simp_all
  rcases hc with ⟨g, e⟩ | ⟨g, g', e⟩ | ⟨g, g', e⟩
  all_goals
    rw [e]
    clear e
    go_enter Try.func84, Try.ntmps84
    go_wp2_with fail
    refine (nanInt_any _ _).mono ?_
    rintro e w1 ⟨rfl, rfl⟩
    go_wp2_with fail
    refine (nanInt_any _ _).mono ?_
    rintro e w1 ⟨rfl, rfl⟩
    go_wp2_with fail
    go_ret
    exact ⟨rfl, rfl⟩
/-- cmp.Or of two. -/
theorem or2_any (g : Nat) (x y r : Int) (w : World) (hr : Hid (r = if x = 0 then y else x)) (h0 : w.cell? ⟨g, 0, none⟩ = some (.int .i64 x)) (h1 : w.cell? ⟨g, 1, none⟩ = some (.int .i64 y)) :
    Calls Try.prog 82 #[.slice (some ⟨g, 0, none⟩) 2 2] w fun e w' => e = .returned (.int .i64 r) ∧ w = w' := by
  go_enter Try.func82, Try.ntmps82
  go_wp2
  go_loop [8] (fun i => i = .int .i64 0 ∨ (i = .int .i64 1 ∧ x = 0) ∨ (i = .int .i64 2 ∧ x = 0 ∧ y = 0)) (fun i => (2 - intOf i).toNat)
  case atStart => exact .inl rfl
  case round =>
    rcases hrel with rfl | ⟨rfl, rfl⟩ | ⟨rfl, rfl, rfl⟩
    · by_cases hx : x = 0
      · subst hx
        go_wp2
        go_round
        case rel => exact .inr (.inl ⟨rfl, trivial⟩)
        case measure => simp [intOf]
      · have hb0 : (x == 0) = false := by simp [hx]
        have hb1 : (x != 0) = true := by simp [hx]
        go_wp2
        go_ret
        exact ⟨ret_int (by rw [hr.out]; simp [hx]), rfl⟩
    · by_cases hy : y = 0
      · subst hy
        go_wp2
        go_round
        case rel => exact .inr (.inr ⟨rfl, trivial, trivial⟩)
        case measure => simp [intOf]
      · have hb0 : (y == 0) = false := by simp [hy]
        have hb1 : (y != 0) = true := by simp [hy]
        go_wp2
        go_ret
        exact ⟨ret_int (by rw [hr.out]; simp), rfl⟩
    · go_wp2
      go_ret
      exact ⟨ret_int (by rw [hr.out]; simp), rfl⟩
end Go.Proofs.Ytnbokpfkcfhgbaa
