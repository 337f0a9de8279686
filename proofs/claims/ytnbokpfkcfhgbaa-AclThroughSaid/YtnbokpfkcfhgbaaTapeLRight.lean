/- Walks of the law's fits, right (printed by gen_lright.py). -/
import Derived.Test.YtnbokpfkcfhgbaaTape
import Derived.Deep.DeepCutAuto
namespace Go.Proofs.Ytnbokpfkcfhgbaa
open Go Go.RowKit
attribute [local go_sem ↓] Go.wp_at_zero Go.wp_at_succ

set_option maxHeartbeats 1000000 in
theorem lfits_any (k c n : Int) (z : Nat) (w : World) :
    Calls Try.prog 72 #[.int .i64 k, .int .i64 c, .int .i64 n, .int .i64 z] w fun e w' => e = .returned (.bool (fitsB k c n z)) ∧ w = w' := by
  go_enter Try.func72, Try.ntmps72
  go_wp2_with fail
  all_goals
    go_ret
    exact ⟨ret_bool (by unfold fitsB; rw [Bool.eq_iff_iff]; simp; omega), rfl⟩

theorem noE_cases (ek ec en : Int) (eL : Nat) : ((ek == 0) = false) ∨ ((ek == 0) = true ∧ (ec == 0) = false) ∨ ((ek == 0) = true ∧ (ec == 0) = true ∧ (en == 0) = false) ∨ ((ek == 0) = true ∧ (ec == 0) = true ∧ (en == 0) = true ∧ ((eL : Int) == 0) = false) ∨ ((ek == 0) = true ∧ (ec == 0) = true ∧ (en == 0) = true ∧ ((eL : Int) == 0) = true) := by
  cases (ek == 0)
  · simp
  ·
    cases (ec == 0)
    · simp
    ·
      cases (en == 0)
      · simp
      ·
        cases ((eL : Int) == 0)
        · simp
        ·
          simp

theorem noO_cases (ok oc on oa : Int) (oL : Nat) : ((ok == 0) = false) ∨ ((ok == 0) = true ∧ (oc == 0) = false) ∨ ((ok == 0) = true ∧ (oc == 0) = true ∧ (on == 0) = false) ∨ ((ok == 0) = true ∧ (oc == 0) = true ∧ (on == 0) = true ∧ (oa == 0) = false) ∨ ((ok == 0) = true ∧ (oc == 0) = true ∧ (on == 0) = true ∧ (oa == 0) = true ∧ ((oL : Int) == 0) = false) ∨ ((ok == 0) = true ∧ (oc == 0) = true ∧ (on == 0) = true ∧ (oa == 0) = true ∧ ((oL : Int) == 0) = true) := by
  cases (ok == 0)
  · simp
  ·
    cases (oc == 0)
    · simp
    ·
      cases (on == 0)
      · simp
      ·
        cases (oa == 0)
        · simp
        ·
          cases ((oL : Int) == 0)
          · simp
          ·
            simp

theorem boxes3 (w : World) (a b c : Array Value) (ta tb tc : TypeId) : Blk (((w.alloc (.cells a ta)).alloc (.cells b tb)).alloc (.cells c tc)).drew w.heap.size ta a ∧ Blk (((w.alloc (.cells a ta)).alloc (.cells b tb)).alloc (.cells c tc)).drew (w.heap.size + 1) tb b ∧
    Blk (((w.alloc (.cells a ta)).alloc (.cells b tb)).alloc (.cells c tc)).drew (w.heap.size + 1 + 1) tc c ∧ Below w.heap.size w (((w.alloc (.cells a ta)).alloc (.cells b tb)).alloc (.cells c tc)).drew := by
  refine ⟨?_, ?_, ?_, ?_⟩
  · have := Blk.keep (Blk.keep (Blk.new w ta a) ((Below.refl _ _).alloc (Nat.le_refl _) (.cells b tb))) ((Below.refl _ _).alloc (Nat.le_refl _) (.cells c tc))
    exact this
  · have := Blk.keep (Blk.new (w.alloc (.cells a ta)) tb b) ((Below.refl _ _).alloc (Nat.le_refl _) (.cells c tc))
    rw [World.size_alloc] at this
    exact this
  · have := Blk.new ((w.alloc (.cells a ta)).alloc (.cells b tb)) tc c
    rw [World.size_alloc, World.size_alloc] at this
    exact this
  · exact ((((Below.refl _ _).alloc (Nat.le_refl _) _).alloc (by simp) _).alloc (by simp; omega) _).drew

set_option maxRecDepth 100000 in
set_option maxHeartbeats 8000000 in
theorem lright_any (k ek ec en : Int) (eA : Option Addr) (eL eC : Nat) (ok oc on oa : Int) (oA : Option Addr) (oL oC : Nat) (w : World) :
    Calls Try.prog 33 #[.agg #[.int .i64 k, .int .i64 ek, .int .i64 ec, .int .i64 en, .slice eA eL eC, .int .i64 ok, .int .i64 oc, .int .i64 on, .int .u32 oa, .slice oA oL oC]] w (Pure w (.bool (Rc.right ⟨k, ek, ec, en, eA, eL, eC, ok, oc, on, oa, oA, oL, oC⟩))) := by
  have F1 := Lib.hid fun W => lfits_any ek ec en eL W
  have F2 := Lib.hid fun W => lfits_any ok oc on oL W
  have hb : Below w.heap.size w (w.alloc (.cells #[.int .i64 k, .int .i64 ek, .int .i64 ec, .int .i64 en, .slice eA eL eC, .int .i64 ok, .int .i64 oc, .int .i64 on, .int .u32 oa, .slice oA oL oC] 64)) := (Below.refl _ _).alloc (Nat.le_refl _) _
  have hbk := Blk.new w 64 #[.int .i64 k, .int .i64 ek, .int .i64 ec, .int .i64 en, .slice eA eL eC, .int .i64 ok, .int .i64 oc, .int .i64 on, .int .u32 oa, .slice oA oL oC]
  generalize hr : Rc.right ⟨k, ek, ec, en, eA, eL, eC, ok, oc, on, oa, oA, oL, oC⟩ = R
  have HR := Lib.hid hr
  clear hr
  go_enter Try.func33, Try.ntmps33
  go_upto_region 1 with fail
  go_cut [3, 4] (fun s3 s4 wx => ∃ g3 g4 : Nat, s3 = .pointer (some ⟨g3, 0, none⟩) ∧ s4 = .pointer (some ⟨g4, 0, none⟩) ∧ Blk wx g3 59 #[.int .i64 ek, .int .i64 ec, .int .i64 en, .slice eA eL eC] ∧ Blk wx g4 62 #[.int .i64 ok, .int .i64 oc, .int .i64 on, .int .u32 oa, .slice oA oL oC] ∧ Blk wx w.heap.size 64 #[.int .i64 k, .int .i64 ek, .int .i64 ec, .int .i64 en, .slice eA eL eC, .int .i64 ok, .int .i64 oc, .int .i64 on, .int .u32 oa, .slice oA oL oC] ∧ Below w.heap.size w wx)
  case first =>
    go_region
    all_goals
      go_wp2_with fail
      go_meet
      first
        | exact ⟨_, _, rfl, rfl, (boxes3 w _ _ _ _ _ _).2.1, (boxes3 w _ _ _ _ _ _).2.2.1, (boxes3 w _ _ _ _ _ _).1, (boxes3 w _ _ _ _ _ _).2.2.2⟩
        | exact ⟨_, _, rfl, rfl, (boxes3 w _ _ _ _ _ _).2.2.1, (boxes3 w _ _ _ _ _ _).2.1, (boxes3 w _ _ _ _ _ _).1, (boxes3 w _ _ _ _ _ _).2.2.2⟩
  case rest =>
    obtain ⟨g3, g4, rfl, rfl, q3, q4, q1, hbc⟩ := hcut
    have e0 := q3.cell 0
    have e1 := q3.cell 1
    have e2 := q3.cell 2
    have e3 := q3.cell 3
    have o0 := q4.cell 0
    have o1 := q4.cell 1
    have o2 := q4.cell 2
    have o3 := q4.cell 3
    have o4 := q4.cell 4
    have r0 := q1.cell 0
    clear q3 q4 q1 hb hbk
    go_upto_region 2 with fail
    go_cut [5] (fun s5 wx => s5 = .bool (ek == 0 && ec == 0 && en == 0 && (eL : Int) == 0) ∧ wx = wc)
    case first =>
      rcases noE_cases ek ec en eL with z0 | ⟨z0, z1⟩ | ⟨z0, z1, z2⟩ | ⟨z0, z1, z2, z3⟩ | ⟨z0, z1, z2, z3⟩
      all_goals
        go_wp2_with fail
        go_meet
        exact ⟨by simp [*], rfl⟩
    case rest =>
      obtain ⟨rfl, rfl⟩ := hcut
      generalize hNE : (ek == 0 && ec == 0 && en == 0 && (eL : Int) == 0) = NE
      go_upto_region 3 with fail
      go_cut [6] (fun s6 wx => s6 = .bool (ok == 0 && oc == 0 && on == 0 && oa == 0 && (oL : Int) == 0) ∧ wx = wc)
      case first =>
        clear hNE
        rcases noO_cases ok oc on oa oL with z0 | ⟨z0, z1⟩ | ⟨z0, z1, z2⟩ | ⟨z0, z1, z2, z3⟩ | ⟨z0, z1, z2, z3, z4⟩ | ⟨z0, z1, z2, z3, z4⟩
        all_goals
          go_wp2_with fail
          go_meet
          exact ⟨by simp [*], rfl⟩
      case rest =>
        obtain ⟨rfl, rfl⟩ := hcut
        generalize hNO : (ok == 0 && oc == 0 && on == 0 && oa == 0 && (oL : Int) == 0) = NO
        have hR : R = ((k == 1 && NO && fitsB ek ec en eL) || (k == 2 && NE && fitsB ok oc on oL)) := by rw [← HR.out, ← hNE, ← hNO]; rfl
        have HRR := Lib.hid hR
        clear hNE hNO hR
        by_cases k1 : k = 1
        · have d1 : (k == 1) = true := by simpa using k1
          have d2 : (k == 2) = false := by rw [k1]; rfl
          clear k1
          cases NO with
          | false =>
            go_wp2_with fail
            go_ret
            exact ⟨ret_bool (by rw [HRR.out]; simp [d2]), hbc⟩
          | true =>
            generalize fitsB ek ec en eL = f1 at *
            cases f1 with
            | false =>
              go_wp2_with fail
              refine (F1.out _).mono ?_
              rintro e w1 ⟨rfl, rfl⟩
              go_wp2_with fail
              go_ret
              exact ⟨ret_bool (by rw [HRR.out]; simp [d2]), hbc⟩
            | true =>
              go_wp2_with fail
              refine (F1.out _).mono ?_
              rintro e w1 ⟨rfl, rfl⟩
              go_wp2_with fail
              go_ret
              exact ⟨ret_bool (by rw [HRR.out]; simp [d1]), hbc⟩
        · have d1 : (k == 1) = false := by simpa using k1
          clear k1
          cases d2 : (k == 2) with
          | false =>
            go_wp2_with fail
            go_ret
            exact ⟨ret_bool (by rw [HRR.out]; simp [d1, d2]), hbc⟩
          | true =>
            cases NE with
            | false =>
              go_wp2_with fail
              go_ret
              exact ⟨ret_bool (by rw [HRR.out]; simp [d1]), hbc⟩
            | true =>
              go_wp2_with fail
              refine (F2.out _).mono ?_
              rintro e w1 ⟨rfl, rfl⟩
              go_wp2_with fail
              go_ret
              exact ⟨ret_bool (by rw [HRR.out]; simp [d1, d2]), hbc⟩
end Go.Proofs.Ytnbokpfkcfhgbaa
