/- A walk of tape.Right: by the cases of its tests (printed by gen_right.py). -/
import Derived.Test.YtnbokpfkcfhgbaaTape
namespace Go.Proofs.Ytnbokpfkcfhgbaa
open Go Go.RowKit
attribute [local go_sem ↓] Go.wp_at_zero Go.wp_at_succ

theorem right_cases (k ek ec en : Int) (eL : Nat) (ok oc on oa : Int) (oL : Nat) : ((k == 1) = true ∧ (k == 2) = false ∧ (ok == 0) = false) ∨ ((k == 1) = true ∧ (k == 2) = false ∧ (ok == 0) = true ∧ (oc == 0) = false) ∨ ((k == 1) = true ∧ (k == 2) = false ∧ (ok == 0) = true ∧ (oc == 0) = true ∧ (on == 0) = false) ∨ ((k == 1) = true ∧ (k == 2) = false ∧ (ok == 0) = true ∧ (oc == 0) = true ∧ (on == 0) = true ∧ (oa == 0) = false) ∨ ((k == 1) = true ∧ (k == 2) = false ∧ (ok == 0) = true ∧ (oc == 0) = true ∧ (on == 0) = true ∧ (oa == 0) = true ∧ ((oL : Int) == 0) = false) ∨ ((k == 1) = true ∧ (k == 2) = false ∧ (ok == 0) = true ∧ (oc == 0) = true ∧ (on == 0) = true ∧ (oa == 0) = true ∧ ((oL : Int) == 0) = true) ∨ ((k == 1) = false ∧ (k == 2) = true ∧ (ek == 0) = false) ∨ ((k == 1) = false ∧ (k == 2) = true ∧ (ek == 0) = true ∧ (ec == 0) = false) ∨ ((k == 1) = false ∧ (k == 2) = true ∧ (ek == 0) = true ∧ (ec == 0) = true ∧ (en == 0) = false) ∨ ((k == 1) = false ∧ (k == 2) = true ∧ (ek == 0) = true ∧ (ec == 0) = true ∧ (en == 0) = true ∧ ((eL : Int) == 0) = false) ∨ ((k == 1) = false ∧ (k == 2) = true ∧ (ek == 0) = true ∧ (ec == 0) = true ∧ (en == 0) = true ∧ ((eL : Int) == 0) = true) ∨ ((k == 1) = false ∧ (k == 2) = false) := by
  cases a : (k == 1)
  · cases (k == 2)
    · simp
    ·
      cases (ek == 0)
      · simp
      ·
        cases (ec == 0)
        · simp
        ·
          cases (en == 0)
          · simp
          ·
            cases ((eL : Int) == 0)
            · simp
            ·
              simp
  · have b : (k == 2) = false := by
      have : k = 1 := by simpa using a
      subst this
      rfl
    rw [b]
    cases (ok == 0)
    · simp
    ·
      cases (oc == 0)
      · simp
      ·
        cases (on == 0)
        · simp
        ·
          cases (oa == 0)
          · simp
          ·
            cases ((oL : Int) == 0)
            · simp
            ·
              simp

set_option maxRecDepth 100000 in
set_option maxHeartbeats 8000000 in
theorem Right_any (k ek ec en : Int) (eA : Option Addr) (eL eC : Nat) (ok oc on oa : Int) (oA : Option Addr) (oL oC : Nat) (w : World) (h1 : i64P en) (h2 : i64P on) :
    Calls Try.prog 32 #[.agg #[.int .i64 k, .int .i64 ek, .int .i64 ec, .int .i64 en, .slice eA eL eC, .int .i64 ok, .int .i64 oc, .int .i64 on, .int .u32 oa, .slice oA oL oC]] w (Pure w (.bool (Rc.right ⟨k, ek, ec, en, eA, eL, eC, ok, oc, on, oa, oA, oL, oC⟩))) := by
  have F1 := Lib.hid fun W => tfits_any ek ec en eA eL eC W h1.1 h1.2
  have F2 := Lib.hid fun W => tfits_any ok oc on oA oL oC W h2.1 h2.2
  clear h1 h2
  have hb : Below w.heap.size w (w.alloc (.cells #[.int .i64 k, .int .i64 ek, .int .i64 ec, .int .i64 en, .slice eA eL eC, .int .i64 ok, .int .i64 oc, .int .i64 on, .int .u32 oa, .slice oA oL oC] 64)) := (Below.refl _ _).alloc (Nat.le_refl _) _
  generalize hr : Rc.right ⟨k, ek, ec, en, eA, eL, eC, ok, oc, on, oa, oA, oL, oC⟩ = R
  have HR := Lib.hid hr
  clear hr
  go_enter Try.func32, Try.ntmps32
  go_wp2_with fail
  go_region
  all_goals
    rcases right_cases k ek ec en eL ok oc on oa oL with ⟨z0, z1, z2⟩ | ⟨z0, z1, z2, z3⟩ | ⟨z0, z1, z2, z3, z4⟩ | ⟨z0, z1, z2, z3, z4, z5⟩ | ⟨z0, z1, z2, z3, z4, z5, z6⟩ | ⟨z0, z1, z2, z3, z4, z5, z6⟩ | ⟨z0, z1, z2⟩ | ⟨z0, z1, z2, z3⟩ | ⟨z0, z1, z2, z3, z4⟩ | ⟨z0, z1, z2, z3, z4, z5⟩ | ⟨z0, z1, z2, z3, z4, z5⟩ | ⟨z0, z1⟩
    · have hv : R = false := by rw [← HR.out]; simp [Rc.right, z0, z1, z2]
      go_wp2_with fail
      go_ret
      exact ⟨ret_bool hv.symm, ((hb.alloc (by simp) _).alloc (by simp; omega) _).drew⟩
    · have hv : R = false := by rw [← HR.out]; simp [Rc.right, z0, z1, z2, z3]
      go_wp2_with fail
      go_ret
      exact ⟨ret_bool hv.symm, ((hb.alloc (by simp) _).alloc (by simp; omega) _).drew⟩
    · have hv : R = false := by rw [← HR.out]; simp [Rc.right, z0, z1, z2, z3, z4]
      go_wp2_with fail
      go_ret
      exact ⟨ret_bool hv.symm, ((hb.alloc (by simp) _).alloc (by simp; omega) _).drew⟩
    · have hv : R = false := by rw [← HR.out]; simp [Rc.right, z0, z1, z2, z3, z4, z5]
      go_wp2_with fail
      go_ret
      exact ⟨ret_bool hv.symm, ((hb.alloc (by simp) _).alloc (by simp; omega) _).drew⟩
    · have hv : R = false := by rw [← HR.out]; simp [Rc.right, z0, z1, z2, z3, z4, z5, z6]
      go_wp2_with fail
      go_ret
      exact ⟨ret_bool hv.symm, ((hb.alloc (by simp) _).alloc (by simp; omega) _).drew⟩
    · have hv : R = fitsB ek ec en eL := by rw [← HR.out]; simp [Rc.right, z0, z1, z2, z3, z4, z5, z6]
      go_wp2_with fail
      refine (F1.out _).mono ?_
      rintro e w1 ⟨rfl, rfl⟩
      go_wp2_with fail
      go_ret
      exact ⟨ret_bool hv.symm, ((hb.alloc (by simp) _).alloc (by simp; omega) _).drew⟩
    · have hv : R = false := by rw [← HR.out]; simp [Rc.right, z0, z1, z2]
      go_wp2_with fail
      go_ret
      exact ⟨ret_bool hv.symm, ((hb.alloc (by simp) _).alloc (by simp; omega) _).drew⟩
    · have hv : R = false := by rw [← HR.out]; simp [Rc.right, z0, z1, z2, z3]
      go_wp2_with fail
      go_ret
      exact ⟨ret_bool hv.symm, ((hb.alloc (by simp) _).alloc (by simp; omega) _).drew⟩
    · have hv : R = false := by rw [← HR.out]; simp [Rc.right, z0, z1, z2, z3, z4]
      go_wp2_with fail
      go_ret
      exact ⟨ret_bool hv.symm, ((hb.alloc (by simp) _).alloc (by simp; omega) _).drew⟩
    · have hv : R = false := by rw [← HR.out]; simp [Rc.right, z0, z1, z2, z3, z4, z5]
      go_wp2_with fail
      go_ret
      exact ⟨ret_bool hv.symm, ((hb.alloc (by simp) _).alloc (by simp; omega) _).drew⟩
    · have hv : R = fitsB ok oc on oL := by rw [← HR.out]; simp [Rc.right, z0, z1, z2, z3, z4, z5]
      go_wp2_with fail
      refine (F2.out _).mono ?_
      rintro e w1 ⟨rfl, rfl⟩
      go_wp2_with fail
      go_ret
      exact ⟨ret_bool hv.symm, ((hb.alloc (by simp) _).alloc (by simp; omega) _).drew⟩
    · have hv : R = false := by rw [← HR.out]; simp [Rc.right, z0, z1]
      go_wp2_with fail
      go_ret
      exact ⟨ret_bool hv.symm, ((hb.alloc (by simp) _).alloc (by simp; omega) _).drew⟩
end Go.Proofs.Ytnbokpfkcfhgbaa
