/- slices.Equal of bytes. -/
import Derived.Test.YtnbokpfkcfhgbaaInts
namespace Go.Proofs.Ytnbokpfkcfhgbaa
open Go Go.RowKit
attribute [local go_sem ↓] Go.wp_at_zero Go.wp_at_succ

set_option maxHeartbeats 1000000 in
theorem eqByte_any (A B : Option Addr) (n m c d : Nat) (L M : List Int) (w : World) (hn : L.length = n) (hm : M.length = m) (hn2 : n ≤ maxLen) (hA : Elems w A 1 (nums .u8 L)) (hB : Elems w B 1 (nums .u8 M)) :
    Calls Try.prog 36 #[.slice A n c, .slice B m d] w (Pure w (.bool (L == M))) := by
  unfold maxLen at hn2
  by_cases hnm : n = m
  · subst hnm
    have HN := Lib.hid hn
    have HM := Lib.hid hm
    clear hn hm
    go_enter Try.func36, Try.ntmps36
    go_wp2
    go_loopw [13] (fun i wr => ∃ k : Nat, i = .int .i64 k ∧ k ≤ n ∧ Below w.heap.size w wr ∧ Hid (∀ j, j < k → L[j]? = M[j]?)) (fun i _ => n - (intOf i).toNat)
    case atStart => exact ⟨0, rfl, by omega, Below.refl _ _, fun j hj => by omega⟩
    case round =>
      obtain ⟨k, rfl, hk, hb, HE⟩ := hrel
      by_cases hlt : k < n
      · have hkL : L[k]? = some (L[k]'(by rw [HN.out]; exact hlt)) := List.getElem?_eq_getElem _
        have hkM : M[k]? = some (M[k]'(by rw [HM.out]; exact hlt)) := List.getElem?_eq_getElem _
        generalize L[k]'(by rw [HN.out]; exact hlt) = p at *
        generalize M[k]'(by rw [HM.out]; exact hlt) = q at *
        obtain ⟨b, o, e1, hL1⟩ := hA k _ (nums_get hkL)
        obtain ⟨b', o', e2, hM1⟩ := hB k _ (nums_get hkM)
        subst e1 e2
        have hL := (hL1.keep hb).append (hM1.keep hb)
        simp only [Nat.mul_one] at hL
        have HkL := Lib.hid hkL
        have HkM := Lib.hid hkM
        clear hkL hkM
        by_cases hpq : p = q
        · subst hpq
          have HE' : Hid (∀ j, j < k + 1 → L[j]? = M[j]?) := fun j hj => by
            by_cases e : j = k
            · subst e
              rw [HkL.out, HkM.out]
            · exact HE.out j (by omega)
          go_wp2
          refine wp_region_calm _ hL (by kernel_rfl) (by kernel_rfl) (fun hS => ?_)
          simp only [elemL, List.cons_append, List.nil_append, Holds.cons, Holds.nil, and_true, Nat.add_zero] at hS
          repeat (go_big_quiet_step ((fail)))
          refine wpQuiet_nil ?_
          clear hS
          intro w1 hb1 hS1
          simp only [elemL, List.cons_append, List.nil_append, Holds.cons, Holds.nil, and_true, Nat.add_zero] at hS1
          go_wp2
          go_roundw
          case rel => exact ⟨k + 1, by go_num, by omega, below_on hb hb1, HE'⟩
          case measure => simp [intOf]; omega
        · have hne : Hid ((L == M) = false) := by
            have : L ≠ M := list_ne_at HkL.out HkM.out hpq
            show (L == M) = false
            simpa using this
          have hb0 : (p == q) = false := by simpa using hpq
          have hb2 : (p != q) = true := by simpa using hpq
          go_wp2
          refine wp_region_calm _ hL (by kernel_rfl) (by kernel_rfl) (fun hS => ?_)
          simp only [elemL, List.cons_append, List.nil_append, Holds.cons, Holds.nil, and_true, Nat.add_zero] at hS
          repeat (go_big_quiet_step ((fail)))
          refine wpQuiet_nil ?_
          clear hS
          intro w1 hb1 hS1
          simp only [elemL, List.cons_append, List.nil_append, Holds.cons, Holds.nil, and_true, Nat.add_zero] at hS1
          go_wp2
          go_ret
          exact ⟨ret_bool hne.out.symm, below_on hb hb1⟩
      · obtain rfl : k = n := by omega
        have heq : Hid ((L == M) = true) := by
          show (L == M) = true
          rw [beq_iff_eq]
          exact list_eq_upto HN.out HM.out HE.out
        go_wp2
        go_ret
        exact ⟨ret_bool heq.out.symm, hb⟩
  · have hne : Hid ((L == M) = false) := by
      have : L ≠ M := fun e => hnm (by rw [← hn, ← hm, e])
      show (L == M) = false
      simpa using this
    have hd : ((n : Int) == (m : Int)) = false := by simp; omega
    have hd' : ((n : Int) != (m : Int)) = true := by simp; omega
    clear hn hm
    go_enter Try.func36, Try.ntmps36
    go_wp2
    go_ret
    exact ⟨ret_bool hne.out.symm, Below.refl _ _⟩
end Go.Proofs.Ytnbokpfkcfhgbaa
