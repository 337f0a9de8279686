/- Walks of cidr.Cover, its reference and slices.Equal of prefixes. -/
import Derived.Test.YtnbokpfkcfhgbaaRow
import Derived.Test.YtnbokpfkcfhgbaaCoverLaw
import Derived.Test.YtnbokpfkcfhgbaaCidr
import Derived.Test.YtnbokpfkcfhgbaaCidrRef
namespace Go.Proofs.Ytnbokpfkcfhgbaa
open Go Go.RowKit
attribute [local go_sem ↓] Go.wp_at_zero Go.wp_at_succ

def pfx (p : Int × Int) : List Value := [.int .u32 p.1, .int .i64 p.2]
theorem ei_prefix : ElemInfo Try.prog 41 32 (.agg #[.int .u32 0, .int .i64 0]) 2 16 :=
  elemInfo_mk Try.underlying41 (by kernel_rfl) rfl (by omega)

theorem eqPfx (a b c d : Int) (w : World) : (Op.equalIn 10000 32 (.agg #[.int .u32 a, .int .i64 b]) (.agg #[.int .u32 c, .int .i64 d])).run Try.prog w = .ok (a == c && b == d) w := by
  have u1 := Try.underlying26
  have a1 := Try.isAgg26
  have z1 := Try.sizeOf26
  have u3 := Try.underlying3
  have a3 := Try.isAgg3
  have z3 := Try.sizeOf3
  have hS : Try.prog.underlying 32 = some (.struct (Try.prog.fieldsOf 32)) := by kernel_rfl
  have hp : Try.prog.stoodInHeld 32 = false := by kernel_rfl
  rw [show (10000 : Nat) = 9999 + 1 from rfl, run_equalIn_agg w 9999 32 _ _ hS hp]
  simp only [Program.fieldsOf, Try.underlying32]
  go_simp
  by_cases h1 : a = c <;> by_cases h2 : b = d <;> simp [h1, h2]
theorem guardPfx (op : BinOp) (x y : Operand) (xs ys : Array Value) (w : World) : (eqGuard op 32 x y (.agg xs) (.agg ys)).run Try.prog w = .ok () w :=
  run_eqGuard_agg w op _ x y xs ys (by kernel_rfl)
attribute [local go_sem] eqPfx guardPfx

set_option maxHeartbeats 1000000 in
theorem Of_any (a b : Int) (w : World) (h0 : 0 ≤ a) (h1 : a < 4294967296) (hb0 : 0 ≤ b) (hb1 : b ≤ 32) :
    Calls Try.prog 56 #[.int .u32 a, .int .i64 b] w (Pure w (.agg #[.int .u32 (a - a % sizeN b), .int .i64 b])) := by
  have e := and_mask a b h0 h1 hb0 hb1
  go_enter Try.func56, Try.ntmps56
  go_wp2_with fail
  refine (mask_any _ _).mono ?_
  rintro e w' ⟨rfl, rfl⟩
  go_wp2_with fail
  exact bodyPost_ret (v := .agg #[.int .u32 (a - a % sizeN b), .int .i64 b]) (by simp [results, Try.results56, go_sem]) rfl ⟨rfl, below_new (Below.refl _ _)⟩

theorem list_ne_of_get {α : Type} {L M : List α} {k : Nat} {x y : α} (h1 : L[k]? = some x) (h2 : M[k]? = some y) (h : x ≠ y) : L ≠ M := fun e => by
  subst e
  rw [h1] at h2
  exact h (Option.some.inj h2)

set_option maxHeartbeats 1000000 in
theorem eqPrefix_any (A B : Option Addr) (n m c d : Nat) (L M : List (Int × Int)) (w : World) (hn : L.length = n) (hm : M.length = m) (hn2 : n ≤ maxLen) (hA : Elems w A 2 (L.map pfx)) (hB : Elems w B 2 (M.map pfx)) :
    Calls Try.prog 21 #[.slice A n c, .slice B m d] w (Pure w (.bool (L == M))) := by
  unfold maxLen at hn2
  by_cases hnm : n = m
  · subst hnm
    have HN := Lib.hid hn
    have HM := Lib.hid hm
    clear hn hm
    go_enter Try.func21, Try.ntmps21
    go_wp2
    go_loopw [13] (fun i wr => ∃ k : Nat, i = .int .i64 k ∧ k ≤ n ∧ Below w.heap.size w wr ∧ Hid (∀ j, j < k → L[j]? = M[j]?)) (fun i _ => n - (intOf i).toNat)
    case atStart => exact ⟨0, rfl, by omega, Below.refl _ _, fun j hj => by omega⟩
    case round =>
      obtain ⟨k, rfl, hk, hb, HE⟩ := hrel
      by_cases hlt : k < n
      · have hkL : L[k]? = some (L[k]'(by rw [HN.out]; exact hlt)) := List.getElem?_eq_getElem _
        have hkM : M[k]? = some (M[k]'(by rw [HM.out]; exact hlt)) := List.getElem?_eq_getElem _
        generalize L[k]'(by rw [HN.out]; exact hlt) = p at *
        generalize M[k]'(by rw [HM.out]; exact hlt) = q at *
        obtain ⟨p1, p2⟩ := p
        obtain ⟨q1, q2⟩ := q
        obtain ⟨b, o, e1, hL1⟩ := hA k (pfx (p1, p2)) (by simp [hkL])
        obtain ⟨b', o', e2, hM1⟩ := hB k (pfx (q1, q2)) (by simp [hkM])
        subst e1 e2
        have hL := (hL1.keep hb).append (hM1.keep hb)
        simp only [pfx] at hL
        have HkL := Lib.hid hkL
        have HkM := Lib.hid hkM
        clear hkL hkM
        by_cases hp1 : p1 = q1
        · subst hp1
          by_cases hp2 : p2 = q2
          · subst hp2
            have HE' : Hid (∀ j, j < k + 1 → L[j]? = M[j]?) := fun j hj => by
              by_cases e : j = k
              · subst e
                rw [HkL.out, HkM.out]
              · exact HE.out j (by omega)
            go_wp2
            refine wp_region_calm _ hL (by kernel_rfl) (by kernel_rfl) (fun hS => ?_)
            simp only [elemL, List.cons_append, List.nil_append, Holds.cons, Holds.nil, and_true, Nat.add_zero] at hS
            repeat (go_big_quiet_step ((fail)))
            refine wpQuiet_nil ?_
            clear hS
            intro w1 hb1 hS1
            simp only [elemL, List.cons_append, List.nil_append, Holds.cons, Holds.nil, and_true, Nat.add_zero] at hS1
            go_wp2
            go_roundw
            case rel => exact ⟨k + 1, by go_num, by omega, below_on hb hb1, HE'⟩
            case measure => simp [intOf]; omega
          ·
            have hne : Hid ((L == M) = false) := by
              have : L ≠ M := list_ne_of_get HkL.out HkM.out (fun e => by simp at e; simp [e] at hp2)
              show (L == M) = false
              simpa using this
            go_wp2
            refine wp_region_calm _ hL (by kernel_rfl) (by kernel_rfl) (fun hS => ?_)
            simp only [elemL, List.cons_append, List.nil_append, Holds.cons, Holds.nil, and_true, Nat.add_zero] at hS
            repeat (go_big_quiet_step ((fail)))
            refine wpQuiet_nil ?_
            clear hS
            intro w1 hb1 hS1
            simp only [elemL, List.cons_append, List.nil_append, Holds.cons, Holds.nil, and_true, Nat.add_zero] at hS1
            go_wp2
            go_ret
            exact ⟨ret_bool hne.out.symm, below_on hb hb1⟩
        ·
          have hne : Hid ((L == M) = false) := by
            have : L ≠ M := list_ne_of_get HkL.out HkM.out (fun e => by simp at e; simp [e] at hp1)
            show (L == M) = false
            simpa using this
          go_wp2
          refine wp_region_calm _ hL (by kernel_rfl) (by kernel_rfl) (fun hS => ?_)
          simp only [elemL, List.cons_append, List.nil_append, Holds.cons, Holds.nil, and_true, Nat.add_zero] at hS
          repeat (go_big_quiet_step ((fail)))
          refine wpQuiet_nil ?_
          clear hS
          intro w1 hb1 hS1
          simp only [elemL, List.cons_append, List.nil_append, Holds.cons, Holds.nil, and_true, Nat.add_zero] at hS1
          go_wp2
          go_ret
          exact ⟨ret_bool hne.out.symm, below_on hb hb1⟩
      · obtain rfl : k = n := by omega
        have heq : Hid ((L == M) = true) := by
          show (L == M) = true
          rw [beq_iff_eq]
          apply List.ext_getElem?
          intro i
          by_cases hi : i < k
          · exact HE.out i hi
          · rw [List.getElem?_eq_none (by rw [HN.out]; omega), List.getElem?_eq_none (by rw [HM.out]; omega)]
        go_wp2
        go_ret
        exact ⟨ret_bool heq.out.symm, hb⟩
  · have hne : Hid ((L == M) = false) := by
      have : L ≠ M := fun e => hnm (by rw [← hn, ← hm, e])
      show (L == M) = false
      simpa using this
    have hd : ((n : Int) == (m : Int)) = false := by simp; omega
    have hd' : ((n : Int) != (m : Int)) = true := by simp; omega
    clear hn hm
    go_enter Try.func21, Try.ntmps21
    go_wp2
    go_ret
    exact ⟨ret_bool hne.out.symm, Below.refl _ _⟩
end Go.Proofs.Ytnbokpfkcfhgbaa
