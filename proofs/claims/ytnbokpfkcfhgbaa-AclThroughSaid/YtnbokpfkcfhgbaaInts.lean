/- slices.Equal, Index, Contains of ints: walked once. -/
import Derived.Test.YtnbokpfkcfhgbaaRow
namespace Go.Proofs.Ytnbokpfkcfhgbaa
open Go Go.RowKit
attribute [local go_sem ↓] Go.wp_at_zero Go.wp_at_succ

/-- The cells of a list of numbers of one kind, an element each. -/
def nums (k : IntKind) (L : List Int) : List (List Value) := L.map fun x => [Value.int k x]
theorem nums_length (k : IntKind) (L : List Int) : (nums k L).length = L.length := by simp [nums]
theorem nums_get {k : IntKind} {L : List Int} {i : Nat} {x : Int} (h : L[i]? = some x) : (nums k L)[i]? = some [Value.int k x] := by simp [nums, h]
theorem nums_flat (k : IntKind) (L : List Int) : (nums k L).flatten = L.map (Value.int k) := by
  induction L with
  | nil => rfl
  | cons x L ih => simpa [nums] using ih
theorem nums_one (k : IntKind) (L : List Int) : ∀ l ∈ nums k L, l.length = 1 := by
  intro l hl
  obtain ⟨x, _, rfl⟩ := List.mem_map.1 hl
  rfl
theorem ei_int : ElemInfo Try.prog 46 3 (.int .i64 0) 1 8 := elemInfo_mk Try.underlying46 (by kernel_rfl) rfl (by omega)

theorem list_ne_at {α : Type} {L M : List α} {k : Nat} {x y : α} (h1 : L[k]? = some x) (h2 : M[k]? = some y) (h : x ≠ y) : L ≠ M := fun e => by
  subst e
  rw [h1] at h2
  exact h (Option.some.inj h2)
theorem list_eq_upto {α : Type} {L M : List α} {n : Nat} (hL : L.length = n) (hM : M.length = n) (h : ∀ j, j < n → L[j]? = M[j]?) : L = M := by
  apply List.ext_getElem?
  intro i
  by_cases hi : i < n
  · exact h i hi
  · rw [List.getElem?_eq_none (by omega), List.getElem?_eq_none (by omega)]

/-- A new slice of just these numbers. -/
def NewNums (k : IntKind) (w : World) (L : List Int) (e : Ending) (w' : World) : Prop :=
  ∃ A c, e = .returned (.slice A L.length c) ∧ L.length ≤ maxLen ∧ Elems w' A 1 (nums k L) ∧ Below w.heap.size w w'
theorem newNums_mk {k : IntKind} {t : TypeId} {w wa : World} {v : Value} {n : Nat} {L L' : List Int} (hown : wa.ownsRow w.heap.size t 1 v n (L.map (Value.int k))) (hn : L.length = n) (hm : n ≤ maxLen) (hb : Below w.heap.size w wa) (he : L = L') :
    NewNums k w L' (.returned v) wa := by
  subst he
  rw [← nums_flat] at hown
  obtain ⟨A, c, rfl, _, _, hE⟩ := own_elems hown (nums_one k L) (by rw [nums_length]; exact hn)
  subst hn
  exact ⟨A, c, rfl, hm, hE, hb⟩

set_option maxHeartbeats 1000000 in
theorem eqInt_any (A B : Option Addr) (n m c d : Nat) (L M : List Int) (w : World) (hn : L.length = n) (hm : M.length = m) (hn2 : n ≤ maxLen) (hA : Elems w A 1 (nums .i64 L)) (hB : Elems w B 1 (nums .i64 M)) :
    Calls Try.prog 48 #[.slice A n c, .slice B m d] w (Pure w (.bool (L == M))) := by
  unfold maxLen at hn2
  by_cases hnm : n = m
  · subst hnm
    have HN := Lib.hid hn
    have HM := Lib.hid hm
    clear hn hm
    go_enter Try.func48, Try.ntmps48
    go_wp2
    go_loopw [13] (fun i wr => ∃ k : Nat, i = .int .i64 k ∧ k ≤ n ∧ Below w.heap.size w wr ∧ Hid (∀ j, j < k → L[j]? = M[j]?)) (fun i _ => n - (intOf i).toNat)
    case atStart => exact ⟨0, rfl, by omega, Below.refl _ _, fun j hj => by omega⟩
    case round =>
      obtain ⟨k, rfl, hk, hb, HE⟩ := hrel
      by_cases hlt : k < n
      · have hkL : L[k]? = some (L[k]'(by rw [HN.out]; exact hlt)) := List.getElem?_eq_getElem _
        have hkM : M[k]? = some (M[k]'(by rw [HM.out]; exact hlt)) := List.getElem?_eq_getElem _
        generalize L[k]'(by rw [HN.out]; exact hlt) = p at *
        generalize M[k]'(by rw [HM.out]; exact hlt) = q at *
        obtain ⟨b, o, e1, hL1⟩ := hA k _ (nums_get hkL)
        obtain ⟨b', o', e2, hM1⟩ := hB k _ (nums_get hkM)
        subst e1 e2
        have hL := (hL1.keep hb).append (hM1.keep hb)
        simp only [Nat.mul_one] at hL
        have HkL := Lib.hid hkL
        have HkM := Lib.hid hkM
        clear hkL hkM
        by_cases hpq : p = q
        · subst hpq
          have HE' : Hid (∀ j, j < k + 1 → L[j]? = M[j]?) := fun j hj => by
            by_cases e : j = k
            · subst e
              rw [HkL.out, HkM.out]
            · exact HE.out j (by omega)
          go_wp2
          refine wp_region_calm _ hL (by kernel_rfl) (by kernel_rfl) (fun hS => ?_)
          simp only [elemL, List.cons_append, List.nil_append, Holds.cons, Holds.nil, and_true, Nat.add_zero] at hS
          repeat (go_big_quiet_step ((fail)))
          refine wpQuiet_nil ?_
          clear hS
          intro w1 hb1 hS1
          simp only [elemL, List.cons_append, List.nil_append, Holds.cons, Holds.nil, and_true, Nat.add_zero] at hS1
          go_wp2
          go_roundw
          case rel => exact ⟨k + 1, by go_num, by omega, below_on hb hb1, HE'⟩
          case measure => simp [intOf]; omega
        · have hne : Hid ((L == M) = false) := by
            have : L ≠ M := list_ne_at HkL.out HkM.out hpq
            show (L == M) = false
            simpa using this
          have hb0 : (p == q) = false := by simpa using hpq
          have hb2 : (p != q) = true := by simpa using hpq
          go_wp2
          refine wp_region_calm _ hL (by kernel_rfl) (by kernel_rfl) (fun hS => ?_)
          simp only [elemL, List.cons_append, List.nil_append, Holds.cons, Holds.nil, and_true, Nat.add_zero] at hS
          repeat (go_big_quiet_step ((fail)))
          refine wpQuiet_nil ?_
          clear hS
          intro w1 hb1 hS1
          simp only [elemL, List.cons_append, List.nil_append, Holds.cons, Holds.nil, and_true, Nat.add_zero] at hS1
          go_wp2
          go_ret
          exact ⟨ret_bool hne.out.symm, below_on hb hb1⟩
      · obtain rfl : k = n := by omega
        have heq : Hid ((L == M) = true) := by
          show (L == M) = true
          rw [beq_iff_eq]
          exact list_eq_upto HN.out HM.out HE.out
        go_wp2
        go_ret
        exact ⟨ret_bool heq.out.symm, hb⟩
  · have hne : Hid ((L == M) = false) := by
      have : L ≠ M := fun e => hnm (by rw [← hn, ← hm, e])
      show (L == M) = false
      simpa using this
    have hd : ((n : Int) == (m : Int)) = false := by simp; omega
    have hd' : ((n : Int) != (m : Int)) = true := by simp; omega
    clear hn hm
    go_enter Try.func48, Try.ntmps48
    go_wp2
    go_ret
    exact ⟨ret_bool hne.out.symm, Below.refl _ _⟩

set_option maxHeartbeats 1000000 in
theorem idxInt_any (A : Option Addr) (n c : Nat) (L : List Int) (x : Int) (w : World) (hn : L.length = n) (hn2 : n ≤ maxLen) (hA : Elems w A 1 (nums .i64 L)) :
    Calls Try.prog 81 #[.slice A n c, .int .i64 x] w (Pure w (.int .i64 (firstI (fun y => x == y) L))) := by
  unfold maxLen at hn2
  have HN := Lib.hid hn
  clear hn
  go_enter Try.func81, Try.ntmps81
  go_wp2
  go_loopw [8] (fun i wr => ∃ k : Nat, i = .int .i64 k ∧ k ≤ n ∧ w = wr ∧ Hid (∀ j, j < k → ∀ y, L[j]? = some y → (x == y) = false)) (fun i _ => n - (intOf i).toNat)
  case atStart => exact ⟨0, rfl, by omega, rfl, fun j hj => by omega⟩
  case round =>
    obtain ⟨k, rfl, hk, rfl, HE⟩ := hrel
    by_cases hlt : k < n
    · have hlt' : k < L.length := by rw [HN.out]; exact hlt
      have hkL : L[k]? = some L[k] := List.getElem?_eq_getElem hlt'
      have HFk := firstI_at (h := fun y => x == y) hlt' (fun j hj y hy => HE.out j hj y hy)
      generalize L[k] = p at *
      obtain ⟨b, o, e1, hL⟩ := hA k _ (nums_get hkL)
      subst e1
      simp only [Nat.mul_one, elemL, Holds.cons, Holds.nil, and_true] at hL
      have HkL := Lib.hid hkL
      clear hkL
      by_cases hxp : x = p
      · subst hxp
        have hfin : Hid (firstI (fun y => x == y) L = k) := HFk (by simp)
        clear HFk
        go_wp2
        go_ret
        exact ⟨ret_int hfin.out.symm, Below.refl _ _⟩
      · have hb0 : (x == p) = false := by simpa using hxp
        have HE' : Hid (∀ j, j < k + 1 → ∀ y, L[j]? = some y → (x == y) = false) := fun j hj y hy => by
          by_cases e : j = k
          · subst e
            rw [HkL.out] at hy
            cases hy
            exact hb0
          · exact HE.out j (by omega) y hy
        clear HFk
        go_wp2
        go_roundw
        case rel => exact ⟨k + 1, by go_num, by omega, trivial, HE'⟩
        case measure => simp [intOf]; omega
    · obtain rfl : k = n := by omega
      have hfin : Hid (firstI (fun y => x == y) L = -1) := firstI_none (fun j y hy => HE.out j (by have := (List.getElem?_eq_some_iff.1 hy).1; have := HN.out; omega) y hy)
      go_wp2
      go_ret
      exact ⟨ret_int hfin.out.symm, Below.refl _ _⟩

theorem firstI_any {α : Type} (h : α → Bool) (l : List α) : decide (0 ≤ firstI h l) = l.any h := by
  rcases firstI_cases h l with e | ⟨k, hk, e, ht⟩
  · rw [e]
    have : l.any h = false := by
      rw [List.any_eq_false]
      intro x hx
      obtain ⟨j, hj, rfl⟩ := List.mem_iff_getElem.1 hx
      unfold firstI at e
      cases e2 : l.findIdx? h with
      | none => simpa using List.findIdx?_eq_none_iff.1 e2 _ (List.getElem_mem hj)
      | some i => rw [e2] at e; simp only at e; omega
    simp [this]
  · rw [e]
    have : l.any h = true := by
      rw [List.any_eq_true]
      exact ⟨l[k], List.getElem_mem hk, ht⟩
    simp [this]

set_option maxHeartbeats 1000000 in
theorem containsInt_any (A : Option Addr) (n c : Nat) (L : List Int) (x : Int) (w : World) (hn : L.length = n) (hn2 : n ≤ maxLen) (hA : Elems w A 1 (nums .i64 L)) :
    Calls Try.prog 50 #[.slice A n c, .int .i64 x] w (Pure w (.bool (L.any fun y => x == y))) := by
  have h := idxInt_any A n c L x w hn hn2 hA
  rw [← firstI_any]
  generalize firstI (fun y => x == y) L = i at *
  have H := Lib.hid h
  clear h hn hA
  go_enter Try.func50, Try.ntmps50
  go_wp2_with fail
  refine H.out.mono ?_
  rintro e w1 ⟨rfl, hb1⟩
  go_wp2_with fail
  go_ret
  exact ⟨rfl, hb1⟩
end Go.Proofs.Ytnbokpfkcfhgbaa
