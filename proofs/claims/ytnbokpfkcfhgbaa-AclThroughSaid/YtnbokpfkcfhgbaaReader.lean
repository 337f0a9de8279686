/- Walks of be's Reader: New, Left, Bad, Num, U8, U16, U32, Take, Rest. -/
import Derived.Test.YtnbokpfkcfhgbaaBe
import Derived.WalkSmall
namespace Go.Proofs.Ytnbokpfkcfhgbaa
open Go Go.RowKit
attribute [local go_sem ↓] Go.wp_at_zero Go.wp_at_succ

/-- A reader in block g: of the bytes of a slice, at this place; bad or not. -/
def Rd (w : World) (g : Nat) (A : Option Addr) (n c : Nat) (at_ : Int) (bad : Bool) : Prop := Blk w g 119 #[.slice A n c, .int .i64 at_, .bool bad]
def RdPost (w : World) (g : Nat) (A : Option Addr) (n c : Nat) (at_ : Int) (bad : Bool) (v : Value) (e : Ending) (w' : World) : Prop :=
  e = .returned v ∧ Rd w' g A n c at_ bad ∧ w.grownBy w' (some g)
theorem Rd.cells {w : World} {g : Nat} {A : Option Addr} {n c : Nat} {at_ : Int} {bad : Bool} (h : Rd w g A n c at_ bad) :
    w.cell? ⟨g, 0, none⟩ = some (.slice A n c) ∧ w.cell? ⟨g, 1, none⟩ = some (.int .i64 at_) ∧ w.cell? ⟨g, 2, none⟩ = some (.bool bad) :=
  ⟨Blk.cell h 0, Blk.cell h 1, Blk.cell h 2⟩
theorem Rd.marks {w : World} {g : Nat} {A : Option Addr} {n c : Nat} {at_ : Int} {bad : Bool} (h : Rd w g A n c at_ bad) :
    w.frozen? ⟨g, 0, none⟩ = false ∧ w.frozen? ⟨g, 1, none⟩ = false ∧ w.frozen? ⟨g, 2, none⟩ = false := ⟨Blk.frozen h 0, Blk.frozen h 1, Blk.frozen h 2⟩
theorem Rd.setAt {w : World} {g : Nat} {A : Option Addr} {n c : Nat} {at_ : Int} {bad : Bool} (h : Rd w g A n c at_ bad) (x : Int) : Rd (w.setCell ⟨g, 1, none⟩ (.int .i64 x)) g A n c x bad := Blk.set_ h 1 _
theorem Rd.setBad {w : World} {g : Nat} {A : Option Addr} {n c : Nat} {at_ : Int} {bad : Bool} (h : Rd w g A n c at_ bad) (x : Bool) : Rd (w.setCell ⟨g, 2, none⟩ (.bool x)) g A n c at_ x := Blk.set_ h 2 _
theorem only_set {a w : World} {g : Nat} (h : a.grownBy w (some g)) (i : Nat) (u : Value) : a.grownBy (w.setCell ⟨g, i, none⟩ u) (some g) :=
  ⟨h.os, h.tape, h.output, by simpa [World.setCell] using h.size, fun k hk hne => (Below.heap_setCell w ⟨g, i, none⟩ u k (fun e => hne (by rw [e]))).trans (h.block k hk hne)⟩
theorem only_below {a w w' : World} {row : Option Nat} (h : a.grownBy w row) (hb : Below w.heap.size w w') : a.grownBy w' row :=
  ⟨hb.os.trans h.os, hb.tape.trans h.tape, hb.output.trans h.output, Nat.le_trans h.size hb.size, fun k hk hne => (hb.block k (Nat.lt_of_lt_of_le hk h.size)).trans (h.block k hk hne)⟩
theorem below_only {w w' : World} (h : Below w.heap.size w w') (row : Option Nat) : w.grownBy w' row := ⟨h.os, h.tape, h.output, h.size, fun k hk _ => h.block k hk⟩
theorem only_trans {a b c : World} {row : Option Nat} (h : a.grownBy b row) (k : b.grownBy c row) : a.grownBy c row :=
  ⟨k.os.trans h.os, k.tape.trans h.tape, k.output.trans h.output, Nat.le_trans h.size k.size, fun i hi hne => (k.block i (Nat.lt_of_lt_of_le hi h.size) hne).trans (h.block i hi hne)⟩

set_option maxHeartbeats 400000 in
theorem New_any (A : Option Addr) (n c : Nat) (w : World) :
    Calls Try.prog 26 #[.slice A n c] w fun e w' => e = .returned (.pointer (some ⟨w.heap.size, 0, none⟩)) ∧ w' = w.alloc (.cells #[.slice A n c, .int .i64 0, .bool false] 119) := by
  go_enter Try.func26, Try.ntmps26
  go_wp2
  go_ret
  exact ⟨rfl, rfl⟩

set_option maxHeartbeats 400000 in
theorem Bad_any (g : Nat) (A : Option Addr) (n c : Nat) (at_ : Int) (bad : Bool) (w : World) (h : Rd w g A n c at_ bad) :
    Calls Try.prog 29 #[.pointer (some ⟨g, 0, none⟩)] w fun e w' => e = .returned (.bool bad) ∧ w = w' := by
  obtain ⟨c0, c1, c2⟩ := h.cells
  go_enter Try.func29, Try.ntmps29
  go_wp2
  go_ret
  exact ⟨rfl, rfl⟩

set_option maxHeartbeats 400000 in
theorem Left_any (g : Nat) (A : Option Addr) (n c : Nat) (at_ : Int) (bad : Bool) (w : World) (h : Rd w g A n c at_ bad) (h0 : 0 ≤ at_) (h1 : at_ ≤ n) (hn : n ≤ 1000000000000) :
    Calls Try.prog 28 #[.pointer (some ⟨g, 0, none⟩)] w (Pure w (.int .i64 ((n : Int) - at_))) := by
  have hh := Blk.holds h
  have hw : IntKind.i64.wrap ((n : Int) - at_) = (n : Int) - at_ := IntWalk.i64_in _ (by omega)
  go_enter Try.func28, Try.ntmps28
  go_wp2
  refine wp_region_calm _ hh (by kernel_rfl) (by kernel_rfl) (fun hS => ?_)
  simp only [elemL, List.cons_append, List.nil_append, Holds.cons, Holds.nil, and_true, Nat.add_zero] at hS
  repeat (go_big_quiet_step ((fail)))
  refine wpQuiet_nil ?_
  clear hS
  intro w1 hb1 hS1
  simp only [elemL, List.cons_append, List.nil_append, Holds.cons, Holds.nil, and_true, Nat.add_zero] at hS1
  go_wp2
  go_ret
  exact ⟨rfl, hb1⟩

/-- What Num answers, and the place and the mark behind it. -/
def rdNum (L : List Int) (at_ : Nat) (bad : Bool) (size : Int) : Int × Nat × Bool :=
  if size < 1 ∨ 8 < size ∨ bad = true ∨ (L.length : Int) - at_ < size then (0, at_, true) else (numL ((L.drop at_).take size.toNat), at_ + size.toNat, false)

set_option maxRecDepth 100000 in
set_option maxHeartbeats 2000000 in
theorem Num_any (g : Nat) (A : Option Addr) (n c at_ : Nat) (bad : Bool) (L : List Int) (size : Int) (w : World) (h : Rd w g A n c at_ bad) (h1 : at_ ≤ n) (hn : n ≤ 1000000000000) (hc : n ≤ c)
    (hL : L.length = n) (hB : IsB L) (hA : Elems w A 1 (nums .u8 L)) :
    Calls Try.prog 27 #[.pointer (some ⟨g, 0, none⟩), .int .i64 size] w (RdPost w g A n c (rdNum L at_ bad size).2.1 (rdNum L at_ bad size).2.2 (.int .u64 (rdNum L at_ bad size).1)) := by
  obtain ⟨c0, c1, c2⟩ := h.cells
  obtain ⟨m0, m1, m2⟩ := h.marks
  by_cases hs1 : size < 1
  · have e : rdNum L at_ bad size = (0, at_, true) := if_pos (.inl hs1)
    rw [e]
    clear e
    go_enter Try.func27, Try.ntmps27
    go_wp2_with fail
    go_ret
    exact ⟨rfl, h.setBad true, only_set (World.grownBy.refl _ _) 2 _⟩
  have d1 : decide (size < 1) = false := by simpa using hs1
  by_cases hs8 : 8 < size
  · have e : rdNum L at_ bad size = (0, at_, true) := if_pos (.inr (.inl hs8))
    rw [e]
    clear e
    go_enter Try.func27, Try.ntmps27
    go_wp2_with fail
    go_ret
    exact ⟨rfl, h.setBad true, only_set (World.grownBy.refl _ _) 2 _⟩
  have d8 : decide (8 < size) = false := by simpa using hs8
  cases bad with
  | true =>
    have e : rdNum L at_ true size = (0, at_, true) := if_pos (.inr (.inr (.inl rfl)))
    rw [e]
    clear e
    go_enter Try.func27, Try.ntmps27
    go_wp2_with fail
    go_ret
    exact ⟨rfl, h.setBad true, only_set (World.grownBy.refl _ _) 2 _⟩
  | false =>
    have HLF := Lib.hid fun W (hW : Rd W g A n c at_ false) => Left_any g A n c at_ false W hW (by omega) (by omega) hn
    by_cases hlt : (n : Int) - at_ < size
    · have e : rdNum L at_ false size = (0, at_, true) := if_pos (.inr (.inr (.inr (by rw [hL]; exact hlt))))
      rw [e]
      clear e
      have HL := Lib.hid hL
      clear hL
      have dl : decide ((n : Int) - at_ < size) = true := by simpa using hlt
      go_enter Try.func27, Try.ntmps27
      go_wp2_with fail
      refine (HLF.out _ h).mono ?_
      rintro e w1 ⟨rfl, hb1⟩
      have hr1 : Rd w1 g A n c at_ false := Blk.keep h hb1
      obtain ⟨k0, k1, k2⟩ := hr1.cells
      obtain ⟨n0, n1, n2⟩ := hr1.marks
      clear c0 c1 c2 m0 m1 m2
      go_wp2_with fail
      go_ret
      exact ⟨rfl, hr1.setBad true, only_set (below_only hb1 _) 2 _⟩
    · have e : rdNum L at_ false size = (numL ((L.drop at_).take size.toNat), at_ + size.toNat, false) := if_neg (by rw [hL]; simp; omega)
      rw [e]
      clear e
      have HL := Lib.hid hL
      clear hL
      have dl : decide ((n : Int) - at_ < size) = false := by simpa using hlt
      obtain ⟨s, rfl⟩ : ∃ s : Nat, size = s := ⟨size.toNat, by omega⟩
      have hca : ¬ c = at_ := by omega
      have hs8' : s ≤ 8 := by omega
      have hats : at_ + s ≤ n := by omega
      obtain ⟨b, o, eA, -⟩ := hA at_ _ (nums_get (List.getElem?_eq_getElem (show at_ < L.length by rw [HL.out]; omega)))
      subst eA
      rw [show (s : Int).toNat = s from rfl]
      go_enter Try.func27, Try.ntmps27
      go_wp2_with fail
      refine (HLF.out _ h).mono ?_
      rintro e w1 ⟨rfl, hb1⟩
      have hr1 : Rd w1 g (some ⟨b, o, none⟩) n c at_ false := Blk.keep h hb1
      clear c0 c1 c2 m0 m1 m2
      go_wp2_with fail
      refine wp_region_calm _ (Blk.holds hr1) (by kernel_rfl) (by kernel_rfl) (fun hS => ?_)
      simp only [elemL, List.cons_append, List.nil_append, Holds.cons, Holds.nil, and_true, Nat.add_zero] at hS
      repeat (go_big_quiet_step ((fail)))
      refine wpQuiet_nil ?_
      clear hS
      intro w2 hb2 hS2
      simp only [elemL, List.cons_append, List.nil_append, Holds.cons, Holds.nil, and_true, Nat.add_zero] at hS2
      have hr2 : Rd w2 g (some ⟨b, o, none⟩) n c at_ false := Blk.keep hr1 hb2
      have hA2 := (hA.keep hb1).keep hb2
      clear hS2 hr1 HLF hlt
      have eas : at_ + s - at_ = s := by omega
      go_wp2_with fail
      go_loop [5, 45] (fun nv iv => ∃ k : Nat, k ≤ s ∧ iv = .int .i64 k ∧ nv = .int .u64 (numL ((L.drop at_).take k))) (fun _ iv => s - (intOf iv).toNat)
      case atStart => exact ⟨0, by omega, rfl, rfl⟩
      case round =>
        obtain ⟨k, hk, rfl, rfl⟩ := hrel
        by_cases hks : k < s
        · have hx : L[at_ + k]? = some (L[at_ + k]'(by rw [HL.out]; omega)) := List.getElem?_eq_getElem _
          generalize L[at_ + k]'(by rw [HL.out]; omega) = x at hx
          obtain ⟨b', o', eA, hh⟩ := hA2 (at_ + k) _ (nums_get hx)
          cases eA
          obtain ⟨x0, x1⟩ := hB.get hx
          simp only [elemL, Holds.cons, Holds.nil, and_true, Nat.mul_one] at hh
          rw [← Nat.add_assoc] at hh
          have hlk : ((L.drop at_).take k).length = k := by simp [HL.out]; omega
          obtain ⟨q0, q1⟩ := numL_range k _ hlk ((hB.drop at_).take k)
          rw [hlk] at q1
          have q2 : (256 : Int) ^ k ≤ 72057594037927936 := by
            have h1 : (256 : Nat) ^ k ≤ 256 ^ 7 := Nat.pow_le_pow_right (by omega) (by omega)
            have h2 : ((256 ^ k : Nat) : Int) ≤ ((256 ^ 7 : Nat) : Int) := by exact_mod_cast h1
            rw [Int.natCast_pow] at h2
            exact h2
          have hsn : Hid ((L.drop at_).take (k + 1) = (L.drop at_).take k ++ [x]) := by
            rw [List.take_add_one, List.getElem?_drop, hx]
            simp [Hid]
          have HX := Lib.hid hx
          clear hx hlk
          have hnx : Hid (numL ((L.drop at_).take (k + 1)) = 256 * numL ((L.drop at_).take k) + x) := by rw [hsn.out]; exact numL_snoc _ _
          generalize numL ((L.drop at_).take k) = m at *
          have hor := u64_join m x q0 (by omega) x0 x1
          have hwr : IntKind.u64.wrap (m * 256) = m * 256 := IntWalk.u64_in _ (by omega)
          have HOR := Lib.hid hor
          have HWR := Lib.hid hwr
          clear q2 hor hwr
          go_wp2_with fail
          go_round
          case rel => exact ⟨k + 1, by omega, by go_num, by rw [hnx.out, HWR.out, HOR.out]⟩
          case measure => simp [intOf]; omega
        · obtain rfl : k = s := by omega
          obtain ⟨k0, k1, k2⟩ := hr2.cells
          obtain ⟨n0, n1, n2⟩ := hr2.marks
          go_wp2_with fail
          go_ret
          exact ⟨rfl, hr2.setAt _, only_set (below_only (below_on hb1 hb2) _) 1 _⟩
end Go.Proofs.Ytnbokpfkcfhgbaa
