/- Walks of package sum: Add from nothing, Value, Of, Right. -/
import Derived.Test.YtnbokpfkcfhgbaaSumLaw
import Derived.Test.YtnbokpfkcfhgbaaBeBack
namespace Go.Proofs.Ytnbokpfkcfhgbaa
open Go Go.RowKit
attribute [local go_sem ↓] Go.wp_at_zero Go.wp_at_succ

theorem blk_other {w : World} {g : Nat} {t : TypeId} {cs : Array Value} (h : Blk w g t cs) {b : Nat} (hb : g ≠ b) (i : Nat) (u : Value) : Blk (w.setCell ⟨b, i, none⟩ u) g t cs :=
  (Below.heap_setCell w ⟨b, i, none⟩ u g (fun e => hb (by simp only at e; omega))).trans h

theorem u32_low {x : Int} (h₀ : 0 ≤ x) (h₁ : x < 4294967296) : bits .and .u32 x 65535 = x % 65536 := bits_mask .u32 32 (by decide) (fun n q0 q1 => IntWalk.u32_in _ (by omega)) 16 (by decide) x h₀ h₁

set_option maxRecDepth 100000 in
set_option maxHeartbeats 2000000 in
theorem sumAdd_any (A : Option Addr) (n c : Nat) (L : List Int) (w : World) (hs : BSl w w.heap.size A n c L) :
    Calls Try.prog 105 #[.agg #[.int .u32 0, .bool false], .slice A n c] w (Pure w (.agg #[.int .u32 (norm (sumP L n)), .bool (decide (n % 2 = 1))])) := by
  have hn := hs.len
  have isb := hs.isb
  have hA := hs.els
  have hsm := hs.small
  go_enter Try.func105, Try.ntmps105
  go_wp2_with fail
  go_loopw [9] (fun iv wr => ∃ i : Nat, iv = .int .i64 i ∧ i ≤ n ∧ Blk wr w.heap.size 163 #[.int .u32 (norm (sumP L i)), .bool (decide (i % 2 = 1))] ∧ Blk wr (w.heap.size + 1) 163 #[.int .u32 0, .bool false] ∧ Below w.heap.size w wr) (fun iv _ => n - (intOf iv).toNat)
  case atStart =>
    refine ⟨0, rfl, by omega, ?_, ?_, ?_⟩
    · exact Blk.keep (Blk.new w 163 #[.int .u32 0, .bool false]) ((Below.refl _ _).alloc (Nat.le_refl _) _)
    · have := Blk.new (w.alloc (.cells #[.int .u32 0, .bool false] 163)) 163 #[.int .u32 0, .bool false]
      rwa [show (w.alloc (.cells #[.int .u32 0, .bool false] 163)).heap.size = w.heap.size + 1 by simp] at this
    · exact ((Below.refl _ _).alloc (Nat.le_refl _) _).alloc (by simp) _
  case round =>
    obtain ⟨i, rfl, hi, hb0, hb1, hb⟩ := hrel
    have c0 := hb0.cell 0
    have c1 := hb0.cell 1
    have m0 := hb0.frozen 0
    have m1 := hb0.frozen 1
    have hr := sumP_range isb i
    have hnr := norm_range hr.1
    by_cases him : i < n
    · have hx : L[i]? = some (L.getD i 0) := by rw [List.getD_eq_getElem?_getD, List.getElem?_eq_getElem (by omega)]; rfl
      have hxr := isB_at isb i
      obtain ⟨b, o, eA, hh⟩ := hA i _ (nums_get hx)
      subst eA
      have hhr := hh.keep hb
      simp only [elemL, Holds.cons, Holds.nil, and_true, Nat.mul_one] at hhr
      generalize hxx : L.getD i 0 = x at *
      by_cases hod : i % 2 = 1
      · have d : decide (i % 2 = 1) = true := by simpa using hod
        have hS : sumP L (i + 1) = sumP L i + x := by simp only [sumP, hod, if_true, hxx]
        have hst := norm_step (x := x) hr.1 (by omega) (by omega)
        rw [← hS] at hst
        rw [d] at c1
        have hlow := u32_low (x := norm (sumP L i) + x) (by omega) (by omega)
        have hval : ((norm (sumP L i) + x) / 65536 + bits BinOp.and IntKind.u32 (norm (sumP L i) + x) 65535) % 4294967296 = norm (sumP L (i + 1)) := by
          rw [hlow, hst]
          have := norm_range (sumP_range isb (i + 1)).1
          omega
        have d' : decide ((i + 1) % 2 = 1) = false := by simp; omega
        have HV := Lib.hid hval
        generalize norm (sumP L i) = s at *
        clear hr hS hst hlow hval
        go_wp2_with fail
        go_roundw
        case rel =>
          rw [HV.out]
          refine ⟨i + 1, by go_num, by omega, ?_, blk_other (blk_other (blk_other hb1 (by omega) 0 _) (by omega) 1 _) (by omega) 0 _, ((hb.setCell (p := ⟨w.heap.size, 0, none⟩) (Nat.le_refl _) _).setCell (p := ⟨w.heap.size, 1, none⟩) (Nat.le_refl _) _).setCell (p := ⟨w.heap.size, 0, none⟩) (Nat.le_refl _) _⟩
          rw [d']
          exact ((hb0.set_ 0 _).set_ 1 _).set_ 0 _
        case measure => simp [intOf]; omega
      · have d : decide (i % 2 = 1) = false := by simpa using hod
        have hS : sumP L (i + 1) = sumP L i + x * 256 := by simp only [sumP, hod, if_false, hxx]; omega
        have hst := norm_step (x := (x * 256)) hr.1 (by omega) (by omega)
        rw [← hS] at hst
        rw [d] at c1
        have hlow := u32_low (x := norm (sumP L i) + (x * 256)) (by omega) (by omega)
        have hval : ((norm (sumP L i) + (x * 256)) / 65536 + bits BinOp.and IntKind.u32 (norm (sumP L i) + (x * 256)) 65535) % 4294967296 = norm (sumP L (i + 1)) := by
          rw [hlow, hst]
          have := norm_range (sumP_range isb (i + 1)).1
          omega
        have d' : decide ((i + 1) % 2 = 1) = true := by simp; omega
        have HV := Lib.hid hval
        generalize norm (sumP L i) = s at *
        clear hr hS hst hlow hval
        go_wp2_with fail
        go_roundw
        case rel =>
          rw [HV.out]
          refine ⟨i + 1, by go_num, by omega, ?_, blk_other (blk_other (blk_other hb1 (by omega) 0 _) (by omega) 1 _) (by omega) 0 _, ((hb.setCell (p := ⟨w.heap.size, 0, none⟩) (Nat.le_refl _) _).setCell (p := ⟨w.heap.size, 1, none⟩) (Nat.le_refl _) _).setCell (p := ⟨w.heap.size, 0, none⟩) (Nat.le_refl _) _⟩
          rw [d']
          exact ((hb0.set_ 0 _).set_ 1 _).set_ 0 _
        case measure => simp [intOf]; omega
    · obtain rfl : i = n := by omega
      obtain ⟨q0, q1⟩ : wr.cell? ⟨w.heap.size + 1, 0, none⟩ = some (.int .u32 0) ∧ wr.cell? ⟨w.heap.size + 1, 1, none⟩ = some (.bool false) := ⟨hb1.cell 0, hb1.cell 1⟩
      have k0 := hb1.frozen 0
      have k1 := hb1.frozen 1
      go_wp2_with fail
      refine bodyPost_ret (v := .agg #[.int .u32 (norm (sumP L i)), .bool (decide (i % 2 = 1))]) (by simp [results, Try.results105, go_sem, *]) rfl ?_
      exact ⟨rfl, (hb.setCell (p := ⟨w.heap.size + 1, 0, none⟩) (by simp) _).setCell (p := ⟨w.heap.size + 1, 1, none⟩) (by simp) _⟩

theorem u16_not {x : Int} (h₀ : 0 ≤ x) (h₁ : x ≤ 65535) : bits .xor .u16 IntKind.u16.max x = 65535 - x := by
  obtain ⟨k, rfl⟩ : ∃ k : Nat, x = k := ⟨x.toNat, by omega⟩
  have e : IntKind.u16.max = 65535 := by decide
  rw [e, u16_xor _ _ (by omega) (by omega) (by omega) (by omega)]
  have h2 : (65535 ^^^ k : Nat) = 65535 - k := by
    have h1 : (BitVec.allOnes 16 ^^^ BitVec.ofNat 16 k) = ~~~ (BitVec.ofNat 16 k) := BitVec.allOnes_xor
    have h2 := congrArg BitVec.toNat h1
    rw [BitVec.toNat_xor, BitVec.toNat_not, BitVec.toNat_ofNat, BitVec.toNat_allOnes, Nat.mod_eq_of_lt (by omega)] at h2
    simpa using h2
  have h3 : ((65535 : Int).toNat ^^^ ((k : Int)).toNat : Nat) = 65535 - k := h2
  rw [h3]
  omega

set_option maxHeartbeats 1000000 in
theorem sumValue_any (n : Int) (odd : Bool) (w : World) (h0 : 0 ≤ n) (h1 : n ≤ 65535) :
    Calls Try.prog 106 #[.agg #[.int .u32 n, .bool odd]] w (Pure w (.int .u16 (65535 - n))) := by
  have e1 := u32_low (x := n) h0 (by omega)
  have e2 : n / 65536 = 0 := by omega
  have e3 : n % 65536 = n := by omega
  go_enter Try.func106, Try.ntmps106
  have hnot := Lib.hid (u16_not h0 h1)
  have hsg : (IntKind.u16.signed = true) = False := by decide
  go_wp2_with fail
  go_ret
  exact ⟨ret_int hnot.out, (Below.refl _ _).alloc (Nat.le_refl _) _⟩

set_option maxHeartbeats 1000000 in
theorem sumOf_any (A : Option Addr) (n c : Nat) (L : List Int) (w : World) (hs : BSl w w.heap.size A n c L) :
    Calls Try.prog 104 #[.slice A n c] w (Pure w (.int .u16 (ckS L))) := by
  have hr := norm_range (sumP_range hs.isb n).1
  have HV := Lib.hid fun W => sumValue_any (norm (sumP L n)) (decide (n % 2 = 1)) W hr.1 hr.2
  have e : 65535 - norm (sumP L n) = ckS L := by unfold ckS; rw [hs.len]
  have E := Lib.hid e
  have HA := Lib.hid (sumAdd_any A n c L w hs)
  clear hs hr e
  go_enter Try.func104, Try.ntmps104
  go_wp2_with fail
  refine HA.out.mono ?_
  rintro e w1 ⟨rfl, hb1⟩
  go_wp2_with fail
  refine (HV.out _).mono ?_
  rintro e w2 ⟨rfl, hb2⟩
  go_wp2_with fail
  go_ret
  exact ⟨ret_int E.out, below_on hb1 hb2⟩

set_option maxHeartbeats 1000000 in
theorem sumRight_any (A : Option Addr) (n c : Nat) (L : List Int) (w : World) (hs : BSl w w.heap.size A n c L) :
    Calls Try.prog 100 #[.slice A n c] w (Pure w (.bool (ckS L == 0))) := by
  have HO := Lib.hid (sumOf_any A n c L w hs)
  clear hs
  go_enter Try.func100, Try.ntmps100
  go_wp2_with fail
  refine HO.out.mono ?_
  rintro e w1 ⟨rfl, hb1⟩
  go_wp2_with fail
  go_ret
  exact ⟨rfl, hb1⟩
end Go.Proofs.Ytnbokpfkcfhgbaa
