/- BeReads: of any bytes and calls the law returns true, and its arguments read as before. No condition. -/
import Derived.Test.YtnbokpfkcfhgbaaBeStep
namespace Go.Proofs.Ytnbokpfkcfhgbaa
open Go Go.RowKit Go.ChangeShapes Go.WideShapes Go.ChangeAt Go.Deep
attribute [local go_sem ↓] Go.wp_at_zero Go.wp_at_succ

theorem refrd_of {w : World} {h B : Nat} {L : List Int} {bad : Bool} (r : RefRd w h B L bad) : ∃ A c, w.cell? ⟨h, 0, none⟩ = some (.slice A L.length c) ∧ w.cell? ⟨h, 1, none⟩ = some (.bool bad) := by
  obtain ⟨A, n, c, q, s⟩ := r
  have e := s.len
  subst e
  exact ⟨A, c, q.cell 0, q.cell 1⟩

set_option maxRecDepth 100000 in
set_option maxHeartbeats 8000000 in
theorem BeReads_walk (A A' : Option Addr) (n m c d : Nat) (L : List Int) (O : List (Int × Int)) (w : World) (hn : L.length = n) (hm : O.length = m) (hnc : n ≤ c) (hc : c ≤ maxLen)
    (hl : Elems w A 1 (nums .u8 L)) (hB : IsB L) (hs : Elems w A' 2 (O.map fun x => [.int .i64 x.1, .int .i64 x.2])) (hrs : ∀ x ∈ O, -9223372036854775808 ≤ x.1 ∧ x.1 ≤ 9223372036854775807) :
    Calls Try.prog 8 #[.slice A n c, .slice A' m d] w (Pure w (.bool true)) := by
  by_cases h1 : 1000 < n
  · clear hl hs hn hm hrs
    go_enter Try.func8, Try.ntmps8
    go_wp2_with fail
    go_ret
    exact ⟨rfl, Below.refl _ _⟩
  by_cases h2 : 50 < m
  · have d1 : decide ((1000 : Int) < (n : Int)) = false := by simp; omega
    clear hl hs hn hm hrs
    go_enter Try.func8, Try.ntmps8
    go_wp2_with fail
    go_ret
    exact ⟨rfl, Below.refl _ _⟩
  have d1 : decide ((1000 : Int) < (n : Int)) = false := by simp; omega
  have d2 : decide ((50 : Int) < (m : Int)) = false := by simp; omega
  have HN := Lib.hid hn
  have HM := Lib.hid hm
  clear hn hm
  go_enter Try.func8, Try.ntmps8
  go_wp2_with fail
  refine (cloneB_any A n c L _ HN.out (by omega) hl).mono ?_
  rintro e w1 ⟨v1, rfl, ho1, hb1⟩
  obtain ⟨A1, c1, e1, hc1, hcm1, hE1⟩ := own_read ho1
  rw [HN.out] at e1 hc1
  subst e1
  have hBin : InB A1 w1.heap.size := own_inB ho1
  have hw1 := hb1.size
  obtain ⟨g, hg⟩ : ∃ g, g = w1.heap.size := ⟨_, rfl⟩
  obtain ⟨W, hW⟩ : ∃ W, W = (w1.alloc (.cells #[.slice A1 n c1, .int .i64 0, .bool false] 119)).alloc (.cells #[.slice A n c, .bool false] 79) := ⟨_, rfl⟩
  have hbA : Below w.heap.size w W := by rw [hW]; exact (hb1.alloc hb1.size _).alloc (by simp; omega) _
  have hb12 : Below w1.heap.size w1 W := by rw [hW]; exact ((Below.refl _ _).alloc (Nat.le_refl _) _).alloc (by simp) _
  have hal : Alike W g (g + 1) g A1 n c1 L 0 false := by
    subst hg
    refine ⟨?_, by omega, BSl.keep ⟨HN.out, hc1, hcm1, hE1, .inr hBin, hB, by omega⟩ hb12, A, n, c, ?_, ?_⟩
    · rw [hW]; exact Blk.keep (Blk.new w1 _ _) ((Below.refl _ _).alloc (Nat.le_refl _) _)
    · have := Blk.new (w1.alloc (.cells #[.slice A1 n c1, .int .i64 0, .bool false] 119)) 79 #[.slice A n c, .bool false]
      rw [World.size_alloc, ← hW] at this
      exact this
    · exact ((BSl.arg HN.out hnc hc (by omega) hl hB).keep hbA).mono hw1
  have hgW : w.heap.size ≤ g := by rw [hg]; exact hw1
  have hGW : g + 2 ≤ W.heap.size := by rw [hW, hg]; simp
  have HW := Lib.hid hW
  have HG := Lib.hid hg
  clear hW hg hE1 hBin ho1 hb12 hw1 hl
  go_wp2_with fail
  refine (New_any _ _ _ _).mono ?_
  rintro e w2 ⟨rfl, rfl⟩
  go_wp2_with fail
  rw [← HG.out, ← HW.out]
  go_loopw [7] (fun iv wr => ∃ (i at_ : Nat) (bad : Bool), iv = .int .i64 i ∧ i ≤ m ∧ Alike wr g (g + 1) g A1 n c1 L at_ bad ∧ Below w.heap.size w wr ∧ g + 2 ≤ wr.heap.size) (fun iv _ => m - (intOf iv).toNat)
  case atStart => exact ⟨0, 0, false, rfl, by omega, hal, hbA, hGW⟩
  case round =>
    clear hal hbA hGW
    obtain ⟨i, at_, bad, rfl, hi, hal, hb, hGr⟩ := hrel
    by_cases him : i < m
    · have hox : O[i]? = some (O[i]'(by rw [HM.out]; exact him)) := List.getElem?_eq_getElem _
      generalize O[i]'(by rw [HM.out]; exact him) = x at hox
      obtain ⟨kind, N⟩ := x
      obtain ⟨k0, k1⟩ := hrs _ (List.mem_of_getElem? hox)
      obtain ⟨b, o, eA, hx⟩ := hs i [.int .i64 kind, .int .i64 N] (by rw [List.getElem?_map, hox]; rfl)
      subst eA
      simp only [elemL, Holds.cons, Holds.nil, and_true] at hx
      obtain ⟨hx1, hx2⟩ := hx
      have hbl : b < w.heap.size := lt_of_cell hx1
      have hx1' := (bcellB hb b (o + i * 2) hbl).trans hx1
      have hx2' := (bcellB hb b (o + i * 2 + 1) hbl).trans hx2
      clear hx1 hx2 hox
      have haD : Alike wr.drew g (g + 1) g A1 n c1 L at_ bad := hal.keep ((Below.refl _ _).drew) (by omega)
      have HS := Lib.hid (step_any g (g + 1) g A1 n c1 at_ bad L kind N wr.drew haD (by omega) (by omega) (by omega) ⟨k0, k1⟩)
      have hn12 : n ≤ 1000000000000 := by omega
      have HL := Lib.hid fun (w1 : World) (at_ : Nat) (bad : Bool) (ha : Alike w1 g (g + 1) g A1 n c1 L at_ bad) => Left_any g A1 n c1 at_ bad w1 ha.1 (by omega) (by have := ha.2.1; omega) hn12
      have HBd := Lib.hid fun (w1 : World) (at_ : Nat) (bad : Bool) (ha : Alike w1 g (g + 1) g A1 n c1 L at_ bad) => Bad_any g A1 n c1 at_ bad w1 ha.1
      clear haD
      go_wp2_with fail
      go_region_with
        (first | (go_at_call 46; refine HS.out.mono ?_; rintro e w1 ⟨rfl, ⟨at1, bad1, ha1⟩, hb1⟩; have q1 := (bcellB hb1 b (o + i * 2) (by omega)).trans hx1'; have q2 := (bcellB hb1 b (o + i * 2 + 1) (by omega)).trans hx2'; have hG1 : g + 2 ≤ w1.heap.size := Nat.le_trans hGr hb1.size; obtain ⟨A4, c4, r1, r2⟩ := refrd_of ha1.2.2.2; obtain ⟨z, hz⟩ : ∃ z : Nat, (z : Int) = (n : Int) - at1 ∧ (L.drop at1).length = z := ⟨n - at1, by have := ha1.2.1; omega, by rw [List.length_drop, HN.out]⟩; rw [hz.2] at r1) | (go_at_call 28; refine (HL.out w1 at1 bad1 ha1).mono ?_; rintro e w2 ⟨rfl, hb2⟩; have p1 := keep_cell q1 hb2; have p2 := keep_cell q2 hb2; have s1 := keep_cell r1 hb2; have s2 := keep_cell r2 hb2; have ha2 := ha1.keep hb2 (by omega); rw [← hz.1]) | (go_at_call 29; refine (HBd.out w2 at1 bad1 ha2).mono ?_; rintro e w3 ⟨rfl, rfl⟩))
      all_goals
        go_wp2_with fail
        go_roundw
        case rel => exact ⟨i + 1, at1, bad1, by go_num, by omega, ha2, hb.drew.trans ((hb1.mono hgW).trans (hb2.mono (by omega))), Nat.le_trans hG1 hb2.size⟩
        case measure => simp [intOf]; omega
    · obtain rfl : i = m := by omega
      go_wp2_with fail
      refine (beAlive_walk _).mono ?_
      rintro e w4 ⟨rfl, hb4⟩
      go_wp2_with fail
      go_ret
      exact ⟨rfl, below_on hb hb4⟩
end Go.Proofs.Ytnbokpfkcfhgbaa
