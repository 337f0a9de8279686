/- A walk of the law's same (printed by gen_same.py). -/
import Derived.Test.YtnbokpfkcfhgbaaTapeOne
namespace Go.Proofs.Ytnbokpfkcfhgbaa
open Go Go.RowKit
attribute [local go_sem ↓] Go.wp_at_zero Go.wp_at_succ

def sameB (a b : TR) : Bool := (a.k == b.k && a.ek == b.ek && a.ec == b.ec && a.en == b.en && a.EL == b.EL && a.ok == b.ok && a.oc == b.oc && a.on == b.on && a.oa == b.oa && a.OL == b.OL)
theorem sameB_refl (a : TR) : sameB a a = true := by simp [sameB]
theorem sameB_eq {a b : TR} (h : sameB a b = true) : a = b := by
  obtain ⟨a0, a1, a2, a3, a4, a5, a6, a7, a8, a9⟩ := a
  obtain ⟨b0, b1, b2, b3, b4, b5, b6, b7, b8, b9⟩ := b
  simpa [sameB, and_assoc] using h
theorem same_cases (k ek ec en ok oc on oa k' ek' ec' en' ok' oc' on' oa' : Int) (EL OL EL' OL' : List Int) : (k == k') = false ∨ ((k == k') = true ∧ (ek == ek') = false) ∨ ((k == k') = true ∧ (ek == ek') = true ∧ (ec == ec') = false) ∨ ((k == k') = true ∧ (ek == ek') = true ∧ (ec == ec') = true ∧ (en == en') = false) ∨ ((k == k') = true ∧ (ek == ek') = true ∧ (ec == ec') = true ∧ (en == en') = true ∧ (EL == EL') = false) ∨ ((k == k') = true ∧ (ek == ek') = true ∧ (ec == ec') = true ∧ (en == en') = true ∧ (EL == EL') = true ∧ (ok == ok') = false) ∨ ((k == k') = true ∧ (ek == ek') = true ∧ (ec == ec') = true ∧ (en == en') = true ∧ (EL == EL') = true ∧ (ok == ok') = true ∧ (oc == oc') = false) ∨ ((k == k') = true ∧ (ek == ek') = true ∧ (ec == ec') = true ∧ (en == en') = true ∧ (EL == EL') = true ∧ (ok == ok') = true ∧ (oc == oc') = true ∧ (on == on') = false) ∨ ((k == k') = true ∧ (ek == ek') = true ∧ (ec == ec') = true ∧ (en == en') = true ∧ (EL == EL') = true ∧ (ok == ok') = true ∧ (oc == oc') = true ∧ (on == on') = true ∧ (oa == oa') = false) ∨ ((k == k') = true ∧ (ek == ek') = true ∧ (ec == ec') = true ∧ (en == en') = true ∧ (EL == EL') = true ∧ (ok == ok') = true ∧ (oc == oc') = true ∧ (on == on') = true ∧ (oa == oa') = true ∧ (OL == OL') = false) ∨ ((k == k') = true ∧ (ek == ek') = true ∧ (ec == ec') = true ∧ (en == en') = true ∧ (EL == EL') = true ∧ (ok == ok') = true ∧ (oc == oc') = true ∧ (on == on') = true ∧ (oa == oa') = true ∧ (OL == OL') = true) := by
  cases (k == k')
  · simp
  ·
    cases (ek == ek')
    · simp
    ·
      cases (ec == ec')
      · simp
      ·
        cases (en == en')
        · simp
        ·
          cases (EL == EL')
          · simp
          ·
            cases (ok == ok')
            · simp
            ·
              cases (oc == oc')
              · simp
              ·
                cases (on == on')
                · simp
                ·
                  cases (oa == oa')
                  · simp
                  ·
                    cases (OL == OL')
                    · simp
                    ·
                      simp

set_option maxRecDepth 100000 in
set_option maxHeartbeats 8000000 in
theorem same_any (k ek ec en ok oc on oa k' ek' ec' en' ok' oc' on' oa' : Int) (eA oA eA' oA' : Option Addr) (eC oC eC' oC' eL oL eL' oL' : Nat) (EL OL EL' OL' : List Int) (w : World) (B : Nat)
    (e1 : BSl w B eA eL eC EL) (o1 : BSl w B oA oL oC OL) (e2 : BSl w B eA' eL' eC' EL') (o2 : BSl w B oA' oL' oC' OL') (hB : B ≤ w.heap.size) :
    Calls Try.prog 61 #[Rc.val ⟨k, ek, ec, en, eA, eL, eC, ok, oc, on, oa, oA, oL, oC⟩, Rc.val ⟨k', ek', ec', en', eA', eL', eC', ok', oc', on', oa', oA', oL', oC'⟩] w
      (Pure w (.bool (sameB ⟨k, ek, ec, en, EL, ok, oc, on, oa, OL⟩ ⟨k', ek', ec', en', EL', ok', oc', on', oa', OL'⟩))) := by
  simp only [Rc.val]
  have F1 := Lib.hid fun W (hb : Below w.heap.size w W) => eqByte_any eA eA' eL eL' eC eC' EL EL' W e1.len e2.len (by have := e1.cap; have := e1.capm; omega) (e1.keep (hb.mono hB)).els (e2.keep (hb.mono hB)).els
  have F2 := Lib.hid fun W (hb : Below w.heap.size w W) => eqByte_any oA oA' oL oL' oC oC' OL OL' W o1.len o2.len (by have := o1.cap; have := o1.capm; omega) (o1.keep (hb.mono hB)).els (o2.keep (hb.mono hB)).els
  have hb : Below w.heap.size w ((w.alloc (.cells #[.int .i64 k, .int .i64 ek, .int .i64 ec, .int .i64 en, .slice eA eL eC, .int .i64 ok, .int .i64 oc, .int .i64 on, .int .u32 oa, .slice oA oL oC] 64)).alloc (.cells #[.int .i64 k', .int .i64 ek', .int .i64 ec', .int .i64 en', .slice eA' eL' eC', .int .i64 ok', .int .i64 oc', .int .i64 on', .int .u32 oa', .slice oA' oL' oC'] 64)) := ((Below.refl _ _).alloc (Nat.le_refl _) _).alloc (by simp) _
  have hx := boxes2 w #[.int .i64 k, .int .i64 ek, .int .i64 ec, .int .i64 en, .slice eA eL eC, .int .i64 ok, .int .i64 oc, .int .i64 on, .int .u32 oa, .slice oA oL oC] #[.int .i64 k', .int .i64 ek', .int .i64 ec', .int .i64 en', .slice eA' eL' eC', .int .i64 ok', .int .i64 oc', .int .i64 on', .int .u32 oa', .slice oA' oL' oC'] 64 64
  have HX := Lib.hid hx
  have HB := Lib.hid hb
  generalize hr : sameB ⟨k, ek, ec, en, EL, ok, oc, on, oa, OL⟩ ⟨k', ek', ec', en', EL', ok', oc', on', oa', OL'⟩ = R
  have HR := Lib.hid hr
  clear hr e1 o1 e2 o2 hb hx
  rcases same_cases k ek ec en ok oc on oa k' ek' ec' en' ok' oc' on' oa' EL OL EL' OL' with z0 | ⟨z0, z1⟩ | ⟨z0, z1, z2⟩ | ⟨z0, z1, z2, z3⟩ | ⟨z0, z1, z2, z3, z4⟩ | ⟨z0, z1, z2, z3, z4, z5⟩ | ⟨z0, z1, z2, z3, z4, z5, z6⟩ | ⟨z0, z1, z2, z3, z4, z5, z6, z7⟩ | ⟨z0, z1, z2, z3, z4, z5, z6, z7, z8⟩ | ⟨z0, z1, z2, z3, z4, z5, z6, z7, z8, z9⟩ | ⟨z0, z1, z2, z3, z4, z5, z6, z7, z8, z9⟩
  · have hv : R = false := by rw [← HR.out]; simp [sameB, z0]
    clear HR
    go_enter Try.func61, Try.ntmps61
    simp only [List.append_eq, List.cons_append, List.nil_append]
    go_wp2_with fail
    go_ret
    exact ⟨ret_bool (by first | exact hv.symm | rfl), HB.out⟩
  · have hv : R = false := by rw [← HR.out]; simp [sameB, z0, z1]
    clear HR
    go_enter Try.func61, Try.ntmps61
    simp only [List.append_eq, List.cons_append, List.nil_append]
    go_wp2_with fail
    go_ret
    exact ⟨ret_bool (by first | exact hv.symm | rfl), HB.out⟩
  · have hv : R = false := by rw [← HR.out]; simp [sameB, z0, z1, z2]
    clear HR
    go_enter Try.func61, Try.ntmps61
    simp only [List.append_eq, List.cons_append, List.nil_append]
    go_wp2_with fail
    go_ret
    exact ⟨ret_bool (by first | exact hv.symm | rfl), HB.out⟩
  · have hv : R = false := by rw [← HR.out]; simp [sameB, z0, z1, z2, z3]
    clear HR
    go_enter Try.func61, Try.ntmps61
    simp only [List.append_eq, List.cons_append, List.nil_append]
    go_wp2_with fail
    go_ret
    exact ⟨ret_bool (by first | exact hv.symm | rfl), HB.out⟩
  · have hv : R = false := by rw [← HR.out]; simp [sameB, z0, z1, z2, z3, z4]
    clear HR
    go_enter Try.func61, Try.ntmps61
    simp only [List.append_eq, List.cons_append, List.nil_append]
    go_wp2_with fail
    refine (F1.out _ HB.out).mono ?_
    rintro e w1 ⟨rfl, hb1⟩
    have hbw := below_on HB.out hb1
    have hh := HX.out.keep hb1
    simp only [elemL, Holds.append, Holds.cons, Holds.nil, and_true, List.cons_append, List.nil_append] at hh
    obtain ⟨c0, c1, c2, c3, c4, c5, c6, c7, c8, c9, d0, d1, d2, d3, d4, d5, d6, d7, d8, d9⟩ := hh
    go_wp2_with fail
    go_ret
    exact ⟨ret_bool (by first | exact hv.symm | rfl), hbw⟩
  · have hv : R = false := by rw [← HR.out]; simp [sameB, z0, z1, z2, z3, z4, z5]
    clear HR
    go_enter Try.func61, Try.ntmps61
    simp only [List.append_eq, List.cons_append, List.nil_append]
    go_wp2_with fail
    refine (F1.out _ HB.out).mono ?_
    rintro e w1 ⟨rfl, hb1⟩
    have hbw := below_on HB.out hb1
    have hh := HX.out.keep hb1
    simp only [elemL, Holds.append, Holds.cons, Holds.nil, and_true, List.cons_append, List.nil_append] at hh
    obtain ⟨c0, c1, c2, c3, c4, c5, c6, c7, c8, c9, d0, d1, d2, d3, d4, d5, d6, d7, d8, d9⟩ := hh
    go_wp2_with fail
    go_ret
    exact ⟨ret_bool (by first | exact hv.symm | rfl), hbw⟩
  · have hv : R = false := by rw [← HR.out]; simp [sameB, z0, z1, z2, z3, z4, z5, z6]
    clear HR
    go_enter Try.func61, Try.ntmps61
    simp only [List.append_eq, List.cons_append, List.nil_append]
    go_wp2_with fail
    refine (F1.out _ HB.out).mono ?_
    rintro e w1 ⟨rfl, hb1⟩
    have hbw := below_on HB.out hb1
    have hh := HX.out.keep hb1
    simp only [elemL, Holds.append, Holds.cons, Holds.nil, and_true, List.cons_append, List.nil_append] at hh
    obtain ⟨c0, c1, c2, c3, c4, c5, c6, c7, c8, c9, d0, d1, d2, d3, d4, d5, d6, d7, d8, d9⟩ := hh
    go_wp2_with fail
    go_ret
    exact ⟨ret_bool (by first | exact hv.symm | rfl), hbw⟩
  · have hv : R = false := by rw [← HR.out]; simp [sameB, z0, z1, z2, z3, z4, z5, z6, z7]
    clear HR
    go_enter Try.func61, Try.ntmps61
    simp only [List.append_eq, List.cons_append, List.nil_append]
    go_wp2_with fail
    refine (F1.out _ HB.out).mono ?_
    rintro e w1 ⟨rfl, hb1⟩
    have hbw := below_on HB.out hb1
    have hh := HX.out.keep hb1
    simp only [elemL, Holds.append, Holds.cons, Holds.nil, and_true, List.cons_append, List.nil_append] at hh
    obtain ⟨c0, c1, c2, c3, c4, c5, c6, c7, c8, c9, d0, d1, d2, d3, d4, d5, d6, d7, d8, d9⟩ := hh
    go_wp2_with fail
    go_ret
    exact ⟨ret_bool (by first | exact hv.symm | rfl), hbw⟩
  · have hv : R = false := by rw [← HR.out]; simp [sameB, z0, z1, z2, z3, z4, z5, z6, z7, z8]
    clear HR
    go_enter Try.func61, Try.ntmps61
    simp only [List.append_eq, List.cons_append, List.nil_append]
    go_wp2_with fail
    refine (F1.out _ HB.out).mono ?_
    rintro e w1 ⟨rfl, hb1⟩
    have hbw := below_on HB.out hb1
    have hh := HX.out.keep hb1
    simp only [elemL, Holds.append, Holds.cons, Holds.nil, and_true, List.cons_append, List.nil_append] at hh
    obtain ⟨c0, c1, c2, c3, c4, c5, c6, c7, c8, c9, d0, d1, d2, d3, d4, d5, d6, d7, d8, d9⟩ := hh
    go_wp2_with fail
    go_ret
    exact ⟨ret_bool (by first | exact hv.symm | rfl), hbw⟩
  · have hv : R = false := by rw [← HR.out]; simp [sameB, z0, z1, z2, z3, z4, z5, z6, z7, z8, z9]
    clear HR
    go_enter Try.func61, Try.ntmps61
    simp only [List.append_eq, List.cons_append, List.nil_append]
    go_wp2_with fail
    refine (F1.out _ HB.out).mono ?_
    rintro e w1 ⟨rfl, hb1⟩
    have hbw := below_on HB.out hb1
    have hh := HX.out.keep hb1
    simp only [elemL, Holds.append, Holds.cons, Holds.nil, and_true, List.cons_append, List.nil_append] at hh
    obtain ⟨c0, c1, c2, c3, c4, c5, c6, c7, c8, c9, d0, d1, d2, d3, d4, d5, d6, d7, d8, d9⟩ := hh
    go_wp2_with fail
    refine (F2.out _ hbw).mono ?_
    rintro e w2 ⟨rfl, hb2⟩
    go_wp2_with fail
    go_ret
    exact ⟨ret_bool (by first | exact hv.symm | rfl), below_on hbw hb2⟩
  · have hv : R = true := by rw [← HR.out]; simp [sameB, z0, z1, z2, z3, z4, z5, z6, z7, z8, z9]
    clear HR
    go_enter Try.func61, Try.ntmps61
    simp only [List.append_eq, List.cons_append, List.nil_append]
    go_wp2_with fail
    refine (F1.out _ HB.out).mono ?_
    rintro e w1 ⟨rfl, hb1⟩
    have hbw := below_on HB.out hb1
    have hh := HX.out.keep hb1
    simp only [elemL, Holds.append, Holds.cons, Holds.nil, and_true, List.cons_append, List.nil_append] at hh
    obtain ⟨c0, c1, c2, c3, c4, c5, c6, c7, c8, c9, d0, d1, d2, d3, d4, d5, d6, d7, d8, d9⟩ := hh
    go_wp2_with fail
    refine (F2.out _ hbw).mono ?_
    rintro e w2 ⟨rfl, hb2⟩
    go_wp2_with fail
    go_ret
    exact ⟨ret_bool (by first | exact hv.symm | rfl), below_on hbw hb2⟩
end Go.Proofs.Ytnbokpfkcfhgbaa
