/- Walks of the law TapePuts: great, the loop. -/
import Derived.Test.YtnbokpfkcfhgbaaTapeLPut
import Derived.Test.YtnbokpfkcfhgbaaBeBack
namespace Go.Proofs.Ytnbokpfkcfhgbaa
open Go Go.RowKit
attribute [local go_sem ↓] Go.wp_at_zero Go.wp_at_succ

/-- A slice of bytes that came in, of any length. -/
structure ASl (w : World) (B : Nat) (A : Option Addr) (n c : Nat) (L : List Int) : Prop where
  len : L.length = n
  cap : n ≤ c
  capm : c ≤ maxLen
  els : Elems w A 1 (nums .u8 L)
  inb : L = [] ∨ InB A B
  isb : IsB L
theorem ASl.keep {w w' : World} {B n c : Nat} {A : Option Addr} {L : List Int} (h : ASl w B A n c L) (hb : Below B w w') : ASl w' B A n c L :=
  ⟨h.len, h.cap, h.capm, by rcases h.inb with e | e; rw [e]; exact Elems.nil _ _ _; exact h.els.keepB e hb, h.inb, h.isb⟩
theorem ASl.small {w : World} {B n c : Nat} {A : Option Addr} {L : List Int} (h : ASl w B A n c L) (hs : n ≤ 1000000000000) : BSl w B A n c L := ⟨h.len, h.cap, h.capm, h.els, h.inb, h.isb, hs⟩
theorem ASl.arg {w : World} {n c : Nat} {A : Option Addr} {L : List Int} (hl : L.length = n) (hc : n ≤ c) (hm : c ≤ maxLen) (hA : Elems w A 1 (nums .u8 L)) (hB : IsB L) : ASl w w.heap.size A n c L :=
  ⟨hl, hc, hm, hA, by
    cases L with
    | nil => exact .inl rfl
    | cons x M =>
      obtain ⟨b, o, e, hh⟩ := hA 0 _ (nums_get (x := x) rfl)
      subst e
      refine .inr (InB.some ?_)
      simp only [elemL, Holds.cons] at hh
      exact lt_of_cell hh.1, hB⟩

/-- A record with what its bytes read as. -/
structure RD extends Rc where
  EL : List Int
  OL : List Int
def RD.cells (r : RD) : List Value := [.int .i64 r.k, .int .i64 r.ek, .int .i64 r.ec, .int .i64 r.en, .slice r.eA r.eL r.eC, .int .i64 r.ok, .int .i64 r.oc, .int .i64 r.on, .int .u32 r.oa, .slice r.oA r.oL r.oC]
def RD.out (r : RD) : List Int := if Rc.right ⟨r.k, r.ek, r.ec, r.en, r.eA, r.eL, r.eC, r.ok, r.oc, r.on, r.oa, r.oA, r.oL, r.oC⟩ = true then recL r.k r.ek r.ec r.en r.EL r.ok r.oc r.on r.oa r.OL else []
structure RD.Ok (w : World) (D : Nat) (r : RD) : Prop where
  e : ASl w D r.eA r.eL r.eC r.EL
  o : ASl w D r.oA r.oL r.oC r.OL
  en : i64P r.en
  on : i64P r.on
  oa : 0 ≤ r.oa ∧ r.oa ≤ 4294967295
def outL (l : List RD) (k : Nat) : List Int := ((l.take k).map RD.out).flatten
theorem outL_succ {l : List RD} {k : Nat} {r : RD} (h : l[k]? = some r) : outL l (k + 1) = outL l k ++ r.out := by
  unfold outL
  rw [List.take_add_one, h]
  simp
def great (l : List RD) : Bool := decide (20 < l.length) || l.any fun r => decide (66000 < r.eL) || decide (66000 < r.oL)

set_option maxRecDepth 100000 in
set_option maxHeartbeats 4000000 in
theorem great_any (A : Option Addr) (n c : Nat) (l : List RD) (w : World) (hn : l.length = n) (hl : Elems w A 10 (l.map RD.cells)) :
    Calls Try.prog 31 #[.slice A n c] w fun e w' => e = .returned (.bool (great l)) ∧ w = w' := by
  by_cases h20 : 20 < n
  · have hg : great l = true := by simp [great, hn, h20]
    rw [hg]
    clear hg hn hl
    go_enter Try.func31, Try.ntmps31
    go_wp2_with fail
    go_ret
    exact ⟨rfl, rfl⟩
  have d20 : decide ((20 : Int) < (n : Int)) = false := by simp; omega
  have HN := Lib.hid hn
  clear hn
  go_enter Try.func31, Try.ntmps31
  go_wp2_with fail
  go_loop [3] (fun iv => ∃ i : Nat, iv = .int .i64 i ∧ i ≤ n ∧ Hid (∀ j, j < i → ∀ r : RD, l[j]? = some r → r.eL ≤ 66000 ∧ r.oL ≤ 66000)) (fun iv => n - (intOf iv).toNat)
  case atStart => exact ⟨0, rfl, by omega, fun j hj => by omega⟩
  case round =>
    obtain ⟨i, rfl, hi, HE⟩ := hrel
    by_cases him : i < n
    · have hx : l[i]? = some (l[i]'(by rw [HN.out]; exact him)) := List.getElem?_eq_getElem _
      generalize l[i]'(by rw [HN.out]; exact him) = r at hx
      obtain ⟨b, o, eA, hh⟩ := hl i r.cells (by rw [List.getElem?_map, hx]; rfl)
      subst eA
      simp only [RD.cells, elemL, Holds.cons, Holds.nil, and_true] at hh
      obtain ⟨h0, h1, h2, h3, h4, h5, h6, h7, h8, h9⟩ := hh
      have hgr : (66000 < r.eL ∨ 66000 < r.oL) → Hid (great l = true) := fun h => by
        show great l = true
        simp only [great, Bool.or_eq_true, List.any_eq_true, decide_eq_true_eq]
        exact .inr ⟨r, List.mem_of_getElem? hx, by simpa using h⟩
      have HE' : r.eL ≤ 66000 ∧ r.oL ≤ 66000 → Hid (∀ j, j < i + 1 → ∀ r : RD, l[j]? = some r → r.eL ≤ 66000 ∧ r.oL ≤ 66000) := fun h j hj r' hr' => by
        by_cases e : j = i
        · subst e
          rw [hx] at hr'
          cases hr'
          exact h
        · exact HE.out j (by omega) r' hr'
      clear hx h0 h1 h2 h3 h5 h6 h7 h8
      by_cases a1 : 66000 < r.eL
      · have hv := hgr (.inl a1)
        go_wp2_with fail
        go_ret
        exact ⟨ret_bool hv.out.symm, rfl⟩
      · by_cases a2 : 66000 < r.oL
        · have hv := hgr (.inr a2)
          have d1 : decide ((66000 : Int) < (r.eL : Int)) = false := by simp; omega
          go_wp2_with fail
          go_ret
          exact ⟨ret_bool hv.out.symm, rfl⟩
        · have d1 : decide ((66000 : Int) < (r.eL : Int)) = false := by simp; omega
          have d2 : decide ((66000 : Int) < (r.oL : Int)) = false := by simp; omega
          have hk := HE' ⟨by omega, by omega⟩
          go_wp2_with fail
          go_round
          case rel => exact ⟨i + 1, by go_num, by omega, hk⟩
          case measure => simp [intOf]; omega
    · obtain rfl : i = n := by omega
      have hg : Hid (great l = false) := by
        show great l = false
        have h1 : ¬ 20 < l.length := by rw [HN.out]; exact h20
        simp only [great, h1, decide_false, Bool.false_or, List.any_eq_false, Bool.or_eq_true, decide_eq_true_eq]
        intro r hr
        obtain ⟨j, hj, rfl⟩ := List.mem_iff_getElem.1 hr
        have := HE.out j (by rw [← HN.out]; exact hj) _ (List.getElem?_eq_getElem hj)
        omega
      go_wp2_with fail
      go_ret
      exact ⟨ret_bool hg.out.symm, rfl⟩
end Go.Proofs.Ytnbokpfkcfhgbaa
