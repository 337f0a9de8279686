/- BeReads: of any bytes and calls the law returns true, and its arguments read as before. No condition. -/
import Derived.Test.YtnbokpfkcfhgbaaBeReads
import Derived.Test.YtnbokpfkcfhgbaaRows
import Derived.Test.YtnbokpfkcfhgbaaTypes
import Derived.ChangeOld
namespace Go.Proofs.Ytnbokpfkcfhgbaa
open Go Go.RowKit Go.ChangeShapes Go.WideShapes Go.ChangeAt Go.Deep

theorem cells_law01Op : Try.prog.cellsOf 82 = 2 := by kernel_rfl
theorem open_law01Ops {H : Type} {enc : TypeId × Value → H} {w : World} {base : Nat} {spare : Nat → Bool} {held : Bool} {fuel : Nat} {v : Value} {x : DataW H × List MemPlace} (h : DataW.trod enc Try.prog w base spare held fuel 76 [v] = some x) :
    ∃ A n c, ∃ O : List (Int × Int), v = .slice A n c ∧ O.length = n ∧ Elems w A 2 (O.map fun x => [.int .i64 x.1, .int .i64 x.2]) ∧ ∀ y ∈ O, -9223372036854775808 ≤ y.1 ∧ y.1 ≤ 9223372036854775807 := by
  obtain ⟨A, n, c, rfl, _, _, _, hel⟩ := open_elems Try.underlying76 cells_law01Op (by omega) h
  obtain ⟨L, hl, hq⟩ := list_of (Q := fun i (y : Int × Int) => (∃ b o, A = some ⟨b, o, none⟩ ∧ Holds w (elemL b (o + i * 2) [Value.int .i64 y.1, Value.int .i64 y.2])) ∧ (Lit.int .i64 y.1).wf = true) n (fun i hi => by
    obtain ⟨b, o, cs, n', y, hA, hlen, hh, ht⟩ := hel i hi
    obtain ⟨a, ha, wa⟩ := field_int Try.underlying82 ht 0 _ rfl Try.underlying3 cells_int
    obtain ⟨z, hz, _⟩ := field_int Try.underlying82 ht 1 _ rfl Try.underlying3 cells_int
    have e : cs = [.int .i64 a, .int .i64 z] := by
      match cs, hlen with
      | [p, q], _ =>
        simp at ha hz
        rw [ha, hz]
    subst e
    exact ⟨(a, z), ⟨b, o, hA, hh⟩, wa⟩)
  refine ⟨A, n, c, L, rfl, hl, fun i cs hi => ?_, fun y hy => ?_⟩
  · simp only [List.getElem?_map] at hi
    obtain ⟨z, hz, rfl⟩ := Option.map_eq_some_iff.1 hi
    exact (hq i z hz).1
  · obtain ⟨i, hi, rfl⟩ := List.mem_iff_getElem.1 hy
    exact bounds_i64 (hq i _ (List.getElem?_eq_getElem hi)).2

theorem BeReads_open {H : Type} {enc : TypeId × Value → H} {W : World} {base : Nat} {v0 v1 : Value} {d0 d1 : DataW H} {p0 p1 : List MemPlace}
    (a0 : ArgIn enc Try.prog W base 27 v0 d0 p0) (a1 : ArgIn enc Try.prog W base 76 v1 d1 p1) :
    Calls Try.prog 8 #[v0, v1] W (Pure W (.bool true)) := by
  obtain ⟨_, _, _, f0, e0, t0⟩ := a0.slice Try.underlying27
  obtain ⟨A, n, c, l, e0', hn, hnc, hc, hl, hwl⟩ := open_nums Try.underlying27 Try.underlying5 cells_u8 t0
  obtain ⟨_, _, _, f1, e1, t1⟩ := a1.slice Try.underlying76
  obtain ⟨A', m, d, O, e1', hm, hs, hws⟩ := open_law01Ops t1
  exact calls_args (BeReads_walk A A' n m c d l O W hn hm hnc hc hl (fun x hx => by have := bounds_u8 (hwl x hx); omega) hs hws) (by rw [e0, e1, e0', e1'])

set_option maxRecDepth 100000 in
theorem BeReads_lifted (os : Os) (started : os.Started) (H : Type) (enc : TypeId × Value → H) :
    ReturnsInHanded {} Try.checked os 8 .any (Rows.beReadsSpec.pre6 enc Try.prog Try.f8 Rows.beReadsRow.domain false) (Rows.beReadsSpec.post enc Try.prog Try.f8 false true false false) := by
  refine returnsInHanded_of_change (C := Try.checked) own started (by kernel_rfl) Try.func8
    (ChangeSpec.witness6 (enc := enc) (C := Try.checked) false ⟨#[], #[.slice none 0 0, .slice none 0 0], []⟩ 8 (by kernel_rfl) (by kernel_rfl) (by kernel_rfl) (by kernel_rfl)) ?_
  intro W base args ds gs before hval0 hW hcnd _
  have hval : ∀ (j : Nat) t v, Try.f8.params[j]? = some t → args[j]? = some v → Value.okWide Try.prog W .any base t v := hval0
  have hW' := hW
  obtain ⟨p, q, hA0, hV, rfl, hfz, hnd⟩ := hW
  have hA : DataW.TrodAll enc Try.prog W 0 (fun _ => true) true Try.f8.params.toList args.toList ds p := hA0
  rw [Try.params8] at hA hval
  obtain ⟨v0, vs0, d0, ds0, p0, q0, hargs, rfl, rfl, h0, r0⟩ := trodAll_cons hA
  obtain ⟨v1, vs1, d1, ds1, p1, q1, rfl, rfl, rfl, h1, r1⟩ := trodAll_cons r0
  obtain ⟨rfl, rfl, rfl⟩ := trodAll_nil r1
  obtain rfl : args = #[v0, v1] := by cases args; simp_all
  obtain ⟨rfl, rfl⟩ := trodVars_none hV
  have lt0 : ∀ x ∈ p0, x.block < W.heap.size := by obtain ⟨m, hm⟩ := h0; exact DataW.trod_lt m _ _ _ hm
  have lt1 : ∀ x ∈ p1, x.block < W.heap.size := by obtain ⟨m, hm⟩ := h1; exact DataW.trod_lt m _ _ _ hm
  clear hA0 hval0
  refine (BeReads_open ⟨hval 0 27 v0 rfl rfl, h0⟩ ⟨hval 1 76 v1 rfl rfl, h1⟩).mono fun e W' ⟨he, bel⟩ => ?_
  subst he
  exact ⟨_, rfl, _, _, _, [], _, [], hW', trodAll_mk1 (shut_bool Try.underlying4 _), (trodAll_cons_mk (Below.trod laidOut (by kernel_rfl) (of_decide_eq_true (by kernel_rfl)) h0 bel lt0) (trodAll_cons_mk (Below.trod laidOut (by kernel_rfl) (of_decide_eq_true (by kernel_rfl)) h1 bel lt1) trodAll_mk0)), rfl, bel.frame _, fun h => by cases h⟩

theorem BeReads_holds : Rows.BeReadsSaid :=
  OpenClaim.holds_of_wide 8 Try.f8 rfl rfl rfl rfl rfl rfl rfl ⟨rfl, rfl, rfl, rfl, rfl⟩ rfl rfl rfl rfl rfl (by kernel_rfl) Try.func8 (by kernel_rfl)
    (of_decide_eq_true (by kernel_rfl)) (by unfold Func.isWrapper; rw [if_neg (of_decide_eq_false (by kernel_rfl))]; exact ⟨rfl, rfl⟩)
    (fun os started H enc _ => BeReads_lifted os started H enc)
#print axioms BeReads_holds
end Go.Proofs.Ytnbokpfkcfhgbaa
