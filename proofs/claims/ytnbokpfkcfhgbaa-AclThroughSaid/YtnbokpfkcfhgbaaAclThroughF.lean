/- AclThrough: of any rules and bytes the law returns true, and its arguments read as before. No condition. -/
import Derived.Test.YtnbokpfkcfhgbaaAclThrough
import Derived.Test.YtnbokpfkcfhgbaaRows
import Derived.Test.YtnbokpfkcfhgbaaTypes
import Derived.ChangeOld
namespace Go.Proofs.Ytnbokpfkcfhgbaa
open Go Go.RowKit Go.ChangeShapes Go.WideShapes Go.ChangeAt Go.Deep

theorem cells_bytes2 : Try.prog.cellsOf 27 = 1 := by kernel_rfl
/-- Slices of bytes that come in. -/
theorem open_byteses {H : Type} {enc : TypeId × Value → H} {w : World} {base : Nat} {spare : Nat → Bool} {held : Bool} {fuel : Nat} {v : Value} {x : DataW H × List MemPlace} (h : DataW.trod enc Try.prog w base spare held fuel 104 [v] = some x) :
    ∃ A n c, ∃ l : List SB, v = .slice A n c ∧ l.length = n ∧ Elems w A 1 (l.map SB.cells) ∧ ∀ y ∈ l, ASl w w.heap.size y.A y.n y.c y.L := by
  obtain ⟨A, n, c, rfl, _, _, _, hel⟩ := open_elems Try.underlying104 cells_bytes2 (by omega) h
  obtain ⟨l, hl, hq⟩ := list_of (Q := fun i (y : SB) => (∃ b o, A = some ⟨b, o, none⟩ ∧ Holds w (elemL b (o + i * 1) y.cells)) ∧ ASl w w.heap.size y.A y.n y.c y.L) n (fun i hi => by
    obtain ⟨b, o, cs, n', y, hA, hlen, hh, ht⟩ := hel i hi
    match cs, hlen with
    | [p], _ =>
      obtain ⟨A', n1, c1, L, e, h1, h2, h3, h4, h5⟩ := open_nums Try.underlying27 Try.underlying5 cells_u8 ht
      subst e
      exact ⟨⟨A', n1, c1, L⟩, ⟨b, o, hA, hh⟩, ASl.arg h1 h2 h3 h4 (fun y hy => by have := bounds_u8 (h5 y hy); omega)⟩)
  refine ⟨A, n, c, l, rfl, hl, fun i cs hi => ?_, fun y hy => ?_⟩
  · rw [List.getElem?_map] at hi
    obtain ⟨r, hr, rfl⟩ := Option.map_eq_some_iff.1 hi
    exact (hq i r hr).1
  · obtain ⟨i, hi, rfl⟩ := List.mem_iff_getElem.1 hy
    exact (hq i _ (List.getElem?_eq_getElem hi)).2

theorem AclThrough_open {H : Type} {enc : TypeId × Value → H} {W : World} {base : Nat} {v0 v1 : Value} {d0 d1 : DataW H} {p0 p1 : List MemPlace}
    (a0 : ArgIn enc Try.prog W base 23 v0 d0 p0) (a1 : ArgIn enc Try.prog W base 104 v1 d1 p1) :
    Calls Try.prog 13 #[v0, v1] W (Pure W (.bool true)) := by
  obtain ⟨_, _, _, f0, e0, t0⟩ := a0.slice Try.underlying23
  obtain ⟨A, n, cap, rs, e0', hn, hm, hr, hok⟩ := open_rules t0
  obtain ⟨_, _, _, f1, e1, t1⟩ := a1.slice Try.underlying104
  obtain ⟨A', n', c', l, e1', hl, hs, hls⟩ := open_byteses t1
  exact calls_args (AclThrough_walk A n cap rs A' n' c' l W hn hm hr hok hl hs hls) (by rw [e0, e1, e0', e1'])

set_option maxRecDepth 100000 in
theorem AclThrough_lifted (os : Os) (started : os.Started) (H : Type) (enc : TypeId × Value → H) :
    ReturnsInHanded {} Try.checked os 13 .any (Rows.aclThroughSpec.pre6 enc Try.prog Try.f13 Rows.aclThroughRow.domain false) (Rows.aclThroughSpec.post enc Try.prog Try.f13 false true false false) := by
  refine returnsInHanded_of_change (C := Try.checked) own started (by kernel_rfl) Try.func13
    (ChangeSpec.witness6 (enc := enc) (C := Try.checked) false ⟨#[], #[.slice none 0 0, .slice none 0 0], []⟩ 8 (by kernel_rfl) (by kernel_rfl) (by kernel_rfl) (by kernel_rfl)) ?_
  intro W base args ds gs before hval0 hW hcnd _
  have hval : ∀ (j : Nat) t v, Try.f13.params[j]? = some t → args[j]? = some v → Value.okWide Try.prog W .any base t v := hval0
  have hW' := hW
  obtain ⟨p, q, hA0, hV, rfl, hfz, hnd⟩ := hW
  have hA : DataW.TrodAll enc Try.prog W 0 (fun _ => true) true Try.f13.params.toList args.toList ds p := hA0
  rw [Try.params13] at hA hval
  obtain ⟨v0, vs0, d0, ds0, p0, q0, hargs, rfl, rfl, h0, r0⟩ := trodAll_cons hA
  obtain ⟨v1, vs1, d1, ds1, p1, q1, rfl, rfl, rfl, h1, r1⟩ := trodAll_cons r0
  obtain ⟨rfl, rfl, rfl⟩ := trodAll_nil r1
  obtain rfl : args = #[v0, v1] := by cases args; simp_all
  obtain ⟨rfl, rfl⟩ := trodVars_none hV
  have lt0 : ∀ x ∈ p0, x.block < W.heap.size := by obtain ⟨m, hm⟩ := h0; exact DataW.trod_lt m _ _ _ hm
  have lt1 : ∀ x ∈ p1, x.block < W.heap.size := by obtain ⟨m, hm⟩ := h1; exact DataW.trod_lt m _ _ _ hm
  clear hA0 hval0
  refine (AclThrough_open ⟨hval 0 23 v0 rfl rfl, h0⟩ ⟨hval 1 104 v1 rfl rfl, h1⟩).mono fun e W' ⟨he, bel⟩ => ?_
  subst he
  exact ⟨_, rfl, _, _, _, [], _, [], hW', trodAll_mk1 (shut_bool Try.underlying4 _), (trodAll_cons_mk (Below.trod laidOut (by kernel_rfl) (of_decide_eq_true (by kernel_rfl)) h0 bel lt0) (trodAll_cons_mk (Below.trod laidOut (by kernel_rfl) (of_decide_eq_true (by kernel_rfl)) h1 bel lt1) trodAll_mk0)), rfl, bel.frame _, fun h => by cases h⟩

theorem AclThrough_holds : Rows.AclThroughSaid :=
  OpenClaim.holds_of_wide 13 Try.f13 rfl rfl rfl rfl rfl rfl rfl ⟨rfl, rfl, rfl, rfl, rfl⟩ rfl rfl rfl rfl rfl (by kernel_rfl) Try.func13 (by kernel_rfl)
    (of_decide_eq_true (by kernel_rfl)) (by unfold Func.isWrapper; rw [if_neg (of_decide_eq_false (by kernel_rfl))]; exact ⟨rfl, rfl⟩)
    (fun os started H enc _ => AclThrough_lifted os started H enc)
#print axioms AclThrough_holds
end Go.Proofs.Ytnbokpfkcfhgbaa
