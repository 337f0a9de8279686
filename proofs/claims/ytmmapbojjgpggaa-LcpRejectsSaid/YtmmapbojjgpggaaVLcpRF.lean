/- LcpRejects: of any MRU, any protocol and any data the law returns true, and its arguments read as before. No condition. -/
import Derived.Test.YtmmapbojjgpggaaZwb
import Derived.Test.YtmmapbojjgpggaaRows
import Derived.ChangeOld
namespace Go.Proofs.Ytmmapbojjgpggaa
open Go Go.RowKit Go.ChangeShapes Go.WideShapes Go.ChangeAt Go.Deep

theorem has_int {k : IntKind} {ds : List V} (h : Sh.Has (.int k) ds) : ∃ n, ds = [.sc (.int k n)] ∧ (Lit.int k n).wf = true := by
  cases h with
  | int _ n hw => exact ⟨n, rfl, hw⟩
theorem LcpRejects_open {H : Type} {enc : TypeId × Value → H} {W : World} {base : Nat} {v0 v1 v2 : Value} {d0 d1 d2 : DataW H} {p0 p1 p2 : List MemPlace}
    (a0 : ArgIn enc Try.prog W base 39 v0 d0 p0) (a1 : ArgIn enc Try.prog W base 39 v1 d1 p1) (a2 : ArgIn enc Try.prog W base 31 v2 d2 p2) : Calls Try.prog 4 #[v0, v1, v2] W (Pure W (.bool true)) := by
  obtain ⟨ds0, g1, g2⟩ := arg_sh 4 (s := .int .u16) (by kernel_rfl) a0
  obtain ⟨ds1, h1, h2⟩ := arg_sh 4 (s := .int .u16) (by kernel_rfl) a1
  obtain ⟨ds2, i1, i2⟩ := arg_sh 4 (s := .sl (.int .u8)) (by kernel_rfl) a2
  obtain ⟨m, rfl, hm⟩ := has_int g1
  obtain ⟨p, rfl, hp⟩ := has_int h1
  obtain ⟨D, hD, rfl⟩ := has_bytes i1
  have := bounds_u16 hm
  have := bounds_u16 hp
  exact v_calls (args := [.sc (.int .u16 m), .sc (.int .u16 p), .sl .no (bs D)]) ((lcpRejects_v (mru := m) (proto := p) (by omega) (by omega) (by omega) (by omega) hD).mono fun _ _ h => h.1) rfl (reps3 g2 h2 i2)

set_option maxRecDepth 100000 in
theorem LcpRejects_lifted (os : Os) (started : os.Started) (H : Type) (enc : TypeId × Value → H) :
    ReturnsInHanded {} Try.checked os 4 .any (Rows.lcpRejectsSpec.pre6 enc Try.prog Try.f4 Rows.lcpRejectsRow.domain false) (Rows.lcpRejectsSpec.post enc Try.prog Try.f4 false true false false) := by
  refine returnsInHanded_of_change (C := Try.checked) own started (by kernel_rfl) Try.func4
    (ChangeSpec.witness6 (enc := enc) (C := Try.checked) false ⟨#[], #[.int .u16 0, .int .u16 0, .slice none 0 0], []⟩ 8 (by kernel_rfl) (by kernel_rfl) (by kernel_rfl) (by kernel_rfl)) ?_
  intro W base args ds gs before hval0 hW hcnd _
  have hval : ∀ (j : Nat) t v, Try.f4.params[j]? = some t → args[j]? = some v → Value.okWide Try.prog W .any base t v := hval0
  have hW' := hW
  obtain ⟨p, q, hA0, hV, rfl, hfz, hnd⟩ := hW
  have hA : DataW.TrodAll enc Try.prog W 0 (fun _ => true) true Try.f4.params.toList args.toList ds p := hA0
  rw [Try.params4] at hA hval
  obtain ⟨v0, vs0, d0, ds0, p0, q0, hargs, rfl, rfl, h0, r0⟩ := trodAll_cons hA
  obtain ⟨v1, vs1, d1, ds1, p1, q1, rfl, rfl, rfl, h1, r1⟩ := trodAll_cons r0
  obtain ⟨v2, vs2, d2, ds2, p2, q2, rfl, rfl, rfl, h2, r2⟩ := trodAll_cons r1
  obtain ⟨rfl, rfl, rfl⟩ := trodAll_nil r2
  obtain rfl : args = #[v0, v1, v2] := by cases args; simp_all
  obtain ⟨rfl, rfl⟩ := trodVars_none hV
  have lt0 : ∀ x ∈ p0, x.block < W.heap.size := by obtain ⟨m, hm⟩ := h0; exact DataW.trod_lt m _ _ _ hm
  have lt1 : ∀ x ∈ p1, x.block < W.heap.size := by obtain ⟨m, hm⟩ := h1; exact DataW.trod_lt m _ _ _ hm
  have lt2 : ∀ x ∈ p2, x.block < W.heap.size := by obtain ⟨m, hm⟩ := h2; exact DataW.trod_lt m _ _ _ hm
  clear hA0 hval0
  refine (LcpRejects_open ⟨hval 0 39 v0 rfl rfl, h0⟩ ⟨hval 1 39 v1 rfl rfl, h1⟩ ⟨hval 2 31 v2 rfl rfl, h2⟩).mono fun e W' ⟨he, bel⟩ => ?_
  subst he
  exact ⟨_, rfl, _, _, _, [], _, [], hW', trodAll_mk1 (shut_bool Try.underlying4 _), (trodAll_cons_mk (Below.trod laidOut (by kernel_rfl) (of_decide_eq_true (by kernel_rfl)) h0 bel lt0) (trodAll_cons_mk (Below.trod laidOut (by kernel_rfl) (of_decide_eq_true (by kernel_rfl)) h1 bel lt1) (trodAll_cons_mk (Below.trod laidOut (by kernel_rfl) (of_decide_eq_true (by kernel_rfl)) h2 bel lt2) trodAll_mk0))), rfl, bel.frame _, fun h => by cases h⟩

theorem LcpRejects_holds : Rows.LcpRejectsSaid :=
  OpenClaim.holds_of_wide 4 Try.f4 rfl rfl rfl rfl rfl rfl rfl ⟨rfl, rfl, rfl, rfl, rfl⟩ rfl rfl rfl rfl rfl (by kernel_rfl) Try.func4 (by kernel_rfl)
    (of_decide_eq_true (by kernel_rfl)) (by unfold Func.isWrapper; rw [if_neg (of_decide_eq_false (by kernel_rfl))]; exact ⟨rfl, rfl⟩)
    (fun os started H enc _ => LcpRejects_lifted os started H enc)
#print axioms LcpRejects_holds
end Go.Proofs.Ytmmapbojjgpggaa
