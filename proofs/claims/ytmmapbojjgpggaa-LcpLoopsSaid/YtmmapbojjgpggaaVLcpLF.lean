/- LcpLoops: of any numbers drawn the law returns true, and its argument reads as before. No condition. -/
import Derived.Test.YtmmapbojjgpggaaZwb
import Derived.Test.YtmmapbojjgpggaaRows
import Derived.ChangeOld
namespace Go.Proofs.Ytmmapbojjgpggaa
open Go Go.RowKit Go.ChangeShapes Go.WideShapes Go.ChangeAt Go.Deep

theorem LcpLoops_open {H : Type} {enc : TypeId × Value → H} {W : World} {base : Nat} {v0 : Value} {d0 : DataW H} {p0 : List MemPlace}
    (a0 : ArgIn enc Try.prog W base 22 v0 d0 p0) : Calls Try.prog 3 #[v0] W (Pure W (.bool true)) := by
  obtain ⟨ds0, g1, g2⟩ := arg_sh 4 (s := .sl (.int .u32)) (by kernel_rfl) a0
  obtain ⟨L, hL, rfl⟩ := has_slmap (f := fun n => .sc (.int .u32 n)) (ok := fun n => 0 ≤ n ∧ n < 4294967296) (fun ds h => by
    cases h with
    | int _ n hw => have := bounds_u32 hw; exact ⟨n, by omega, rfl⟩) g1
  exact v_calls (args := [.sl .no (w4s L)]) ((lcpLoops_v hL).mono fun _ _ h => h.1) rfl (reps1 g2)

set_option maxRecDepth 100000 in
theorem LcpLoops_lifted (os : Os) (started : os.Started) (H : Type) (enc : TypeId × Value → H) :
    ReturnsInHanded {} Try.checked os 3 .any (Rows.lcpLoopsSpec.pre6 enc Try.prog Try.f3 Rows.lcpLoopsRow.domain false) (Rows.lcpLoopsSpec.post enc Try.prog Try.f3 false true false false) := by
  refine returnsInHanded_of_change (C := Try.checked) own started (by kernel_rfl) Try.func3
    (ChangeSpec.witness6 (enc := enc) (C := Try.checked) false ⟨#[], #[.slice none 0 0], []⟩ 8 (by kernel_rfl) (by kernel_rfl) (by kernel_rfl) (by kernel_rfl)) ?_
  intro W base args ds gs before hval0 hW hcnd _
  have hval : ∀ (j : Nat) t v, Try.f3.params[j]? = some t → args[j]? = some v → Value.okWide Try.prog W .any base t v := hval0
  have hW' := hW
  obtain ⟨p, q, hA0, hV, rfl, hfz, hnd⟩ := hW
  have hA : DataW.TrodAll enc Try.prog W 0 (fun _ => true) true Try.f3.params.toList args.toList ds p := hA0
  rw [Try.params3] at hA hval
  obtain ⟨v0, vs0, d0, ds0, p0, q0, hargs, rfl, rfl, h0, r0⟩ := trodAll_cons hA
  obtain ⟨rfl, rfl, rfl⟩ := trodAll_nil r0
  obtain rfl : args = #[v0] := by cases args; simp_all
  obtain ⟨rfl, rfl⟩ := trodVars_none hV
  have lt0 : ∀ x ∈ p0, x.block < W.heap.size := by obtain ⟨m, hm⟩ := h0; exact DataW.trod_lt m _ _ _ hm
  clear hA0 hval0
  refine (LcpLoops_open ⟨hval 0 22 v0 rfl rfl, h0⟩).mono fun e W' ⟨he, bel⟩ => ?_
  subst he
  exact ⟨_, rfl, _, _, _, [], _, [], hW', trodAll_mk1 (shut_bool Try.underlying4 _), (trodAll_cons_mk (Below.trod laidOut (by kernel_rfl) (of_decide_eq_true (by kernel_rfl)) h0 bel lt0) trodAll_mk0), rfl, bel.frame _, fun h => by cases h⟩

theorem LcpLoops_holds : Rows.LcpLoopsSaid :=
  OpenClaim.holds_of_wide 3 Try.f3 rfl rfl rfl rfl rfl rfl rfl ⟨rfl, rfl, rfl, rfl, rfl⟩ rfl rfl rfl rfl rfl (by kernel_rfl) Try.func3 (by kernel_rfl)
    (of_decide_eq_true (by kernel_rfl)) (by unfold Func.isWrapper; rw [if_neg (of_decide_eq_false (by kernel_rfl))]; exact ⟨rfl, rfl⟩)
    (fun os started H enc _ => LcpLoops_lifted os started H enc)
#print axioms LcpLoops_holds
end Go.Proofs.Ytmmapbojjgpggaa
