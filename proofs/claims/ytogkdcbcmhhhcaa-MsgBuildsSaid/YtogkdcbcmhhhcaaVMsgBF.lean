/- MsgBuilds: of any message the law returns true, and its argument reads as before. No condition. -/
import Derived.Test.YtogkdcbcmhhhcaaVOpenM
import Derived.Test.YtogkdcbcmhhhcaaRows
import Derived.ChangeOld
namespace Go.Proofs.Ytogkdcbcmhhhcaa
open Go Go.RowKit Go.ChangeShapes Go.WideShapes Go.ChangeAt Go.Deep

theorem MsgBuilds_open {H : Type} {enc : TypeId × Value → H} {W : World} {base : Nat} {v0 : Value} {d0 : DataW H} {p0 : List MemPlace}
    (a0 : ArgIn enc Try.prog W base 26 v0 d0 p0) : Calls Try.prog 11 #[v0] W (Pure W (.bool true)) := by
  obtain ⟨ds, h1, h2⟩ := arg_sh 6 (s := .st [.int .i64, .st (List.replicate 9 (.int .u32)), .st (List.replicate 3 .str)]) (by kernel_rfl) a0
  obtain ⟨m, t0, t1, t2, q1, q2, q3, q4, q5, rfl⟩ := has_mb h1
  exact v_calls (args := [m.v]) ((msgBuildsLaw_v q1 q2 q3 q4 q5).mono fun _ _ h => h.1) rfl (reps1 h2)

set_option maxRecDepth 100000 in
theorem MsgBuilds_lifted (os : Os) (started : os.Started) (H : Type) (enc : TypeId × Value → H) :
    ReturnsInHanded {} Try.checked os 11 .any (Rows.msgBuildsSpec.pre6 enc Try.prog Try.f11 Rows.msgBuildsRow.domain false) (Rows.msgBuildsSpec.post enc Try.prog Try.f11 false true false false) := by
  refine returnsInHanded_of_change (C := Try.checked) own started (by kernel_rfl) Try.func11
    (ChangeSpec.witness6 (enc := enc) (C := Try.checked) false ⟨#[], #[.agg #[.int .i64 0, .int .u32 0, .int .u32 0, .int .u32 0, .int .u32 0, .int .u32 0, .int .u32 0, .int .u32 0, .int .u32 0, .int .u32 0, .string ⟨#[]⟩, .string ⟨#[]⟩, .string ⟨#[]⟩]], []⟩ 8 (by kernel_rfl) (by kernel_rfl) (by kernel_rfl) (by kernel_rfl)) ?_
  intro W base args ds gs before hval0 hW hcnd _
  have hval : ∀ (j : Nat) t v, Try.f11.params[j]? = some t → args[j]? = some v → Value.okWide Try.prog W .any base t v := hval0
  have hW' := hW
  obtain ⟨p, q, hA0, hV, rfl, hfz, hnd⟩ := hW
  have hA : DataW.TrodAll enc Try.prog W 0 (fun _ => true) true Try.f11.params.toList args.toList ds p := hA0
  rw [Try.params11] at hA hval
  obtain ⟨v0, vs0, d0, ds0, p0, q0, hargs, rfl, rfl, h0, r0⟩ := trodAll_cons hA
  obtain ⟨rfl, rfl, rfl⟩ := trodAll_nil r0
  obtain rfl : args = #[v0] := by cases args; simp_all
  obtain ⟨rfl, rfl⟩ := trodVars_none hV
  have lt0 : ∀ x ∈ p0, x.block < W.heap.size := by obtain ⟨m, hm⟩ := h0; exact DataW.trod_lt m _ _ _ hm
  clear hA0 hval0
  refine (MsgBuilds_open ⟨hval 0 26 v0 rfl rfl, h0⟩).mono fun e W' ⟨he, bel⟩ => ?_
  subst he
  exact ⟨_, rfl, _, _, _, [], _, [], hW', trodAll_mk1 (shut_bool Try.underlying4 _), (trodAll_cons_mk (Below.trod laidOut (by kernel_rfl) (of_decide_eq_true (by kernel_rfl)) h0 bel lt0) trodAll_mk0), rfl, bel.frame _, fun h => by cases h⟩

theorem MsgBuilds_holds : Rows.MsgBuildsSaid :=
  OpenClaim.holds_of_wide 11 Try.f11 rfl rfl rfl rfl rfl rfl rfl ⟨rfl, rfl, rfl, rfl, rfl⟩ rfl rfl rfl rfl rfl (by kernel_rfl) Try.func11 (by kernel_rfl)
    (of_decide_eq_true (by kernel_rfl)) (by unfold Func.isWrapper; rw [if_neg (of_decide_eq_false (by kernel_rfl))]; exact ⟨rfl, rfl⟩)
    (fun os started H enc _ => MsgBuilds_lifted os started H enc)
#print axioms MsgBuilds_holds
end Go.Proofs.Ytogkdcbcmhhhcaa
