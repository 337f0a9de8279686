/- MsgOf: of any type and any numbers the law returns true, and its arguments read as before. No condition. -/
import Derived.Test.YtogkdcbcmhhhcaaVMsgOf
import Derived.Test.YtogkdcbcmhhhcaaVOpen
import Derived.Test.YtogkdcbcmhhhcaaRows
import Derived.ChangeOld
namespace Go.Proofs.Ytogkdcbcmhhhcaa
open Go Go.RowKit Go.ChangeShapes Go.WideShapes Go.ChangeAt Go.Deep

theorem MsgOf_open {H : Type} {enc : TypeId × Value → H} {W : World} {base : Nat} {v0 v1 : Value} {d0 d1 : DataW H} {p0 p1 : List MemPlace}
    (a0 : ArgIn enc Try.prog W base 3 v0 d0 p0) (a1 : ArgIn enc Try.prog W base 65 v1 d1 p1) : Calls Try.prog 7 #[v0, v1] W (Pure W (.bool true)) := by
  obtain ⟨ds, h1, h2⟩ := arg_sh 6 (s := .int .i64) (by kernel_rfl) a0
  obtain ⟨fs, h5, h6⟩ := arg_sh 6 (s := .sl (.int .u32)) (by kernel_rfl) a1
  obtain ⟨L, hL, rfl⟩ := has_slmap (f := fun n : Int => V.sc (.int .u32 n)) (ok := fun n => 0 ≤ n ∧ n < 4294967296) (fun ds h => by
    cases h with
    | int _ n hw => exact ⟨n, by have := bounds_u32 hw; omega, rfl⟩) h5
  cases h1 with
  | int _ a wa =>
  exact v_calls (args := [.sc (.int .i64 a), .sl .no (us L)]) ((msgOfLaw_v hL a).mono fun _ _ h => h.1) rfl (reps2 h2 h6)

set_option maxRecDepth 100000 in
theorem MsgOf_lifted (os : Os) (started : os.Started) (H : Type) (enc : TypeId × Value → H) :
    ReturnsInHanded {} Try.checked os 7 .any (Rows.msgOfSpec.pre6 enc Try.prog Try.f7 Rows.msgOfRow.domain false) (Rows.msgOfSpec.post enc Try.prog Try.f7 false true false false) := by
  refine returnsInHanded_of_change (C := Try.checked) own started (by kernel_rfl) Try.func7
    (ChangeSpec.witness6 (enc := enc) (C := Try.checked) false ⟨#[], #[.int .i64 0, .slice none 0 0], []⟩ 8 (by kernel_rfl) (by kernel_rfl) (by kernel_rfl) (by kernel_rfl)) ?_
  intro W base args ds gs before hval0 hW hcnd _
  have hval : ∀ (j : Nat) t v, Try.f7.params[j]? = some t → args[j]? = some v → Value.okWide Try.prog W .any base t v := hval0
  have hW' := hW
  obtain ⟨p, q, hA0, hV, rfl, hfz, hnd⟩ := hW
  have hA : DataW.TrodAll enc Try.prog W 0 (fun _ => true) true Try.f7.params.toList args.toList ds p := hA0
  rw [Try.params7] at hA hval
  obtain ⟨v0, vs0, d0, ds0, p0, q0, hargs, rfl, rfl, h0, r0⟩ := trodAll_cons hA
  obtain ⟨v1, vs1, d1, ds1, p1, q1, rfl, rfl, rfl, h1, r1⟩ := trodAll_cons r0
  obtain ⟨rfl, rfl, rfl⟩ := trodAll_nil r1
  obtain rfl : args = #[v0, v1] := by cases args; simp_all
  obtain ⟨rfl, rfl⟩ := trodVars_none hV
  have lt0 : ∀ x ∈ p0, x.block < W.heap.size := by obtain ⟨m, hm⟩ := h0; exact DataW.trod_lt m _ _ _ hm
  have lt1 : ∀ x ∈ p1, x.block < W.heap.size := by obtain ⟨m, hm⟩ := h1; exact DataW.trod_lt m _ _ _ hm
  clear hA0 hval0
  refine (MsgOf_open ⟨hval 0 3 v0 rfl rfl, h0⟩ ⟨hval 1 65 v1 rfl rfl, h1⟩).mono fun e W' ⟨he, bel⟩ => ?_
  subst he
  exact ⟨_, rfl, _, _, _, [], _, [], hW', trodAll_mk1 (shut_bool Try.underlying4 _), (trodAll_cons_mk (Below.trod laidOut (by kernel_rfl) (of_decide_eq_true (by kernel_rfl)) h0 bel lt0) (trodAll_cons_mk (Below.trod laidOut (by kernel_rfl) (of_decide_eq_true (by kernel_rfl)) h1 bel lt1) trodAll_mk0)), rfl, bel.frame _, fun h => by cases h⟩

theorem MsgOf_holds : Rows.MsgOfSaid :=
  OpenClaim.holds_of_wide 7 Try.f7 rfl rfl rfl rfl rfl rfl rfl ⟨rfl, rfl, rfl, rfl, rfl⟩ rfl rfl rfl rfl rfl (by kernel_rfl) Try.func7 (by kernel_rfl)
    (of_decide_eq_true (by kernel_rfl)) (by unfold Func.isWrapper; rw [if_neg (of_decide_eq_false (by kernel_rfl))]; exact ⟨rfl, rfl⟩)
    (fun os started H enc _ => MsgOf_lifted os started H enc)
#print axioms MsgOf_holds
end Go.Proofs.Ytogkdcbcmhhhcaa
