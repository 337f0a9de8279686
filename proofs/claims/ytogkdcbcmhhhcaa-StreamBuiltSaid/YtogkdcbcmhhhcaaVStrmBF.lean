/- StreamBuilt: of any messages and any cuts the law returns true, and its arguments read as before. No condition. -/
import Derived.Test.YtogkdcbcmhhhcaaVStrm5
import Derived.Test.YtogkdcbcmhhhcaaVOpenM
import Derived.Test.YtogkdcbcmhhhcaaRows
import Derived.ChangeOld
namespace Go.Proofs.Ytogkdcbcmhhhcaa
open Go Go.RowKit Go.ChangeShapes Go.WideShapes Go.ChangeAt Go.Deep

theorem StreamBuilt_open {H : Type} {enc : TypeId × Value → H} {W : World} {base : Nat} {v0 v1 : Value} {d0 d1 : DataW H} {p0 p1 : List MemPlace}
    (a0 : ArgIn enc Try.prog W base 46 v0 d0 p0) (a1 : ArgIn enc Try.prog W base 86 v1 d1 p1) : Calls Try.prog 9 #[v0, v1] W (Pure W (.bool true)) := by
  obtain ⟨ds, h1, h2⟩ := arg_sh 6 (s := .sl (.st [.int .i64, .st (List.replicate 9 (.int .u32)), .st (List.replicate 3 .str)])) (by kernel_rfl) a0
  obtain ⟨es, h3, h4⟩ := arg_sh 6 (s := .sl (.int .i64)) (by kernel_rfl) a1
  obtain ⟨l, hl, rfl⟩ := has_slmap (f := MB.v) (ok := MB.Ok0) (fun ds h => by
    obtain ⟨m, t0, t1, t2, q1, q2, q3, q4, q5, rfl⟩ := has_mb h
    exact ⟨m, ⟨q2, by rw [q4]; rfl, q3, q5⟩, rfl⟩) h1
  obtain ⟨L, hL, rfl⟩ := has_slmap (f := fun n : Int => V.sc (.int .i64 n)) (ok := fun n => -9223372036854775808 ≤ n ∧ n ≤ 9223372036854775807) (fun ds h => by
    cases h with
    | int _ n hw => exact ⟨n, by have := bounds_i64 hw; omega, rfl⟩) h3
  exact v_calls (args := [.sl .no (mv l), .sl .no (is L)]) ((streamBuilt_v hl hL).mono fun _ _ h => h.1) rfl (reps2 h2 h4)

set_option maxRecDepth 100000 in
theorem StreamBuilt_lifted (os : Os) (started : os.Started) (H : Type) (enc : TypeId × Value → H) :
    ReturnsInHanded {} Try.checked os 9 .any (Rows.streamBuiltSpec.pre6 enc Try.prog Try.f9 Rows.streamBuiltRow.domain false) (Rows.streamBuiltSpec.post enc Try.prog Try.f9 false true false false) := by
  refine returnsInHanded_of_change (C := Try.checked) own started (by kernel_rfl) Try.func9
    (ChangeSpec.witness6 (enc := enc) (C := Try.checked) false ⟨#[], #[.slice none 0 0, .slice none 0 0], []⟩ 8 (by kernel_rfl) (by kernel_rfl) (by kernel_rfl) (by kernel_rfl)) ?_
  intro W base args ds gs before hval0 hW hcnd _
  have hval : ∀ (j : Nat) t v, Try.f9.params[j]? = some t → args[j]? = some v → Value.okWide Try.prog W .any base t v := hval0
  have hW' := hW
  obtain ⟨p, q, hA0, hV, rfl, hfz, hnd⟩ := hW
  have hA : DataW.TrodAll enc Try.prog W 0 (fun _ => true) true Try.f9.params.toList args.toList ds p := hA0
  rw [Try.params9] at hA hval
  obtain ⟨v0, vs0, d0, ds0, p0, q0, hargs, rfl, rfl, h0, r0⟩ := trodAll_cons hA
  obtain ⟨v1, vs1, d1, ds1, p1, q1, rfl, rfl, rfl, h1, r1⟩ := trodAll_cons r0
  obtain ⟨rfl, rfl, rfl⟩ := trodAll_nil r1
  obtain rfl : args = #[v0, v1] := by cases args; simp_all
  obtain ⟨rfl, rfl⟩ := trodVars_none hV
  have lt0 : ∀ x ∈ p0, x.block < W.heap.size := by obtain ⟨m, hm⟩ := h0; exact DataW.trod_lt m _ _ _ hm
  have lt1 : ∀ x ∈ p1, x.block < W.heap.size := by obtain ⟨m, hm⟩ := h1; exact DataW.trod_lt m _ _ _ hm
  clear hA0 hval0
  refine (StreamBuilt_open ⟨hval 0 46 v0 rfl rfl, h0⟩ ⟨hval 1 86 v1 rfl rfl, h1⟩).mono fun e W' ⟨he, bel⟩ => ?_
  subst he
  exact ⟨_, rfl, _, _, _, [], _, [], hW', trodAll_mk1 (shut_bool Try.underlying4 _), (trodAll_cons_mk (Below.trod laidOut (by kernel_rfl) (of_decide_eq_true (by kernel_rfl)) h0 bel lt0) (trodAll_cons_mk (Below.trod laidOut (by kernel_rfl) (of_decide_eq_true (by kernel_rfl)) h1 bel lt1) trodAll_mk0)), rfl, bel.frame _, fun h => by cases h⟩

theorem StreamBuilt_holds : Rows.StreamBuiltSaid :=
  OpenClaim.holds_of_wide 9 Try.f9 rfl rfl rfl rfl rfl rfl rfl ⟨rfl, rfl, rfl, rfl, rfl⟩ rfl rfl rfl rfl rfl (by kernel_rfl) Try.func9 (by kernel_rfl)
    (of_decide_eq_true (by kernel_rfl)) (by unfold Func.isWrapper; rw [if_neg (of_decide_eq_false (by kernel_rfl))]; exact ⟨rfl, rfl⟩)
    (fun os started H enc _ => StreamBuilt_lifted os started H enc)
#print axioms StreamBuilt_holds
end Go.Proofs.Ytogkdcbcmhhhcaa
