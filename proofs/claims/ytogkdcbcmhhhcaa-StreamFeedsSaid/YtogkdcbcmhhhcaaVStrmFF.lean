/- StreamFeeds: of any chunks the law returns true, and its argument reads as before. No condition. -/
import Derived.Test.YtogkdcbcmhhhcaaVStrm4
import Derived.Test.YtogkdcbcmhhhcaaVOpen
import Derived.Test.YtogkdcbcmhhhcaaRows
import Derived.ChangeOld
namespace Go.Proofs.Ytogkdcbcmhhhcaa
open Go Go.RowKit Go.ChangeShapes Go.WideShapes Go.ChangeAt Go.Deep

theorem StreamFeeds_open {H : Type} {enc : TypeId × Value → H} {W : World} {base : Nat} {v0 : Value} {d0 : DataW H} {p0 : List MemPlace}
    (a0 : ArgIn enc Try.prog W base 98 v0 d0 p0) : Calls Try.prog 10 #[v0] W (Pure W (.bool true)) := by
  obtain ⟨ds, h1, h2⟩ := arg_sh 6 (s := .sl (.sl (.int .u8))) (by kernel_rfl) a0
  obtain ⟨LL, hLL, rfl⟩ := has_slmap (f := fun L : List Int => V.sl .no (bs L)) (ok := fun L => IsB L) (fun ds h => by
    obtain ⟨L, hB, rfl⟩ := has_bytes h
    exact ⟨L, hB, rfl⟩) h1
  exact v_calls (args := [.sl .no (bls LL)]) ((streamFeeds_v hLL).mono fun _ _ h => h.1) rfl (reps1 h2)

set_option maxRecDepth 100000 in
theorem StreamFeeds_lifted (os : Os) (started : os.Started) (H : Type) (enc : TypeId × Value → H) :
    ReturnsInHanded {} Try.checked os 10 .any (Rows.streamFeedsSpec.pre6 enc Try.prog Try.f10 Rows.streamFeedsRow.domain false) (Rows.streamFeedsSpec.post enc Try.prog Try.f10 false true false false) := by
  refine returnsInHanded_of_change (C := Try.checked) own started (by kernel_rfl) Try.func10
    (ChangeSpec.witness6 (enc := enc) (C := Try.checked) false ⟨#[], #[.slice none 0 0], []⟩ 8 (by kernel_rfl) (by kernel_rfl) (by kernel_rfl) (by kernel_rfl)) ?_
  intro W base args ds gs before hval0 hW hcnd _
  have hval : ∀ (j : Nat) t v, Try.f10.params[j]? = some t → args[j]? = some v → Value.okWide Try.prog W .any base t v := hval0
  have hW' := hW
  obtain ⟨p, q, hA0, hV, rfl, hfz, hnd⟩ := hW
  have hA : DataW.TrodAll enc Try.prog W 0 (fun _ => true) true Try.f10.params.toList args.toList ds p := hA0
  rw [Try.params10] at hA hval
  obtain ⟨v0, vs0, d0, ds0, p0, q0, hargs, rfl, rfl, h0, r0⟩ := trodAll_cons hA
  obtain ⟨rfl, rfl, rfl⟩ := trodAll_nil r0
  obtain rfl : args = #[v0] := by cases args; simp_all
  obtain ⟨rfl, rfl⟩ := trodVars_none hV
  have lt0 : ∀ x ∈ p0, x.block < W.heap.size := by obtain ⟨m, hm⟩ := h0; exact DataW.trod_lt m _ _ _ hm
  clear hA0 hval0
  refine (StreamFeeds_open ⟨hval 0 98 v0 rfl rfl, h0⟩).mono fun e W' ⟨he, bel⟩ => ?_
  subst he
  exact ⟨_, rfl, _, _, _, [], _, [], hW', trodAll_mk1 (shut_bool Try.underlying4 _), (trodAll_cons_mk (Below.trod laidOut (by kernel_rfl) (of_decide_eq_true (by kernel_rfl)) h0 bel lt0) trodAll_mk0), rfl, bel.frame _, fun h => by cases h⟩

theorem StreamFeeds_holds : Rows.StreamFeedsSaid :=
  OpenClaim.holds_of_wide 10 Try.f10 rfl rfl rfl rfl rfl rfl rfl ⟨rfl, rfl, rfl, rfl, rfl⟩ rfl rfl rfl rfl rfl (by kernel_rfl) Try.func10 (by kernel_rfl)
    (of_decide_eq_true (by kernel_rfl)) (by unfold Func.isWrapper; rw [if_neg (of_decide_eq_false (by kernel_rfl))]; exact ⟨rfl, rfl⟩)
    (fun os started H enc _ => StreamFeeds_lifted os started H enc)
#print axioms StreamFeeds_holds
end Go.Proofs.Ytogkdcbcmhhhcaa
