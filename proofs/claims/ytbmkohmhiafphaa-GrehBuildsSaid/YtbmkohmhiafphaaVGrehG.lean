/- GrehBuilds: of any packet the law returns true, and its argument reads as before. No condition. -/
import Derived.Test.YtbmkohmhiafphaaVGreh5
import Derived.Test.YtbmkohmhiafphaaVSeat
import Derived.Test.YtbmkohmhiafphaaRows
import Derived.ChangeOld
namespace Go.Proofs.Ytbmkohmhiafphaa
open Go Go.RowKit Go.ChangeShapes Go.WideShapes Go.ChangeAt Go.Deep

theorem has_td {ds : List V} (h : Sh.Has (.st [.int .u16, .bool, .int .u32, .bool, .int .u32, .sl (.int .u8)]) ds) : ∃ t : TD, t.Ok ∧ V.agg ds = t.v .no := by
  cases h with
  | st _ _ h =>
  cases h with
  | cons _ _ _ _ h0 h =>
  cases h with
  | cons _ _ _ _ h1 h =>
  cases h with
  | cons _ _ _ _ h2 h =>
  cases h with
  | cons _ _ _ _ h3 h =>
  cases h with
  | cons _ _ _ _ h4 h =>
  cases h with
  | cons _ _ _ _ h5 h =>
  cases h with
  | nil =>
  obtain ⟨L, hB, rfl⟩ := has_bytes h5
  cases h0 with
  | int _ c hc =>
  cases h1 with
  | bool s =>
  cases h2 with
  | int _ q hq =>
  cases h3 with
  | bool a =>
  cases h4 with
  | int _ k hk =>
  have := bounds_u16 hc
  have := bounds_u32 hq
  have := bounds_u32 hk
  exact ⟨⟨c, s, q, a, k, L⟩, ⟨by simp only; omega, by simp only; omega, by simp only; omega, by simp only; omega, by simp only; omega, by simp only; omega, hB⟩, rfl⟩

theorem GrehBuilds_open {H : Type} {enc : TypeId × Value → H} {W : World} {base : Nat} {v0 : Value} {d0 : DataW H} {p0 : List MemPlace}
    (a0 : ArgIn enc Try.prog W base 39 v0 d0 p0) : Calls Try.prog 4 #[v0] W (Pure W (.bool true)) := by
  obtain ⟨ds, h1, h2⟩ := arg_sh 4 (s := .st [.int .u16, .bool, .int .u32, .bool, .int .u32, .sl (.int .u8)]) (by kernel_rfl) a0
  obtain ⟨t, ht, he⟩ := has_td h1
  refine v_calls (args := [t.v .no]) (GrehBuilds_v t ht) rfl (reps1 ?_)
  rw [← he]
  exact h2

set_option maxRecDepth 100000 in
theorem GrehBuilds_lifted (os : Os) (started : os.Started) (H : Type) (enc : TypeId × Value → H) :
    ReturnsInHanded {} Try.checked os 4 .any (Rows.grehBuildsSpec.pre6 enc Try.prog Try.f4 Rows.grehBuildsRow.domain false) (Rows.grehBuildsSpec.post enc Try.prog Try.f4 false true false false) := by
  refine returnsInHanded_of_change (C := Try.checked) own started (by kernel_rfl) Try.func4
    (ChangeSpec.witness6 (enc := enc) (C := Try.checked) false ⟨#[], #[.agg #[.int .u16 0, .bool false, .int .u32 0, .bool false, .int .u32 0, .slice none 0 0]], []⟩ 8 (by kernel_rfl) (by kernel_rfl) (by kernel_rfl) (by kernel_rfl)) ?_
  intro W base args ds gs before hval0 hW hcnd _
  have hval : ∀ (j : Nat) t v, Try.f4.params[j]? = some t → args[j]? = some v → Value.okWide Try.prog W .any base t v := hval0
  have hW' := hW
  obtain ⟨p, q, hA0, hV, rfl, hfz, hnd⟩ := hW
  have hA : DataW.TrodAll enc Try.prog W 0 (fun _ => true) true Try.f4.params.toList args.toList ds p := hA0
  rw [Try.params4] at hA hval
  obtain ⟨v0, vs0, d0, ds0, p0, q0, hargs, rfl, rfl, h0, r0⟩ := trodAll_cons hA
  obtain ⟨rfl, rfl, rfl⟩ := trodAll_nil r0
  obtain rfl : args = #[v0] := by cases args; simp_all
  obtain ⟨rfl, rfl⟩ := trodVars_none hV
  have lt0 : ∀ x ∈ p0, x.block < W.heap.size := by obtain ⟨m, hm⟩ := h0; exact DataW.trod_lt m _ _ _ hm
  clear hA0 hval0
  refine (GrehBuilds_open ⟨hval 0 39 v0 rfl rfl, h0⟩).mono fun e W' ⟨he, bel⟩ => ?_
  subst he
  exact ⟨_, rfl, _, _, _, [], _, [], hW', trodAll_mk1 (shut_bool Try.underlying4 _), (trodAll_cons_mk (Below.trod laidOut (by kernel_rfl) (of_decide_eq_true (by kernel_rfl)) h0 bel lt0) trodAll_mk0), rfl, bel.frame _, fun h => by cases h⟩

theorem GrehBuilds_holds : Rows.GrehBuildsSaid :=
  OpenClaim.holds_of_wide 4 Try.f4 rfl rfl rfl rfl rfl rfl rfl ⟨rfl, rfl, rfl, rfl, rfl⟩ rfl rfl rfl rfl rfl (by kernel_rfl) Try.func4 (by kernel_rfl)
    (of_decide_eq_true (by kernel_rfl)) (by unfold Func.isWrapper; rw [if_neg (of_decide_eq_false (by kernel_rfl))]; exact ⟨rfl, rfl⟩)
    (fun os started H enc _ => GrehBuilds_lifted os started H enc)
#print axioms GrehBuilds_holds
end Go.Proofs.Ytbmkohmhiafphaa
