/- CallsPlay: of any beginning and any calls the law returns true, and its arguments read as before. No condition. -/
import Derived.Test.YtogkdcbcmhhhcaaVCallsP
import Derived.Test.YtogkdcbcmhhhcaaVOpen
import Derived.Test.YtogkdcbcmhhhcaaRows
import Derived.ChangeOld
namespace Go.Proofs.Ytogkdcbcmhhhcaa
open Go Go.RowKit Go.ChangeShapes Go.WideShapes Go.ChangeAt Go.Deep

theorem CallsPlay_open {H : Type} {enc : TypeId × Value → H} {W : World} {base : Nat} {v0 v1 : Value} {d0 d1 : DataW H} {p0 p1 : List MemPlace}
    (a0 : ArgIn enc Try.prog W base 36 v0 d0 p0) (a1 : ArgIn enc Try.prog W base 37 v1 d1 p1) : Calls Try.prog 5 #[v0, v1] W (Pure W (.bool true)) := by
  obtain ⟨ds, h1, h2⟩ := arg_sh 6 (s := .st [.bool, .st [.int .i64, .st (List.replicate 9 (.int .u32)), .st (List.replicate 3 .str)], .int .u16, .int .u16, .int .i64]) (by kernel_rfl) a0
  obtain ⟨es, h3, h4⟩ := arg_sh 6 (s := .sl (.st [.int .i64, .st [.int .i64, .st (List.replicate 9 (.int .u32)), .st (List.replicate 3 .str)]])) (by kernel_rfl) a1
  replace h1 := has_st h1
  obtain ⟨inb, b, rfl, k1⟩ := hass_bool h1
  obtain ⟨m, c, hm, rfl, k2⟩ := hass_m9 k1
  obtain ⟨mine, d, rfl, w1, k3⟩ := hass_int k2
  obtain ⟨serial, e, rfl, w2, k4⟩ := hass_int k3
  obtain ⟨window, f, rfl, w3, k5⟩ := hass_int k4
  cases hass_nil k5
  obtain ⟨L, hL, rfl⟩ := has_slmap (f := opV) (ok := fun o => o.2.Ok) (fun ds h => by
    replace h := has_st h
    obtain ⟨k, b, rfl, w, q1⟩ := hass_int h
    obtain ⟨m, c, hm, rfl, q2⟩ := hass_m9 q1
    cases hass_nil q2
    exact ⟨(k, m), hm, rfl⟩) h3
  have := bounds_u16 w1
  have := bounds_u16 w2
  exact v_calls (args := [startV inb m mine serial window, .sl .no (opsV L)]) (CallsPlay_v hm (by omega) (by omega) hL) rfl (reps2 h2 h4)

set_option maxRecDepth 100000 in
theorem CallsPlay_lifted (os : Os) (started : os.Started) (H : Type) (enc : TypeId × Value → H) :
    ReturnsInHanded {} Try.checked os 5 .any (Rows.callsPlaySpec.pre6 enc Try.prog Try.f5 Rows.callsPlayRow.domain false) (Rows.callsPlaySpec.post enc Try.prog Try.f5 false true false false) := by
  refine returnsInHanded_of_change (C := Try.checked) own started (by kernel_rfl) Try.func5
    (ChangeSpec.witness6 (enc := enc) (C := Try.checked) false ⟨#[], #[.agg #[.bool false, .int .i64 0, .int .u32 0, .int .u32 0, .int .u32 0, .int .u32 0, .int .u32 0, .int .u32 0, .int .u32 0, .int .u32 0, .int .u32 0, .string ⟨#[]⟩, .string ⟨#[]⟩, .string ⟨#[]⟩, .int .u16 0, .int .u16 0, .int .i64 0], .slice none 0 0], []⟩ 8 (by kernel_rfl) (by kernel_rfl) (by kernel_rfl) (by kernel_rfl)) ?_
  intro W base args ds gs before hval0 hW hcnd _
  have hval : ∀ (j : Nat) t v, Try.f5.params[j]? = some t → args[j]? = some v → Value.okWide Try.prog W .any base t v := hval0
  have hW' := hW
  obtain ⟨p, q, hA0, hV, rfl, hfz, hnd⟩ := hW
  have hA : DataW.TrodAll enc Try.prog W 0 (fun _ => true) true Try.f5.params.toList args.toList ds p := hA0
  rw [Try.params5] at hA hval
  obtain ⟨v0, vs0, d0, ds0, p0, q0, hargs, rfl, rfl, h0, r0⟩ := trodAll_cons hA
  obtain ⟨v1, vs1, d1, ds1, p1, q1, rfl, rfl, rfl, h1, r1⟩ := trodAll_cons r0
  obtain ⟨rfl, rfl, rfl⟩ := trodAll_nil r1
  obtain rfl : args = #[v0, v1] := by cases args; simp_all
  obtain ⟨rfl, rfl⟩ := trodVars_none hV
  have lt0 : ∀ x ∈ p0, x.block < W.heap.size := by obtain ⟨m, hm⟩ := h0; exact DataW.trod_lt m _ _ _ hm
  have lt1 : ∀ x ∈ p1, x.block < W.heap.size := by obtain ⟨m, hm⟩ := h1; exact DataW.trod_lt m _ _ _ hm
  clear hA0 hval0
  refine (CallsPlay_open ⟨hval 0 36 v0 rfl rfl, h0⟩ ⟨hval 1 37 v1 rfl rfl, h1⟩).mono fun e W' ⟨he, bel⟩ => ?_
  subst he
  exact ⟨_, rfl, _, _, _, [], _, [], hW', trodAll_mk1 (shut_bool Try.underlying4 _), (trodAll_cons_mk (Below.trod laidOut (by kernel_rfl) (of_decide_eq_true (by kernel_rfl)) h0 bel lt0) (trodAll_cons_mk (Below.trod laidOut (by kernel_rfl) (of_decide_eq_true (by kernel_rfl)) h1 bel lt1) trodAll_mk0)), rfl, bel.frame _, fun h => by cases h⟩

theorem CallsPlay_holds : Rows.CallsPlaySaid :=
  OpenClaim.holds_of_wide 5 Try.f5 rfl rfl rfl rfl rfl rfl rfl ⟨rfl, rfl, rfl, rfl, rfl⟩ rfl rfl rfl rfl rfl (by kernel_rfl) Try.func5 (by kernel_rfl)
    (of_decide_eq_true (by kernel_rfl)) (by unfold Func.isWrapper; rw [if_neg (of_decide_eq_false (by kernel_rfl))]; exact ⟨rfl, rfl⟩)
    (fun os started H enc _ => CallsPlay_lifted os started H enc)
#print axioms CallsPlay_holds
end Go.Proofs.Ytogkdcbcmhhhcaa
