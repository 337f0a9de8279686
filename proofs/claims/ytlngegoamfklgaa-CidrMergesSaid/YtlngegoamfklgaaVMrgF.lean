/- CidrMerges: of any prefixes and any address the law returns true, and its arguments read as before. No condition. -/
import Derived.Test.YtlngegoamfklgaaZwb
import Derived.Test.YtlngegoamfklgaaRows
import Derived.ChangeOld
namespace Go.Proofs.Ytlngegoamfklgaa
open Go Go.RowKit Go.ChangeShapes Go.WideShapes Go.ChangeAt Go.Deep

/-- A slice is nil, or it isn't. -/
theorem rep_nn {G : Gh} {l : List V} {v : Value} (h : Rep1 G (.sl .no l) v) : (l = [] ∧ Rep1 G (.sl .nil []) v) ∨ Rep1 G (.sl .nn l) v := by
  cases h with
  | nil => exact .inl ⟨rfl, .nil .nil (fun g k e => by cases e)⟩
  | emp a cap hm own he => exact .inr (.emp a cap hm .nn (.inr (.inl rfl)))
  | sl own l b o k cap u hk hF h1 hr hcap hm ho hown hfull => exact .inr (.sl .nn l b o k cap u hk hF h1 hr hcap hm (by simp) (fun g k' e => by cases e))
theorem has_pfx {ds : List V} (h : Sh.Has (.st [.int .u32, .int .i64]) ds) : ∃ x : Pfx, (0 ≤ x.1 ∧ x.1 < 4294967296) ∧ ds = [.sc (.int .u32 x.1), .sc (.int .i64 x.2)] := by
  have hw := has_st h
  obtain ⟨a, _, rfl, ha, hw⟩ := hass_int hw
  obtain ⟨e, _, rfl, _, hw⟩ := hass_int hw
  cases hass_nil hw
  have hb := bounds_u32 ha
  exact ⟨(a, e), ⟨by simp only; omega, by simp only; omega⟩, rfl⟩
theorem CidrMerges_open {H : Type} {enc : TypeId × Value → H} {W : World} {base : Nat} {v0 v1 : Value} {d0 d1 : DataW H} {p0 p1 : List MemPlace}
    (a0 : ArgIn enc Try.prog W base 73 v0 d0 p0) (a1 : ArgIn enc Try.prog W base 23 v1 d1 p1) : Calls Try.prog 9 #[v0, v1] W (Pure W (.bool true)) := by
  obtain ⟨es, h3, h4⟩ := arg_sh 6 (s := .sl (.st [.int .u32, .int .i64])) (by kernel_rfl) a0
  obtain ⟨fs, h5, h6⟩ := arg_sh 6 (s := .int .u32) (by kernel_rfl) a1
  obtain ⟨C, hC, rfl⟩ := has_slmap (f := pfxV) (ok := fun o => 0 ≤ o.1 ∧ o.1 < 4294967296) (fun ds h => by
    obtain ⟨x, hx, rfl⟩ := has_pfx h
    exact ⟨x, hx, rfl⟩) h3
  cases h5 with
  | int _ a ha =>
  have hb := bounds_u32 ha
  rcases rep_nn h4 with ⟨_, h4⟩ | h4
  · exact v_calls (args := [.sl .nil [], .sc (.int .u32 a)]) (cidrMerges0_v.mono fun _ _ h => h.1) rfl (reps2 h4 h6)
  · exact v_calls (args := [.sl .nn (pfs C), .sc (.int .u32 a)]) ((cidrMerges_v (by omega) (by omega) hC).mono fun _ _ h => h.1) rfl (reps2 h4 h6)

set_option maxRecDepth 100000 in
theorem CidrMerges_lifted (os : Os) (started : os.Started) (H : Type) (enc : TypeId × Value → H) :
    ReturnsInHanded {} Try.checked os 9 .any (Rows.cidrMergesSpec.pre6 enc Try.prog Try.f9 Rows.cidrMergesRow.domain false) (Rows.cidrMergesSpec.post enc Try.prog Try.f9 false true false false) := by
  refine returnsInHanded_of_change (C := Try.checked) own started (by kernel_rfl) Try.func9
    (ChangeSpec.witness6 (enc := enc) (C := Try.checked) false ⟨#[], #[.slice none 0 0, .int .u32 0], []⟩ 8 (by kernel_rfl) (by kernel_rfl) (by kernel_rfl) (by kernel_rfl)) ?_
  intro W base args ds gs before hval0 hW hcnd _
  have hval : ∀ (j : Nat) t v, Try.f9.params[j]? = some t → args[j]? = some v → Value.okWide Try.prog W .any base t v := hval0
  have hW' := hW
  obtain ⟨p, q, hA0, hV, rfl, hfz, hnd⟩ := hW
  have hA : DataW.TrodAll enc Try.prog W 0 (fun _ => true) true Try.f9.params.toList args.toList ds p := hA0
  rw [Try.params9] at hA hval
  obtain ⟨v0, vs0, d0, ds0, p0, q0, hargs, rfl, rfl, h0, r0⟩ := trodAll_cons hA
  obtain ⟨v1, vs1, d1, ds1, p1, q1, rfl, rfl, rfl, h1, r1⟩ := trodAll_cons r0
  obtain ⟨rfl, rfl, rfl⟩ := trodAll_nil r1
  obtain rfl : args = #[v0, v1] := by cases args; simp_all
  obtain ⟨rfl, rfl⟩ := trodVars_none hV
  have lt0 : ∀ x ∈ p0, x.block < W.heap.size := by obtain ⟨m, hm⟩ := h0; exact DataW.trod_lt m _ _ _ hm
  have lt1 : ∀ x ∈ p1, x.block < W.heap.size := by obtain ⟨m, hm⟩ := h1; exact DataW.trod_lt m _ _ _ hm
  clear hA0 hval0
  refine (CidrMerges_open ⟨hval 0 73 v0 rfl rfl, h0⟩ ⟨hval 1 23 v1 rfl rfl, h1⟩).mono fun e W' ⟨he, bel⟩ => ?_
  subst he
  exact ⟨_, rfl, _, _, _, [], _, [], hW', trodAll_mk1 (shut_bool Try.underlying4 _), (trodAll_cons_mk (Below.trod laidOut (by kernel_rfl) (of_decide_eq_true (by kernel_rfl)) h0 bel lt0) (trodAll_cons_mk (Below.trod laidOut (by kernel_rfl) (of_decide_eq_true (by kernel_rfl)) h1 bel lt1) trodAll_mk0)), rfl, bel.frame _, fun h => by cases h⟩

theorem CidrMerges_holds : Rows.CidrMergesSaid :=
  OpenClaim.holds_of_wide 9 Try.f9 rfl rfl rfl rfl rfl rfl rfl ⟨rfl, rfl, rfl, rfl, rfl⟩ rfl rfl rfl rfl rfl (by kernel_rfl) Try.func9 (by kernel_rfl)
    (of_decide_eq_true (by kernel_rfl)) (by unfold Func.isWrapper; rw [if_neg (of_decide_eq_false (by kernel_rfl))]; exact ⟨rfl, rfl⟩)
    (fun os started H enc _ => CidrMerges_lifted os started H enc)
#print axioms CidrMerges_holds
end Go.Proofs.Ytlngegoamfklgaa
