/- LinkMeets: of any secret, any address and any asks the law returns true, and its arguments read as before. No condition. -/
import Derived.Test.YtcoalhgmlbhhmaaGreatZwc
import Derived.Test.YtcoalhgmlbhhmaaGreatRows
import Derived.ChangeOld
namespace Go.Proofs.YtcoalhgmlbhhmaaGreat
open Go Go.RowKit Go.ChangeShapes Go.WideShapes Go.ChangeAt Go.Deep
theorem LinkMeets_open {H : Type} {enc : TypeId × Value → H} {W : World} {base : Nat} {v0 v1 v2 : Value} {d0 d1 d2 : DataW H} {p0 p1 p2 : List MemPlace}
    (a0 : ArgIn enc Tryz.prog W base 23 v0 d0 p0) (a1 : ArgIn enc Tryz.prog W base 25 v1 d1 p1) (a2 : ArgIn enc Tryz.prog W base 26 v2 d2 p2) : Calls Tryz.prog 3 #[v0, v1, v2] W (Pure W (.bool true)) := by
  obtain ⟨ds0, h1, h2⟩ := arg_sh 6 (s := .st [.str, .str]) (by kernel_rfl) a0
  obtain ⟨es, h3, h4⟩ := arg_sh 6 (s := .int .u32) (by kernel_rfl) a1
  obtain ⟨fs, h5, h6⟩ := arg_sh 6 (s := .sl .bool) (by kernel_rfl) a2
  have h := has_st h1
  obtain ⟨n, _, rfl, _, h⟩ := hass_str h
  obtain ⟨a, _, rfl, _, h⟩ := hass_str h
  cases hass_nil h
  obtain ⟨L, _, rfl⟩ := has_slmap (f := fun b => .sc (.bool b)) (ok := fun _ => True) (fun ds h => by
    cases h with
    | bool b => exact ⟨b, trivial, rfl⟩) h5
  cases h3 with
  | int _ x hw =>
  have b := bounds_u32 hw
  exact v_calls (args := [.agg [.sc (.string n), .sc (.string a)], .sc (.int .u32 x), .sl .no (bls L)]) ((linkMeets_v (by omega) (by omega)).mono fun _ _ h => h) rfl (reps3 h2 h4 h6)
set_option maxRecDepth 100000 in
theorem LinkMeets_lifted (os : Os) (started : os.Started) (H : Type) (enc : TypeId × Value → H) :
    ReturnsInHanded {} Tryz.checked os 3 .any (Rows.linkMeetsSpec.pre6 enc Tryz.prog Tryz.f3 Rows.linkMeetsRow.domain false) (Rows.linkMeetsSpec.post enc Tryz.prog Tryz.f3 false true false false) := by
  refine returnsInHanded_of_change (C := Tryz.checked) own started (by kernel_rfl) Tryz.func3
    (ChangeSpec.witness6 (enc := enc) (C := Tryz.checked) false ⟨#[], #[.agg #[.string ⟨#[]⟩, .string ⟨#[]⟩], .int .u32 0, .slice none 0 0], []⟩ 8 (by kernel_rfl) (by kernel_rfl) (by kernel_rfl) (by kernel_rfl)) ?_
  intro W base args ds gs before hval0 hW hcnd _
  have hval : ∀ (j : Nat) t v, Tryz.f3.params[j]? = some t → args[j]? = some v → Value.okWide Tryz.prog W .any base t v := hval0
  have hW' := hW
  obtain ⟨p, q, hA0, hV, rfl, hfz, hnd⟩ := hW
  have hA : DataW.TrodAll enc Tryz.prog W 0 (fun _ => true) true Tryz.f3.params.toList args.toList ds p := hA0
  rw [Tryz.params3] at hA hval
  obtain ⟨v0, vs0, d0, ds0, p0, q0, hargs, rfl, rfl, h0, r0⟩ := trodAll_cons hA
  obtain ⟨v1, vs1, d1, ds1, p1, q1, rfl, rfl, rfl, h1, r1⟩ := trodAll_cons r0
  obtain ⟨v2, vs2, d2, ds2, p2, q2, rfl, rfl, rfl, h2, r2⟩ := trodAll_cons r1
  obtain ⟨rfl, rfl, rfl⟩ := trodAll_nil r2
  obtain rfl : args = #[v0, v1, v2] := by cases args; simp_all
  obtain ⟨rfl, rfl⟩ := trodVars_none hV
  have lt0 : ∀ x ∈ p0, x.block < W.heap.size := by obtain ⟨m, hm⟩ := h0; exact DataW.trod_lt m _ _ _ hm
  have lt1 : ∀ x ∈ p1, x.block < W.heap.size := by obtain ⟨m, hm⟩ := h1; exact DataW.trod_lt m _ _ _ hm
  have lt2 : ∀ x ∈ p2, x.block < W.heap.size := by obtain ⟨m, hm⟩ := h2; exact DataW.trod_lt m _ _ _ hm
  clear hA0 hval0
  refine (LinkMeets_open ⟨hval 0 23 v0 rfl rfl, h0⟩ ⟨hval 1 25 v1 rfl rfl, h1⟩ ⟨hval 2 26 v2 rfl rfl, h2⟩).mono fun e W' ⟨he, bel⟩ => ?_
  subst he
  exact ⟨_, rfl, _, _, _, [], _, [], hW', trodAll_mk1 (shut_bool Tryz.underlying4 _), (trodAll_cons_mk (Below.trod laidOut (by kernel_rfl) (of_decide_eq_true (by kernel_rfl)) h0 bel lt0) (trodAll_cons_mk (Below.trod laidOut (by kernel_rfl) (of_decide_eq_true (by kernel_rfl)) h1 bel lt1) (trodAll_cons_mk (Below.trod laidOut (by kernel_rfl) (of_decide_eq_true (by kernel_rfl)) h2 bel lt2) trodAll_mk0))), rfl, bel.frame _, fun h => by cases h⟩
theorem LinkMeets_holds : Rows.LinkMeetsSaid :=
  OpenClaim.holds_of_wide 3 Tryz.f3 rfl rfl rfl rfl rfl rfl rfl ⟨rfl, rfl, rfl, rfl, rfl⟩ rfl rfl rfl rfl rfl (by kernel_rfl) Tryz.func3 (by kernel_rfl)
    (of_decide_eq_true (by kernel_rfl)) (by unfold Func.isWrapper; rw [if_neg (of_decide_eq_false (by kernel_rfl))]; exact ⟨rfl, rfl⟩)
    (fun os started H enc _ => LinkMeets_lifted os started H enc)
#print axioms LinkMeets_holds
end Go.Proofs.YtcoalhgmlbhhmaaGreat
