/- CidrTexts: of any prefix and any text the law returns true, and its arguments read as before. No condition. -/
import Derived.Test.YtmomebkfaibmgaaVText9
import Derived.Test.YtmomebkfaibmgaaVSeat
import Derived.Test.YtmomebkfaibmgaaRows
import Derived.ChangeOld
namespace Go.Proofs.Ytmomebkfaibmgaa
open Go Go.RowKit Go.ChangeShapes Go.WideShapes Go.ChangeAt Go.Deep

theorem has_pf {ds : List V} (h : Sh.Has (.st [.int .u32, .int .i64]) ds) : ∃ p : PF, 0 ≤ p.a ∧ p.a < 4294967296 ∧ (-9223372036854775808 ≤ p.b ∧ p.b ≤ 9223372036854775807) ∧ ds = [.sc (.int .u32 p.a), .sc (.int .i64 p.b)] := by
  cases h with
  | st _ _ h =>
  cases h with
  | cons _ _ a b h0 h =>
  cases h with
  | cons _ _ c d h1 h =>
  cases h with
  | nil =>
  cases h0 with
  | int _ x wx =>
  cases h1 with
  | int _ y wy =>
  have := bounds_u32 wx
  have := bounds_i64 wy
  exact ⟨⟨x, y⟩, by simp only; omega, by simp only; omega, by simp only; omega, rfl⟩
theorem CidrTexts_open {H : Type} {enc : TypeId × Value → H} {W : World} {base : Nat} {v0 v1 : Value} {d0 d1 : DataW H} {p0 p1 : List MemPlace}
    (a0 : ArgIn enc Try.prog W base 65 v0 d0 p0) (a1 : ArgIn enc Try.prog W base 9 v1 d1 p1) : Calls Try.prog 5 #[v0, v1] W (Pure W (.bool true)) := by
  obtain ⟨ds, h1, h2⟩ := arg_sh 6 (s := .st [.int .u32, .int .i64]) (by kernel_rfl) a0
  obtain ⟨es, h3, h4⟩ := arg_sh 6 (s := .str) (by kernel_rfl) a1
  obtain ⟨p, q1, q2, q3, rfl⟩ := has_pf h1
  cases h3 with
  | str s hs =>
  have hc := CidrTexts_v (st := st0 W) (bytesOf_isB s) q1 q2 q3
  rw [strOf_bytesOf] at hc
  exact v_calls (args := [p.v, .sc (.string s)]) (hc.mono fun _ _ h => h.1) rfl (reps2 h2 h4)

set_option maxRecDepth 100000 in
theorem CidrTexts_lifted (os : Os) (started : os.Started) (H : Type) (enc : TypeId × Value → H) :
    ReturnsInHanded {} Try.checked os 5 .any (Rows.cidrTextsSpec.pre6 enc Try.prog Try.f5 Rows.cidrTextsRow.domain false) (Rows.cidrTextsSpec.post enc Try.prog Try.f5 false true false false) := by
  refine returnsInHanded_of_change (C := Try.checked) own started (by kernel_rfl) Try.func5
    (ChangeSpec.witness6 (enc := enc) (C := Try.checked) false ⟨#[], #[.agg #[.int .u32 0, .int .i64 0], .string ⟨#[]⟩], []⟩ 8 (by kernel_rfl) (by kernel_rfl) (by kernel_rfl) (by kernel_rfl)) ?_
  intro W base args ds gs before hval0 hW hcnd _
  have hval : ∀ (j : Nat) t v, Try.f5.params[j]? = some t → args[j]? = some v → Value.okWide Try.prog W .any base t v := hval0
  have hW' := hW
  obtain ⟨p, q, hA0, hV, rfl, hfz, hnd⟩ := hW
  have hA : DataW.TrodAll enc Try.prog W 0 (fun _ => true) true Try.f5.params.toList args.toList ds p := hA0
  rw [Try.params5] at hA hval
  obtain ⟨v0, vs0, d0, ds0, p0, q0, hargs, rfl, rfl, h0, r0⟩ := trodAll_cons hA
  obtain ⟨v1, vs1, d1, ds1, p1, q1, rfl, rfl, rfl, h1, r1⟩ := trodAll_cons r0
  obtain ⟨rfl, rfl, rfl⟩ := trodAll_nil r1
  obtain rfl : args = #[v0, v1] := by cases args; simp_all
  obtain ⟨rfl, rfl⟩ := trodVars_none hV
  have lt0 : ∀ x ∈ p0, x.block < W.heap.size := by obtain ⟨m, hm⟩ := h0; exact DataW.trod_lt m _ _ _ hm
  have lt1 : ∀ x ∈ p1, x.block < W.heap.size := by obtain ⟨m, hm⟩ := h1; exact DataW.trod_lt m _ _ _ hm
  clear hA0 hval0
  refine (CidrTexts_open ⟨hval 0 65 v0 rfl rfl, h0⟩ ⟨hval 1 9 v1 rfl rfl, h1⟩).mono fun e W' ⟨he, bel⟩ => ?_
  subst he
  exact ⟨_, rfl, _, _, _, [], _, [], hW', trodAll_mk1 (shut_bool Try.underlying4 _), (trodAll_cons_mk (Below.trod laidOut (by kernel_rfl) (of_decide_eq_true (by kernel_rfl)) h0 bel lt0) (trodAll_cons_mk (Below.trod laidOut (by kernel_rfl) (of_decide_eq_true (by kernel_rfl)) h1 bel lt1) trodAll_mk0)), rfl, bel.frame _, fun h => by cases h⟩

theorem CidrTexts_holds : Rows.CidrTextsSaid :=
  OpenClaim.holds_of_wide 5 Try.f5 rfl rfl rfl rfl rfl rfl rfl ⟨rfl, rfl, rfl, rfl, rfl⟩ rfl rfl rfl rfl rfl (by kernel_rfl) Try.func5 (by kernel_rfl)
    (of_decide_eq_true (by kernel_rfl)) (by unfold Func.isWrapper; rw [if_neg (of_decide_eq_false (by kernel_rfl))]; exact ⟨rfl, rfl⟩)
    (fun os started H enc _ => CidrTexts_lifted os started H enc)
#print axioms CidrTexts_holds
end Go.Proofs.Ytmomebkfaibmgaa
