/- IcmpAbout: of any address, any bytes and any message the law returns true, and its arguments read as before. No condition. -/
import Derived.Test.YtbmkohmhiafphaaVIcmpA
import Derived.Test.YtbmkohmhiafphaaVSeat
import Derived.Test.YtbmkohmhiafphaaRows
import Derived.ChangeOld
namespace Go.Proofs.Ytbmkohmhiafphaa
open Go Go.RowKit Go.ChangeShapes Go.WideShapes Go.ChangeAt Go.Deep

theorem has_u32 {ds : List V} (h : Sh.Has (.int .u32) ds) : ∃ n : Int, ds = [.sc (.int .u32 n)] ∧ 0 ≤ n ∧ n < 4294967296 := by
  cases h with
  | int _ n hw => have := bounds_u32 hw; exact ⟨n, rfl, by omega, by omega⟩
theorem has_ms {ds : List V} (h : Sh.Has (.st [.int .u8, .int .u8, .int .u32, .sl (.int .u8)]) ds) : ∃ t : MS, t.Ok ∧ V.agg ds = t.v .no := by
  cases h with
  | st _ _ h =>
  cases h with
  | cons _ _ _ _ h0 h =>
  cases h with
  | cons _ _ _ _ h1 h =>
  cases h with
  | cons _ _ _ _ h2 h =>
  cases h with
  | cons _ _ _ _ h3 h =>
  cases h with
  | nil =>
  obtain ⟨D, hD, rfl⟩ := has_bytes h3
  cases h0 with
  | int _ c0 k0 =>
  cases h1 with
  | int _ c1 k1 =>
  cases h2 with
  | int _ c2 k2 =>
  have := bounds_u8 k0
  have := bounds_u8 k1
  have := bounds_u32 k2
  exact ⟨⟨c0, c1, c2, D⟩, ⟨by simp only; omega, by simp only; omega, by simp only; omega, hD⟩, rfl⟩

theorem IcmpAbout_open {H : Type} {enc : TypeId × Value → H} {W : World} {base : Nat} {v0 v1 v2 : Value} {d0 d1 d2 : DataW H} {p0 p1 p2 : List MemPlace}
    (a0 : ArgIn enc Try.prog W base 48 v0 d0 p0) (a1 : ArgIn enc Try.prog W base 23 v1 d1 p1) (a2 : ArgIn enc Try.prog W base 25 v2 d2 p2) : Calls Try.prog 9 #[v0, v1, v2] W (Pure W (.bool true)) := by
  obtain ⟨cs, g1, g2⟩ := arg_sh 3 (s := .int .u32) (by kernel_rfl) a0
  obtain ⟨ds, h1, h2⟩ := arg_sh 3 (s := .sl (.int .u8)) (by kernel_rfl) a1
  obtain ⟨es, h3, h4⟩ := arg_sh 4 (s := .st [.int .u8, .int .u8, .int .u32, .sl (.int .u8)]) (by kernel_rfl) a2
  obtain ⟨me, rfl, m0, m1⟩ := has_u32 g1
  obtain ⟨L, hB, rfl⟩ := has_bytes h1
  obtain ⟨m, hm, he⟩ := has_ms h3
  refine v_calls (args := [.sc (.int .u32 me), .sl .no (bs L), m.v .no]) (IcmpAbout_v m0 m1 hB m hm) rfl (reps3 g2 h2 ?_)
  rw [← he]
  exact h4

set_option maxRecDepth 100000 in
theorem IcmpAbout_lifted (os : Os) (started : os.Started) (H : Type) (enc : TypeId × Value → H) :
    ReturnsInHanded {} Try.checked os 9 .any (Rows.icmpAboutSpec.pre6 enc Try.prog Try.f9 Rows.icmpAboutRow.domain false) (Rows.icmpAboutSpec.post enc Try.prog Try.f9 false true false false) := by
  refine returnsInHanded_of_change (C := Try.checked) own started (by kernel_rfl) Try.func9
    (ChangeSpec.witness6 (enc := enc) (C := Try.checked) false ⟨#[], #[.int .u32 0, .slice none 0 0, .agg #[.int .u8 0, .int .u8 0, .int .u32 0, .slice none 0 0]], []⟩ 8 (by kernel_rfl) (by kernel_rfl) (by kernel_rfl) (by kernel_rfl)) ?_
  intro W base args ds gs before hval0 hW hcnd _
  have hval : ∀ (j : Nat) t v, Try.f9.params[j]? = some t → args[j]? = some v → Value.okWide Try.prog W .any base t v := hval0
  have hW' := hW
  obtain ⟨p, q, hA0, hV, rfl, hfz, hnd⟩ := hW
  have hA : DataW.TrodAll enc Try.prog W 0 (fun _ => true) true Try.f9.params.toList args.toList ds p := hA0
  rw [Try.params9] at hA hval
  obtain ⟨v0, vs0, d0, ds0, p0, q0, hargs, rfl, rfl, h0, r0⟩ := trodAll_cons hA
  obtain ⟨v1, vs1, d1, ds1, p1, q1, rfl, rfl, rfl, h1, r1⟩ := trodAll_cons r0
  obtain ⟨v2, vs2, d2, ds2, p2, q2, rfl, rfl, rfl, h2, r2⟩ := trodAll_cons r1
  obtain ⟨rfl, rfl, rfl⟩ := trodAll_nil r2
  obtain rfl : args = #[v0, v1, v2] := by cases args; simp_all
  obtain ⟨rfl, rfl⟩ := trodVars_none hV
  have lt0 : ∀ x ∈ p0, x.block < W.heap.size := by obtain ⟨m, hm⟩ := h0; exact DataW.trod_lt m _ _ _ hm
  have lt1 : ∀ x ∈ p1, x.block < W.heap.size := by obtain ⟨m, hm⟩ := h1; exact DataW.trod_lt m _ _ _ hm
  have lt2 : ∀ x ∈ p2, x.block < W.heap.size := by obtain ⟨m, hm⟩ := h2; exact DataW.trod_lt m _ _ _ hm
  clear hA0 hval0
  refine (IcmpAbout_open ⟨hval 0 48 v0 rfl rfl, h0⟩ ⟨hval 1 23 v1 rfl rfl, h1⟩ ⟨hval 2 25 v2 rfl rfl, h2⟩).mono fun e W' ⟨he, bel⟩ => ?_
  subst he
  exact ⟨_, rfl, _, _, _, [], _, [], hW', trodAll_mk1 (shut_bool Try.underlying4 _), (trodAll_cons_mk (Below.trod laidOut (by kernel_rfl) (of_decide_eq_true (by kernel_rfl)) h0 bel lt0) (trodAll_cons_mk (Below.trod laidOut (by kernel_rfl) (of_decide_eq_true (by kernel_rfl)) h1 bel lt1) (trodAll_cons_mk (Below.trod laidOut (by kernel_rfl) (of_decide_eq_true (by kernel_rfl)) h2 bel lt2) trodAll_mk0))), rfl, bel.frame _, fun h => by cases h⟩

theorem IcmpAbout_holds : Rows.IcmpAboutSaid :=
  OpenClaim.holds_of_wide 9 Try.f9 rfl rfl rfl rfl rfl rfl rfl ⟨rfl, rfl, rfl, rfl, rfl⟩ rfl rfl rfl rfl rfl (by kernel_rfl) Try.func9 (by kernel_rfl)
    (of_decide_eq_true (by kernel_rfl)) (by unfold Func.isWrapper; rw [if_neg (of_decide_eq_false (by kernel_rfl))]; exact ⟨rfl, rfl⟩)
    (fun os started H enc _ => IcmpAbout_lifted os started H enc)
#print axioms IcmpAbout_holds
end Go.Proofs.Ytbmkohmhiafphaa
