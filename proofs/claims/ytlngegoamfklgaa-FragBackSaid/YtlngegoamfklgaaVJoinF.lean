/- FragBack: of any datagram, any most and any order the law returns true, and its arguments read as before. No condition. -/
import Derived.Test.YtlngegoamfklgaaZwc
import Derived.Test.YtlngegoamfklgaaRows
import Derived.ChangeOld
namespace Go.Proofs.Ytlngegoamfklgaa
open Go Go.RowKit Go.ChangeShapes Go.WideShapes Go.ChangeAt Go.Deep

theorem has_int {k : IntKind} {ds : List V} (h : Sh.Has (.int k) ds) : ∃ n, ds = [.sc (.int k n)] := by
  cases h with
  | int _ n hw => exact ⟨n, rfl⟩
theorem has_dg {ds : List V} (h : Sh.Has (.st [.int .u8, .int .u8, .int .u8, .int .u16, .int .u16, .int .u32, .int .u32, .sl (.int .u8), .sl (.int .u8)]) ds) : ∃ t : DG, t.Ok ∧ V.agg ds = t.v .no .no := by
  cases h with
  | st _ _ h =>
  cases h with
  | cons _ _ _ _ h0 h =>
  cases h with
  | cons _ _ _ _ h1 h =>
  cases h with
  | cons _ _ _ _ h2 h =>
  cases h with
  | cons _ _ _ _ h3 h =>
  cases h with
  | cons _ _ _ _ h4 h =>
  cases h with
  | cons _ _ _ _ h5 h =>
  cases h with
  | cons _ _ _ _ h6 h =>
  cases h with
  | cons _ _ _ _ h7 h =>
  cases h with
  | cons _ _ _ _ h8 h =>
  cases h with
  | nil =>
  obtain ⟨O, hO, rfl⟩ := has_bytes h7
  obtain ⟨D, hD, rfl⟩ := has_bytes h8
  cases h0 with
  | int _ c0 k0 =>
  cases h1 with
  | int _ c1 k1 =>
  cases h2 with
  | int _ c2 k2 =>
  cases h3 with
  | int _ c3 k3 =>
  cases h4 with
  | int _ c4 k4 =>
  cases h5 with
  | int _ c5 k5 =>
  cases h6 with
  | int _ c6 k6 =>
  have := bounds_u8 k0
  have := bounds_u8 k1
  have := bounds_u8 k2
  have := bounds_u16 k3
  have := bounds_u16 k4
  have := bounds_u32 k5
  have := bounds_u32 k6
  exact ⟨⟨c0, c1, c2, c3, c4, c5, c6, O, D⟩, ⟨by simp only; omega, by simp only; omega, by simp only; omega, by simp only; omega, by simp only; omega, by simp only; omega, by simp only; omega, hO, hD⟩, rfl⟩

theorem FragBack_open {H : Type} {enc : TypeId × Value → H} {W : World} {base : Nat} {v0 v1 v2 : Value} {d0 d1 d2 : DataW H} {p0 p1 p2 : List MemPlace}
    (a0 : ArgIn enc Try.prog W base 127 v0 d0 p0) (a1 : ArgIn enc Try.prog W base 3 v1 d1 p1) (a2 : ArgIn enc Try.prog W base 128 v2 d2 p2) : Calls Try.prog 10 #[v0, v1, v2] W (Pure W (.bool true)) := by
  obtain ⟨ds, h1, h2⟩ := arg_sh 4 (s := .st [.int .u8, .int .u8, .int .u8, .int .u16, .int .u16, .int .u32, .int .u32, .sl (.int .u8), .sl (.int .u8)]) (by kernel_rfl) a0
  obtain ⟨es, h3, h4⟩ := arg_sh 3 (s := .int .i64) (by kernel_rfl) a1
  obtain ⟨fs, h5, h6⟩ := arg_sh 3 (s := .sl (.int .i64)) (by kernel_rfl) a2
  obtain ⟨t, ht, he⟩ := has_dg h1
  obtain ⟨m, rfl⟩ := has_int h3
  obtain ⟨ts, _, rfl⟩ := has_slmap (f := fun n : Int => V.sc (.int .i64 n)) (ok := fun _ => True) (fun ds h => by
    obtain ⟨n, rfl⟩ := has_int h
    exact ⟨n, trivial, rfl⟩) h5
  refine v_calls (args := [t.v .no .no, .sc (.int .i64 m), .sl .no (ints ts)]) (fragBack_v ht) rfl (reps3 ?_ h4 h6)
  rw [← he]
  exact h2

set_option maxRecDepth 100000 in
theorem FragBack_lifted (os : Os) (started : os.Started) (H : Type) (enc : TypeId × Value → H) :
    ReturnsInHanded {} Try.checked os 10 .any (Rows.fragBackSpec.pre6 enc Try.prog Try.f10 Rows.fragBackRow.domain false) (Rows.fragBackSpec.post enc Try.prog Try.f10 false true false false) := by
  refine returnsInHanded_of_change (C := Try.checked) own started (by kernel_rfl) Try.func10
    (ChangeSpec.witness6 (enc := enc) (C := Try.checked) false ⟨#[], #[.agg #[.int .u8 0, .int .u8 0, .int .u8 0, .int .u16 0, .int .u16 0, .int .u32 0, .int .u32 0, .slice none 0 0, .slice none 0 0], .int .i64 0, .slice none 0 0], []⟩ 8 (by kernel_rfl) (by kernel_rfl) (by kernel_rfl) (by kernel_rfl)) ?_
  intro W base args ds gs before hval0 hW hcnd _
  have hval : ∀ (j : Nat) t v, Try.f10.params[j]? = some t → args[j]? = some v → Value.okWide Try.prog W .any base t v := hval0
  have hW' := hW
  obtain ⟨p, q, hA0, hV, rfl, hfz, hnd⟩ := hW
  have hA : DataW.TrodAll enc Try.prog W 0 (fun _ => true) true Try.f10.params.toList args.toList ds p := hA0
  rw [Try.params10] at hA hval
  obtain ⟨v0, vs0, d0, ds0, p0, q0, hargs, rfl, rfl, h0, r0⟩ := trodAll_cons hA
  obtain ⟨v1, vs1, d1, ds1, p1, q1, rfl, rfl, rfl, h1, r1⟩ := trodAll_cons r0
  obtain ⟨v2, vs2, d2, ds2, p2, q2, rfl, rfl, rfl, h2, r2⟩ := trodAll_cons r1
  obtain ⟨rfl, rfl, rfl⟩ := trodAll_nil r2
  obtain rfl : args = #[v0, v1, v2] := by cases args; simp_all
  obtain ⟨rfl, rfl⟩ := trodVars_none hV
  have lt0 : ∀ x ∈ p0, x.block < W.heap.size := by obtain ⟨m, hm⟩ := h0; exact DataW.trod_lt m _ _ _ hm
  have lt1 : ∀ x ∈ p1, x.block < W.heap.size := by obtain ⟨m, hm⟩ := h1; exact DataW.trod_lt m _ _ _ hm
  have lt2 : ∀ x ∈ p2, x.block < W.heap.size := by obtain ⟨m, hm⟩ := h2; exact DataW.trod_lt m _ _ _ hm
  clear hA0 hval0
  refine (FragBack_open ⟨hval 0 127 v0 rfl rfl, h0⟩ ⟨hval 1 3 v1 rfl rfl, h1⟩ ⟨hval 2 128 v2 rfl rfl, h2⟩).mono fun e W' ⟨he, bel⟩ => ?_
  subst he
  exact ⟨_, rfl, _, _, _, [], _, [], hW', trodAll_mk1 (shut_bool Try.underlying4 _), (trodAll_cons_mk (Below.trod laidOut (by kernel_rfl) (of_decide_eq_true (by kernel_rfl)) h0 bel lt0) (trodAll_cons_mk (Below.trod laidOut (by kernel_rfl) (of_decide_eq_true (by kernel_rfl)) h1 bel lt1) (trodAll_cons_mk (Below.trod laidOut (by kernel_rfl) (of_decide_eq_true (by kernel_rfl)) h2 bel lt2) trodAll_mk0))), rfl, bel.frame _, fun h => by cases h⟩

theorem FragBack_holds : Rows.FragBackSaid :=
  OpenClaim.holds_of_wide 10 Try.f10 rfl rfl rfl rfl rfl rfl rfl ⟨rfl, rfl, rfl, rfl, rfl⟩ rfl rfl rfl rfl rfl (by kernel_rfl) Try.func10 (by kernel_rfl)
    (of_decide_eq_true (by kernel_rfl)) (by unfold Func.isWrapper; rw [if_neg (of_decide_eq_false (by kernel_rfl))]; exact ⟨rfl, rfl⟩)
    (fun os started H enc _ => FragBack_lifted os started H enc)
#print axioms FragBack_holds
end Go.Proofs.Ytlngegoamfklgaa
