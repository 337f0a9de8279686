/- CidrCovers: of any two addresses the law returns true, and its arguments read as before. No condition. -/
import Derived.Test.YtnbokpfkcfhgbaaRows
import Derived.Test.YtnbokpfkcfhgbaaTypes
import Derived.Test.YtnbokpfkcfhgbaaCoverRef
import Derived.ChangeOld
namespace Go.Proofs.Ytnbokpfkcfhgbaa
open Go Go.RowKit Go.ChangeShapes Go.WideShapes Go.ChangeAt Go.Deep

theorem cover_ex : coverL 167772161 167772164 = [(167772161, 32), (167772162, 31), (167772164, 32)] := by decide +kernel

set_option maxHeartbeats 1000000 in
theorem cidrAlive_walk (w : World) : Calls Try.prog 24 #[] w (Pure w (.bool true)) := by
  go_enter Try.func24, Try.ntmps24
  go_wp2_with fail
  refine (Cover_any 167772161 167772164 _ (by omega) (by omega) (by omega) (by omega)).mono ?_
  rintro e w1 ⟨A, c, rfl, hm, hE, hb1⟩
  rw [cover_ex] at hm hE ⊢
  go_wp2_with fail
  have hB := elems_new w1 (size := 2) (Ls := [(167772161, 32), (167772162, 31), (167772164, 32)].map pfx) (by simp [pfx]) #[.int .u32 167772161, .int .i64 32, .int .u32 167772162, .int .i64 31, .int .u32 167772164, .int .i64 32] 32 (by simp [pfx])
  refine (eqPrefix_any _ _ _ _ _ _ _ _ _ rfl rfl hm (hE.keep ((Below.refl _ _).alloc (Nat.le_refl _) _)) hB).mono ?_
  rintro e w2 ⟨rfl, hb2⟩
  go_wp2_with fail
  go_ret
  exact ⟨rfl, below_on hb1 (below_new hb2)⟩

set_option maxHeartbeats 1000000 in
theorem CidrCovers_walk (f t : Int) (w : World) (h0 : 0 ≤ f) (h1 : f < 4294967296) (h2 : 0 ≤ t) (h3 : t < 4294967296) :
    Calls Try.prog 4 #[.int .u32 f, .int .u32 t] w (Pure w (.bool true)) := by
  go_enter Try.func4, Try.ntmps4
  go_wp2_with fail
  refine (Cover_any f t _ h0 h1 h2 h3).mono ?_
  rintro e w1 ⟨A, c, rfl, hm, hE, hb1⟩
  go_wp2_with fail
  refine (refCover_any f t _ h0 h1 h2 h3).mono ?_
  rintro e w2 ⟨B, d, rfl, _, hF, hb2⟩
  go_wp2_with fail
  refine (eqPrefix_any _ _ _ _ _ _ _ _ _ rfl rfl hm (hE.keep hb2) hF).mono ?_
  rintro e w3 ⟨rfl, hb3⟩
  have e1 : (coverL f t == coverL f t) = true := by simp
  rw [e1]
  go_wp2_with fail
  refine (cidrAlive_walk _).mono ?_
  rintro e w4 ⟨rfl, hb4⟩
  go_wp2_with fail
  go_ret
  exact ⟨rfl, below_on (below_on (below_on hb1 hb2) hb3) hb4⟩

theorem CidrCovers_open {H : Type} {enc : TypeId × Value → H} {W : World} {base : Nat} {v0 v1 : Value} {d0 d1 : DataW H} {p0 p1 : List MemPlace}
    (a0 : ArgIn enc Try.prog W base 26 v0 d0 p0) (a1 : ArgIn enc Try.prog W base 26 v1 d1 p1) :
    Calls Try.prog 4 #[v0, v1] W (Pure W (.bool true)) := by
  obtain ⟨f, e0, wf⟩ := a0.int Try.underlying26
  obtain ⟨t, e1, wt⟩ := a1.int Try.underlying26
  have := bounds_u32 wf
  have := bounds_u32 wt
  exact calls_args (CidrCovers_walk f t W (by omega) (by omega) (by omega) (by omega)) (by rw [e0, e1])

set_option maxRecDepth 100000 in
theorem CidrCovers_lifted (os : Os) (started : os.Started) (H : Type) (enc : TypeId × Value → H) :
    ReturnsInHanded {} Try.checked os 4 .any (Rows.cidrCoversSpec.pre6 enc Try.prog Try.f4 Rows.cidrCoversRow.domain false) (Rows.cidrCoversSpec.post enc Try.prog Try.f4 false true false false) := by
  refine returnsInHanded_of_change (C := Try.checked) own started (by kernel_rfl) Try.func4
    (ChangeSpec.witness6 (enc := enc) (C := Try.checked) false ⟨#[], #[.int .u32 0, .int .u32 0], []⟩ 8 (by kernel_rfl) (by kernel_rfl) (by kernel_rfl) (by kernel_rfl)) ?_
  intro W base args ds gs before hval0 hW hcnd _
  have hval : ∀ (j : Nat) t v, Try.f4.params[j]? = some t → args[j]? = some v → Value.okWide Try.prog W .any base t v := hval0
  have hW' := hW
  obtain ⟨p, q, hA0, hV, rfl, hfz, hnd⟩ := hW
  have hA : DataW.TrodAll enc Try.prog W 0 (fun _ => true) true Try.f4.params.toList args.toList ds p := hA0
  rw [Try.params4] at hA hval
  obtain ⟨v0, vs0, d0, ds0, p0, q0, hargs, rfl, rfl, h0, r0⟩ := trodAll_cons hA
  obtain ⟨v1, vs1, d1, ds1, p1, q1, rfl, rfl, rfl, h1, r1⟩ := trodAll_cons r0
  obtain ⟨rfl, rfl, rfl⟩ := trodAll_nil r1
  obtain rfl : args = #[v0, v1] := by cases args; simp_all
  obtain ⟨rfl, rfl⟩ := trodVars_none hV
  have lt0 : ∀ x ∈ p0, x.block < W.heap.size := by obtain ⟨m, hm⟩ := h0; exact DataW.trod_lt m _ _ _ hm
  have lt1 : ∀ x ∈ p1, x.block < W.heap.size := by obtain ⟨m, hm⟩ := h1; exact DataW.trod_lt m _ _ _ hm
  clear hA0 hval0
  refine (CidrCovers_open ⟨hval 0 26 v0 rfl rfl, h0⟩ ⟨hval 1 26 v1 rfl rfl, h1⟩).mono fun e W' ⟨he, bel⟩ => ?_
  subst he
  exact ⟨_, rfl, _, _, _, [], _, [], hW', trodAll_mk1 (shut_bool Try.underlying4 _), (trodAll_cons_mk (Below.trod laidOut (by kernel_rfl) (of_decide_eq_true (by kernel_rfl)) h0 bel lt0) (trodAll_cons_mk (Below.trod laidOut (by kernel_rfl) (of_decide_eq_true (by kernel_rfl)) h1 bel lt1) trodAll_mk0)), rfl, bel.frame _, fun h => by cases h⟩

theorem CidrCovers_holds : Rows.CidrCoversSaid :=
  OpenClaim.holds_of_wide 4 Try.f4 rfl rfl rfl rfl rfl rfl rfl ⟨rfl, rfl, rfl, rfl, rfl⟩ rfl rfl rfl rfl rfl (by kernel_rfl) Try.func4 (by kernel_rfl)
    (of_decide_eq_true (by kernel_rfl)) (by unfold Func.isWrapper; rw [if_neg (of_decide_eq_false (by kernel_rfl))]; exact ⟨rfl, rfl⟩)
    (fun os started H enc _ => CidrCovers_lifted os started H enc)
#print axioms CidrCovers_holds
end Go.Proofs.Ytnbokpfkcfhgbaa
