/- TapeBack: of any events, of anything done, and of any cut the law returns true, and its arguments read as before. No condition. -/
import Derived.Test.YtmomebkfaibmgaaVTape8
import Derived.Test.YtmomebkfaibmgaaVOpenB
import Derived.Test.YtmomebkfaibmgaaRows
import Derived.ChangeOld
namespace Go.Proofs.Ytmomebkfaibmgaa
open Go Go.RowKit Go.ChangeShapes Go.WideShapes Go.ChangeAt Go.Deep

theorem hass_bytes {l : List Sh} {ds : List V} (h : Sh.Hass (.sl (.int .u8) :: l) ds) : ∃ L b, ds = .sl .no (bs L) :: b ∧ IsB L ∧ Sh.Hass l b := by
  cases h with
  | cons _ _ a b h0 h1 =>
    obtain ⟨L, hB, rfl⟩ := has_bytes h0
    exact ⟨L, b, rfl, hB, h1⟩
theorem has_ev {ds : List V} (h : Sh.Has (.st [.int .i64, .int .i64, .int .i64, .sl (.int .u8)]) ds) : ∃ x : EvR, IsB x.L ∧ ds = [.sc (.int .i64 x.k), .sc (.int .i64 x.c), .sc (.int .i64 x.n), .sl .no (bs x.L)] := by
  have h := has_st h
  obtain ⟨k, _, rfl, _, h⟩ := hass_int h
  obtain ⟨c, _, rfl, _, h⟩ := hass_int h
  obtain ⟨n, _, rfl, _, h⟩ := hass_int h
  obtain ⟨L, _, rfl, hB, h⟩ := hass_bytes h
  cases hass_nil h
  exact ⟨⟨k, c, n, L⟩, hB, rfl⟩
theorem has_ou {ds : List V} (h : Sh.Has (.st [.int .i64, .int .i64, .int .i64, .int .u32, .sl (.int .u8)]) ds) : ∃ x : OuR, (IsB x.L ∧ 0 ≤ x.a ∧ x.a ≤ 4294967295) ∧ ds = [.sc (.int .i64 x.k), .sc (.int .i64 x.c), .sc (.int .i64 x.n), .sc (.int .u32 x.a), .sl .no (bs x.L)] := by
  have h := has_st h
  obtain ⟨k, _, rfl, _, h⟩ := hass_int h
  obtain ⟨c, _, rfl, _, h⟩ := hass_int h
  obtain ⟨n, _, rfl, _, h⟩ := hass_int h
  obtain ⟨a, _, rfl, wa, h⟩ := hass_int h
  obtain ⟨L, _, rfl, hB, h⟩ := hass_bytes h
  cases hass_nil h
  have := bounds_u32 wa
  exact ⟨⟨k, c, n, a, L⟩, ⟨hB, by simp only; omega, by simp only; omega⟩, rfl⟩
theorem TapeBack_open {H : Type} {enc : TypeId × Value → H} {W : World} {base : Nat} {v0 v1 v2 : Value} {d0 d1 d2 : DataW H} {p0 p1 p2 : List MemPlace}
    (a0 : ArgIn enc Try.prog W base 44 v0 d0 p0) (a1 : ArgIn enc Try.prog W base 45 v1 d1 p1) (a2 : ArgIn enc Try.prog W base 3 v2 d2 p2) : Calls Try.prog 4 #[v0, v1, v2] W (Pure W (.bool true)) := by
  obtain ⟨ds, h1, h2⟩ := arg_sh 6 (s := .sl (.st [.int .i64, .int .i64, .int .i64, .sl (.int .u8)])) (by kernel_rfl) a0
  obtain ⟨es, h3, h4⟩ := arg_sh 6 (s := .sl (.sl (.st [.int .i64, .int .i64, .int .i64, .int .u32, .sl (.int .u8)]))) (by kernel_rfl) a1
  obtain ⟨fs, h5, h6⟩ := arg_sh 6 (s := .int .i64) (by kernel_rfl) a2
  obtain ⟨E, hE, rfl⟩ := has_slmap (f := EvR.v) (ok := fun x => IsB x.L) (fun ds h => by
    obtain ⟨x, hx, rfl⟩ := has_ev h
    exact ⟨x, hx, rfl⟩) h1
  obtain ⟨O, hO, rfl⟩ := has_slmap (f := fun o : List OuR => .sl .no (ous o)) (ok := fun o => ∀ y ∈ o, IsB y.L ∧ 0 ≤ y.a ∧ y.a ≤ 4294967295) (fun ds h => by
    obtain ⟨o, ho, rfl⟩ := has_slmap (f := OuR.v) (ok := fun y => IsB y.L ∧ 0 ≤ y.a ∧ y.a ≤ 4294967295) (fun ds h => by
      obtain ⟨x, hx, rfl⟩ := has_ou h
      exact ⟨x, hx, rfl⟩) h
    exact ⟨o, ho, rfl⟩) h3
  cases h5 with
  | int _ c wc =>
  exact v_calls (args := [.sl .no (evs E), .sl .no (oos O), .sc (.int .i64 c)]) ((TapeBack_v hE hO).mono fun _ _ h => h.1) rfl (reps3 h2 h4 h6)

set_option maxRecDepth 100000 in
theorem TapeBack_lifted (os : Os) (started : os.Started) (H : Type) (enc : TypeId × Value → H) :
    ReturnsInHanded {} Try.checked os 4 .any (Rows.tapeBackSpec.pre6 enc Try.prog Try.f4 Rows.tapeBackRow.domain false) (Rows.tapeBackSpec.post enc Try.prog Try.f4 false true false false) := by
  refine returnsInHanded_of_change (C := Try.checked) own started (by kernel_rfl) Try.func4
    (ChangeSpec.witness6 (enc := enc) (C := Try.checked) false ⟨#[], #[.slice none 0 0, .slice none 0 0, .int .i64 0], []⟩ 8 (by kernel_rfl) (by kernel_rfl) (by kernel_rfl) (by kernel_rfl)) ?_
  intro W base args ds gs before hval0 hW hcnd _
  have hval : ∀ (j : Nat) t v, Try.f4.params[j]? = some t → args[j]? = some v → Value.okWide Try.prog W .any base t v := hval0
  have hW' := hW
  obtain ⟨p, q, hA0, hV, rfl, hfz, hnd⟩ := hW
  have hA : DataW.TrodAll enc Try.prog W 0 (fun _ => true) true Try.f4.params.toList args.toList ds p := hA0
  rw [Try.params4] at hA hval
  obtain ⟨v0, vs0, d0, ds0, p0, q0, hargs, rfl, rfl, h0, r0⟩ := trodAll_cons hA
  obtain ⟨v1, vs1, d1, ds1, p1, q1, rfl, rfl, rfl, h1, r1⟩ := trodAll_cons r0
  obtain ⟨v2, vs2, d2, ds2, p2, q2, rfl, rfl, rfl, h2, r2⟩ := trodAll_cons r1
  obtain ⟨rfl, rfl, rfl⟩ := trodAll_nil r2
  obtain rfl : args = #[v0, v1, v2] := by cases args; simp_all
  obtain ⟨rfl, rfl⟩ := trodVars_none hV
  have lt0 : ∀ x ∈ p0, x.block < W.heap.size := by obtain ⟨m, hm⟩ := h0; exact DataW.trod_lt m _ _ _ hm
  have lt1 : ∀ x ∈ p1, x.block < W.heap.size := by obtain ⟨m, hm⟩ := h1; exact DataW.trod_lt m _ _ _ hm
  have lt2 : ∀ x ∈ p2, x.block < W.heap.size := by obtain ⟨m, hm⟩ := h2; exact DataW.trod_lt m _ _ _ hm
  clear hA0 hval0
  refine (TapeBack_open ⟨hval 0 44 v0 rfl rfl, h0⟩ ⟨hval 1 45 v1 rfl rfl, h1⟩ ⟨hval 2 3 v2 rfl rfl, h2⟩).mono fun e W' ⟨he, bel⟩ => ?_
  subst he
  exact ⟨_, rfl, _, _, _, [], _, [], hW', trodAll_mk1 (shut_bool Try.underlying4 _), (trodAll_cons_mk (Below.trod laidOut (by kernel_rfl) (of_decide_eq_true (by kernel_rfl)) h0 bel lt0) (trodAll_cons_mk (Below.trod laidOut (by kernel_rfl) (of_decide_eq_true (by kernel_rfl)) h1 bel lt1) (trodAll_cons_mk (Below.trod laidOut (by kernel_rfl) (of_decide_eq_true (by kernel_rfl)) h2 bel lt2) trodAll_mk0))), rfl, bel.frame _, fun h => by cases h⟩

theorem TapeBack_holds : Rows.TapeBackSaid :=
  OpenClaim.holds_of_wide 4 Try.f4 rfl rfl rfl rfl rfl rfl rfl ⟨rfl, rfl, rfl, rfl, rfl⟩ rfl rfl rfl rfl rfl (by kernel_rfl) Try.func4 (by kernel_rfl)
    (of_decide_eq_true (by kernel_rfl)) (by unfold Func.isWrapper; rw [if_neg (of_decide_eq_false (by kernel_rfl))]; exact ⟨rfl, rfl⟩)
    (fun os started H enc _ => TapeBack_lifted os started H enc)
#print axioms TapeBack_holds
end Go.Proofs.Ytmomebkfaibmgaa
