/- TablePlays: of any calls the law returns true, and its arguments read as before. No condition. -/
import Derived.Test.YtlngegoamfklgaaVTbl7
import Derived.Test.YtlngegoamfklgaaVOpenB
import Derived.Test.YtlngegoamfklgaaRows
import Derived.ChangeOld
namespace Go.Proofs.Ytlngegoamfklgaa
open Go Go.RowKit Go.ChangeShapes Go.WideShapes Go.ChangeAt Go.Deep

theorem has_opT {ds : List V} (h : Sh.Has (.st [.int .i64, .int .i64, .st [.int .i64, .int .u16]]) ds) : ∃ x : OpT, True ∧ ds = [.sc (.int .i64 x.kind), .sc (.int .i64 x.x), .sc (.int .i64 x.c), .sc (.int .u16 x.n)] := by
  have h := has_st h
  obtain ⟨k, _, rfl, _, h⟩ := hass_int h
  obtain ⟨n, _, rfl, _, h⟩ := hass_int h
  cases h with
  | cons _ _ w z hw hz =>
  have hw := has_st hw
  obtain ⟨a, _, rfl, _, hw⟩ := hass_int hw
  obtain ⟨e, _, rfl, _, hw⟩ := hass_int hw
  cases hass_nil hw
  cases hass_nil hz
  exact ⟨⟨k, n, a, e⟩, trivial, rfl⟩
theorem TablePlays_open {H : Type} {enc : TypeId × Value → H} {W : World} {base : Nat} {v0 v1 v2 : Value} {d0 d1 d2 : DataW H} {p0 p1 p2 : List MemPlace}
    (a0 : ArgIn enc Try.prog W base 3 v0 d0 p0) (a1 : ArgIn enc Try.prog W base 101 v1 d1 p1) (a2 : ArgIn enc Try.prog W base 3 v2 d2 p2) : Calls Try.prog 8 #[v0, v1, v2] W (Pure W (.bool true)) := by
  obtain ⟨ds, h1, h2⟩ := arg_sh 6 (s := .int .i64) (by kernel_rfl) a0
  obtain ⟨es, h3, h4⟩ := arg_sh 6 (s := .sl (.st [.int .i64, .int .i64, .st [.int .i64, .int .u16]])) (by kernel_rfl) a1
  obtain ⟨fs, h5, h6⟩ := arg_sh 6 (s := .int .i64) (by kernel_rfl) a2
  cases h1 with
  | int _ most _ =>
  obtain ⟨C, _, rfl⟩ := has_slmap (f := OpT.v) (ok := fun _ => True) (fun ds h => by
    obtain ⟨x, hx, rfl⟩ := has_opT h
    exact ⟨x, hx, rfl⟩) h3
  cases h5 with
  | int _ conn _ =>
  exact v_calls (args := [.sc (.int .i64 most), .sl .no (opsT C), .sc (.int .i64 conn)]) (tablePlays_v.mono fun _ _ h => h.1) rfl (reps3 h2 h4 h6)

set_option maxRecDepth 100000 in
theorem TablePlays_lifted (os : Os) (started : os.Started) (H : Type) (enc : TypeId × Value → H) :
    ReturnsInHanded {} Try.checked os 8 .any (Rows.tablePlaysSpec.pre6 enc Try.prog Try.f8 Rows.tablePlaysRow.domain false) (Rows.tablePlaysSpec.post enc Try.prog Try.f8 false true false false) := by
  refine returnsInHanded_of_change (C := Try.checked) own started (by kernel_rfl) Try.func8
    (ChangeSpec.witness6 (enc := enc) (C := Try.checked) false ⟨#[], #[.int .i64 0, .slice none 0 0, .int .i64 0], []⟩ 8 (by kernel_rfl) (by kernel_rfl) (by kernel_rfl) (by kernel_rfl)) ?_
  intro W base args ds gs before hval0 hW hcnd _
  have hval : ∀ (j : Nat) t v, Try.f8.params[j]? = some t → args[j]? = some v → Value.okWide Try.prog W .any base t v := hval0
  have hW' := hW
  obtain ⟨p, q, hA0, hV, rfl, hfz, hnd⟩ := hW
  have hA : DataW.TrodAll enc Try.prog W 0 (fun _ => true) true Try.f8.params.toList args.toList ds p := hA0
  rw [Try.params8] at hA hval
  obtain ⟨v0, vs0, d0, ds0, p0, q0, hargs, rfl, rfl, h0, r0⟩ := trodAll_cons hA
  obtain ⟨v1, vs1, d1, ds1, p1, q1, rfl, rfl, rfl, h1, r1⟩ := trodAll_cons r0
  obtain ⟨v2, vs2, d2, ds2, p2, q2, rfl, rfl, rfl, h2, r2⟩ := trodAll_cons r1
  obtain ⟨rfl, rfl, rfl⟩ := trodAll_nil r2
  obtain rfl : args = #[v0, v1, v2] := by cases args; simp_all
  obtain ⟨rfl, rfl⟩ := trodVars_none hV
  have lt0 : ∀ x ∈ p0, x.block < W.heap.size := by obtain ⟨m, hm⟩ := h0; exact DataW.trod_lt m _ _ _ hm
  have lt1 : ∀ x ∈ p1, x.block < W.heap.size := by obtain ⟨m, hm⟩ := h1; exact DataW.trod_lt m _ _ _ hm
  have lt2 : ∀ x ∈ p2, x.block < W.heap.size := by obtain ⟨m, hm⟩ := h2; exact DataW.trod_lt m _ _ _ hm
  clear hA0 hval0
  refine (TablePlays_open ⟨hval 0 3 v0 rfl rfl, h0⟩ ⟨hval 1 101 v1 rfl rfl, h1⟩ ⟨hval 2 3 v2 rfl rfl, h2⟩).mono fun e W' ⟨he, bel⟩ => ?_
  subst he
  exact ⟨_, rfl, _, _, _, [], _, [], hW', trodAll_mk1 (shut_bool Try.underlying4 _), (trodAll_cons_mk (Below.trod laidOut (by kernel_rfl) (of_decide_eq_true (by kernel_rfl)) h0 bel lt0) (trodAll_cons_mk (Below.trod laidOut (by kernel_rfl) (of_decide_eq_true (by kernel_rfl)) h1 bel lt1) (trodAll_cons_mk (Below.trod laidOut (by kernel_rfl) (of_decide_eq_true (by kernel_rfl)) h2 bel lt2) trodAll_mk0))), rfl, bel.frame _, fun h => by cases h⟩

theorem TablePlays_holds : Rows.TablePlaysSaid :=
  OpenClaim.holds_of_wide 8 Try.f8 rfl rfl rfl rfl rfl rfl rfl ⟨rfl, rfl, rfl, rfl, rfl⟩ rfl rfl rfl rfl rfl (by kernel_rfl) Try.func8 (by kernel_rfl)
    (of_decide_eq_true (by kernel_rfl)) (by unfold Func.isWrapper; rw [if_neg (of_decide_eq_false (by kernel_rfl))]; exact ⟨rfl, rfl⟩)
    (fun os started H enc _ => TablePlays_lifted os started H enc)
#print axioms TablePlays_holds
end Go.Proofs.Ytlngegoamfklgaa
