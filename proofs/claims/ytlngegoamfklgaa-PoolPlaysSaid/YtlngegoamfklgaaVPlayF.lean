/- PoolPlays: of any pool, of any calls and of any address asked about the law returns true, and its arguments read as before. No condition. -/
import Derived.Test.YtlngegoamfklgaaVPlay5
import Derived.Test.YtlngegoamfklgaaVOpenB
import Derived.Test.YtlngegoamfklgaaRows
import Derived.ChangeOld
namespace Go.Proofs.Ytlngegoamfklgaa
open Go Go.RowKit Go.ChangeShapes Go.WideShapes Go.ChangeAt Go.Deep

theorem has_static {ds : List V} (h : Sh.Has (.st [.str, .int .u32]) ds) : ∃ x : ByteArray × Int, (0 ≤ x.2 ∧ x.2 ≤ 4294967295) ∧ ds = [.sc (.string x.1), .sc (.int .u32 x.2)] := by
  have h := has_st h
  obtain ⟨n, _, rfl, _, h⟩ := hass_str h
  obtain ⟨a, _, rfl, wa, h⟩ := hass_int h
  cases hass_nil h
  have := bounds_u32 wa
  exact ⟨⟨n, a⟩, ⟨by simp only; omega, by simp only; omega⟩, rfl⟩
theorem has_opR {ds : List V} (h : Sh.Has (.st [.int .i64, .str, .int .u32]) ds) : ∃ x : OpR, True ∧ ds = [.sc (.int .i64 x.kind), .sc (.string x.name), .sc (.int .u32 x.a)] := by
  have h := has_st h
  obtain ⟨k, _, rfl, _, h⟩ := hass_int h
  obtain ⟨n, _, rfl, _, h⟩ := hass_str h
  obtain ⟨a, _, rfl, wa, h⟩ := hass_int h
  cases hass_nil h
  exact ⟨⟨k, n, a⟩, trivial, rfl⟩
theorem hass_slmap {α : Type} {s : Sh} {f : α → V} {ok : α → Prop} (h1 : ∀ ds, Sh.Has s ds → ∃ a, ok a ∧ s.pack ds = f a) {l : List Sh} {ds : List V} (h : Sh.Hass (.sl s :: l) ds) : ∃ (L : List α) (b : List V), (∀ a ∈ L, ok a) ∧ ds = .sl .no (L.map f) :: b ∧ Sh.Hass l b := by
  cases h with
  | cons _ _ a b h0 h2 =>
    obtain ⟨L, hL, rfl⟩ := has_slmap h1 h0
    exact ⟨L, b, hL, rfl, h2⟩
theorem PoolPlays_open {H : Type} {enc : TypeId × Value → H} {W : World} {base : Nat} {v0 v1 v2 : Value} {d0 d1 d2 : DataW H} {p0 p1 p2 : List MemPlace}
    (a0 : ArgIn enc Try.prog W base 26 v0 d0 p0) (a1 : ArgIn enc Try.prog W base 27 v1 d1 p1) (a2 : ArgIn enc Try.prog W base 23 v2 d2 p2) : Calls Try.prog 6 #[v0, v1, v2] W (Pure W (.bool true)) := by
  obtain ⟨ds, h1, h2⟩ := arg_sh 6 (s := .st [.int .u32, .int .i64, .sl (.st [.str, .int .u32])]) (by kernel_rfl) a0
  obtain ⟨es, h3, h4⟩ := arg_sh 6 (s := .sl (.st [.int .i64, .str, .int .u32])) (by kernel_rfl) a1
  obtain ⟨fs, h5, h6⟩ := arg_sh 6 (s := .int .u32) (by kernel_rfl) a2
  have h1 := has_st h1
  obtain ⟨first, _, rfl, w1, h1⟩ := hass_int h1
  obtain ⟨many, _, rfl, _, h1⟩ := hass_int h1
  obtain ⟨S, _, hS, rfl, h9⟩ := hass_slmap (f := stV) (ok := fun x => 0 ≤ x.2 ∧ x.2 ≤ 4294967295) (fun ds h => by
    obtain ⟨x, hx, rfl⟩ := has_static h
    exact ⟨x, hx, rfl⟩) h1
  cases hass_nil h9
  obtain ⟨C, _, rfl⟩ := has_slmap (f := OpR.v) (ok := fun _ => True) (fun ds h => by
    obtain ⟨x, hx, rfl⟩ := has_opR h
    exact ⟨x, hx, rfl⟩) h3
  cases h5 with
  | int _ ask w5 =>
  have hb := bounds_u32 w1
  exact v_calls (args := [shapeV first many .no S, .sl .no (opsV C), .sc (.int .u32 ask)]) ((poolPlays_v (by omega) (by omega) (fun s hs => hS s hs)).mono fun _ _ h => h.1) rfl (reps3 h2 h4 h6)

set_option maxRecDepth 100000 in
theorem PoolPlays_lifted (os : Os) (started : os.Started) (H : Type) (enc : TypeId × Value → H) :
    ReturnsInHanded {} Try.checked os 6 .any (Rows.poolPlaysSpec.pre6 enc Try.prog Try.f6 Rows.poolPlaysRow.domain false) (Rows.poolPlaysSpec.post enc Try.prog Try.f6 false true false false) := by
  refine returnsInHanded_of_change (C := Try.checked) own started (by kernel_rfl) Try.func6
    (ChangeSpec.witness6 (enc := enc) (C := Try.checked) false ⟨#[], #[.agg #[.int .u32 0, .int .i64 0, .slice none 0 0], .slice none 0 0, .int .u32 0], []⟩ 8 (by kernel_rfl) (by kernel_rfl) (by kernel_rfl) (by kernel_rfl)) ?_
  intro W base args ds gs before hval0 hW hcnd _
  have hval : ∀ (j : Nat) t v, Try.f6.params[j]? = some t → args[j]? = some v → Value.okWide Try.prog W .any base t v := hval0
  have hW' := hW
  obtain ⟨p, q, hA0, hV, rfl, hfz, hnd⟩ := hW
  have hA : DataW.TrodAll enc Try.prog W 0 (fun _ => true) true Try.f6.params.toList args.toList ds p := hA0
  rw [Try.params6] at hA hval
  obtain ⟨v0, vs0, d0, ds0, p0, q0, hargs, rfl, rfl, h0, r0⟩ := trodAll_cons hA
  obtain ⟨v1, vs1, d1, ds1, p1, q1, rfl, rfl, rfl, h1, r1⟩ := trodAll_cons r0
  obtain ⟨v2, vs2, d2, ds2, p2, q2, rfl, rfl, rfl, h2, r2⟩ := trodAll_cons r1
  obtain ⟨rfl, rfl, rfl⟩ := trodAll_nil r2
  obtain rfl : args = #[v0, v1, v2] := by cases args; simp_all
  obtain ⟨rfl, rfl⟩ := trodVars_none hV
  have lt0 : ∀ x ∈ p0, x.block < W.heap.size := by obtain ⟨m, hm⟩ := h0; exact DataW.trod_lt m _ _ _ hm
  have lt1 : ∀ x ∈ p1, x.block < W.heap.size := by obtain ⟨m, hm⟩ := h1; exact DataW.trod_lt m _ _ _ hm
  have lt2 : ∀ x ∈ p2, x.block < W.heap.size := by obtain ⟨m, hm⟩ := h2; exact DataW.trod_lt m _ _ _ hm
  clear hA0 hval0
  refine (PoolPlays_open ⟨hval 0 26 v0 rfl rfl, h0⟩ ⟨hval 1 27 v1 rfl rfl, h1⟩ ⟨hval 2 23 v2 rfl rfl, h2⟩).mono fun e W' ⟨he, bel⟩ => ?_
  subst he
  exact ⟨_, rfl, _, _, _, [], _, [], hW', trodAll_mk1 (shut_bool Try.underlying4 _), (trodAll_cons_mk (Below.trod laidOut (by kernel_rfl) (of_decide_eq_true (by kernel_rfl)) h0 bel lt0) (trodAll_cons_mk (Below.trod laidOut (by kernel_rfl) (of_decide_eq_true (by kernel_rfl)) h1 bel lt1) (trodAll_cons_mk (Below.trod laidOut (by kernel_rfl) (of_decide_eq_true (by kernel_rfl)) h2 bel lt2) trodAll_mk0))), rfl, bel.frame _, fun h => by cases h⟩

theorem PoolPlays_holds : Rows.PoolPlaysSaid :=
  OpenClaim.holds_of_wide 6 Try.f6 rfl rfl rfl rfl rfl rfl rfl ⟨rfl, rfl, rfl, rfl, rfl⟩ rfl rfl rfl rfl rfl (by kernel_rfl) Try.func6 (by kernel_rfl)
    (of_decide_eq_true (by kernel_rfl)) (by unfold Func.isWrapper; rw [if_neg (of_decide_eq_false (by kernel_rfl))]; exact ⟨rfl, rfl⟩)
    (fun os started H enc _ => PoolPlays_lifted os started H enc)
#print axioms PoolPlays_holds
end Go.Proofs.Ytlngegoamfklgaa
