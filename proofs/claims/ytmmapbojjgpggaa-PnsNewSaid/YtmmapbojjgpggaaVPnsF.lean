/- PnsNew: of any config the law returns true, and its argument reads as before. No condition. -/
import Derived.Test.YtmmapbojjgpggaaZwa
import Derived.Test.YtmmapbojjgpggaaRows
import Derived.ChangeOld
namespace Go.Proofs.Ytmmapbojjgpggaa
open Go Go.RowKit Go.ChangeShapes Go.WideShapes Go.ChangeAt Go.Deep

theorem has_static {ds : List V} (h : Sh.Has (.st [.str, .int .u32]) ds) : ∃ x : ByteArray × Int, (0 ≤ x.2 ∧ x.2 ≤ 4294967295) ∧ ds = [.sc (.string x.1), .sc (.int .u32 x.2)] := by
  have h := has_st h
  obtain ⟨n, _, rfl, _, h⟩ := hass_str h
  obtain ⟨a, _, rfl, wa, h⟩ := hass_int h
  cases hass_nil h
  have := bounds_u32 wa
  exact ⟨⟨n, a⟩, ⟨by simp only; omega, by simp only; omega⟩, rfl⟩
theorem has_secret {ds : List V} (h : Sh.Has (.st [.str, .str]) ds) : ∃ x : Sec, True ∧ ds = [.sc (.string x.1), .sc (.string x.2)] := by
  have h := has_st h
  obtain ⟨n, _, rfl, _, h⟩ := hass_str h
  obtain ⟨a, _, rfl, _, h⟩ := hass_str h
  cases hass_nil h
  exact ⟨⟨n, a⟩, trivial, rfl⟩
theorem hass_slmap {α : Type} {s : Sh} {f : α → V} {ok : α → Prop} (h1 : ∀ ds, Sh.Has s ds → ∃ a, ok a ∧ s.pack ds = f a) {l : List Sh} {ds : List V} (h : Sh.Hass (.sl s :: l) ds) : ∃ (L : List α) (b : List V), (∀ a ∈ L, ok a) ∧ ds = .sl .no (L.map f) :: b ∧ Sh.Hass l b := by
  cases h with
  | cons _ _ a b h0 h2 =>
    obtain ⟨L, hL, rfl⟩ := has_slmap h1 h0
    exact ⟨L, b, hL, rfl, h2⟩
theorem PnsNew_open {H : Type} {enc : TypeId × Value → H} {W : World} {base : Nat} {v0 : Value} {d0 : DataW H} {p0 : List MemPlace}
    (a0 : ArgIn enc Try.prog W base 59 v0 d0 p0) : Calls Try.prog 5 #[v0] W (Pure W (.bool true)) := by
  obtain ⟨ds, h1, h2⟩ := arg_sh 8 (s := .st [.int .u32, .st (List.replicate 4 (.int .u32)), .int .u32, .int .i64, .sl (.st [.str, .int .u32]), .sl (.st [.str, .str]), .st (List.replicate 2 (.int .u32)), .int .i64, .str]) (by kernel_rfl) a0
  have k1 := has_st h1
  obtain ⟨me, x1, rfl, _, k2⟩ := hass_int k1
  obtain ⟨y1, x2, rfl, ha, k3⟩ := hass_st k2
  obtain ⟨p0, y2, rfl, _, ha1⟩ := hass_int (l := List.replicate 3 _) ha
  obtain ⟨p1, y3, rfl, _, ha2⟩ := hass_int (l := List.replicate 2 _) ha1
  obtain ⟨p2, y4, rfl, _, ha3⟩ := hass_int (l := List.replicate 1 _) ha2
  obtain ⟨p3, y5, rfl, _, ha4⟩ := hass_int (l := List.replicate 0 _) ha3
  cases hass_nil ha4
  obtain ⟨first, x3, rfl, wf, k4⟩ := hass_int k3
  obtain ⟨many, x4, rfl, _, k5⟩ := hass_int k4
  obtain ⟨S, x5, hS, rfl, k6⟩ := hass_slmap (f := stV) (ok := fun x => 0 ≤ x.2 ∧ x.2 ≤ 4294967295) (fun ds h => by
    obtain ⟨x, hx, rfl⟩ := has_static h
    exact ⟨x, hx, rfl⟩) k5
  obtain ⟨K, x6, hK, rfl, k7⟩ := hass_slmap (f := secV) (ok := fun _ => True) (fun ds h => by
    obtain ⟨x, hx, rfl⟩ := has_secret h
    exact ⟨x, hx, rfl⟩) k6
  obtain ⟨z1, x7, rfl, hc, k8⟩ := hass_st k7
  obtain ⟨d0, z2, rfl, _, hc1⟩ := hass_int (l := List.replicate 1 _) hc
  obtain ⟨d1, z3, rfl, _, hc2⟩ := hass_int (l := List.replicate 0 _) hc1
  cases hass_nil hc2
  obtain ⟨win, x8, rfl, _, k9⟩ := hass_int k8
  obtain ⟨host, x9, rfl, _, k10⟩ := hass_str k9
  cases hass_nil k10
  have hb := bounds_u32 wf
  exact v_calls (args := [.agg [.sc (.int .u32 me), .sc (.int .u32 p0), .sc (.int .u32 p1), .sc (.int .u32 p2), .sc (.int .u32 p3), .sc (.int .u32 first), .sc (.int .i64 many), .sl .no (sts S), .sl .no (secs K), .sc (.int .u32 d0), .sc (.int .u32 d1), .sc (.int .i64 win), .sc (.string host)]]) (law44_v (by omega) (by omega) hS) rfl (reps1 h2)

set_option maxRecDepth 100000 in
theorem PnsNew_lifted (os : Os) (started : os.Started) (H : Type) (enc : TypeId × Value → H) :
    ReturnsInHanded {} Try.checked os 5 .any (Rows.pnsNewSpec.pre6 enc Try.prog Try.f5 Rows.pnsNewRow.domain false) (Rows.pnsNewSpec.post enc Try.prog Try.f5 false true false false) := by
  refine returnsInHanded_of_change (C := Try.checked) own started (by kernel_rfl) Try.func5
    (ChangeSpec.witness6 (enc := enc) (C := Try.checked) false ⟨#[], #[.agg #[.int .u32 0, .int .u32 0, .int .u32 0, .int .u32 0, .int .u32 0, .int .u32 0, .int .i64 0, .slice none 0 0, .slice none 0 0, .int .u32 0, .int .u32 0, .int .i64 0, .string ⟨#[]⟩]], []⟩ 8 (by kernel_rfl) (by kernel_rfl) (by kernel_rfl) (by kernel_rfl)) ?_
  intro W base args ds gs before hval0 hW hcnd _
  have hval : ∀ (j : Nat) t v, Try.f5.params[j]? = some t → args[j]? = some v → Value.okWide Try.prog W .any base t v := hval0
  have hW' := hW
  obtain ⟨p, q, hA0, hV, rfl, hfz, hnd⟩ := hW
  have hA : DataW.TrodAll enc Try.prog W 0 (fun _ => true) true Try.f5.params.toList args.toList ds p := hA0
  rw [Try.params5] at hA hval
  obtain ⟨v0, vs0, d0, ds0, p0, q0, hargs, rfl, rfl, h0, r0⟩ := trodAll_cons hA
  obtain ⟨rfl, rfl, rfl⟩ := trodAll_nil r0
  obtain rfl : args = #[v0] := by cases args; simp_all
  obtain ⟨rfl, rfl⟩ := trodVars_none hV
  have lt0 : ∀ x ∈ p0, x.block < W.heap.size := by obtain ⟨m, hm⟩ := h0; exact DataW.trod_lt m _ _ _ hm
  clear hA0 hval0
  refine (PnsNew_open ⟨hval 0 59 v0 rfl rfl, h0⟩).mono fun e W' ⟨he, bel⟩ => ?_
  subst he
  exact ⟨_, rfl, _, _, _, [], _, [], hW', trodAll_mk1 (shut_bool Try.underlying4 _), (trodAll_cons_mk (Below.trod laidOut (by kernel_rfl) (of_decide_eq_true (by kernel_rfl)) h0 bel lt0) trodAll_mk0), rfl, bel.frame _, fun h => by cases h⟩

theorem PnsNew_holds : Rows.PnsNewSaid :=
  OpenClaim.holds_of_wide 5 Try.f5 rfl rfl rfl rfl rfl rfl rfl ⟨rfl, rfl, rfl, rfl, rfl⟩ rfl rfl rfl rfl rfl (by kernel_rfl) Try.func5 (by kernel_rfl)
    (of_decide_eq_true (by kernel_rfl)) (by unfold Func.isWrapper; rw [if_neg (of_decide_eq_false (by kernel_rfl))]; exact ⟨rfl, rfl⟩)
    (fun os started H enc _ => PnsNew_lifted os started H enc)
#print axioms PnsNew_holds
end Go.Proofs.Ytmmapbojjgpggaa
