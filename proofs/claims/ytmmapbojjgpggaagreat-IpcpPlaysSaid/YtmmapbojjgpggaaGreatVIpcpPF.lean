/- IpcpPlays: of any address, any address to give and any calls the law returns true, and its arguments read as before. No condition. -/
import Derived.Test.YtmmapbojjgpggaaGreatZwb
import Derived.Test.YtmmapbojjgpggaaGreatRows
import Derived.ChangeOld
namespace Go.Proofs.YtmmapbojjgpggaaGreat
open Go Go.RowKit Go.ChangeShapes Go.WideShapes Go.ChangeAt Go.Deep
theorem has_lop {ds : List V} (h : Sh.Has (.st [.int .i64, .int .i64, .st [.int .u8, .int .u8, .sl (.int .u8)], .bool]) ds) : ∃ o : LOp, o.In ∧ ds = [.sc (.int .i64 o.kind), .sc (.int .i64 o.ticks), .sc (.int .u8 o.p.code), .sc (.int .u8 o.p.id), .sl .no (bs o.p.data), .sc (.bool o.last)] := by
  have h := has_st h
  obtain ⟨k, _, rfl, _, h⟩ := hass_int h
  obtain ⟨n, _, rfl, _, h⟩ := hass_int h
  obtain ⟨a, z, rfl, hw, hz⟩ := hass_st h
  obtain ⟨c, _, rfl, w1, hw⟩ := hass_int hw
  obtain ⟨i, _, rfl, w2, hw⟩ := hass_int hw
  have b1 := bounds_u8 w1
  have b2 := bounds_u8 w2
  cases hw with
  | cons _ _ x y hx hy =>
  cases hass_nil hy
  obtain ⟨L, hB, rfl⟩ := has_bytes hx
  obtain ⟨la, _, rfl, hz2⟩ := hass_bool hz
  cases hass_nil hz2
  exact ⟨⟨k, n, ⟨c, i, L⟩, la⟩, ⟨by simp only; omega, by simp only; omega, by simp only; omega, by simp only; omega, hB⟩, rfl⟩
theorem has_aw {ds : List V} (h : Sh.Has (.st [.int .u32, .st (List.replicate 2 (.int .u32))]) ds) : ∃ g : AW, g.Good ∧ ds = g.cells := by
  have h := has_st h
  obtain ⟨x, _, rfl, w1, h⟩ := hass_int h
  cases h with
  | cons _ _ w z hw hz =>
  have hw := has_st hw
  obtain ⟨y, _, rfl, w2, k1⟩ := hass_int hw
  obtain ⟨u, _, rfl, w3, k2⟩ := hass_int k1
  cases hass_nil k2
  cases hass_nil hz
  have b1 := bounds_u32 w1
  have b2 := bounds_u32 w2
  have b3 := bounds_u32 w3
  exact ⟨⟨x, y, u⟩, ⟨by simp only; omega, by simp only; omega, by simp only; omega, by simp only; omega, by simp only; omega, by simp only; omega⟩, rfl⟩
theorem IpcpPlays_open {H : Type} {enc : TypeId × Value → H} {W : World} {base : Nat} {v0 v1 v2 : Value} {d0 d1 d2 : DataW H} {p0 p1 p2 : List MemPlace}
    (a0 : ArgIn enc Tryz.prog W base 48 v0 d0 p0) (a1 : ArgIn enc Tryz.prog W base 51 v1 d1 p1) (a2 : ArgIn enc Tryz.prog W base 23 v2 d2 p2) : Calls Tryz.prog 4 #[v0, v1, v2] W (Pure W (.bool true)) := by
  obtain ⟨ds0, h1, h2⟩ := arg_sh 6 (s := .int .u32) (by kernel_rfl) a0
  obtain ⟨es, h3, h4⟩ := arg_sh 6 (s := .st [.int .u32, .st (List.replicate 2 (.int .u32))]) (by kernel_rfl) a1
  obtain ⟨fs, h5, h6⟩ := arg_sh 6 (s := .sl (.st [.int .i64, .int .i64, .st [.int .u8, .int .u8, .sl (.int .u8)], .bool])) (by kernel_rfl) a2
  obtain ⟨g, hg, rfl⟩ := has_aw h3
  obtain ⟨C, hC, rfl⟩ := has_slmap (f := fun o => LOp.v o) (ok := fun o => o.In) (fun ds h => by
    obtain ⟨x, hx, rfl⟩ := has_lop h
    exact ⟨x, hx, rfl⟩) h5
  cases h1 with
  | int _ me hw =>
  have b := bounds_u32 hw
  exact v_calls (args := [.sc (.int .u32 me), .agg g.cells, .sl .no (lops C)]) ((ipcpPlays_v (by omega) (by omega) hg hC).mono fun _ _ h => h.1) rfl (reps3 h2 h4 h6)
set_option maxRecDepth 100000 in
theorem IpcpPlays_lifted (os : Os) (started : os.Started) (H : Type) (enc : TypeId × Value → H) :
    ReturnsInHanded {} Tryz.checked os 4 .any (Rows.ipcpPlaysSpec.pre6 enc Tryz.prog Tryz.f4 Rows.ipcpPlaysRow.domain false) (Rows.ipcpPlaysSpec.post enc Tryz.prog Tryz.f4 false true false false) := by
  refine returnsInHanded_of_change (C := Tryz.checked) own started (by kernel_rfl) Tryz.func4
    (ChangeSpec.witness6 (enc := enc) (C := Tryz.checked) false ⟨#[], #[.int .u32 0, .agg #[.int .u32 0, .int .u32 0, .int .u32 0], .slice none 0 0], []⟩ 8 (by kernel_rfl) (by kernel_rfl) (by kernel_rfl) (by kernel_rfl)) ?_
  intro W base args ds gs before hval0 hW hcnd _
  have hval : ∀ (j : Nat) t v, Tryz.f4.params[j]? = some t → args[j]? = some v → Value.okWide Tryz.prog W .any base t v := hval0
  have hW' := hW
  obtain ⟨p, q, hA0, hV, rfl, hfz, hnd⟩ := hW
  have hA : DataW.TrodAll enc Tryz.prog W 0 (fun _ => true) true Tryz.f4.params.toList args.toList ds p := hA0
  rw [Tryz.params4] at hA hval
  obtain ⟨v0, vs0, d0, ds0, p0, q0, hargs, rfl, rfl, h0, r0⟩ := trodAll_cons hA
  obtain ⟨v1, vs1, d1, ds1, p1, q1, rfl, rfl, rfl, h1, r1⟩ := trodAll_cons r0
  obtain ⟨v2, vs2, d2, ds2, p2, q2, rfl, rfl, rfl, h2, r2⟩ := trodAll_cons r1
  obtain ⟨rfl, rfl, rfl⟩ := trodAll_nil r2
  obtain rfl : args = #[v0, v1, v2] := by cases args; simp_all
  obtain ⟨rfl, rfl⟩ := trodVars_none hV
  have lt0 : ∀ x ∈ p0, x.block < W.heap.size := by obtain ⟨m, hm⟩ := h0; exact DataW.trod_lt m _ _ _ hm
  have lt1 : ∀ x ∈ p1, x.block < W.heap.size := by obtain ⟨m, hm⟩ := h1; exact DataW.trod_lt m _ _ _ hm
  have lt2 : ∀ x ∈ p2, x.block < W.heap.size := by obtain ⟨m, hm⟩ := h2; exact DataW.trod_lt m _ _ _ hm
  clear hA0 hval0
  refine (IpcpPlays_open ⟨hval 0 48 v0 rfl rfl, h0⟩ ⟨hval 1 51 v1 rfl rfl, h1⟩ ⟨hval 2 23 v2 rfl rfl, h2⟩).mono fun e W' ⟨he, bel⟩ => ?_
  subst he
  exact ⟨_, rfl, _, _, _, [], _, [], hW', trodAll_mk1 (shut_bool Tryz.underlying4 _), (trodAll_cons_mk (Below.trod laidOut (by kernel_rfl) (of_decide_eq_true (by kernel_rfl)) h0 bel lt0) (trodAll_cons_mk (Below.trod laidOut (by kernel_rfl) (of_decide_eq_true (by kernel_rfl)) h1 bel lt1) (trodAll_cons_mk (Below.trod laidOut (by kernel_rfl) (of_decide_eq_true (by kernel_rfl)) h2 bel lt2) trodAll_mk0))), rfl, bel.frame _, fun h => by cases h⟩
theorem IpcpPlays_holds : Rows.IpcpPlaysSaid :=
  OpenClaim.holds_of_wide 4 Tryz.f4 rfl rfl rfl rfl rfl rfl rfl ⟨rfl, rfl, rfl, rfl, rfl⟩ rfl rfl rfl rfl rfl (by kernel_rfl) Tryz.func4 (by kernel_rfl)
    (of_decide_eq_true (by kernel_rfl)) (by unfold Func.isWrapper; rw [if_neg (of_decide_eq_false (by kernel_rfl))]; exact ⟨rfl, rfl⟩)
    (fun os started H enc _ => IpcpPlays_lifted os started H enc)
#print axioms IpcpPlays_holds
end Go.Proofs.YtmmapbojjgpggaaGreat
