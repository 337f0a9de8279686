/- IdsPlays: of any calls the law returns true, and its argument reads as before; the package variable that its code reads is laid as the program's text lays it (the card ties it). No other condition. -/
import Derived.Test.YtcffgogjhfkaeaaDoorZwb
import Derived.Test.YtcffgogjhfkaeaaDoorCards
import Derived.Test.YtcffgogjhfkaeaaDoorTie
import Derived.ChangeOld
import Derived.SevenTiedAt
namespace Go.Proofs.YtcffgogjhfkaeaaDoor
open Go Go.RowKit Go.ChangeShapes Go.WideShapes Go.ChangeAt Go.Deep
theorem has_opU {ds : List V} (h : Sh.Has (.st [.int .i64, .int .u16]) ds) : ∃ x : OpU, x.id < 65536 ∧ ds = [.sc (.int .i64 x.kind), .sc (.int .u16 (x.id : Nat))] := by
  have h := has_st h
  obtain ⟨k, _, rfl, _, h⟩ := hass_int h
  obtain ⟨n, _, rfl, hw, h⟩ := hass_int h
  cases hass_nil h
  have hb := bounds_u16 hw
  refine ⟨⟨k, n.toNat⟩, by show n.toNat < 65536; omega, ?_⟩
  have : ((n.toNat : Nat) : Int) = n := by omega
  simp [this]
theorem IdsPlays_open {H : Type} {enc : TypeId × Value → H} {W : World} {base : Nat} {v0 : Value} {d0 : DataW H} {p0 : List MemPlace} (hT : Tabs W)
    (a0 : ArgIn enc Tryd.prog W base 35 v0 d0 p0) : Calls Tryd.prog 4 #[v0] W (Pure W (.bool true)) := by
  obtain ⟨ds, h1, h2⟩ := arg_sh 6 (s := .sl (.st [.int .i64, .int .u16])) (by kernel_rfl) a0
  obtain ⟨C, hC, rfl⟩ := has_slmap (f := OpU.v) (ok := fun o => o.id < 65536) (fun ds h => by
    obtain ⟨x, hx, rfl⟩ := has_opU h
    exact ⟨x, hx, rfl⟩) h1
  exact v_calls (args := [.sl .no (opsU C)]) (idsPlays_v hC) rfl (reps1 h2) hT
set_option maxRecDepth 100000 in
theorem IdsPlays_lifted (os : Os) (started : os.Started) (H : Type) (enc : TypeId × Value → H) :
    ReturnsInHanded {} Tryd.checked os 4 .any (fun w args => (Rows.idsPlaysSpec.pre enc Tryd.prog Tryd.f4 [] false w args ∧ laidMetH Tryd.prog laidL w) ∧ sizedMet enc Tryd.prog Tryd.f4 (OpenSpec.ofChange Rows.idsPlaysSpec) false w args) (Rows.idsPlaysSpec.post enc Tryd.prog Tryd.f4 false true false false) := by
  refine returnsInHanded_of_change_and (C := Tryd.checked) (X := fun w _ => laidMetH Tryd.prog laidL w) (fun _ _ _ hh h => h.of_heap hh) own started (by kernel_rfl) Tryd.func4
    (ChangeSpec.witness_shaped (enc := enc) (C := Tryd.checked) (os := os) (X := fun w _ => laidMetH Tryd.prog laidL w) false (World.doorLaid Tryd.prog 400 os) #[.slice none 0 0] 8 rfl (World.shaped_of_RefB (by kernel_rfl) (by kernel_rfl)) (by kernel_rfl) (by kernel_rfl) (by kernel_rfl) (door_met os _)) ?_
  intro W base args ds gs before hval0 hW _ _ hL _
  have hval : ∀ (j : Nat) t v, Tryd.f4.params[j]? = some t → args[j]? = some v → Value.okWide Tryd.prog W .any base t v := hval0
  have hW' := hW
  obtain ⟨p, q, hA0, hV, rfl, hfz, hnd⟩ := hW
  have hA : DataW.TrodAll enc Tryd.prog W 0 (fun _ => true) true Tryd.f4.params.toList args.toList ds p := hA0
  rw [Tryd.params4] at hA hval
  obtain ⟨v0, vs0, d0, ds0, p0, q0, hargs, rfl, rfl, h0, r0⟩ := trodAll_cons hA
  obtain ⟨rfl, rfl, rfl⟩ := trodAll_nil r0
  obtain rfl : args = #[v0] := by cases args; simp_all
  obtain ⟨rfl, rfl⟩ := trodVars_none hV
  have lt0 : ∀ x ∈ p0, x.block < W.heap.size := by obtain ⟨m, hm⟩ := h0; exact DataW.trod_lt m _ _ _ hm
  clear hA0 hval0
  refine (IdsPlays_open (tabs_of hL) ⟨hval 0 35 v0 rfl rfl, h0⟩).mono fun e W' ⟨he, bel⟩ => ?_
  subst he
  exact ⟨_, rfl, _, _, _, [], _, [], hW', trodAll_mk1 (shut_bool Tryd.underlying4 _), (trodAll_cons_mk (Below.trod laidOut (by kernel_rfl) (of_decide_eq_true (by kernel_rfl)) h0 bel lt0) trodAll_mk0), rfl, bel.frame _, fun h => by cases h⟩
theorem IdsPlays_holds : Rows.IdsPlaysSaid :=
  OpenClaim.holds_of_wide 4 Tryd.f4 rfl rfl rfl rfl rfl rfl rfl ⟨rfl, rfl, rfl, rfl, rfl⟩ rfl rfl rfl rfl rfl (by kernel_rfl) Tryd.func4 (by kernel_rfl)
    (of_decide_eq_true (by kernel_rfl)) (by unfold Func.isWrapper; rw [if_neg (of_decide_eq_false (by kernel_rfl))]; exact ⟨rfl, rfl⟩)
    (fun os started H enc _ => IdsPlays_lifted os started H enc)
theorem IdsPlays_card : Rows.IdsPlaysCardSaid :=
  Claim7.holds_tied_plain_at .later [] [.data] true Rows.idsPlaysCard.stood.harness false
    IdsPlays_holds (fun _ h => by cases h) (by kernel_rfl) (fun _ h => by cases h) idsPlays_row_tie rfl ⟨rfl, rfl⟩ (by kernel_rfl) rfl
    (fun f fn hf hfn => by
      obtain rfl : f = 4 := Option.some.inj ((show Tryd.prog.funcNamed "catwalk/catwalklaw08.IdsPlays" = some 4 by kernel_rfl).symm.trans hf) |>.symm
      obtain rfl : fn = Tryd.f4 := (Option.some.inj (Tryd.func4.symm.trans hfn)).symm
      exact ⟨by kernel_rfl, fun j t ht => by
        rw [Tryd.params4] at ht
        have hm : t ∈ [35] := by simpa using Array.mem_of_getElem? ht
        have hall : ([35].all fun u => !Tryd.prog.wantsStandIn u) = true := by kernel_rfl
        exact (show Tryd.prog.wantsStandIn t = false by simpa using List.all_eq_true.1 hall t hm)⟩)
    (by kernel_rfl)
#print axioms IdsPlays_card
end Go.Proofs.YtcffgogjhfkaeaaDoor
