/- TapePuts: of any records the law returns true, and its argument reads as before. No condition. -/
import Derived.Test.YtnbokpfkcfhgbaaTapePutsW
import Derived.Test.YtnbokpfkcfhgbaaRows
import Derived.Test.YtnbokpfkcfhgbaaTypes
import Derived.ChangeOld
namespace Go.Proofs.Ytnbokpfkcfhgbaa
open Go Go.RowKit Go.ChangeShapes Go.WideShapes Go.ChangeAt Go.Deep

section
variable {H : Type} {enc : TypeId × Value → H} {w : World} {base : Nat} {spare : Nat → Bool} {held : Bool} {fuel : Nat} {cs : List Value} {x : DataW H × List MemPlace}
theorem cells_rec : Try.prog.cellsOf 64 = 10 := by kernel_rfl
theorem cells_Event : Try.prog.cellsOf 59 = 4 := by kernel_rfl
theorem cells_Out : Try.prog.cellsOf 62 = 5 := by kernel_rfl
theorem cells_EventKind : Try.prog.cellsOf 57 = 1 := by kernel_rfl
theorem cells_OutKind : Try.prog.cellsOf 60 = 1 := by kernel_rfl
theorem cells_bytes : Try.prog.cellsOf 27 = 1 := by kernel_rfl
theorem isB_of {L : List Int} (h : ∀ y ∈ L, (Lit.int .u8 y).wf = true) : IsB L := fun y hy => by have := bounds_u8 (h y hy); omega
/-- A slice of bytes in a field. -/
theorem open_field {v : Value} (h : DataW.trod enc Try.prog w base spare held fuel 27 [v] = some x) : ∃ A n c, ∃ L : List Int, v = .slice A n c ∧ ASl w w.heap.size A n c L := by
  obtain ⟨A, n, c, L, e, h1, h2, h3, h4, h5⟩ := open_nums Try.underlying27 Try.underlying5 cells_u8 h
  exact ⟨A, n, c, L, e, ASl.arg h1 h2 h3 h4 (isB_of h5)⟩
theorem open_event (h : DataW.trod enc Try.prog w base spare held fuel 59 cs = some x) :
    ∃ (k c n : Int) (A : Option Addr) (z cp : Nat) (L : List Int), cs = [.int .i64 k, .int .i64 c, .int .i64 n, .slice A z cp] ∧ ASl w w.heap.size A z cp L ∧ i64P n := by
  have hl := trod_len Try.underlying59 h
  rw [cells_Event] at hl
  obtain ⟨k, hk, _⟩ := field_int Try.underlying59 h 0 _ rfl Try.underlying57 cells_EventKind
  obtain ⟨c, hc, _⟩ := field_int Try.underlying59 h 1 _ rfl Try.underlying3 cells_int
  obtain ⟨n, hn, wn⟩ := field_int Try.underlying59 h 2 _ rfl Try.underlying3 cells_int
  obtain ⟨m, y, hb⟩ := field_sub Try.underlying59 h 3 _ rfl cells_bytes
  match cs, hl with
  | [c0, c1, c2, c3], _ =>
    simp at hk hc hn hb
    obtain ⟨A, z, cp, L, e, hA⟩ := open_field hb
    subst hk hc hn e
    exact ⟨k, c, n, A, z, cp, L, rfl, hA, bounds_i64 wn⟩
theorem open_out (h : DataW.trod enc Try.prog w base spare held fuel 62 cs = some x) :
    ∃ (k c n a : Int) (A : Option Addr) (z cp : Nat) (L : List Int), cs = [.int .i64 k, .int .i64 c, .int .i64 n, .int .u32 a, .slice A z cp] ∧ ASl w w.heap.size A z cp L ∧ i64P n ∧ 0 ≤ a ∧ a ≤ 4294967295 := by
  have hl := trod_len Try.underlying62 h
  rw [cells_Out] at hl
  obtain ⟨k, hk, _⟩ := field_int Try.underlying62 h 0 _ rfl Try.underlying60 cells_OutKind
  obtain ⟨c, hc, _⟩ := field_int Try.underlying62 h 1 _ rfl Try.underlying3 cells_int
  obtain ⟨n, hn, wn⟩ := field_int Try.underlying62 h 2 _ rfl Try.underlying3 cells_int
  obtain ⟨a, ha, wa⟩ := field_int Try.underlying62 h 3 _ rfl Try.underlying26 cells_Addr
  obtain ⟨m, y, hb⟩ := field_sub Try.underlying62 h 4 _ rfl cells_bytes
  have := bounds_u32 wa
  match cs, hl with
  | [c0, c1, c2, c3, c4], _ =>
    simp at hk hc hn ha hb
    obtain ⟨A, z, cp, L, e, hA⟩ := open_field hb
    subst hk hc hn ha e
    exact ⟨k, c, n, a, A, z, cp, L, rfl, hA, bounds_i64 wn, by omega⟩
theorem open_record (h : DataW.trod enc Try.prog w base spare held fuel 64 cs = some x) : ∃ r : RD, cs = r.cells ∧ r.Ok w w.heap.size := by
  have hl := trod_len Try.underlying64 h
  rw [cells_rec] at hl
  obtain ⟨k, hk, _⟩ := field_int Try.underlying64 h 0 _ rfl Try.underlying3 cells_int
  obtain ⟨m1, y1, hE⟩ := field_sub Try.underlying64 h 1 _ rfl cells_Event
  obtain ⟨m2, y2, hO⟩ := field_sub Try.underlying64 h 2 _ rfl cells_Out
  obtain ⟨ek, ec, en, eA, eL, eC, EL, e1, aE, wE⟩ := open_event hE
  obtain ⟨ok, oc, on, oa, oA, oL, oC, OL, e2, aO, wO, wa⟩ := open_out hO
  match cs, hl with
  | [c0, c1, c2, c3, c4, c5, c6, c7, c8, c9], _ =>
    simp at hk e1 e2
    obtain ⟨rfl, rfl, rfl, rfl⟩ := e1
    obtain ⟨rfl, rfl, rfl, rfl, rfl⟩ := e2
    subst hk
    exact ⟨⟨⟨k, ek, ec, en, eA, eL, eC, ok, oc, on, oa, oA, oL, oC⟩, EL, OL⟩, rfl, aE, aO, wE, wO, wa⟩
theorem open_records {v : Value} (h : DataW.trod enc Try.prog w base spare held fuel 54 [v] = some x) :
    ∃ A n c, ∃ l : List RD, v = .slice A n c ∧ l.length = n ∧ Elems w A 10 (l.map RD.cells) ∧ ∀ r ∈ l, r.Ok w w.heap.size := by
  obtain ⟨A, n, c, rfl, _, _, _, hel⟩ := open_elems Try.underlying54 cells_rec (by omega) h
  obtain ⟨l, hl, hq⟩ := list_of (Q := fun i (r : RD) => (∃ b o, A = some ⟨b, o, none⟩ ∧ Holds w (elemL b (o + i * 10) r.cells)) ∧ r.Ok w w.heap.size) n (fun i hi => by
    obtain ⟨b, o, cs, n', y, hA, _, hh, ht⟩ := hel i hi
    obtain ⟨r, rfl, hok⟩ := open_record ht
    exact ⟨r, ⟨b, o, hA, hh⟩, hok⟩)
  refine ⟨A, n, c, l, rfl, hl, fun i cs hi => ?_, fun r hr => ?_⟩
  · rw [List.getElem?_map] at hi
    obtain ⟨r, hr, rfl⟩ := Option.map_eq_some_iff.1 hi
    exact (hq i r hr).1
  · obtain ⟨i, hi, rfl⟩ := List.mem_iff_getElem.1 hr
    exact (hq i _ (List.getElem?_eq_getElem hi)).2
end

theorem TapePuts_open {H : Type} {enc : TypeId × Value → H} {W : World} {base : Nat} {v0 : Value} {d0 : DataW H} {p0 : List MemPlace}
    (a0 : ArgIn enc Try.prog W base 54 v0 d0 p0) :
    Calls Try.prog 6 #[v0] W (Pure W (.bool true)) := by
  obtain ⟨_, _, _, f0, e0, t0⟩ := a0.slice Try.underlying54
  obtain ⟨A, n, c, l, e0', hn, hl, hok⟩ := open_records t0
  exact calls_args (TapePuts_walk A n c l W hn hl hok) (by rw [e0, e0'])

set_option maxRecDepth 100000 in
theorem TapePuts_lifted (os : Os) (started : os.Started) (H : Type) (enc : TypeId × Value → H) :
    ReturnsInHanded {} Try.checked os 6 .any (Rows.tapePutsSpec.pre6 enc Try.prog Try.f6 Rows.tapePutsRow.domain false) (Rows.tapePutsSpec.post enc Try.prog Try.f6 false true false false) := by
  refine returnsInHanded_of_change (C := Try.checked) own started (by kernel_rfl) Try.func6
    (ChangeSpec.witness6 (enc := enc) (C := Try.checked) false ⟨#[], #[.slice none 0 0], []⟩ 8 (by kernel_rfl) (by kernel_rfl) (by kernel_rfl) (by kernel_rfl)) ?_
  intro W base args ds gs before hval0 hW hcnd _
  have hval : ∀ (j : Nat) t v, Try.f6.params[j]? = some t → args[j]? = some v → Value.okWide Try.prog W .any base t v := hval0
  have hW' := hW
  obtain ⟨p, q, hA0, hV, rfl, hfz, hnd⟩ := hW
  have hA : DataW.TrodAll enc Try.prog W 0 (fun _ => true) true Try.f6.params.toList args.toList ds p := hA0
  rw [Try.params6] at hA hval
  obtain ⟨v0, vs0, d0, ds0, p0, q0, hargs, rfl, rfl, h0, r0⟩ := trodAll_cons hA
  obtain ⟨rfl, rfl, rfl⟩ := trodAll_nil r0
  obtain rfl : args = #[v0] := by cases args; simp_all
  obtain ⟨rfl, rfl⟩ := trodVars_none hV
  have lt0 : ∀ x ∈ p0, x.block < W.heap.size := by obtain ⟨m, hm⟩ := h0; exact DataW.trod_lt m _ _ _ hm
  clear hA0 hval0
  refine (TapePuts_open ⟨hval 0 54 v0 rfl rfl, h0⟩).mono fun e W' ⟨he, bel⟩ => ?_
  subst he
  exact ⟨_, rfl, _, _, _, [], _, [], hW', trodAll_mk1 (shut_bool Try.underlying4 _), (trodAll_cons_mk (Below.trod laidOut (by kernel_rfl) (of_decide_eq_true (by kernel_rfl)) h0 bel lt0) trodAll_mk0), rfl, bel.frame _, fun h => by cases h⟩

theorem TapePuts_holds : Rows.TapePutsSaid :=
  OpenClaim.holds_of_wide 6 Try.f6 rfl rfl rfl rfl rfl rfl rfl ⟨rfl, rfl, rfl, rfl, rfl⟩ rfl rfl rfl rfl rfl (by kernel_rfl) Try.func6 (by kernel_rfl)
    (of_decide_eq_true (by kernel_rfl)) (by unfold Func.isWrapper; rw [if_neg (of_decide_eq_false (by kernel_rfl))]; exact ⟨rfl, rfl⟩)
    (fun os started H enc _ => TapePuts_lifted os started H enc)
#print axioms TapePuts_holds
end Go.Proofs.Ytnbokpfkcfhgbaa
