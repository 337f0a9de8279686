/- The argument types of this family's statements, opened. -/
import Derived.Test.YtnbokpfkcfhgbaaOpen
import Derived.Test.YtnbokpfkcfhgbaaAclW
namespace Go.Proofs.Ytnbokpfkcfhgbaa
open Go Go.RowKit Go.ChangeShapes Go.WideShapes Go.Deep

theorem own : ownKnob Try.prog.godebug = none := by kernel_rfl
theorem laidOut : laidOutB Try.prog = true := by kernel_rfl

section
variable {H : Type} {enc : TypeId × Value → H} {w : World} {base : Nat} {spare : Nat → Bool} {held : Bool} {fuel : Nat} {cs : List Value} {x : DataW H × List MemPlace}
theorem cells_Prefix : Try.prog.cellsOf 32 = 2 := by kernel_rfl
theorem cells_Rule : Try.prog.cellsOf 34 = 6 := by kernel_rfl
theorem cells_Addr : Try.prog.cellsOf 26 = 1 := by kernel_rfl
theorem cells_int : Try.prog.cellsOf 3 = 1 := by kernel_rfl
theorem cells_u8 : Try.prog.cellsOf 5 = 1 := by kernel_rfl
theorem cells_bool : Try.prog.cellsOf 4 = 1 := by kernel_rfl
theorem cells_Datagram : Try.prog.cellsOf 29 = 9 := by kernel_rfl

theorem open_prefix (h : DataW.trod enc Try.prog w base spare held fuel 32 cs = some x) : ∃ a b : Int, cs = [.int .u32 a, .int .i64 b] ∧ 0 ≤ a ∧ a < 4294967296 ∧ -9223372036854775808 ≤ b ∧ b ≤ 9223372036854775807 := by
  have hl := trod_len Try.underlying32 h
  rw [cells_Prefix] at hl
  obtain ⟨a, ha, wa⟩ := field_int Try.underlying32 h 0 _ rfl Try.underlying26 cells_Addr
  obtain ⟨b, hb, wb⟩ := field_int Try.underlying32 h 1 _ rfl Try.underlying3 cells_int
  have := bounds_u32 wa
  have := bounds_i64 wb
  match cs, hl with
  | [c0, c1], _ =>
    simp at ha hb
    subst ha hb
    exact ⟨a, b, rfl, by omega, by omega, by omega, by omega⟩
theorem open_rule (h : DataW.trod enc Try.prog w base spare held fuel 34 cs = some x) : ∃ r : Rule, cs = r.cells ∧ r.ok := by
  have hl := trod_len Try.underlying34 h
  rw [cells_Rule] at hl
  obtain ⟨p, hp, wp⟩ := field_int Try.underlying34 h 0 _ rfl Try.underlying5 cells_u8
  obtain ⟨n1, y1, h1⟩ := field_sub Try.underlying34 h 1 _ rfl cells_Prefix
  obtain ⟨n2, y2, h2⟩ := field_sub Try.underlying34 h 2 _ rfl cells_Prefix
  obtain ⟨m, hm⟩ := field_bool Try.underlying34 h 3 _ rfl Try.underlying4 cells_bool
  obtain ⟨a1, b1, e1, q1, q2, q3, q4⟩ := open_prefix h1
  obtain ⟨a2, b2, e2, q5, q6, q7, q8⟩ := open_prefix h2
  match cs, hl with
  | [c0, c1, c2, c3, c4, c5], _ =>
    simp at hp hm e1 e2
    obtain ⟨rfl, rfl⟩ := e1
    obtain ⟨rfl, rfl⟩ := e2
    subst hp hm
    exact ⟨⟨p, a1, b1, a2, b2, m⟩, rfl, q1, q2, q5, q6⟩
theorem open_rules2 {v : Value} (h : DataW.trod enc Try.prog w base spare held fuel 23 [v] = some x) :
    ∃ A n cap, ∃ rs : List Rule, v = .slice A n cap ∧ rs.length = n ∧ n ≤ cap ∧ cap ≤ maxLen ∧ Elems w A 6 (rs.map Rule.cells) ∧ ∀ r ∈ rs, r.ok := by
  obtain ⟨A, n, cap, rfl, hle, hm, _, hel⟩ := open_elems Try.underlying23 cells_Rule (by omega) h
  obtain ⟨rs, hl, hq⟩ := list_of (Q := fun i (r : Rule) => (∃ b o, A = some ⟨b, o, none⟩ ∧ Holds w (elemL b (o + i * 6) r.cells)) ∧ r.ok) n (fun i hi => by
    obtain ⟨b, o, cs, n', y, hA, _, hh, ht⟩ := hel i hi
    obtain ⟨r, rfl, hok⟩ := open_rule ht
    exact ⟨r, ⟨b, o, hA, hh⟩, hok⟩)
  refine ⟨A, n, cap, rs, rfl, hl, hle, hm, fun i cs hi => ?_, fun r hr => ?_⟩
  · rw [List.getElem?_map] at hi
    obtain ⟨r, hr, rfl⟩ := Option.map_eq_some_iff.1 hi
    exact (hq i r hr).1
  · obtain ⟨i, hi, rfl⟩ := List.mem_iff_getElem.1 hr
    exact (hq i _ (List.getElem?_eq_getElem hi)).2
theorem open_rules {v : Value} (h : DataW.trod enc Try.prog w base spare held fuel 23 [v] = some x) :
    ∃ A n cap, ∃ rs : List Rule, v = .slice A n cap ∧ rs.length = n ∧ n ≤ maxLen ∧ Elems w A 6 (rs.map Rule.cells) ∧ ∀ r ∈ rs, r.ok := by
  obtain ⟨A, n, cap, rfl, hle, hm, _, hel⟩ := open_elems Try.underlying23 cells_Rule (by omega) h
  obtain ⟨rs, hl, hq⟩ := list_of (Q := fun i (r : Rule) => (∃ b o, A = some ⟨b, o, none⟩ ∧ Holds w (elemL b (o + i * 6) r.cells)) ∧ r.ok) n (fun i hi => by
    obtain ⟨b, o, cs, n', y, hA, _, hh, ht⟩ := hel i hi
    obtain ⟨r, rfl, hok⟩ := open_rule ht
    exact ⟨r, ⟨b, o, hA, hh⟩, hok⟩)
  refine ⟨A, n, cap, rs, rfl, hl, by omega, fun i cs hi => ?_, fun r hr => ?_⟩
  · rw [List.getElem?_map] at hi
    obtain ⟨r, hr, rfl⟩ := Option.map_eq_some_iff.1 hi
    exact (hq i r hr).1
  · obtain ⟨i, hi, rfl⟩ := List.mem_iff_getElem.1 hr
    exact (hq i _ (List.getElem?_eq_getElem hi)).2
/-- A datagram by value: its protocol and its two addresses; the rest as it stands. -/
theorem open_datagram (h : DataW.trod enc Try.prog w base spare held fuel 29 cs = some x) :
    ∃ (v0 v1 v3 v4 v7 v8 : Value) (pp src dst : Int), cs = [v0, v1, .int .u8 pp, v3, v4, .int .u32 src, .int .u32 dst, v7, v8] ∧ 0 ≤ src ∧ src < 4294967296 ∧ 0 ≤ dst ∧ dst < 4294967296 := by
  have hl := trod_len Try.underlying29 h
  rw [cells_Datagram] at hl
  obtain ⟨pp, hp, wp⟩ := field_int Try.underlying29 h 2 _ rfl Try.underlying5 cells_u8
  obtain ⟨src, hs, ws⟩ := field_int Try.underlying29 h 5 _ rfl Try.underlying26 cells_Addr
  obtain ⟨dst, hd, wd⟩ := field_int Try.underlying29 h 6 _ rfl Try.underlying26 cells_Addr
  have := bounds_u32 ws
  have := bounds_u32 wd
  match cs, hl with
  | [c0, c1, c2, c3, c4, c5, c6, c7, c8], _ =>
    simp at hp hs hd
    subst hp hs hd
    exact ⟨c0, c1, c3, c4, c7, c8, pp, src, dst, rfl, by omega, by omega, by omega, by omega⟩
end
end Go.Proofs.Ytnbokpfkcfhgbaa
