/- Arguments of struct types, field by field; messages, calls of a call. -/
import Derived.Test.YtogkdcbcmhhhcaaVSeat
import Derived.Test.YtogkdcbcmhhhcaaVCalls
namespace Go.Proofs.Ytogkdcbcmhhhcaa
open Go Go.RowKit

theorem hass_nil {ds : List V} (h : Sh.Hass [] ds) : ds = [] := by cases h; rfl
theorem hass_int {k : IntKind} {l : List Sh} {ds : List V} (h : Sh.Hass (.int k :: l) ds) : ∃ n b, ds = .sc (.int k n) :: b ∧ (Lit.int k n).wf = true ∧ Sh.Hass l b := by
  cases h with
  | cons _ _ a b h0 h1 =>
    cases h0 with
    | int _ n hw => exact ⟨n, b, rfl, hw, h1⟩
theorem hass_bool {l : List Sh} {ds : List V} (h : Sh.Hass (.bool :: l) ds) : ∃ n b, ds = .sc (.bool n) :: b ∧ Sh.Hass l b := by
  cases h with
  | cons _ _ a b h0 h1 =>
    cases h0 with
    | bool n => exact ⟨n, b, rfl, h1⟩
theorem hass_str {l : List Sh} {ds : List V} (h : Sh.Hass (.str :: l) ds) : ∃ n b, ds = .sc (.string n) :: b ∧ n.size ≤ maxLen ∧ Sh.Hass l b := by
  cases h with
  | cons _ _ a b h0 h1 =>
    cases h0 with
    | str n hn => exact ⟨n, b, rfl, hn, h1⟩
theorem hass_st {m l : List Sh} {ds : List V} (h : Sh.Hass (.st m :: l) ds) : ∃ a b, ds = a ++ b ∧ Sh.Hass m a ∧ Sh.Hass l b := by
  cases h with
  | cons _ _ a b h0 h1 =>
    cases h0 with
    | st _ _ h => exact ⟨a, b, rfl, h, h1⟩
theorem has_st {l : List Sh} {ds : List V} (h : Sh.Has (.st l) ds) : Sh.Hass l ds := by
  cases h with
  | st _ _ h => exact h
theorem hass_m9 {l : List Sh} {ds : List V} (h : Sh.Hass (.st [.int .i64, .st (List.replicate 9 (.int .u32)), .st (List.replicate 3 .str)] :: l) ds) : ∃ (m : M9) (b : List V), m.Ok ∧ ds = m.cells ++ b ∧ Sh.Hass l b := by
  obtain ⟨a, b, rfl, h, hb⟩ := hass_st h
  obtain ⟨ty, c, rfl, -, h⟩ := hass_int h
  obtain ⟨c, d, rfl, h0, h⟩ := hass_st h
  obtain ⟨d, e, rfl, h1, h⟩ := hass_st h
  cases hass_nil h
  obtain ⟨n0, _, rfl, w0, h0⟩ := hass_int (l := List.replicate 8 _) h0
  obtain ⟨n1, _, rfl, w1, h0⟩ := hass_int (l := List.replicate 7 _) h0
  obtain ⟨n2, _, rfl, w2, h0⟩ := hass_int (l := List.replicate 6 _) h0
  obtain ⟨n3, _, rfl, w3, h0⟩ := hass_int (l := List.replicate 5 _) h0
  obtain ⟨n4, _, rfl, w4, h0⟩ := hass_int (l := List.replicate 4 _) h0
  obtain ⟨n5, _, rfl, w5, h0⟩ := hass_int (l := List.replicate 3 _) h0
  obtain ⟨n6, _, rfl, w6, h0⟩ := hass_int (l := List.replicate 2 _) h0
  obtain ⟨n7, _, rfl, w7, h0⟩ := hass_int (l := List.replicate 1 _) h0
  obtain ⟨n8, _, rfl, w8, h0⟩ := hass_int (l := List.replicate 0 _) h0
  cases hass_nil h0
  obtain ⟨t0, _, rfl, x0, h1⟩ := hass_str (l := List.replicate 2 _) h1
  obtain ⟨t1, _, rfl, x1, h1⟩ := hass_str (l := List.replicate 1 _) h1
  obtain ⟨t2, _, rfl, x2, h1⟩ := hass_str (l := List.replicate 0 _) h1
  cases hass_nil h1
  have q0 := bounds_u32 w0
  have q1 := bounds_u32 w1
  have q2 := bounds_u32 w2
  have q3 := bounds_u32 w3
  have q6 := bounds_u32 w6
  have q7 := bounds_u32 w7
  exact ⟨⟨ty, n0, n1, n2, n3, n4, n5, n6, n7, n8, t0, t1, t2⟩, b, ⟨by simp only; omega, by simp only; omega, by simp only; omega, by simp only; omega, by simp only; omega, by simp only; omega⟩, rfl, hb⟩
theorem has_m9 {ds : List V} (h : Sh.Has (.st [.int .i64, .st (List.replicate 9 (.int .u32)), .st (List.replicate 3 .str)]) ds) : ∃ m : M9, m.Ok ∧ ds = m.cells := by
  obtain ⟨m, b, hm, e, hb⟩ := hass_m9 (l := []) (by simpa using Sh.Hass.cons _ _ _ _ h .nil)
  cases hass_nil hb
  exact ⟨m, hm, by simpa using e⟩
/-- A slice of structs, element by element. -/
theorem hasl_map {α : Type} {s : Sh} (f : α → V) (ok : α → Prop) (h1 : ∀ ds, Sh.Has s ds → ∃ a, ok a ∧ s.pack ds = f a) : ∀ {l : List V}, Sh.Hasl s l → ∃ L : List α, (∀ a ∈ L, ok a) ∧ l = L.map f := by
  intro l
  induction l with
  | nil => exact fun _ => ⟨[], by intro x hx; (cases hx), rfl⟩
  | cons d l ih =>
    intro h
    cases h with
    | cons _ ds _ h k =>
      obtain ⟨L, hB, rfl⟩ := ih k
      obtain ⟨a, ha, e⟩ := h1 ds h
      exact ⟨a :: L, by
          intro x hx
          rcases List.mem_cons.1 hx with rfl | hx
          · exact ha
          · exact hB x hx, by rw [e]; rfl⟩
theorem has_slmap {α : Type} {s : Sh} {f : α → V} {ok : α → Prop} (h1 : ∀ ds, Sh.Has s ds → ∃ a, ok a ∧ s.pack ds = f a) {ds : List V} (h : Sh.Has (.sl s) ds) : ∃ L : List α, (∀ a ∈ L, ok a) ∧ ds = [.sl .no (L.map f)] := by
  cases h with
  | sl _ l h =>
    obtain ⟨L, hB, rfl⟩ := hasl_map f ok h1 h
    exact ⟨L, hB, rfl⟩
end Go.Proofs.Ytogkdcbcmhhhcaa
