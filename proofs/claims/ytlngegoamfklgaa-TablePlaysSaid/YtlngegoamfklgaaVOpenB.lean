/- Arguments of struct types, field by field; slices, element by element. -/
import Derived.Test.YtlngegoamfklgaaVSeat
namespace Go.Proofs.Ytlngegoamfklgaa
open Go Go.RowKit

theorem hass_nil {ds : List V} (h : Sh.Hass [] ds) : ds = [] := by cases h; rfl
theorem hass_int {k : IntKind} {l : List Sh} {ds : List V} (h : Sh.Hass (.int k :: l) ds) : ∃ n b, ds = .sc (.int k n) :: b ∧ (Lit.int k n).wf = true ∧ Sh.Hass l b := by
  cases h with
  | cons _ _ a b h0 h1 =>
    cases h0 with
    | int _ n hw => exact ⟨n, b, rfl, hw, h1⟩
theorem hass_bool {l : List Sh} {ds : List V} (h : Sh.Hass (.bool :: l) ds) : ∃ n b, ds = .sc (.bool n) :: b ∧ Sh.Hass l b := by
  cases h with
  | cons _ _ a b h0 h1 =>
    cases h0 with
    | bool n => exact ⟨n, b, rfl, h1⟩
theorem hass_str {l : List Sh} {ds : List V} (h : Sh.Hass (.str :: l) ds) : ∃ n b, ds = .sc (.string n) :: b ∧ n.size ≤ maxLen ∧ Sh.Hass l b := by
  cases h with
  | cons _ _ a b h0 h1 =>
    cases h0 with
    | str n hn => exact ⟨n, b, rfl, hn, h1⟩
theorem hass_st {m l : List Sh} {ds : List V} (h : Sh.Hass (.st m :: l) ds) : ∃ a b, ds = a ++ b ∧ Sh.Hass m a ∧ Sh.Hass l b := by
  cases h with
  | cons _ _ a b h0 h1 =>
    cases h0 with
    | st _ _ h => exact ⟨a, b, rfl, h, h1⟩
theorem has_st {l : List Sh} {ds : List V} (h : Sh.Has (.st l) ds) : Sh.Hass l ds := by
  cases h with
  | st _ _ h => exact h
/-- A slice of structs, element by element. -/
theorem hasl_map {α : Type} {s : Sh} (f : α → V) (ok : α → Prop) (h1 : ∀ ds, Sh.Has s ds → ∃ a, ok a ∧ s.pack ds = f a) : ∀ {l : List V}, Sh.Hasl s l → ∃ L : List α, (∀ a ∈ L, ok a) ∧ l = L.map f := by
  intro l
  induction l with
  | nil => exact fun _ => ⟨[], by intro x hx; (cases hx), rfl⟩
  | cons d l ih =>
    intro h
    cases h with
    | cons _ ds _ h k =>
      obtain ⟨L, hB, rfl⟩ := ih k
      obtain ⟨a, ha, e⟩ := h1 ds h
      exact ⟨a :: L, by
          intro x hx
          rcases List.mem_cons.1 hx with rfl | hx
          · exact ha
          · exact hB x hx, by rw [e]; rfl⟩
theorem has_slmap {α : Type} {s : Sh} {f : α → V} {ok : α → Prop} (h1 : ∀ ds, Sh.Has s ds → ∃ a, ok a ∧ s.pack ds = f a) {ds : List V} (h : Sh.Has (.sl s) ds) : ∃ L : List α, (∀ a ∈ L, ok a) ∧ ds = [.sl .no (L.map f)] := by
  cases h with
  | sl _ l h =>
    obtain ⟨L, hB, rfl⟩ := hasl_map f ok h1 h
    exact ⟨L, hB, rfl⟩
end Go.Proofs.Ytlngegoamfklgaa
