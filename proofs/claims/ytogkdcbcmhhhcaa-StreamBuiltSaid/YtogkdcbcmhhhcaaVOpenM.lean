/- Messages as arguments. -/
import Derived.Test.YtogkdcbcmhhhcaaVMsgB
import Derived.Test.YtogkdcbcmhhhcaaVOpen
namespace Go.Proofs.Ytogkdcbcmhhhcaa
open Go Go.RowKit

theorem hass_mb {l : List Sh} {ds : List V} (h : Sh.Hass (.st [.int .i64, .st (List.replicate 9 (.int .u32)), .st (List.replicate 3 .str)] :: l) ds) :
    ∃ (m : MB) (t0 t1 t2 : List Int) (b : List V), (-9223372036854775808 ≤ m.ty ∧ m.ty ≤ 9223372036854775807) ∧ m.N.length = 9 ∧ (∀ x ∈ m.N, 0 ≤ x ∧ x < 4294967296) ∧ m.T = [t0, t1, t2] ∧ (∀ t ∈ m.T, IsB t) ∧ ds = m.cells ++ b ∧ Sh.Hass l b := by
  obtain ⟨a, b, rfl, h, hb⟩ := hass_st h
  obtain ⟨ty, c, rfl, wt, h⟩ := hass_int h
  obtain ⟨c, d, rfl, h0, h⟩ := hass_st h
  obtain ⟨d, e, rfl, h1, h⟩ := hass_st h
  cases hass_nil h
  obtain ⟨n0, _, rfl, w0, h0⟩ := hass_int (l := List.replicate 8 _) h0
  obtain ⟨n1, _, rfl, w1, h0⟩ := hass_int (l := List.replicate 7 _) h0
  obtain ⟨n2, _, rfl, w2, h0⟩ := hass_int (l := List.replicate 6 _) h0
  obtain ⟨n3, _, rfl, w3, h0⟩ := hass_int (l := List.replicate 5 _) h0
  obtain ⟨n4, _, rfl, w4, h0⟩ := hass_int (l := List.replicate 4 _) h0
  obtain ⟨n5, _, rfl, w5, h0⟩ := hass_int (l := List.replicate 3 _) h0
  obtain ⟨n6, _, rfl, w6, h0⟩ := hass_int (l := List.replicate 2 _) h0
  obtain ⟨n7, _, rfl, w7, h0⟩ := hass_int (l := List.replicate 1 _) h0
  obtain ⟨n8, _, rfl, w8, h0⟩ := hass_int (l := List.replicate 0 _) h0
  cases hass_nil h0
  obtain ⟨t0, _, rfl, x0, h1⟩ := hass_str (l := List.replicate 2 _) h1
  obtain ⟨t1, _, rfl, x1, h1⟩ := hass_str (l := List.replicate 1 _) h1
  obtain ⟨t2, _, rfl, x2, h1⟩ := hass_str (l := List.replicate 0 _) h1
  cases hass_nil h1
  have q0 := bounds_u32 w0
  have q1 := bounds_u32 w1
  have q2 := bounds_u32 w2
  have q3 := bounds_u32 w3
  have q4 := bounds_u32 w4
  have q5 := bounds_u32 w5
  have q6 := bounds_u32 w6
  have q7 := bounds_u32 w7
  have q8 := bounds_u32 w8
  have qt := bounds_i64 wt
  refine ⟨⟨ty, [n0, n1, n2, n3, n4, n5, n6, n7, n8], [bytesOf t0, bytesOf t1, bytesOf t2]⟩, _, _, _, b, by simp only; omega, rfl, ?_, rfl, ?_, ?_, hb⟩
  · intro x hx
    simp only [List.mem_cons, List.not_mem_nil, or_false] at hx
    rcases hx with rfl | rfl | rfl | rfl | rfl | rfl | rfl | rfl | rfl <;> omega
  · intro x hx
    simp only [List.mem_cons, List.not_mem_nil, or_false] at hx
    rcases hx with rfl | rfl | rfl <;> exact bytesOf_isB _
  · simp only [MB.cells, ss, List.map_cons, List.map_nil, strOf_bytesOf]
    rfl
theorem has_mb {ds : List V} (h : Sh.Has (.st [.int .i64, .st (List.replicate 9 (.int .u32)), .st (List.replicate 3 .str)]) ds) :
    ∃ (m : MB) (t0 t1 t2 : List Int), (-9223372036854775808 ≤ m.ty ∧ m.ty ≤ 9223372036854775807) ∧ m.N.length = 9 ∧ (∀ x ∈ m.N, 0 ≤ x ∧ x < 4294967296) ∧ m.T = [t0, t1, t2] ∧ (∀ t ∈ m.T, IsB t) ∧ ds = m.cells := by
  obtain ⟨m, t0, t1, t2, b, h1, h2, h3, h4, h5, e, hb⟩ := hass_mb (l := []) (by simpa using Sh.Hass.cons _ _ _ _ h .nil)
  cases hass_nil hb
  exact ⟨m, t0, t1, t2, h1, h2, h3, h4, h5, by simpa using e⟩
end Go.Proofs.Ytogkdcbcmhhhcaa
