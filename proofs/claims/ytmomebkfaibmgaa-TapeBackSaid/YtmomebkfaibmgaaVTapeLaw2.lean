/- What is kept is read back, and of what is cut off just the whole records: plain. -/
import Derived.Test.YtmomebkfaibmgaaVTapeLaw
namespace Go.Proofs.Ytmomebkfaibmgaa
open Go

theorem TRun.part {L : List Int} {ts : List TR} {b : Nat} (h : TRun L ts b) : ∀ k, k ≤ ts.length → ∃ a, TRun L (ts.take k) a ∧ ∀ t, ts[k]? = some t → ∃ s, pOne (L.drop a) = some (t, s) := by
  induction h with
  | nil =>
    intro k hk
    obtain rfl : k = 0 := by simpa using hk
    exact ⟨0, TRun.nil _, fun t ht => by simp at ht⟩
  | @snoc rs n t s hr hp ih =>
    intro k hk
    rw [List.length_append, List.length_singleton] at hk
    by_cases e : k ≤ rs.length
    · obtain ⟨a, h1, h2⟩ := ih k e
      by_cases e2 : k = rs.length
      · subst e2
        rw [List.take_length] at h1
        obtain rfl := h1.det hr
        refine ⟨a, by rw [List.take_left]; exact h1, fun t' ht' => ?_⟩
        rw [List.getElem?_append_right (Nat.le_refl _)] at ht'
        simp at ht'
        subst ht'
        exact ⟨s, hp⟩
      · refine ⟨a, by rw [List.take_append_of_le_length e]; exact h1, fun t' ht' => h2 t' ?_⟩
        rw [List.getElem?_append_left (by omega)] at ht'
        exact ht'
    · obtain rfl : k = rs.length + 1 := by omega
      refine ⟨n + s, ?_, fun t' ht' => ?_⟩
      · have := TRun.snoc hr hp
        rw [List.take_of_length_le (by simp)]
        exact this
      · rw [List.getElem?_eq_none (by simp)] at ht'
        cases ht'
theorem TRun.agree {L : List Int} {ts ts' : List TR} {a b : Nat} (h : TRun L ts a) (h' : TRun L ts' b) : ∀ k, k ≤ ts.length → k ≤ ts'.length → ts.take k = ts'.take k
  | 0, _, _ => by simp
  | k + 1, h1, h2 => by
    have ih := TRun.agree h h' k (by omega) (by omega)
    obtain ⟨c, c1, c2⟩ := h.part k (by omega)
    obtain ⟨d, d1, d2⟩ := h'.part k (by omega)
    rw [← ih] at d1
    obtain rfl := c1.det d1
    obtain ⟨s, hs⟩ := c2 _ (List.getElem?_eq_getElem (by omega))
    obtain ⟨s', hs'⟩ := d2 _ (List.getElem?_eq_getElem (by omega))
    rw [hs] at hs'
    simp only [Option.some.injEq, Prod.mk.injEq] at hs'
    rw [List.take_add_one, List.take_add_one, ih, List.getElem?_eq_getElem (by omega), List.getElem?_eq_getElem (by omega), hs'.1]
theorem TRun.most {L : List Int} {ts ts' : List TR} {a b : Nat} (h : TRun L ts a) (hn : pOne (L.drop a) = none) (h' : TRun L ts' b) : ts'.length ≤ ts.length := by
  rcases Nat.lt_or_ge ts.length ts'.length with hlt | hge
  · obtain ⟨c, c1, c2⟩ := h'.part ts.length (by omega)
    have e := h.agree h' ts.length (Nat.le_refl _) (by omega)
    rw [List.take_length] at e
    rw [← e] at c1
    obtain rfl := h.det c1
    obtain ⟨s, hs⟩ := c2 _ (List.getElem?_eq_getElem hlt)
    rw [hn] at hs
    cases hs
  · exact hge
theorem back_law {W rs ms : List TR} {n at_ k : Nat} (hfit : ∀ r ∈ W, r.Fit) (hk : k ≤ (outR W).length) (h1 : TRun (outR W) rs n) (h2 : pOne ((outR W).drop n) = none) (h3 : TRun ((outR W).take k) ms at_) (h4 : pOne (((outR W).take k).drop at_) = none) :
    rs = W ∧ n = (outR W).length ∧ at_ ≤ k ∧ ms.length ≤ W.length ∧ ms = W.take ms.length ∧ ∀ t, W[ms.length]? = some t → at_ + t.out.length > k := by
  have hw := run_out W hfit
  have hwn : pOne ((outR W).drop (outR W).length) = none := pOne_nil (by simp)
  have l1 := hw.most hwn h1
  have l2 := h1.most h2 hw
  have e1 := h1.agree hw W.length l2 (Nat.le_refl _)
  rw [List.take_length, List.take_of_length_le l1] at e1
  subst e1
  have hu := h3.uncut
  have l3 := hw.most hwn hu
  have e2 := hu.agree hw ms.length (Nat.le_refl _) l3
  rw [List.take_length] at e2
  have hat := h3.le.1
  rw [List.length_take] at hat
  refine ⟨rfl, h1.det hw, by omega, l3, e2, fun t ht => ?_⟩
  have hsplit : outR rs = outR (rs.take ms.length) ++ outR (rs.drop ms.length) := by rw [← outR_append, List.take_append_drop]
  have hp := (run_out (rs.take ms.length) (fun r hr => hfit r (List.mem_of_mem_take hr))).ext (outR (rs.drop ms.length))
  rw [← hsplit, ← e2] at hp
  obtain rfl := hu.det hp
  obtain ⟨hml, hmt⟩ := List.getElem?_eq_some_iff.1 ht
  have hdrop : (outR rs).drop (outR ms).length = t.out ++ outR (rs.drop (ms.length + 1)) := by
    rw [hsplit, ← e2, List.drop_left, List.drop_eq_getElem_cons hml, hmt]
    simp [outR]
  have hpo := pOne_out (hfit t (List.mem_of_getElem? ht)) (outR (rs.drop (ms.length + 1)))
  rw [← hdrop] at hpo
  rcases Nat.lt_or_ge k ((outR ms).length + t.out.length) with hlt | hge
  · exact hlt
  · have := pOne_cut hpo (j := k - (outR ms).length) (by omega)
    rw [← List.drop_take, h4] at this
    cases this
end Go.Proofs.Ytmomebkfaibmgaa
