/- Plain facts on rules that no datagram comes to. -/
import Derived.Test.YtnbokpfkcfhgbaaAclFind2
import Derived.Test.YtnbokpfkcfhgbaaInts
namespace Go.Proofs.Ytnbokpfkcfhgbaa
open Go

def covF (qp qfa qfb qta qtb p fa fb ta tb : Int) : Bool := (qp == 0 || qp == p) && withinB fa fb qfa qfb && withinB ta tb qta qtb
/-- Has the rule q all of r's datagrams? -/
def covB (q r : Rule) : Bool := covF q.p q.fa q.fb q.ta q.tb r.p r.fa r.fb r.ta r.tb
def covAt (rs : List Rule) (i : Nat) : Bool := match rs[i]? with | none => false | some r => (rs.take i).any fun q => covB q r
def idleN (rs : List Rule) (n : Nat) : List Int := ((List.range n).filter (covAt rs)).map fun k : Nat => (k : Int)
theorem idleN_zero (rs : List Rule) : idleN rs 0 = [] := rfl
theorem idleN_yes {rs : List Rule} {n : Nat} (h : covAt rs n = true) : idleN rs (n + 1) = idleN rs n ++ [(n : Int)] := by
  simp [idleN, List.range_succ, h]
theorem idleN_no {rs : List Rule} {n : Nat} (h : covAt rs n = false) : idleN rs (n + 1) = idleN rs n := by
  simp [idleN, List.range_succ, h]
theorem idleN_len (rs : List Rule) (n : Nat) : (idleN rs n).length ≤ n := by
  unfold idleN
  rw [List.length_map]
  have := List.length_filter_le (covAt rs) (List.range n)
  simpa using this
theorem covAt_no {rs : List Rule} {i : Nat} {r : Rule} (hr : rs[i]? = some r) (h : ∀ j, j < i → ∀ q, rs[j]? = some q → covB q r = false) : covAt rs i = false := by
  unfold covAt
  rw [hr]
  simp only
  rw [List.any_eq_false]
  intro q hq
  obtain ⟨j, hj, rfl⟩ := List.mem_iff_getElem.1 hq
  have hj' : j < i := by simp at hj; omega
  have hjl : j < rs.length := by simp at hj; omega
  have e : (rs.take i)[j] = rs[j] := List.getElem_take
  rw [e, h j hj' _ (List.getElem?_eq_getElem hjl)]
  simp
theorem covAt_yes {rs : List Rule} {i k : Nat} {r q : Rule} (hr : rs[i]? = some r) (hk : k < i) (hq : rs[k]? = some q) (h : covB q r = true) : covAt rs i = true := by
  unfold covAt
  rw [hr]
  simp only
  rw [List.any_eq_true]
  refine ⟨q, ?_, h⟩
  rw [List.mem_take_iff_getElem]
  obtain ⟨hk', e⟩ := List.getElem?_eq_some_iff.1 hq
  exact ⟨k, by omega, e⟩
theorem within_has {a b c d x : Int} (h : withinB a b c d = true) (hx : hasB a b x = true) : hasB c d x = true := by
  simp only [withinB, hasB, Bool.and_eq_true, decide_eq_true_eq] at *
  obtain ⟨⟨h1, h2⟩, h3, h4⟩ := h
  obtain ⟨_, h5, h6⟩ := hx
  exact ⟨h2, by omega, by omega⟩
theorem cov_hit {q r : Rule} {pp src dst : Int} (h : covB q r = true) (hr : r.hit pp src dst = true) : q.hit pp src dst = true := by
  simp only [covB, covF, Rule.hit, hitB, Bool.and_eq_true, Bool.or_eq_true, beq_iff_eq] at *
  obtain ⟨⟨h1, h2⟩, h3⟩ := h
  obtain ⟨⟨h4, h5⟩, h6⟩ := hr
  refine ⟨⟨?_, within_has h2 h5⟩, within_has h3 h6⟩
  rcases h1 with h | h
  · exact .inl h
  · rw [h]; exact h4
theorem idle_not (rs : List Rule) (n : Nat) (pp src dst : Int) : ((idleN rs n).any fun y => firstI (fun r : Rule => r.hit pp src dst) rs == y) = false := by
  rw [List.any_eq_false]
  intro y hy
  simp only [idleN, List.mem_map, List.mem_filter, List.mem_range] at hy
  obtain ⟨k, ⟨_, hk⟩, rfl⟩ := hy
  simp only [beq_iff_eq]
  intro e
  unfold firstI at e
  cases e2 : rs.findIdx? (fun r => r.hit pp src dst) with
  | none => rw [e2] at e; simp only at e; omega
  | some i =>
    rw [e2] at e
    simp only at e
    obtain rfl : i = k := by omega
    rw [List.findIdx?_eq_some_iff_getElem] at e2
    obtain ⟨hi, ht, hf⟩ := e2
    unfold covAt at hk
    rw [List.getElem?_eq_getElem hi] at hk
    simp only [List.any_eq_true] at hk
    obtain ⟨q, hq, hc⟩ := hk
    obtain ⟨j, hj, e3⟩ := List.mem_take_iff_getElem.1 hq
    have := hf j (by omega)
    rw [e3] at this
    rw [cov_hit hc ht] at this
    simp at this
end Go.Proofs.Ytnbokpfkcfhgbaa
