/- Keys of a table: their order. -/
import Derived.Test.YtlngegoamfklgaaVCmp
import Derived.Test.YtlngegoamfklgaaVSortK
namespace Go.Proofs.Ytlngegoamfklgaa
open Go

/-- A key: a peer, a number. -/
abbrev Key := Int × Int
def kval (k : Key) : V × V := (.sc (.int .i64 k.1), .sc (.int .u16 k.2))
def keyV (k : Key) : V := .agg [.sc (.int .i64 k.1), .sc (.int .u16 k.2)]
def ltK (x y : Key) : Bool := decide (x.1 < y.1 ∨ x.1 = y.1 ∧ x.2 < y.2)
theorem ltK_ord : Ord' ltK := ⟨fun {x y} h => by simp only [ltK, decide_eq_true_eq, decide_eq_false_iff_not] at h ⊢; omega, fun {x y z} h k => by simp only [ltK, decide_eq_false_iff_not] at h k ⊢; omega⟩
theorem ltK_tight (x y : Key) (h : ltK x y = false) (k : ltK y x = false) : x = y := by
  simp only [ltK, decide_eq_false_iff_not] at h k
  exact Prod.ext (by omega) (by omega)
theorem orK (x y : Key) : decide (orI [cmp3 x.1 y.1, cmp3 x.2 y.2] < 0) = ltK x y := by
  unfold orI cmp3 ltK
  by_cases c1 : x.1 < y.1
  · simp [c1]
  · by_cases c2 : y.1 < x.1
    · have : ¬ x.1 = y.1 := by omega
      simp [c1, c2, this]
    · have : x.1 = y.1 := by omega
      by_cases c3 : x.2 < y.2
      · simp [this, c3]
      · by_cases c4 : y.2 < x.2
        · simp [this, c3, c4]
        · simp [this, c3, c4]
section
variable {st : St}
set_option maxRecDepth 100000 in
theorem keyCmp_v {x y : Key} : VCalls Try.prog 88 [.agg [(kval x).1, (kval x).2], .agg [(kval y).1, (kval y).2]] st fun v s => ∃ n : Int, decide (n < 0) = ltK x y ∧ v = .sc (.int .i64 n) ∧ st = s := by
  refine vcalls_enter vc88 (Nat.le_of_ble_eq_true rfl) fun hwf hok => ?_
  show Run _ Vc88.body (.fin (finQ Vc88.res _)) _ _
  unfold Vc88
  simp (config := {maxSteps := 3000000}) only [run_reg, run_seq, at_code_n, ops_nil, ops_mv, ops_fld, ops_load, ops_box, ev_t, ev_c, put_get, opv_mk, Bx, put_sz, args0, List.getD_cons_zero, List.getD_cons_succ, vfld, vload, takeV, takeB, V.cells, ptrV, obsOk, List.length_cons, List.length_nil, true_and, Nat.reduceEqDiff, Nat.reduceAdd, Nat.zero_add, Nat.add_zero, ↓reduceIte, ne_eq, not_false_eq_true, eq_self, reduceCtorEq, kval]
  intro b hb c hc
  have hbc : b < c := by omega
  have hc2 : st.sz ≤ c := by omega
  clear hc
  simp (config := {maxSteps := 3000000}) only [ops_fld, ops_load, ops_call, ev_t, put_get, opv_mk, put_box_same, vfld, vload, takeV, takeB, V.cells, List.map_cons, List.map_nil, List.length_cons, List.length_nil, List.getElem?_cons_zero, List.getElem?_cons_succ, true_and, Nat.reduceEqDiff, Nat.zero_add, Nat.add_zero, ↓reduceIte, eq_self, put_box_ne (Nat.ne_of_lt hbc)]
  refine Cal.mk compareInt_v ?_
  rintro _ _ ⟨rfl, rfl⟩ -
  simp (config := {maxSteps := 3000000}) only [ops_call, ev_t, put_get, put_box_same, vload, takeV, takeB, V.cells, obsOk, List.map_cons, List.map_nil, List.length_cons, List.length_nil, List.getElem?_cons_zero, List.getElem?_cons_succ, and_true, true_and, Nat.reduceEqDiff, Nat.zero_add, ↓reduceIte, eq_self, put_box_ne (Nat.ne_of_lt hbc)]
  refine Cal.mk compareU16_v ?_
  rintro _ _ ⟨rfl, rfl⟩ -
  simp (config := {maxSteps := 3000000}) only [ops_bslo, ev_t, put_get, strip, strip1, obsOk, List.map_cons, List.map_nil, true_and, Nat.reduceEqDiff, ↓reduceIte, eq_self]
  refine Bo.own (by simp [allLen, V.cells]) ?_
  intro g hg
  simp (config := {maxSteps := 3000000}) only [ops_call, ev_t, put_get, obsOk, List.map_cons, List.map_nil, List.length_cons, List.length_nil, true_and, Nat.reduceAdd, Nat.zero_add, ↓reduceIte, eq_self]
  refine Cal.mk (cmpOr_v (L := [cmp3 x.1 y.1, cmp3 x.2 y.2])) ?_
  rintro _ _ ⟨rfl, rfl⟩ -
  simp (config := {maxSteps := 3000000}) only [run_ret, at_code_n, at_fin_r, ops_nil, ops_mv, ev_t, put_get, opv_mk, obsOk, and_true, true_and, ↓reduceIte, vret, rvAll, rvVal, resv_1, eq_self]
  exact ⟨_, _, Wk.refl _, weak_use (weak_put (weak_put hwf.weak hb) hc2) (by simp only [put_sz] at hg; omega), _, orK x y, rfl, rfl⟩
theorem eltK : EltC Try.prog 88 kval ltK := ⟨fun _ _ _ => keyCmp_v, by kernel_rfl, ltK_ord⟩
theorem sortK_uniq {L M N : List Key} (h1 : M.Perm L) (h2 : N.Perm L) (k1 : M.Pairwise (fun x y => ltK y x = false)) (k2 : N.Pairwise (fun x y => ltK y x = false)) : M = N := srt_eq ltK_ord ltK_tight (h1.trans h2.symm) k1 k2
end
end Go.Proofs.Ytlngegoamfklgaa
