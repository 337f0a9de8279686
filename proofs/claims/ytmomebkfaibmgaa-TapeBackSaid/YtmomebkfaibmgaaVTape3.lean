/- Records as bytes, and whether two are the same: contracts. -/
import Derived.Test.YtmomebkfaibmgaaVTape2
namespace Go.Proofs.Ytmomebkfaibmgaa
open Go

/-- What an append beside a box leaves, the box set aside. -/
theorem AppSt.drop {st s : St} {x r : V} {b : Nat} {cs : List V} (hwf : st.Wf) (hb : st.sz ≤ b) (k : AppSt (st.put b cs) x s r) : AppSt st x (s.drop b) r ∧ (s.drop b).weak s := by
  have hlt : (st.put b cs).Lt := hwf.lt.put
  have hs : s.Lt := hlt.app k
  refine ⟨⟨?_, ?_, ?_, ?_, ?_⟩, ⟨?_, ?_, ?_⟩⟩
  · funext c
    simp only [St.drop]
    split
    · rename_i e
      subst e
      cases h : st.box c with
      | none => rfl
      | some d => have := hwf.box c d h; omega
    · rename_i e
      rw [k.box, put_box_ne e]
  · intro h g m hg
    exact hs.own g m hg
  · have := k.sz
    simp only [put_sz, St.drop] at this ⊢
    omega
  · exact fun g m hg hne => k.own g m hg hne
  · intro g q l e
    rcases k.tok g q l e with h | h
    · exact .inl h
    · right
      simp only [put_sz] at h
      omega
  · intro c ds hc
    simp only [St.drop] at hc ⊢
    split at hc
    · cases hc
    · exact ⟨hc, hs.box c ds hc⟩
  · exact fun g m hg => ⟨hg, hs.own g m hg⟩
  · exact Nat.le_refl _
theorem AppSt.same {s : St} {x : V} : AppSt s x s x := ⟨rfl, fun h => h, Nat.le_refl _, fun _ _ h _ => h, fun _ _ l e => .inl ⟨l, e⟩⟩
section
variable {st : St} {t1 t2 t3 t4 : Tk}
set_option maxRecDepth 100000 in
set_option maxHeartbeats 2000000 in
theorem same57_v {r : TR} : VCalls Try.prog 15 [r.v t1 t2, r.v t3 t4] st fun x st' => x = .sc (.bool true) ∧ st = st' := by
  obtain ⟨k, ek, ec, en, EL, ok, oc, on, oa, OL⟩ := r
  refine vcalls_enter vc15 (Nat.le_of_ble_eq_true rfl) fun hwf hok => ?_
  show Run _ Vc15.body (.fin (finQ Vc15.res _)) _ _
  unfold Vc15
  simp (config := {maxSteps := 3000000}) only [run_reg, run_seq, at_code_n, ops_nil, ops_mv, ops_fld, ops_load, ops_box, ev_t, ev_c, put_get, opv_mk, Bx, put_sz, args0, List.getD_cons_zero, List.getD_cons_succ, vfld, vload, takeV, V.cells, ptrV, obsOk, List.length_cons, List.length_nil, true_and, Nat.reduceEqDiff, Nat.reduceAdd, Nat.zero_add, Nat.add_zero, ↓reduceIte, ne_eq, not_false_eq_true, eq_self, reduceCtorEq, TR.v]
  intro b hb d hd
  have hbd : b < d := by first | omega | (simp only [put_sz] at hd; omega)
  have hsd : st.sz ≤ d := by omega
  have hs : ∀ x : Int, decide (x = x) = true := fun x => by simp
  simp (config := {maxSteps := 3000000}) only [ops_grd, grd_tt, ops_mv, ops_pick, ops_bin, ops_fld, ops_load, ops_call, ev_t, put_get, opv_mk, put_box_same, vpick, vbin, vbinI, vfld, vload, takeV, V.cells, List.map_cons, List.map_nil, List.length_cons, List.length_nil, List.getElem?_cons_zero, List.getElem?_cons_succ, true_and, Nat.reduceEqDiff, Nat.reduceAdd, Nat.zero_add, Nat.add_zero, ↓reduceIte, decide_true, eq_self, put_box_ne (Nat.ne_of_lt hbd)]
  refine Cal.mk (eqB_v (L := EL) (M := EL)) ?_
  rintro _ _ ⟨rfl, rfl⟩ -
  simp (config := {maxSteps := 3000000}) only [ops_grd, grd_tt, ops_mv, ops_pick, ops_bin, ops_fld, ops_load, ops_call, ev_t, put_get, opv_mk, put_box_same, vpick, vbin, vbinI, vfld, vload, takeV, V.cells, obsOk, List.map_cons, List.map_nil, List.length_cons, List.length_nil, List.getElem?_cons_zero, List.getElem?_cons_succ, true_and, Nat.reduceEqDiff, Nat.reduceAdd, Nat.zero_add, Nat.add_zero, ↓reduceIte, decide_true, eq_self, put_box_ne (Nat.ne_of_lt hbd)]
  refine Cal.mk (eqB_v (L := OL) (M := OL)) ?_
  rintro _ _ ⟨rfl, rfl⟩ -
  simp (config := {maxSteps := 3000000}) only [run_ret, at_code_n, at_fin_r, ops_nil, ops_mv, ops_pick, ev_t, put_get, opv_mk, vpick, obsOk, and_true, true_and, Nat.reduceEqDiff, ↓reduceIte, vret, rvAll, rvVal, resv_1, decide_true, eq_self]
  exact ⟨_, _, Wk.refl _, weak_put (weak_put hwf.weak hb) hsd, rfl, rfl⟩
end
end Go.Proofs.Ytmomebkfaibmgaa
