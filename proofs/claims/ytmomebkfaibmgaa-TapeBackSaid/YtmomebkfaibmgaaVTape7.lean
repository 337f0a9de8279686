/- The bytes of events, each followed by what was done: contract. -/
import Derived.Test.YtmomebkfaibmgaaVTape6
namespace Go.Proofs.Ytmomebkfaibmgaa
open Go

/-- An event. -/
structure EvR where
  k : Int
  c : Int
  n : Int
  L : List Int
/-- What was done. -/
structure OuR where
  k : Int
  c : Int
  n : Int
  a : Int
  L : List Int
def EvR.v (x : EvR) : V := .agg [.sc (.int .i64 x.k), .sc (.int .i64 x.c), .sc (.int .i64 x.n), .sl .no (bs x.L)]
def OuR.v (x : OuR) : V := .agg [.sc (.int .i64 x.k), .sc (.int .i64 x.c), .sc (.int .i64 x.n), .sc (.int .u32 x.a), .sl .no (bs x.L)]
def EvR.tr (x : EvR) : TR := ⟨1, x.k, x.c, x.n, x.L, 0, 0, 0, 0, []⟩
def OuR.tr (x : OuR) : TR := ⟨2, 0, 0, 0, [], x.k, x.c, x.n, x.a, x.L⟩
def evs (E : List EvR) : List V := E.map EvR.v
def ous (o : List OuR) : List V := o.map OuR.v
def oos (O : List (List OuR)) : List V := O.map fun o => .sl .no (ous o)
theorem evs_len (E : List EvR) : (evs E).length = E.length := by simp [evs]
theorem ous_len (o : List OuR) : (ous o).length = o.length := by simp [ous]
theorem oos_len (O : List (List OuR)) : (oos O).length = O.length := by simp [oos]
theorem evs_get {E : List EvR} {i : Nat} {x : EvR} (h : E[i]? = some x) : (evs E)[i]? = some x.v := by simp [evs, h]
theorem ous_get {o : List OuR} {i : Nat} {x : OuR} (h : o[i]? = some x) : (ous o)[i]? = some x.v := by simp [ous, h]
theorem oos_get {O : List (List OuR)} {i : Nat} {o : List OuR} (h : O[i]? = some o) : (oos O)[i]? = some (.sl .no (ous o)) := by simp [oos, h]
/-- The records of the first events. -/
def wantT (E : List EvR) (O : List (List OuR)) : Nat → List TR
  | 0 => []
  | i + 1 => wantT E O i ++ (E[i]?.toList.map EvR.tr) ++ ((O[i]?.getD []).map OuR.tr)
theorem wantT_ev {E : List EvR} {O : List (List OuR)} {i : Nat} {x : EvR} (h : E[i]? = some x) (ho : O[i]? = none) : wantT E O (i + 1) = wantT E O i ++ [x.tr] := by
  simp [wantT, h, ho]
theorem wantT_o {E : List EvR} {O : List (List OuR)} {i : Nat} {x : EvR} {o : List OuR} (h : E[i]? = some x) (ho : O[i]? = some o) : wantT E O (i + 1) = wantT E O i ++ [x.tr] ++ o.map OuR.tr := by
  simp [wantT, h, ho]
theorem wantT_pre (E : List EvR) (O : List (List OuR)) : ∀ {i j : Nat}, i ≤ j → ∃ l, wantT E O j = wantT E O i ++ l
  | i, 0, h => by
    obtain rfl : i = 0 := by omega
    exact ⟨[], by simp⟩
  | i, j + 1, h => by
    by_cases e : i = j + 1
    · subst e; exact ⟨[], by simp⟩
    · obtain ⟨l, hl⟩ := wantT_pre E O (i := i) (j := j) (by omega)
      exact ⟨_, by rw [wantT, hl, List.append_assoc, List.append_assoc]⟩
/-- Of few outs at each event. -/
def Few (O : List (List OuR)) : Prop := ∀ o ∈ O, o.length ≤ 5
theorem wantT_few {E : List EvR} {O : List (List OuR)} (n : Nat) (h : ∀ i o, i < n → O[i]? = some o → o.length ≤ 5) : (wantT E O n).length ≤ 6 * n := by
  induction n with
  | zero => simp [wantT]
  | succ i ih =>
    have := ih (fun j o hj => h j o (by omega))
    simp only [wantT, List.length_append, List.length_map]
    have h1 : (E[i]?.toList).length ≤ 1 := by cases E[i]? <;> simp
    have h2 : (O[i]?.getD []).length ≤ 5 := by
      cases ho : O[i]? with
      | none => simp
      | some o => have := h i o (by omega) ho; simpa using this
    omega
theorem out_len {r : TR} (h : r.right = true) : r.out.length ≤ 65600 := by
  obtain ⟨k, ek, ec, en, EL, ok, oc, on, oa, OL⟩ := r
  unfold TR.out
  rw [if_pos h]
  rcases TR.right1 h with ⟨rfl, rfl, rfl, rfl, rfl, h6, h7⟩ | ⟨rfl, rfl, rfl, rfl, h5, h7⟩
  · have := fitsB_is h7
    simp [recL, beL_len]
    omega
  · have := fitsB_is h7
    simp [recL, beL_len]
    omega
theorem outR_len : ∀ {l : List TR}, (∀ r ∈ l, r.right = true) → (outR l).length ≤ 65600 * l.length
  | [], _ => by simp [outR]
  | r :: l, h => by
    have h1 := out_len (h r (by simp))
    have h2 := outR_len (l := l) (fun x hx => h x (by simp [hx]))
    simp only [outR, List.map_cons, List.flatten_cons, List.length_append, List.length_cons] at h2 ⊢
    omega
/-- A row of bytes of the call's own. -/
structure RT (base s : St) (r : V) (L : List Int) : Prop where
  own : Own 1 s r (bs L)
  weak : base.weak s
  lt : s.Lt
  tok : ∀ g k l', r = .sl (.own g k) l' → base.sz ≤ g
theorem RT.put {base s : St} {r : V} {L : List Int} (h : RT base s r L) {c : Nat} {cs : List V} (hc : s.sz ≤ c) : RT base (s.put c cs) r L :=
  ⟨h.own.put, weak_put h.weak (by have := h.weak.sz; omega), h.lt.put, h.tok⟩
theorem RT.app {base s s' : St} {x r : V} {L L' : List Int} (h : RT base s x L) (ho : Own 1 s' r (bs L')) (k : AppSt s x s' r) : RT base s' r L' :=
  ⟨ho, k.keeps h.weak h.tok, h.lt.app k, k.fresh h.weak.sz h.tok⟩
section
variable {st : St} {E : List EvR} {O : List (List OuR)}
set_option maxRecDepth 100000 in
set_option maxHeartbeats 4000000 in
theorem tOf_v (hn : E.length ≤ 20) (hf : ∀ i o, i < E.length → O[i]? = some o → o.length ≤ 5) (hr : ∀ r ∈ wantT E O E.length, r.right = true) (ha : ∀ r ∈ wantT E O E.length, 0 ≤ r.oa ∧ r.oa ≤ 4294967295) :
    VCalls Try.prog 13 [.sl .no (evs E), .sl .no (oos O)] st fun r st' => r = .sl .no (bs (outR (wantT E O E.length))) ∧ st = st' := by
  have hlen : ∀ l l', wantT E O E.length = l ++ l' → (outR l).length ≤ 8000000 := fun l l' e => by
    have h1 := outR_len (l := l) (fun r hr' => hr r (by rw [e]; simp [hr']))
    have h2 := wantT_few (E := E) (O := O) E.length hf
    rw [e, List.length_append] at h2
    omega
  refine vcalls_enter vc13 (Nat.le_of_ble_eq_true rfl) fun hwf hok => ?_
  show Run _ Vc13.body (.fin (finQ Vc13.res _)) _ _
  unfold Vc13
  simp (config := {maxSteps := 3000000}) only [run_reg, run_seq, run_blk, at_code_n, ops_nil, ops_mv, ops_len, ev_t, ev_c, put_get, opv_mk, args0, List.getD_cons_zero, vlen, true_and, ↓reduceIte, eq_self, reduceCtorEq, evs_len]
  have R0 : RT st st (.sl .nil []) (outR (wantT E O 0)) := ⟨.inl ⟨rfl, rfl⟩, hwf.weak, hwf.lt, fun g k l e => by cases e⟩
  refine run_loop [5, 6, 7, 9, 12, 13, 14, 15, 16, 17, 18, 19, 20, 21, 22, 23, 24, 25, 26, 27, 28, 29, 30, 31, 32, 33, 34, 35, 36, 37, 38, 39] (fun B s => ∃ (i : Nat) (r : V), i ≤ E.length ∧ B 12 = .sc (.int .i64 i) ∧ B 5 = r ∧ RT st s r (outR (wantT E O i))) (fun B _ => E.length - vnat (B 12)) rfl ?_ ?_
  · simp (config := {maxSteps := 3000000}) only [put_get, Nat.reduceEqDiff, ↓reduceIte, eq_self]
    exact ⟨0, _, by omega, rfl, rfl, R0⟩
  · rintro B s ⟨i, r, hi, h12, h5, hR⟩
    by_cases hlt : i < E.length
    case neg =>
      obtain rfl : i = E.length := by omega
      simp (config := {maxSteps := 3000000}) only [run_reg, run_seq, run_exit, run_ret, run_cond, if_false, at_code_n, at_code_x, at_blk_x, at_rnd_x, at_fin_r, ops_nil, ops_mv, ops_bin, ev_t, put_get, opv_mk, over_get, vnat, vbin, vbinI, and_true, true_and, Nat.reduceEqDiff, Int.toNat_natCast, ↓reduceIte, vret, rvAll, rvVal, resv_1, decide_false, Int.lt_irrefl, eq_self, Bool.false_eq_true, List.contains_cons, List.contains_nil, Nat.reduceBEq, Bool.or_false, Bool.or_true, h12, h5]
      obtain ⟨tk9, h9⟩ := hR.own.sl
      rw [h9]
      exact ⟨_, _, Wk.no, hR.weak, rfl, rfl⟩
    obtain ⟨x, hx⟩ := get_ex hlt
    obtain ⟨l2, hl2⟩ := wantT_pre E O (i := i + 1) (j := E.length) (by omega)
    simp (config := {maxSteps := 3000000}) only [run_skip, run_reg, run_seq, run_blk, run_cond, if_true, at_code_n, ops_nil, ops_mv, ops_bin, ops_ix, ops_load, ops_bld, ops_alc, ops_store, ops_call, ev_t, ev_c, put_get, put_none, opv_mk, stb_some, sto_ptr, over_get, vnat, Stp, vbld, put_box_same, put_put, vbin, vbinI, vix, vload, takeV, fillV, splice, V.cells, ptrV, obsOk, List.map_cons, List.map_nil, List.length_cons, List.length_nil, List.take_succ_cons, List.take_zero, List.drop_succ_cons, List.drop_zero, List.cons_append, List.nil_append, List.append_nil, List.take_nil, List.drop_nil, and_true, true_and, Nat.reduceEqDiff, Nat.reduceAdd, Nat.reduceLT, Nat.reduceLeDiff, Nat.reduceLT, Int.toNat_natCast, Nat.zero_add, ↓reduceIte, eq_self, Bool.false_eq_true, List.contains_cons, List.contains_nil, Nat.reduceBEq, Bool.or_false, Bool.or_true, h12, h5, decide_eq_true (show (i : Int) < (E.length : Int) by omega), evs_get hx, EvR.v]
    repeat (apply And.intro; focus (first | omega | (simp; done)))
    intro c hc
    have hRc := fun cs : List V => hR.put (cs := cs) hc
    have hpre : ∃ l3, wantT E O E.length = wantT E O i ++ [x.tr] ++ l3 := by
      cases ho : O[i]? with
      | none => exact ⟨l2, by rw [hl2, wantT_ev hx ho]⟩
      | some o => exact ⟨o.map OuR.tr ++ l2, by rw [hl2, wantT_o hx ho]; simp⟩
    obtain ⟨l3, hl3⟩ := hpre
    have hmem : x.tr ∈ wantT E O E.length := by rw [hl3]; simp
    have hln := hlen (wantT E O i) ([x.tr] ++ l3) (by rw [hl3, List.append_assoc])
    refine Cal.mk (tPut_v (r := x.tr) (t1 := .no) (t2 := .nil) (hr _ hmem) (ha _ hmem) (hRc _).own (by omega)) ?_
    rintro r1 s1 ⟨k1, k2⟩ -
    rw [← outR_one x.tr, ← outR_append] at k1
    have R1 := (hRc _).app k1 k2
    by_cases hno : O.length ≤ i
    · have ho : O[i]? = none := List.getElem?_eq_none hno
      rw [← wantT_ev hx ho] at R1
      simp (config := {maxSteps := 3000000}) only [run_reg, run_seq, run_exit, run_cond, if_true, at_code_n, at_code_x, at_blk_x, at_rnd_n, ops_nil, ops_mv, ops_bin, ops_len, ev_t, ev_c, put_get, opv_mk, over_get, rel_mk, args0, List.getD_cons_zero, List.getD_cons_succ, vbin, vbinI, norm, vlen, obsOk, true_and, Nat.reduceEqDiff, Int.reduceNeg, ↓reduceIte, eq_self, Bool.false_eq_true, List.contains_cons, List.contains_nil, Nat.reduceBEq, Bool.or_false, Bool.or_true, h12, oos_len, decide_eq_true (show (i : Int) ≥ (O.length : Int) by omega)]
      repeat (apply And.intro; focus (first | omega | (simp; done)))
      exact ⟨⟨i + 1, _, by omega, by simp, rfl, R1⟩, by omega⟩
    · obtain ⟨o, ho⟩ := get_ex (L := O) (i := i) (by omega)
      have hf1 := hf i o hlt ho
      simp (config := {maxSteps := 3000000}) only [run_skip, run_reg, run_seq, run_blk, run_cond, if_false, at_code_n, ops_nil, ops_mv, ops_bin, ops_ix, ops_load, ops_len, ev_t, ev_c, put_get, opv_mk, over_get, args0, List.getD_cons_zero, List.getD_cons_succ, vbin, vbinI, vlen, vix, vload, takeV, V.cells, obsOk, List.length_cons, List.length_nil, List.getElem?_cons_zero, and_true, true_and, Nat.reduceEqDiff, Int.toNat_natCast, Nat.zero_add, ↓reduceIte, eq_self, Bool.false_eq_true, List.contains_cons, List.contains_nil, Nat.reduceBEq, Bool.or_false, oos_len, decide_eq_false (show ¬ (i : Int) ≥ (O.length : Int) by omega), oos_get ho, ous_len]
      repeat (apply And.intro; focus (first | omega | (simp; done)))
      refine run_loop [5, 9, 30, 31, 32, 33, 34, 35, 36, 37, 38] (fun C s' => ∃ (j : Nat) (r' : V), j ≤ o.length ∧ C 30 = .sc (.int .i64 j) ∧ C 5 = r' ∧ RT st s' r' (outR (wantT E O i ++ [x.tr] ++ (o.take j).map OuR.tr))) (fun C _ => o.length - vnat (C 30)) rfl ?_ ?_
      · simp (config := {maxSteps := 3000000}) only [put_get, Nat.reduceEqDiff, ↓reduceIte, eq_self]
        exact ⟨0, _, by omega, rfl, rfl, by simpa using R1⟩
      · rintro C s' ⟨j, r', hj, h30, h5', hR'⟩
        by_cases hjl : j < o.length
        case neg =>
          obtain rfl : j = o.length := by omega
          rw [List.take_of_length_le (Nat.le_refl _), ← wantT_o hx ho] at hR'
          simp (config := {maxSteps := 3000000}) only [run_reg, run_seq, run_exit, run_cond, if_false, at_code_n, at_code_x, at_blk_n, at_blk_x, at_rnd_n, at_rnd_x, ops_nil, ops_mv, ops_bin, ev_t, ev_c, put_get, opv_mk, over_get, rel_mk, vnat, vbin, vbinI, norm, true_and, Nat.reduceEqDiff, Int.toNat_natCast, Int.reduceNeg, ↓reduceIte, decide_false, Int.lt_irrefl, eq_self, Bool.false_eq_true, List.contains_cons, List.contains_nil, Nat.reduceBEq, Bool.or_false, Bool.or_true, h12, h30, h5']
          repeat (apply And.intro; focus (first | omega | (simp; done)))
          exact ⟨⟨i + 1, _, by omega, by simp, rfl, hR'⟩, by omega⟩
        obtain ⟨y, hy⟩ := get_ex hjl
        have hstep : (o.take (j + 1)).map OuR.tr = (o.take j).map OuR.tr ++ [y.tr] := by
          rw [List.take_add_one, hy, List.map_append]; rfl
        have hsp : wantT E O E.length = wantT E O i ++ [x.tr] ++ (o.take (j + 1)).map OuR.tr ++ ((o.drop (j + 1)).map OuR.tr ++ l2) := by
          have hjo : (o.take (j + 1)).map OuR.tr ++ (o.drop (j + 1)).map OuR.tr = o.map OuR.tr := by rw [← List.map_append, List.take_append_drop]
          rw [hl2, wantT_o hx ho, ← hjo]
          simp only [List.append_assoc]
        have hmem2 : y.tr ∈ wantT E O E.length := by rw [hsp, hstep]; simp
        have hln2 := hlen (wantT E O i ++ [x.tr] ++ (o.take j).map OuR.tr) ([y.tr] ++ ((o.drop (j + 1)).map OuR.tr ++ l2)) (by rw [hsp, hstep]; simp)
        simp (config := {maxSteps := 3000000}) only [run_skip, run_reg, run_seq, run_blk, run_cond, if_true, at_code_n, ops_nil, ops_mv, ops_bin, ops_ix, ops_load, ops_bld, ops_alc, ops_store, ops_call, ev_t, ev_c, put_get, put_none, opv_mk, stb_some, sto_ptr, over_get, vnat, Stp, vbld, put_box_same, put_put, vbin, vbinI, vix, vload, takeV, fillV, splice, V.cells, ptrV, obsOk, List.map_cons, List.map_nil, List.length_cons, List.length_nil, List.take_succ_cons, List.take_zero, List.drop_succ_cons, List.drop_zero, List.cons_append, List.nil_append, List.append_nil, List.take_nil, List.drop_nil, and_true, true_and, Nat.reduceEqDiff, Nat.reduceAdd, Nat.reduceLT, Nat.reduceLeDiff, Nat.reduceLT, Int.toNat_natCast, Nat.zero_add, ↓reduceIte, eq_self, Bool.false_eq_true, List.contains_cons, List.contains_nil, Nat.reduceBEq, Bool.or_false, Bool.or_true, h30, h5', decide_eq_true (show (j : Int) < (o.length : Int) by omega), ous_get hy, OuR.v]
        repeat (apply And.intro; focus (first | omega | (simp; done)))
        intro d hd
        have hRd := fun cs : List V => hR'.put (cs := cs) hd
        refine Cal.mk (tPut_v (r := y.tr) (t1 := .nil) (t2 := .no) (hr _ hmem2) (ha _ hmem2) (hRd _).own (by omega)) ?_
        rintro r2 s2 ⟨k3, k4⟩ -
        rw [← outR_one y.tr, ← outR_append, List.append_assoc, ← hstep] at k3
        have R2 := (hRd _).app k3 k4
        simp (config := {maxSteps := 3000000}) only [run_reg, at_code_n, at_blk_n, at_rnd_n, ops_nil, ops_mv, ops_bin, ev_t, ev_c, put_get, opv_mk, over_get, rel_mk, vbin, vbinI, norm, obsOk, true_and, Nat.reduceEqDiff, Int.reduceNeg, ↓reduceIte, eq_self, List.contains_cons, List.contains_nil, Nat.reduceBEq, Bool.or_false, Bool.or_true, h30]
        repeat (apply And.intro; focus (first | omega | (simp; done)))
        exact ⟨⟨j + 1, _, by omega, by simp, rfl, R2⟩, by omega⟩
end
end Go.Proofs.Ytmomebkfaibmgaa
