/- The pool's law, call by call: a step; the statement. -/
import Derived.Test.YtlngegoamfklgaaVPlay3
namespace Go.Proofs.Ytlngegoamfklgaa
open Go

/-- The statics' names are different. -/
theorem statE_names : ∀ {S : List (ByteArray × Int)} {kept : List (Int × ByteArray)}, statE kept S = 0 → (kept.map (·.2)).Nodup → ((kept ++ swp S).map (·.2)).Nodup
  | [], kept, _, hn => by simpa [swp] using hn
  | s :: r, kept, h, hn => by
    simp only [statE] at h
    split at h
    · cases h
    · split at h
      · cases h
      · rename_i hc
        have h1 : hasN s.1 kept = false := by
          cases hg : hasN s.1 kept with
          | false => rfl
          | true => exact absurd (.inr hg) hc
        have := statE_names h (by
          rw [List.map_append, List.nodup_append]
          refine ⟨hn, by simp, fun x hx y hy => ?_⟩
          simp at hy
          subst hy
          obtain ⟨p, hp, rfl⟩ := List.mem_map.1 hx
          intro e
          unfold hasN at h1
          rw [List.any_eq_false] at h1
          exact h1 p hp (by simp [e]))
        simpa [swp] using this
theorem newE_names {first many : Int} {S : List (ByteArray × Int)} (h : newE first many S = 0) : ((swp S).map (·.2)).Nodup := by
  unfold newE at h
  split at h
  · cases h
  · split at h
    · cases h
    · split at h
      · cases h
      · simpa using statE_names h (by simp)
theorem nodup_inj {κ ν : Type} : ∀ {l : List (κ × ν)}, (l.map (·.2)).Nodup → ∀ {p q : κ × ν}, p ∈ l → q ∈ l → p.2 = q.2 → p = q
  | [], _, p, q, hp, _, _ => by cases hp
  | t :: l, hn, p, q, hp, hq, e => by
    rw [List.map_cons, List.nodup_cons] at hn
    rcases List.mem_cons.1 hp with rfl | hp2 <;> rcases List.mem_cons.1 hq with rfl | hq2
    · rfl
    · exact (hn.1 (List.mem_map.2 ⟨q, hq2, e.symm⟩)).elim
    · exact (hn.1 (List.mem_map.2 ⟨p, hp2, e⟩)).elim
    · exact nodup_inj hn.2 hp2 hq2 e
section
variable {first many : Int} {S : List (ByteArray × Int)} {l : List (Int × ByteArray)} {name : ByteArray}
theorem swp_mem {x : ByteArray × Int} (h : x ∈ S) : (x.2, x.1) ∈ swp S := List.mem_map.2 ⟨x, h, rfl⟩
theorem mem_swp {a : Int} (h : (a, name) ∈ swp S) : ∃ x ∈ S, x.2 = a ∧ x.1 = name := by
  obtain ⟨x, hx, e⟩ := List.mem_map.1 h
  simp only [Prod.mk.injEq] at e
  exact ⟨x, hx, e.1, e.2⟩
/-- Both leases answer alike. -/
theorem lease_same (hn : ((swp S).map (·.2)).Nodup) {a : Int} (h : LeaseOK first many (swp S) l name a) {v : V} (hq : LsQ first many S l name v) : v = .tup [.sc (.int .u32 a), .sc (.bool true)] := by
  rcases h with ⟨h1, h2⟩ | ⟨h1, i, h2, h3, h4, h5, h6⟩
  · obtain ⟨y, hy, ey, en⟩ := mem_swp h1
    rcases hq with ⟨x, hx, e1, e2, rfl⟩ | ⟨hall, _⟩
    · have := nodup_inj hn (swp_mem hx) h1 (by simpa using e1)
      simp only [Prod.mk.injEq] at this
      rw [this.1]
    · exact absurd (by rw [ey]; exact h2) (hall y hy en)
  · rcases hq with ⟨x, hx, e1, e2, rfl⟩ | ⟨hall, hq⟩
    · exact absurd e2 (h1 (x.2, x.1) (swp_mem hx) e1)
    · obtain ⟨fs, hfs⟩ := freeN_head (first := first) (kept := swp S) (l := l) (n := many.toNat) (i := i) (by omega) (by
        have : freeB first (swp S) l i ≠ false := fun e => by
          rcases free_iff.1 e with e | e
          · exact e (by unfold nthA; rw [← h3]; exact h4)
          · exact e (by unfold nthA; rw [← h3]; exact h5)
        simpa using this) (fun j hj => free_iff.2 (h6 j hj))
      rcases hq with ⟨h, _⟩ | ⟨f, fs', h, rfl⟩
      · rw [hfs] at h; cases h
      · rw [hfs] at h
        simp only [List.cons.injEq] at h
        rw [← h.1, h3]; rfl
theorem lease_none (h : LeaseNo first many (swp S) l name) {v : V} (hq : LsQ first many S l name v) : v = .tup [.sc (.int .u32 0), .sc (.bool false)] := by
  rcases hq with ⟨x, hx, e1, e2, rfl⟩ | ⟨hall, hq⟩
  · exact absurd e2 (h.1 (x.2, x.1) (swp_mem hx) e1)
  · have hF : freeN first (swp S) l many.toNat = [] := freeN_nil fun j hj => free_iff.2 (h.2 j (by omega))
    rcases hq with ⟨_, rfl⟩ | ⟨f, fs, h, _⟩
    · rfl
    · rw [hF] at h; cases h
end
section
variable {st : St} {first many : Int} {S : List (ByteArray × Int)} {l : List (Int × ByteArray)} {tk t2 : Tk} {b kb hb : Nat} {kes hes : List (V × V × Nat)} {kc hc : Nat}
theorem PoolB.put {s : St} {held kept : List (Int × ByteArray)} (h : PoolB s b kb hb first many kept held kes hes kc hc) {c : Nat} {cs : List V} (h1 : b ≠ c) (h2 : kb ≠ c) (h3 : hb ≠ c) : PoolB (s.put c cs) b kb hb first many kept held kes hes kc hc :=
  ⟨by rw [put_box_ne h1]; exact h.box, ⟨by rw [put_box_ne h2]; exact h.kept.box, h.kept.mp⟩, ⟨by rw [put_box_ne h3]; exact h.held.box, h.held.mp⟩, h.bk, h.bh, h.kh⟩
/-- A step's answer. -/
def StepQ (st : St) (b kb hb : Nat) (first many : Int) (S : List (ByteArray × Int)) (l : List (Int × ByteArray)) (kes : List (V × V × Nat)) (kc : Nat) (v : V) (s : St) : Prop :=
  ∃ (l' : List (Int × ByteArray)) (hes' : List (V × V × Nat)) (hc' : Nat), v = .tup [.sl .no (ones l'), .sc (.bool true)] ∧ s = st.put hb [.mp false [.int .u32] hes' hc'] ∧ PoolB s b kb hb first many (swp S) l' kes hes' kc hc' ∧ (l'.map (·.1)).Nodup ∧ l'.length ≤ l.length + 1
set_option maxRecDepth 100000 in
set_option maxHeartbeats 8000000 in
theorem step29_v (h : PoolB st b kb hb first many (swp S) l kes hes kc hc) (hm : many ≤ 64) (hn : ((swp S).map (·.2)).Nodup) (hln : (l.map (·.1)).Nodup) (hll : l.length ≤ 1000) {o : OpR} (ho : 0 ≤ o.kind) :
    VCalls Try.prog 34 [ptrV b, shapeV first many tk S, .sl t2 (ones l), .agg [.sc (.int .i64 o.kind), .sc (.string o.name), .sc (.int .u32 o.a)]] st (StepQ st b kb hb first many S l kes kc) := by
  have bT : (true == true) = true := rfl
  have bF : (false == false) = true := rfl
  refine vcalls_enter vc34 (Nat.le_of_ble_eq_true rfl) fun hwf hok => ?_
  show Run _ Vc34.body (.fin (finQ Vc34.res _)) _ _
  unfold Vc34
  have hlt := hwf.lt
  have hB := hlt.box b _ h.box
  have hK := hlt.box kb _ h.kept.box
  have hH := hlt.box hb _ h.held.box
  simp (config := {maxSteps := 3000000}) only [run_reg, run_seq, run_cond, at_code_n, ops_nil, ops_mv, ops_bin, ops_fld, ops_load, ops_box, ev_t, ev_c, put_get, opv_mk, Bx, put_box_same, put_sz, args0, List.getD_cons_zero, List.getD_cons_succ, vbin, vbinI, vfld, vload, takeV, takeB, V.cells, ptrV, obsOk, List.length_cons, List.length_nil, List.getElem?_cons_zero, and_true, true_and, Nat.reduceEqDiff, Nat.reduceAdd, Int.reduceLT, Nat.zero_add, Nat.add_zero, ↓reduceIte, ne_eq, not_false_eq_true, eq_self, reduceCtorEq, shapeV]
  intro d hd e he
  have d1 : d < e := by omega
  have d2 : st.sz ≤ e := by omega
  clear he
  have P2 := (h.put (c := d) (cs := [.sc (.int .u32 first), .sc (.int .i64 many), .sl tk (sts S)]) (by omega) (by omega) (by omega)).put (c := e) (cs := [.sc (.int .i64 o.kind), .sc (.string o.name), .sc (.int .u32 o.a)]) (by omega) (by omega) (by omega)
  have hde : d ≠ e := by omega
  have hW2 : st.weak ((st.put d [.sc (.int .u32 first), .sc (.int .i64 many), .sl tk (sts S)]).put e [.sc (.int .i64 o.kind), .sc (.string o.name), .sc (.int .u32 o.a)]) := weak_put (weak_put hwf.weak hd) d2
  have hL2 : ((st.put d [.sc (.int .u32 first), .sc (.int .i64 many), .sl tk (sts S)]).put e [.sc (.int .i64 o.kind), .sc (.string o.name), .sc (.int .u32 o.a)]).Lt := hlt.put.put
  have bd : ((st.put d [.sc (.int .u32 first), .sc (.int .i64 many), .sl tk (sts S)]).put e [.sc (.int .i64 o.kind), .sc (.string o.name), .sc (.int .u32 o.a)]).box d = some [.sc (.int .u32 first), .sc (.int .i64 many), .sl tk (sts S)] := by rw [put_box_ne hde, put_box_same]
  have be : ((st.put d [.sc (.int .u32 first), .sc (.int .i64 many), .sl tk (sts S)]).put e [.sc (.int .i64 o.kind), .sc (.string o.name), .sc (.int .u32 o.a)]).box e = some [.sc (.int .i64 o.kind), .sc (.string o.name), .sc (.int .u32 o.a)] := put_box_same
  generalize (st.put d [.sc (.int .u32 first), .sc (.int .i64 many), .sl tk (sts S)]).put e [.sc (.int .i64 o.kind), .sc (.string o.name), .sc (.int .u32 o.a)] = s2 at P2 hW2 hL2 bd be ⊢
  by_cases c3 : 3 ≤ o.kind % 5
  · simp (config := {maxSteps := 3000000}) only [run_reg, run_seq, if_true, ops_mv, ops_fld, ops_load, ops_call, ev_t, put_get, opv_mk, args0, List.getD_cons_zero, List.getD_cons_succ, vfld, vload, takeV, takeB, V.cells, List.map_cons, List.map_nil, List.length_cons, List.length_nil, List.getElem?_cons_zero, List.getElem?_cons_succ, true_and, Nat.reduceEqDiff, Nat.zero_add, ↓reduceIte, eq_self, be, decide_eq_true c3]
    repeat (apply And.intro; focus (first | omega | (simp; done)))
    refine Cal.mk has29_v ?_
    rintro _ _ ⟨r, hr, rfl, rfl⟩ -
    rcases hr with ⟨rfl, hg⟩ | ⟨i, p, rfl, hp, hpa, hg, hdel⟩
    · simp (config := {maxSteps := 3000000}) only [run_reg, run_seq, run_cond, if_true, at_code_n, ops_nil, ops_mv, ops_bin, ops_fld, ops_load, ops_call, ev_t, ev_c, put_get, opv_mk, args0, List.getD_cons_zero, List.getD_cons_succ, vbin, vbinI, vfld, vload, takeV, takeB, V.cells, obsOk, List.map_cons, List.map_nil, List.length_cons, List.length_nil, List.getElem?_cons_zero, List.getElem?_cons_succ, true_and, Nat.reduceEqDiff, Int.reduceLT, Int.reduceNeg, Nat.zero_add, ↓reduceIte, decide_true, eq_self, reduceCtorEq, be]
      refine Cal.mk (release_v P2) ?_
      rintro _ _ (⟨_, rfl, rfl⟩ | ⟨⟨y, hy⟩, _⟩) -
      · simp (config := {maxSteps := 3000000}) only [run_ret, at_code_n, at_code_r, at_fin_r, ops_nil, ops_mv, ops_bin, ev_t, ev_c, put_get, opv_mk, args0, vbin, vbinI, vload, takeV, takeB, V.cells, obsOk, List.map_cons, List.map_nil, and_true, true_and, Nat.reduceEqDiff, Int.reduceNeg, ↓reduceIte, vret, rvAll, rvVal, resv_2, decide_true, eq_self]
        exact ⟨_, _, Wk.tupS Wk.no, weak_tr (weak_both hwf.weak) (by
          have hself : st.put hb [.mp false [.int .u32] hes hc] = st := put_selfR h.held.box hH
          rw [hself]; exact hW2), l, hes, hc, rfl, rfl, by rw [put_selfR h.held.box hH]; exact h, hln, by omega⟩
      · rw [hg] at hy; cases hy
    · have hk1 : ((i : Int) + 1).toNat = i + 1 := by omega
      have hil := (List.getElem?_eq_some_iff.1 hp).1
      simp (config := {maxSteps := 3000000}) only [run_skip, run_reg, run_seq, run_cond, if_false, at_code_n, ops_nil, ops_mv, ops_bin, ops_fld, ops_load, ops_slc, ops_bslo, ev_t, ev_c, put_get, opv_mk, args0, List.getD_cons_zero, List.getD_cons_succ, vbin, vbinI, norm, vfld, vload, takeV, takeB, vslc, V.cells, strip, strip1, obsOk, List.map_nil, List.length_cons, List.length_nil, List.getElem?_cons_zero, List.getElem?_cons_succ, Option.map_some, Option.map_none, true_and, Nat.reduceEqDiff, Int.toNat_natCast, Int.reduceNeg, Nat.zero_add, ↓reduceIte, eq_self, reduceCtorEq, be, decide_eq_false (show ¬ (i : Int) < 0 by omega), ones_len, ones_take, ones_drop, allSz_ones', hk1]
      repeat (apply And.intro; focus (first | omega | (simp; done)))
      refine Bo.own (by simp [allLen]) ?_
      intro g hg2
      have R0 : RO 2 st (s2.use g 0) (.sl (.own g 2) []) [] := RO.use0 hW2 hL2 hg2
      simp (config := {maxSteps := 3000000}) only [ops_app, ev_t, put_get, use_box, vload, takeV, takeB, V.cells, obsOk, List.length_cons, List.length_nil, List.getElem?_cons_zero, List.getElem?_cons_succ, and_true, true_and, Nat.reduceEqDiff, Nat.zero_add, ↓reduceIte, eq_self, be]
      refine App.mk (bytes := 24) (l := []) (ys := ones (l.take i)) R0.own (allSz_ones _) (by simp only [ones_len, List.length_nil, List.length_take, maxLen]; omega) (by simp only [ones_len, List.length_nil, List.length_take]; omega) ?_
      intro r1 s1 k1 k2
      have R1 := R0.app k1 k2
      rw [List.nil_append] at R1
      have be1 : s1.box e = some [.sc (.int .i64 o.kind), .sc (.string o.name), .sc (.int .u32 o.a)] := by
        rw [k2.box]
        exact be
      simp (config := {maxSteps := 3000000}) only [ops_app, ev_t, put_get, vload, takeV, takeB, V.cells, obsOk, List.length_cons, List.length_nil, List.getElem?_cons_zero, List.getElem?_cons_succ, and_true, true_and, Nat.reduceEqDiff, Nat.zero_add, ↓reduceIte, eq_self, be1]
      refine App.mk (bytes := 24) (l := ones (l.take i)) (ys := ones (l.drop (i + 1))) R1.own (allSz_ones _) (by simp only [ones_len, List.length_drop, List.length_take, maxLen]; omega) (by simp only [ones_len, List.length_drop, List.length_take]; omega) ?_
      intro r2 s3 k3 k4
      have R2 := R1.app k3 k4
      rw [ones_append] at R2
      have hbx : s3.box = s2.box := by rw [k4.box, k2.box]; rfl
      have P3 := P2.boxes hbx
      have be3 : s3.box e = some [.sc (.int .i64 o.kind), .sc (.string o.name), .sc (.int .u32 o.a)] := by rw [hbx]; exact be
      simp (config := {maxSteps := 3000000}) only [ops_call, ev_t, put_get, vload, takeV, takeB, V.cells, obsOk, List.map_cons, List.map_nil, List.length_cons, List.length_nil, List.getElem?_cons_zero, List.getElem?_cons_succ, and_true, true_and, Nat.reduceEqDiff, Nat.zero_add, ↓reduceIte, eq_self, be3]
      refine Cal.mk (release_v P3) ?_
      rintro _ _ (⟨hy, _⟩ | ⟨_, rfl, rfl⟩) -
      · rw [hg] at hy; cases hy
      · simp (config := {maxSteps := 3000000}) only [run_ret, at_code_n, at_code_r, at_fin_r, ops_nil, ops_mv, ops_bin, ev_t, ev_c, put_get, opv_mk, args0, vbin, vbinI, vload, takeV, takeB, V.cells, obsOk, List.map_cons, List.map_nil, and_true, true_and, Nat.reduceEqDiff, ↓reduceIte, vret, rvAll, rvVal, resv_2, decide_true, eq_self]
        obtain ⟨tv, rfl⟩ := R2.sl
        refine ⟨_, _, Wk.tupS Wk.no, weak_both R2.weak, l.take i ++ l.drop (i + 1), _, _, rfl, rfl, ?_, ?_, ?_⟩
        · have := h.del o.a
          rw [hdel] at this
          exact this
        · rw [← hdel]; exact adel_nodup hln
        · simp only [List.length_append, List.length_take, List.length_drop]; omega
  · simp (config := {maxSteps := 3000000}) only [run_skip, run_reg, run_seq, if_false, at_code_n, ops_mv, ops_fld, ops_load, ops_call, ev_t, put_get, opv_mk, args0, List.getD_cons_zero, vfld, vload, takeV, takeB, V.cells, List.map_cons, List.map_nil, List.length_cons, List.length_nil, List.getElem?_cons_zero, List.getElem?_cons_succ, true_and, Nat.reduceEqDiff, Nat.zero_add, ↓reduceIte, eq_self, reduceCtorEq, be, decide_eq_false c3]
    repeat (apply And.intro; focus (first | omega | (simp; done)))
    refine Cal.mk (lease_v P2 hm) ?_
    rintro _ _ (⟨hno, rfl, rfl⟩ | ⟨a, ha, rfl, rfl⟩) -
    · simp (config := {maxSteps := 3000000}) only [run_reg, run_seq, at_code_n, ops_nil, ops_mv, ops_fld, ops_load, ops_ext, ops_call, ev_t, put_get, opv_mk, args0, List.getD_cons_zero, List.getD_cons_succ, vfld, vext, vload, takeV, takeB, mono_two, V.cells, obsOk, List.map_cons, List.map_nil, List.length_cons, List.length_nil, List.getElem?_cons_zero, List.getElem?_cons_succ, List.take_succ_cons, List.drop_zero, List.take_nil, and_true, true_and, Nat.reduceEqDiff, Nat.reduceAdd, Nat.reduceLeDiff, Nat.zero_add, ↓reduceIte, eq_self, bd, be]
      refine Cal.mk (lease29_v (tk := tk) (t2 := t2) (S := S) (first := first) hm) ?_
      rintro v _ ⟨hq, rfl⟩ -
      rw [lease_none hno hq]
      simp (config := {maxSteps := 3000000}) only [run_reg, run_seq, run_ret, run_cond, if_true, at_code_n, at_code_r, at_fin_r, ops_nil, ops_grd, grd_tt, ops_mv, ops_pick, ops_bin, ops_un, ops_ext, ev_t, ev_c, put_get, opv_mk, args0, List.getD_cons_zero, List.getD_cons_succ, vpick, vbin, vbinI, vun, vext, vload, takeV, takeB, V.cells, obsOk, List.map_cons, List.map_nil, List.getElem?_cons_zero, List.getElem?_cons_succ, and_true, true_and, Nat.reduceEqDiff, ↓reduceIte, vret, rvAll, rvVal, resv_2, decide_true, Bool.not_false, eq_self]
      exact ⟨_, _, Wk.tupS Wk.no, weak_tr (weak_both hwf.weak) (by
        have hself : st.put hb [.mp false [.int .u32] hes hc] = st := put_selfR h.held.box hH
        rw [hself]; exact hW2), l, hes, hc, rfl, rfl, by rw [put_selfR h.held.box hH]; exact h, hln, by omega⟩
    · have hg := lease_free ha
      have hdh : d ≠ hb := by omega
      have heh : e ≠ hb := by omega
      simp (config := {maxSteps := 3000000}) only [run_reg, run_seq, at_code_n, ops_nil, ops_mv, ops_fld, ops_load, ops_ext, ops_call, ev_t, put_get, opv_mk, args0, List.getD_cons_zero, List.getD_cons_succ, vfld, vext, vload, takeV, takeB, mono_two, V.cells, obsOk, List.map_cons, List.map_nil, List.length_cons, List.length_nil, List.getElem?_cons_zero, List.getElem?_cons_succ, List.take_succ_cons, List.drop_zero, List.take_nil, and_true, true_and, Nat.reduceEqDiff, Nat.reduceAdd, Nat.reduceLeDiff, Nat.zero_add, ↓reduceIte, eq_self, put_box_ne hdh, put_box_ne heh, bd, be]
      refine Cal.mk (lease29_v (tk := tk) (t2 := t2) (S := S) (first := first) hm) ?_
      rintro v _ ⟨hq, rfl⟩ -
      rw [lease_same hn ha hq]
      simp (config := {maxSteps := 3000000}) only [run_skip, run_reg, run_seq, run_cond, if_false, at_code_n, ops_nil, ops_mv, ops_bin, ops_un, ops_fld, ops_load, ops_ext, ops_bld, ops_bsl, ops_bslo, ev_t, ev_c, put_get, opv_mk, vbld, vbsl, args0, List.getD_cons_zero, List.getD_cons_succ, vbin, vbinI, vun, vfld, vext, vload, takeV, takeB, fillV, splice, V.cells, strip, strip1, allLen, obsOk, List.map_cons, List.map_nil, List.length_cons, List.length_nil, List.getElem?_cons_zero, List.getElem?_cons_succ, List.take_succ_cons, List.take_zero, List.drop_succ_cons, List.drop_zero, List.cons_append, List.nil_append, List.append_nil, List.drop_nil, and_true, true_and, Nat.reduceEqDiff, Nat.reduceAdd, Nat.reduceLT, Nat.reduceLeDiff, Nat.reduceLT, Nat.zero_add, ↓reduceIte, decide_true, Bool.not_true, eq_self, put_box_ne heh, be]
      refine Bo.own (by simp [allLen]) ?_
      intro g hg2
      have R0 : RO 2 (st.put hb [.mp false [.int .u32] (mset (ku a) (vstr o.name) hc hes) (mclk hes (ku a) hc)]) ((s2.put hb [.mp false [.int .u32] (mset (ku a) (vstr o.name) hc hes) (mclk hes (ku a) hc)]).use g 0) (.sl (.own g 2) []) [] := RO.use0 (weak_both hW2) hL2.put hg2
      simp (config := {maxSteps := 3000000}) only [ops_app, ev_t, put_get, use_box, vload, takeV, takeB, V.cells, obsOk, List.length_cons, List.length_nil, List.getElem?_cons_zero, List.getElem?_cons_succ, and_true, true_and, Nat.reduceEqDiff, Nat.zero_add, ↓reduceIte, eq_self, put_box_ne heh, be]
      refine App.mk (bytes := 24) (l := []) (ys := ones l) R0.own (allSz_ones _) (by simp only [ones_len, List.length_nil, maxLen]; omega) (by simp only [ones_len, List.length_nil]; omega) ?_
      intro r1 s1 k1 k2
      have R1 := R0.app k1 k2
      rw [List.nil_append] at R1
      have be1 : s1.box e = some [.sc (.int .i64 o.kind), .sc (.string o.name), .sc (.int .u32 o.a)] := by
        rw [k2.box]
        show (s2.put hb _).box e = _
        rw [put_box_ne heh]; exact be
      simp (config := {maxSteps := 3000000}) only [ops_app, ev_t, put_get, vload, takeV, takeB, V.cells, obsOk, List.length_cons, List.length_nil, List.getElem?_cons_zero, List.getElem?_cons_succ, and_true, true_and, Nat.reduceEqDiff, Nat.zero_add, ↓reduceIte, eq_self, be1]
      refine App.mk (bytes := 24) (l := ones l) (ys := ones [(a, o.name)]) R1.own (allSz_ones _) (by simp only [ones_len, List.length_cons, List.length_nil, maxLen]; omega) (by simp only [ones_len, List.length_cons, List.length_nil]; omega) ?_
      intro r2 s3 k3 k4
      have R2 := R1.app k3 k4
      rw [ones_append] at R2
      simp (config := {maxSteps := 3000000}) only [run_ret, at_code_n, at_fin_r, ops_nil, ops_grd, grd_tt, ops_mv, ops_pick, ops_bin, ev_t, put_get, opv_mk, args0, vpick, vbin, vbinI, vload, takeV, takeB, V.cells, obsOk, List.map_cons, List.map_nil, and_true, true_and, Nat.reduceEqDiff, ↓reduceIte, vret, rvAll, rvVal, resv_2, decide_true, eq_self]
      obtain ⟨tv, rfl⟩ := R2.sl
      refine ⟨_, _, Wk.tupS Wk.no, R2.weak, l ++ [(a, o.name)], _, _, rfl, rfl, ?_, ?_, ?_⟩
      · have := h.set a o.name
        rw [aset_new hg] at this
        exact this
      · have := aset_nodup (a := a) (v := o.name) hln
        rwa [aset_new hg] at this
      · simp
end
end Go.Proofs.Ytlngegoamfklgaa
