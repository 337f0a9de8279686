/- A new pool: contract. -/
import Derived.Test.YtlngegoamfklgaaVPool2
namespace Go.Proofs.Ytlngegoamfklgaa
open Go

/-- A static: a name, an address. -/
def stV (s : ByteArray × Int) : V := .agg [.sc (.string s.1), .sc (.int .u32 s.2)]
def sts (S : List (ByteArray × Int)) : List V := S.map stV
theorem sts_len (S : List (ByteArray × Int)) : (sts S).length = S.length := by simp [sts]
theorem sts_get {S : List (ByteArray × Int)} {i : Nat} {s : ByteArray × Int} (h : S[i]? = some s) : (sts S)[i]? = some (.agg [.sc (.string s.1), .sc (.int .u32 s.2)]) := by simp [sts, h, stV]
def swp (S : List (ByteArray × Int)) : List (Int × ByteArray) := S.map fun s => (s.2, s.1)
/-- Is something kept for a name? -/
def hasN (n : ByteArray) (l : List (Int × ByteArray)) : Bool := l.any fun p => decide (n = p.2)
/-- Why statics may not be. -/
def statE (kept : List (Int × ByteArray)) : List (ByteArray × Int) → Int
  | [] => 0
  | s :: r => if hostB s.2 = false then 13 else if (aget s.2 kept).isSome = true ∨ hasN s.1 kept = true then 72 else statE (kept ++ [(s.2, s.1)]) r
def badAt (first : Int) (i : Nat) : Bool := !(decide (first + i ≤ 4294967295) && hostB (first + i))
/-- Why there is no such pool; 0: there is. -/
def newE (first many : Int) (S : List (ByteArray × Int)) : Int :=
  if many < 0 ∨ 64 < many then 13 else if (List.range many.toNat).any (badAt first) = true then 13 else if 8 < S.length then 12 else statE [] S
def vbool (b : Bool) : V := .sc (.bool b)
theorem aget_names (n : ByteArray) : ∀ l : List (Int × ByteArray), aget n (l.map fun p => (p.2, true)) = if hasN n l = true then some true else none
  | [] => rfl
  | p :: l => by
    have e : hasN n (p :: l) = (decide (n = p.2) || hasN n l) := rfl
    simp only [List.map_cons, aget, aget_names n l, e]
    by_cases h : n = p.2
    · simp [h]
    · simp [h]
/-- Midway: the pool, and the map of names. -/
structure NewI (st s : St) (b kb hb nb : Nat) (first many : Int) (kept : List (Int × ByteArray)) (kes nes : List (V × V × Nat)) (kc nc : Nat) : Prop where
  pool : PoolB s b kb hb first many kept [] kes [] kc 0
  nbox : s.box nb = some [.mp false [.str] nes nc]
  nmp : Mp vstr vbool nes nc (kept.map fun p => (p.2, true))
  weak : st.weak s
  lt : s.Lt
  nk : kb ≠ nb
  nh : hb ≠ nb
  nn : b ≠ nb
  fb : st.sz ≤ b
  fk : st.sz ≤ kb
  fh : st.sz ≤ hb
  fn : st.sz ≤ nb
section
variable {st : St} {first many : Int} {S : List (ByteArray × Int)} {tk : Tk}
theorem NewI.var {s : St} {b kb hb nb : Nat} {kept : List (Int × ByteArray)} {kes nes : List (V × V × Nat)} {kc nc : Nat} (h : NewI st s b kb hb nb first many kept kes nes kc nc) {v : Nat} (hv : s.sz ≤ v) (cs : List V) : NewI st (s.put v cs) b kb hb nb first many kept kes nes kc nc := by
  have q1 := h.lt.box b _ h.pool.box
  have q2 := h.lt.box kb _ h.pool.kept.box
  have q3 := h.lt.box hb _ h.pool.held.box
  have q4 := h.lt.box nb _ h.nbox
  exact ⟨⟨by rw [put_box_ne (by omega)]; exact h.pool.box, ⟨by rw [put_box_ne (by omega)]; exact h.pool.kept.box, h.pool.kept.mp⟩, ⟨by rw [put_box_ne (by omega)]; exact h.pool.held.box, h.pool.held.mp⟩, h.pool.bk, h.pool.bh, h.pool.kh⟩,
    by rw [put_box_ne (by omega)]; exact h.nbox, h.nmp, weak_put h.weak (by have := h.weak.sz; omega), h.lt.put, h.nk, h.nh, h.nn, h.fb, h.fk, h.fh, h.fn⟩
theorem NewI.add {s : St} {b kb hb nb : Nat} {kept : List (Int × ByteArray)} {kes nes : List (V × V × Nat)} {kc nc : Nat} (h : NewI st s b kb hb nb first many kept kes nes kc nc) {a : Int} {n : ByteArray} (ha : aget a kept = none) (hn : hasN n kept = false) :
    NewI st ((s.put kb [.mp false [.int .u32] (mset (ku a) (vstr n) kc kes) (mclk kes (ku a) kc)]).put nb [.mp false [.str] (mset (vstr n) (vbool true) nc nes) (mclk nes (vstr n) nc)]) b kb hb nb first many (kept ++ [(a, n)]) (mset (ku a) (vstr n) kc kes) (mset (vstr n) (vbool true) nc nes) (mclk kes (ku a) kc) (mclk nes (vstr n) nc) := by
  have m1 := Mp.set ku_eq h.pool.kept.mp a n
  rw [aset_new ha] at m1
  have m2 := Mp.set vstr_eq h.nmp n true
  rw [aset_new (by rw [aget_names, hn]; rfl)] at m2
  exact ⟨⟨by rw [put_box_ne h.nn, put_box_ne h.pool.bk]; exact h.pool.box, ⟨by rw [put_box_ne h.nk, put_box_same], m1⟩, ⟨by rw [put_box_ne h.nh, put_box_ne h.pool.kh.symm]; exact h.pool.held.box, h.pool.held.mp⟩, h.pool.bk, h.pool.bh, h.pool.kh⟩,
    put_box_same, by simpa using m2, weak_put (weak_put h.weak h.fk) h.fn, h.lt.put.put, h.nk, h.nh, h.nn, h.fb, h.fk, h.fh, h.fn⟩
theorem NewI.nfind {s : St} {b kb hb nb : Nat} {kept : List (Int × ByteArray)} {kes nes : List (V × V × Nat)} {kc nc : Nat} (h : NewI st s b kb hb nb first many kept kes nes kc nc) (n : ByteArray) : (mfind (.sc (.string n)) nes).getD (.sc (.bool false)) = .sc (.bool (hasN n kept)) := by
  have : mfind (.sc (.string n)) nes = _ := Mp.find vstr_eq h.nmp n
  rw [this, aget_names]
  cases hasN n kept <;> rfl
/-- What New answers. -/
def NewQ (st : St) (first many : Int) (S : List (ByteArray × Int)) (r : V) (s : St) : Prop :=
  (newE first many S ≠ 0 ∧ r = .tup [.sc (.pointer none), .sc (.int .i64 (newE first many S))] ∧ s = st) ∨
  (newE first many S = 0 ∧ ∃ b kb hb kes kc, r = .tup [ptrV b, .sc (.int .i64 0)] ∧ PoolB s b kb hb first many (swp S) [] kes [] kc 0 ∧ st.weak s ∧ s.Lt ∧ st.sz ≤ b ∧ st.sz ≤ kb ∧ st.sz ≤ hb)
set_option maxRecDepth 100000 in
set_option maxHeartbeats 4000000 in
theorem new_v (h0 : 0 ≤ first) (h1 : first ≤ 4294967295) (hS : ∀ s ∈ S, 0 ≤ s.2) : VCalls Try.prog 11 [.sc (.int .u32 first), .sc (.int .i64 many), .sl tk (sts S)] st (NewQ st first many S) := by
  refine vcalls_enter vc11 (Nat.le_of_ble_eq_true rfl) fun hwf hok => ?_
  show Run _ Vc11.body (.fin (finQ Vc11.res _)) _ _
  unfold Vc11
  have hsm := vlen_max (hok (.sl tk (sts S)) (by simp))
  rw [sts_len] at hsm
  by_cases c1 : many < 0
  · simp (config := {maxSteps := 3000000}) only [run_reg, run_seq, run_ret, run_cond, if_true, at_code_n, at_code_r, at_fin_r, ops_nil, ops_grd, grd_tf, ops_mv, ops_pick, ops_bin, ev_t, ev_c, put_get, opv_mk, args0, List.getD_cons_zero, List.getD_cons_succ, vpick, vbin, vbinI, vload, takeV, takeB, V.cells, List.map_cons, List.map_nil, and_true, true_and, Nat.reduceEqDiff, ↓reduceIte, vret, rvAll, rvVal, resv_2, eq_self, decide_eq_true c1]
    exact ⟨_, _, Wk.refl _, hwf.weak, .inl ⟨by simp [newE, c1], by simp [newE, c1], rfl⟩⟩
  by_cases c2 : 64 < many
  · simp (config := {maxSteps := 3000000}) only [run_reg, run_seq, run_ret, run_cond, if_true, at_code_n, at_code_r, at_fin_r, ops_nil, ops_grd, grd_ff, ops_mv, ops_pick, ops_bin, ev_t, ev_c, put_get, opv_mk, args0, List.getD_cons_zero, List.getD_cons_succ, vpick, vbin, vbinI, vload, takeV, takeB, V.cells, List.map_cons, List.map_nil, and_true, true_and, Nat.reduceEqDiff, ↓reduceIte, vret, rvAll, rvVal, resv_2, eq_self, Bool.false_eq_true, decide_eq_false c1, decide_eq_true c2]
    exact ⟨_, _, Wk.refl _, hwf.weak, .inl ⟨by simp [newE, c2], by simp [newE, c2], rfl⟩⟩
  have e1 : newE first many S = if (List.range many.toNat).any (badAt first) = true then 13 else if 8 < S.length then 12 else statE [] S := by
    unfold newE
    rw [if_neg (by omega)]
  simp (config := {maxSteps := 3000000}) only [run_skip, run_reg, run_seq, run_blk, run_cond, if_false, at_code_n, ops_nil, ops_grd, grd_ff, ops_mv, ops_pick, ops_bin, ev_t, ev_c, put_get, opv_mk, args0, List.getD_cons_zero, List.getD_cons_succ, vpick, vbin, vbinI, true_and, Nat.reduceEqDiff, ↓reduceIte, eq_self, Bool.false_eq_true, decide_eq_false c1, decide_eq_false c2]
  refine run_loop [6, 7, 8, 9, 10, 24, 25, 26, 27, 28, 29, 30, 31, 32, 33, 34, 35, 36, 37, 38, 39, 40] (fun B s => ∃ i : Nat, (i : Int) ≤ many ∧ B 24 = .sc (.int .i64 i) ∧ (∀ j < i, badAt first j = false) ∧ s = st) (fun B _ => 64 - vnat (B 24)) rfl ?_ ?_
  · simp (config := {maxSteps := 3000000}) only [put_get, and_true, ↓reduceIte, eq_self]
    exact ⟨0, by omega, rfl, fun j hj => by omega⟩
  · rintro B s ⟨i, hi, h24, hgood, rfl⟩
    by_cases c3 : (i : Int) < many
    · simp (config := {maxSteps := 3000000}) only [run_skip, run_reg, run_seq, run_blk, run_cond, if_true, at_code_n, ops_nil, ops_mv, ops_bin, ops_call, ev_t, put_get, opv_mk, over_get, vnat, args0, List.getD_cons_zero, vbin, vbinI, List.map_cons, List.map_nil, true_and, Nat.reduceEqDiff, Int.toNat_natCast, ↓reduceIte, eq_self, reduceCtorEq, Bool.false_eq_true, List.contains_cons, List.contains_nil, Nat.reduceBEq, Bool.or_false, Bool.or_true, h24, decide_eq_true c3]
      refine Cal.mk (next_v h0 h1 (by omega) (by omega)) ?_
      rintro _ _ ⟨rfl, rfl⟩ -
      have bad13 : badAt first i = true → newE first many S = 13 := fun hb => by
        rw [e1, if_pos]
        rw [List.any_eq_true]
        exact ⟨i, List.mem_range.2 (by omega), hb⟩
      by_cases c4 : first + (i : Int) ≤ 4294967295
      · rw [if_pos c4]
        simp (config := {maxSteps := 3000000}) only [run_reg, run_seq, at_code_n, ops_nil, ops_grd, grd_ff, ops_mv, ops_un, ops_ext, ops_call, ev_t, put_get, opv_mk, vun, vext, obsOk, List.map_cons, List.map_nil, List.getElem?_cons_zero, List.getElem?_cons_succ, true_and, Nat.reduceEqDiff, ↓reduceIte, Bool.not_true, eq_self]
        refine Cal.mk (host_v (by omega)) ?_
        rintro _ _ ⟨rfl, rfl⟩ -
        cases c5 : hostB (first + (i : Int))
        · have := bad13 (by simp [badAt, c5])
          simp (config := {maxSteps := 3000000}) only [run_reg, run_seq, run_ret, run_cond, if_true, at_code_n, at_code_r, at_blk_r, at_rnd_r, at_fin_r, ops_nil, ops_grd, grd_ff, ops_mv, ops_pick, ops_un, ev_t, ev_c, put_get, opv_mk, over_get, args0, vpick, vun, vload, takeV, takeB, V.cells, obsOk, List.map_cons, List.map_nil, and_true, true_and, Nat.reduceEqDiff, ↓reduceIte, vret, rvAll, rvVal, resv_2, Bool.not_false, eq_self, Bool.false_eq_true, List.contains_cons, List.contains_nil, Bool.or_false]
          exact ⟨_, _, Wk.refl _, hwf.weak, .inl ⟨by rw [this]; simp, by rw [this], rfl⟩⟩
        · simp (config := {maxSteps := 3000000}) only [run_skip, run_reg, run_cond, if_false, at_code_n, at_blk_n, at_rnd_n, ops_nil, ops_grd, grd_ff, ops_mv, ops_pick, ops_bin, ops_un, ev_t, ev_c, put_get, opv_mk, over_get, rel_mk, vpick, vbin, vbinI, vun, norm, obsOk, and_true, true_and, Nat.reduceEqDiff, Int.reduceNeg, ↓reduceIte, Bool.not_true, eq_self, Bool.false_eq_true, List.contains_cons, List.contains_nil, Nat.reduceBEq, Bool.or_false, Bool.or_true, h24]
          repeat (apply And.intro; focus (first | omega | (simp; done)))
          refine ⟨⟨i + 1, by omega, by simp, fun j hj => ?_⟩, by omega⟩
          by_cases e : j = i
          · subst e; simp [badAt, c4, c5]
          · exact hgood j (by omega)
      · rw [if_neg c4]
        have := bad13 (by simp [badAt, c4])
        simp (config := {maxSteps := 3000000}) only [run_reg, run_seq, run_ret, run_cond, if_true, at_code_n, at_code_r, at_blk_r, at_rnd_r, at_fin_r, ops_nil, ops_grd, grd_tf, ops_mv, ops_pick, ops_un, ops_ext, ev_t, ev_c, put_get, opv_mk, over_get, args0, vpick, vun, vext, vload, takeV, takeB, V.cells, obsOk, List.map_cons, List.map_nil, List.getElem?_cons_zero, List.getElem?_cons_succ, and_true, true_and, Nat.reduceEqDiff, ↓reduceIte, vret, rvAll, rvVal, resv_2, Bool.not_false, eq_self, List.contains_cons, List.contains_nil, Bool.or_false]
        exact ⟨_, _, Wk.refl _, hwf.weak, .inl ⟨by rw [this]; simp, by rw [this], rfl⟩⟩
    · have hin : (i : Int) = many := by omega
      have e2 : newE first many S = if 8 < S.length then 12 else statE [] S := by
        rw [e1, if_neg]
        rw [List.any_eq_true]
        rintro ⟨j, hj, hb⟩
        rw [List.mem_range] at hj
        rw [hgood j (by omega)] at hb
        cases hb
      by_cases c6 : 8 < S.length
      · rw [if_pos c6] at e2
        simp (config := {maxSteps := 3000000}) only [run_reg, run_seq, run_exit, run_ret, run_cond, if_true, if_false, at_code_n, at_code_x, at_code_r, at_blk_x, at_rnd_x, at_fin_r, ops_nil, ops_mv, ops_bin, ops_len, ev_t, ev_c, put_get, opv_mk, over_get, vnat, args0, List.getD_cons_zero, List.getD_cons_succ, vbin, vbinI, vlen, vload, takeV, takeB, V.cells, List.map_cons, List.map_nil, and_true, true_and, Nat.reduceEqDiff, Int.toNat_natCast, ↓reduceIte, vret, rvAll, rvVal, resv_2, eq_self, Bool.false_eq_true, List.contains_cons, List.contains_nil, Nat.reduceBEq, Bool.or_false, Bool.or_true, h24, decide_eq_false c3, sts_len, decide_eq_true (show (8 : Int) < (S.length : Int) by omega)]
        exact ⟨_, _, Wk.refl _, hwf.weak, .inl ⟨by rw [e2]; simp, by rw [e2], rfl⟩⟩
      rw [if_neg c6] at e2
      simp (config := {maxSteps := 3000000}) only [run_skip, run_reg, run_seq, run_blk, run_exit, run_cond, if_false, at_code_n, at_code_x, at_blk_x, at_rnd_x, ops_nil, ops_mv, ops_bin, ops_len, ops_bld, ops_box, ev_t, ev_c, put_get, opv_mk, over_get, vnat, Bx, vbld, put_sz, args0, List.getD_cons_zero, List.getD_cons_succ, vbin, vbinI, vlen, ops_mkm, fillV, splice, V.cells, ptrV, obsOk, List.map_cons, List.map_nil, List.length_cons, List.length_nil, List.take_succ_cons, List.take_zero, List.drop_succ_cons, List.drop_zero, List.cons_append, List.nil_append, List.append_nil, List.drop_nil, and_true, true_and, Nat.reduceEqDiff, Nat.reduceAdd, Nat.reduceLT, Nat.reduceLeDiff, Nat.reduceLT, Int.toNat_natCast, Nat.zero_add, ↓reduceIte, ne_eq, not_false_eq_true, eq_self, reduceCtorEq, Bool.false_eq_true, List.contains_cons, List.contains_nil, Nat.reduceBEq, Bool.or_false, Bool.or_true, h24, decide_eq_false c3, sts_len, decide_eq_false (show ¬ (8 : Int) < (S.length : Int) by omega)]
      intro kb hkb hb hhb b hbb nb hnb
      have hlt := hwf.lt
      have hwk := hwf.weak
      have q1 : kb < hb := by omega
      have q2 : hb < b := by omega
      have q3 : b < nb := by omega
      have q4 : s.sz ≤ hb := by omega
      have q5 : s.sz ≤ b := by omega
      have q6 : s.sz ≤ nb := by omega
      clear hhb hbb hnb
      have I0 : NewI s ((((s.put kb [.mp false [.int .u32] [] 0]).put hb [.mp false [.int .u32] [] 0]).put b [.sc (.int .u32 first), .sc (.int .i64 many), .sc (.map (some kb)), .sc (.map (some hb))]).put nb [.mp false [.str] [] 0]) b kb hb nb first many [] [] [] 0 0 :=
        ⟨⟨by rw [put_box_ne (by omega), put_box_same], ⟨by rw [put_box_ne (by omega), put_box_ne (by omega), put_box_ne (by omega), put_box_same], .nil⟩, ⟨by rw [put_box_ne (by omega), put_box_ne (by omega), put_box_same], .nil⟩, by omega, by omega, by omega⟩,
          put_box_same, .nil, weak_put (weak_put (weak_put (weak_put hwk hkb) q4) q5) q6, hlt.put.put.put.put, by omega, by omega, by omega, q5, hkb, q4, q6⟩
      refine run_loop [6, 7, 14, 15, 16, 53, 54, 55, 56, 57, 58, 59, 60, 61, 62, 63, 64, 65, 66, 67, 68, 69, 70, 71, 72, 73, 74, 75, 76, 77, 78, 79, 80, 81, 82, 83, 84, 85, 86, 87, 88, 89, 90, 91] (fun C s' => ∃ (i : Nat) (kes nes : List (V × V × Nat)) (kc nc : Nat), i ≤ S.length ∧ C 53 = .sc (.int .i64 i) ∧ NewI s s' b kb hb nb first many (swp (S.take i)) kes nes kc nc ∧ statE [] S = statE (swp (S.take i)) (S.drop i)) (fun C _ => S.length - vnat (C 53)) rfl ?_ ?_
      · simp (config := {maxSteps := 3000000}) only [put_get, ↓reduceIte, eq_self]
        exact ⟨0, [], [], 0, 0, by omega, rfl, I0, rfl⟩
      · rintro C s' ⟨i, kes, nes, kc, nc, hi, h53, I, hE⟩
        by_cases hlt' : i < S.length
        · obtain ⟨x, hx⟩ := get_ex hlt'
          have hdr : S.drop i = x :: S.drop (i + 1) := by
            rw [List.drop_eq_getElem_cons hlt']
            have := (List.getElem?_eq_some_iff.1 hx).2
            rw [this]
          have htk : swp (S.take (i + 1)) = swp (S.take i) ++ [(x.2, x.1)] := by
            rw [List.take_add_one, hx]
            simp [swp]
          rw [hdr] at hE
          simp only [statE] at hE
          have hx0 := hS x (List.mem_of_getElem? hx)
          simp (config := {maxSteps := 3000000}) only [run_skip, run_reg, run_seq, run_blk, run_cond, if_true, at_code_n, ops_nil, ops_bin, ops_fld, ops_ix, ops_load, ops_alc, ops_store, ops_call, ev_t, put_get, put_none, opv_mk, stb_some, sto_ptr, over_get, vnat, Stp, put_box_same, put_put, vbin, vbinI, vfld, vix, vload, takeV, takeB, mono_two, splice, V.cells, ptrV, obsOk, List.map_cons, List.map_nil, List.length_cons, List.length_nil, List.getElem?_cons_zero, List.getElem?_cons_succ, List.take_succ_cons, List.take_zero, List.drop_succ_cons, List.drop_zero, List.nil_append, List.append_nil, List.take_nil, List.drop_nil, and_true, true_and, Nat.reduceEqDiff, Nat.reduceAdd, Nat.reduceLT, Nat.reduceLeDiff, Nat.reduceLT, Int.toNat_natCast, Nat.zero_add, ↓reduceIte, eq_self, Bool.false_eq_true, List.contains_cons, List.contains_nil, Nat.reduceBEq, Bool.or_false, Bool.or_true, h53, sts_get hx, decide_eq_true (show (i : Int) < (S.length : Int) by omega)]
          repeat (apply And.intro; focus (first | omega | (simp; done)))
          intro v hv
          have I1 := I.var hv [.sc (.string x.1), .sc (.int .u32 x.2)]
          refine Cal.mk (host_v hx0) ?_
          rintro _ _ ⟨rfl, rfl⟩ -
          cases c7 : hostB x.2
          · rw [if_pos c7] at hE
            simp (config := {maxSteps := 3000000}) only [run_reg, run_seq, run_ret, run_cond, if_true, at_code_n, at_code_r, at_blk_r, at_rnd_r, at_fin_r, ops_nil, ops_mv, ops_un, ev_t, ev_c, put_get, opv_mk, over_get, args0, vun, vload, takeV, takeB, V.cells, obsOk, List.map_cons, List.map_nil, and_true, true_and, Nat.reduceEqDiff, ↓reduceIte, vret, rvAll, rvVal, resv_2, Bool.not_false, eq_self, List.contains_cons, List.contains_nil, Bool.or_false]
            exact ⟨_, _, Wk.refl _, I1.weak, .inl ⟨by rw [e2, hE]; simp, by rw [e2, hE], rfl⟩⟩
          rw [if_neg (by rw [c7]; simp)] at hE
          have nv1 : kb ≠ v := by have := I.lt.box kb _ I.pool.kept.box; omega
          have nv2 : b ≠ v := by have := I.lt.box b _ I.pool.box; omega
          have nv3 : nb ≠ v := by have := I.lt.box nb _ I.nbox; omega
          cases c8 : aget x.2 (swp (S.take i)) with
          | some y =>
            rw [if_pos (by rw [c8]; simp)] at hE
            simp (config := {maxSteps := 3000000}) only [run_skip, run_reg, run_seq, run_ret, run_cond, if_true, if_false, at_code_n, at_code_r, at_blk_r, at_rnd_r, at_fin_r, ops_nil, ops_grd, grd_tf, ops_mv, ops_pick, ops_un, ops_fld, ops_load, ops_nilck, ops_ext, ev_t, ev_c, put_get, opv_mk, over_get, put_box_same, args0, vpick, vun, vfld, vnil, vext, vload, takeV, takeB, vmlk, kOk, fitsV, ops_mlk, V.cells, obsOk, List.map_cons, List.map_nil, List.length_cons, List.length_nil, List.getElem?_cons_zero, List.getElem?_cons_succ, Option.map_some, and_true, true_and, Nat.reduceEqDiff, Nat.zero_add, ↓reduceIte, vret, rvAll, rvVal, resv_2, Bool.not_true, eq_self, Bool.false_eq_true, List.contains_cons, List.contains_nil, Nat.reduceBEq, Bool.or_false, put_box_ne nv1, put_box_ne nv2, I.pool.box, I.pool.kept.box, I.pool.kept.find, c8, Option.isSome_some, Option.getD_some, Option.map_some]
            exact ⟨_, _, Wk.refl _, I1.weak, .inl ⟨by rw [e2, hE]; simp, by rw [e2, hE], rfl⟩⟩
          | none =>
            cases c9 : hasN x.1 (swp (S.take i))
            · rw [if_neg (by rw [c8, c9]; simp)] at hE
              obtain ⟨ht, hex⟩ := Mp.two ku_eq I.pool.kept.mp x.2 x.1 ⟨#[]⟩
              have hz : (0 : Int) ≤ ((mborn (ku x.2) kc kes : Nat) : Int) := by omega
              have hA := I1.add (a := x.2) (n := x.1) c8 c9
              simp only [ku, vstr, vbool] at ht hex hz hA
              have nkn := I.nk
              have nnk := I.nk.symm
              have bkn := I.pool.bk
              simp (config := {maxSteps := 3000000}) only [run_skip, run_reg, run_seq, run_cond, if_false, at_code_n, at_blk_n, at_rnd_n, ops_nil, ops_grd, grd_ff, ops_mv, ops_pick, ops_bin, ops_un, ops_fld, ops_load, ops_nilck, ops_ext, ev_t, ev_c, put_get, put_none, opv_mk, over_get, rel_mk, Stp, put_box_same, put_put, vpick, vbin, vbinI, vun, norm, vfld, vnil, vext, vload, takeV, takeB, vmlk, kOk, fitsV, ops_mlk, ops_mup, mup_map, mub_some, ops_ment, met_map, meb_some, ops_est, est_map, esb_some, V.cells, obsOk, List.length_cons, List.length_nil, List.getElem?_cons_zero, List.getElem?_cons_succ, Option.map_none, and_true, true_and, Nat.reduceEqDiff, Int.toNat_natCast, Int.reduceNeg, Nat.zero_add, Nat.add_zero, ↓reduceIte, Bool.not_true, eq_self, Bool.false_eq_true, List.contains_cons, List.contains_nil, Nat.reduceBEq, Bool.or_false, Bool.or_true, put_box_ne nv1, put_box_ne nv2, put_box_ne nv3, put_box_ne nv1.symm, put_box_ne nnk, I.pool.box, I.pool.kept.box, I.nbox, I.pool.kept.find, I.nfind, c8, c9, Option.isSome_none, Option.getD_none, ht, hex, hz, h53]
              repeat (apply And.intro; focus (first | omega | (simp; done)))
              exact ⟨⟨i + 1, _, _, _, _, by omega, by simp, by rw [htk]; exact hA, by rw [htk]; exact hE⟩, by omega⟩
            · rw [if_pos (by rw [c9]; simp)] at hE
              simp (config := {maxSteps := 3000000}) only [run_skip, run_reg, run_seq, run_ret, run_cond, if_true, if_false, at_code_n, at_code_r, at_blk_r, at_rnd_r, at_fin_r, ops_nil, ops_grd, grd_ff, ops_mv, ops_pick, ops_un, ops_fld, ops_load, ops_nilck, ops_ext, ev_t, ev_c, put_get, opv_mk, over_get, put_box_same, args0, vpick, vun, vfld, vnil, vext, vload, takeV, takeB, vmlk, kOk, fitsV, ops_mlk, V.cells, obsOk, List.map_cons, List.map_nil, List.length_cons, List.length_nil, List.getElem?_cons_zero, List.getElem?_cons_succ, Option.map_none, and_true, true_and, Nat.reduceEqDiff, Nat.zero_add, Nat.add_zero, ↓reduceIte, vret, rvAll, rvVal, resv_2, Bool.not_true, eq_self, Bool.false_eq_true, List.contains_cons, List.contains_nil, Nat.reduceBEq, Bool.or_false, put_box_ne nv1, put_box_ne nv2, put_box_ne nv3, I.pool.box, I.pool.kept.box, I.nbox, I.pool.kept.find, I.nfind, c8, c9, Option.isSome_none, Option.getD_none]
              exact ⟨_, _, Wk.refl _, I1.weak, .inl ⟨by rw [e2, hE]; simp, by rw [e2, hE], rfl⟩⟩
        · obtain rfl : i = S.length := by omega
          rw [List.drop_length, List.take_length] at hE
          rw [List.take_length] at I
          simp (config := {maxSteps := 3000000}) only [run_reg, run_seq, run_exit, run_ret, run_cond, if_false, at_code_n, at_code_x, at_blk_x, at_rnd_x, at_fin_r, ops_nil, ops_mv, ops_bin, ev_t, ev_c, put_get, opv_mk, over_get, vnat, args0, vbin, vbinI, vload, takeV, takeB, V.cells, List.map_cons, List.map_nil, and_true, true_and, Nat.reduceEqDiff, Int.toNat_natCast, ↓reduceIte, vret, rvAll, rvVal, resv_2, decide_false, Int.lt_irrefl, eq_self, Bool.false_eq_true, List.contains_cons, List.contains_nil, Nat.reduceBEq, Bool.or_false, Bool.or_true, h53]
          exact ⟨_, _, Wk.refl _, I.lt.weak, .inr ⟨by rw [e2, hE]; rfl, b, kb, hb, kes, kc, rfl, I.pool, I.weak, I.lt, I.fb, I.fk, I.fh⟩⟩
end
end Go.Proofs.Ytlngegoamfklgaa
