/- A table of numbers under keys: the least free number, all keys: contracts. -/
import Derived.Test.YtlngegoamfklgaaVTbl2
namespace Go.Proofs.Ytlngegoamfklgaa
open Go

theorem fresh_ex {conn : Int} {T : List (Key × Int)} (hT : T.length ≤ 1000) : ∃ n : Nat, 1 ≤ n ∧ n ≤ 1001 ∧ aget (conn, (n : Int)) T = none := by
  rcases Classical.em (∃ n : Nat, 1 ≤ n ∧ n ≤ 1001 ∧ aget (conn, (n : Int)) T = none) with h | h
  · exact h
  · exfalso
    have hall : ∀ n : Nat, 1 ≤ n → n ≤ 1001 → (conn, (n : Int)) ∈ T.map (·.1) := fun n h1 h2 => by
      cases hg : aget (conn, (n : Int)) T with
      | none => exact absurd ⟨n, h1, h2, hg⟩ h
      | some x => exact List.mem_map.2 ⟨_, aget_mem hg, rfl⟩
    have hnd : ((List.range 1001).map fun m : Nat => (conn, ((m + 1 : Nat) : Int))).Nodup := by
      refine List.pairwise_map.2 ((List.nodup_range (n := 1001)).imp fun {x y} hxy e => hxy ?_)
      simp only [Prod.mk.injEq, true_and] at e
      omega
    have := hnd.length_le_of_subset (l₂ := T.map (·.1)) (fun k hk => by
      obtain ⟨m, hm, rfl⟩ := List.mem_map.1 hk
      have := List.mem_range.1 hm
      exact hall (m + 1) (by omega) (by omega))
    simp at this
    omega
section
variable {st : St} {b mb c : Nat} {most conn : Int} {T : List (Key × Int)} {es : List (V × V × Nat)}
/-- What Fresh answers. -/
def FreshQ (st : St) (most conn : Int) (T : List (Key × Int)) (v : V) (s : St) : Prop :=
  st = s ∧ ((most ≤ manyT conn T ∧ v = .tup [.sc (.int .u16 0), .sc (.bool false)]) ∨
    (¬ most ≤ manyT conn T ∧ ∃ n : Nat, 1 ≤ n ∧ n ≤ 1001 ∧ aget (conn, (n : Int)) T = none ∧ (∀ m : Nat, 1 ≤ m → m < n → aget (conn, (m : Int)) T ≠ none) ∧ v = .tup [.sc (.int .u16 n), .sc (.bool true)]))
set_option maxRecDepth 100000 in
set_option maxHeartbeats 4000000 in
theorem tblFresh_v (h : TblB st b mb most T es c) (hT : T.length ≤ 1000) : VCalls Try.prog 94 [ptrV b, .sc (.int .i64 conn)] st (FreshQ st most conn T) := by
  refine vcalls_enter vc94 (Nat.le_of_ble_eq_true rfl) fun hwf hok => ?_
  show Run _ Vc94.body (.fin (finQ Vc94.res _)) _ _
  unfold Vc94
  simp (config := {maxSteps := 3000000}) only [run_reg, run_seq, at_code_n, ops_nil, ops_mv, ops_fld, ops_load, ops_nilck, ops_call, ev_t, ev_c, put_get, opv_mk, args0, List.getD_cons_zero, List.getD_cons_succ, vfld, vnil, vload, takeV, takeB, V.cells, ptrV, List.map_cons, List.map_nil, List.length_cons, List.length_nil, List.getElem?_cons_zero, List.getElem?_cons_succ, true_and, Nat.reduceEqDiff, Nat.zero_add, ↓reduceIte, eq_self, reduceCtorEq, h.box]
  refine Cal.mk (tblMany_v h hT) ?_
  rintro _ _ ⟨rfl, rfl⟩ -
  by_cases cm : most ≤ (manyT conn T : Int)
  · simp (config := {maxSteps := 3000000}) only [run_reg, run_seq, run_ret, run_cond, if_true, at_code_n, at_code_r, at_fin_r, ops_nil, ops_mv, ops_bin, ev_t, ev_c, put_get, opv_mk, args0, vbin, vbinI, vload, takeV, takeB, V.cells, obsOk, List.map_cons, List.map_nil, List.length_cons, List.length_nil, List.getElem?_cons_zero, List.getElem?_cons_succ, and_true, true_and, Nat.reduceEqDiff, Nat.zero_add, ↓reduceIte, vret, rvAll, rvVal, resv_2, eq_self, h.box, decide_eq_true cm]
    exact ⟨_, _, Wk.refl _, hwf.weak, rfl, .inl ⟨cm, rfl⟩⟩
  obtain ⟨m, hm1, hm2, hm3⟩ := fresh_ex (conn := conn) hT
  simp (config := {maxSteps := 3000000}) only [run_skip, run_reg, run_seq, run_blk, run_cond, if_false, at_code_n, ops_nil, ops_mv, ops_bin, ev_t, ev_c, put_get, opv_mk, vbin, vbinI, vload, takeV, takeB, V.cells, obsOk, List.length_cons, List.length_nil, List.getElem?_cons_zero, List.getElem?_cons_succ, and_true, true_and, Nat.reduceEqDiff, Nat.zero_add, ↓reduceIte, eq_self, h.box, decide_eq_false cm]
  refine run_loop [4, 5, 6, 7, 8, 17, 18, 19, 20, 21, 22, 23, 24, 25, 26, 27, 28, 29, 30, 31, 32, 33, 34] (fun B s => ∃ n : Nat, 1 ≤ n ∧ n ≤ m ∧ B 6 = .sc (.int .u16 n) ∧ (∀ k : Nat, 1 ≤ k → k < n → aget (conn, (k : Int)) T ≠ none) ∧ s = st) (fun B _ => m - vnat (B 6)) rfl ?_ ?_
  · simp (config := {maxSteps := 3000000}) only [put_get, and_true, ↓reduceIte, ne_eq, eq_self]
    exact ⟨1, by omega, hm1, rfl, fun k h1 h2 => by omega⟩
  · rintro B s ⟨n, hn1, hn2, h6, hb, rfl⟩
    have hf : mfind (.agg [.sc (.int .i64 conn), .sc (.int .u16 (n : Int))]) es = (aget (conn, (n : Int)) T).map ival := h.find (conn, (n : Int))
    cases hg : aget (conn, (n : Int)) T with
    | none =>
      simp (config := {maxSteps := 3000000}) only [run_skip, run_reg, run_seq, run_blk, run_ret, run_cond, if_true, at_code_n, at_code_r, at_blk_r, at_rnd_r, at_fin_r, ops_nil, ops_mv, ops_bin, ops_un, ops_fld, ops_load, ops_nilck, ops_ext, ops_bld, ev_t, ev_c, put_get, opv_mk, over_get, vnat, vbld, args0, List.getD_cons_zero, List.getD_cons_succ, vbin, vbinI, vun, vfld, vnil, vext, vload, takeV, takeB, vmlk, kOk, fitsV, ops_mlk, fillV, splice, V.cells, List.map_cons, List.map_nil, List.length_cons, List.length_nil, List.getElem?_cons_zero, List.getElem?_cons_succ, List.take_succ_cons, List.take_zero, List.drop_succ_cons, List.drop_zero, List.cons_append, List.nil_append, List.append_nil, List.drop_nil, Option.map_none, and_true, true_and, Nat.reduceEqDiff, Nat.reduceAdd, Nat.reduceLT, Nat.reduceLeDiff, Nat.reduceLT, Int.toNat_natCast, Nat.zero_add, Nat.add_zero, ↓reduceIte, vret, rvAll, rvVal, resv_2, Bool.not_false, ne_eq, eq_self, reduceCtorEq, Bool.false_eq_true, List.contains_cons, List.contains_nil, Nat.reduceBEq, Bool.or_false, Bool.or_true, h6, h.box, h.mbox, hf, hg, decide_eq_true (show (n : Int) < 32768 by omega), Option.isSome_none, Option.getD_none, Option.map_none]
      exact ⟨_, _, Wk.refl _, hwf.weak, rfl, .inr ⟨cm, n, hn1, by omega, hg, hb, rfl⟩⟩
    | some x =>
      have hnm : n ≠ m := fun e => by subst e; rw [hg] at hm3; cases hm3
      have e1 : ((n : Int) + 1) % 65536 = ((n + 1 : Nat) : Int) := by omega
      simp (config := {maxSteps := 3000000}) only [run_skip, run_reg, run_seq, run_blk, run_cond, if_true, if_false, at_code_n, at_blk_n, at_rnd_n, ops_nil, ops_mv, ops_bin, ops_un, ops_fld, ops_load, ops_nilck, ops_ext, ops_bld, ev_t, ev_c, put_get, opv_mk, over_get, rel_mk, vnat, vbld, args0, List.getD_cons_zero, List.getD_cons_succ, vbin, vbinI, vun, norm, vfld, vnil, vext, vload, takeV, takeB, vmlk, kOk, fitsV, ops_mlk, fillV, splice, V.cells, List.map_cons, List.map_nil, List.length_cons, List.length_nil, List.getElem?_cons_zero, List.getElem?_cons_succ, List.take_succ_cons, List.take_zero, List.drop_succ_cons, List.drop_zero, List.cons_append, List.nil_append, List.append_nil, List.drop_nil, Option.map_some, and_true, true_and, Nat.reduceEqDiff, Nat.reduceAdd, Nat.reduceLT, Nat.reduceLeDiff, Nat.reduceLT, Int.toNat_natCast, Nat.zero_add, Nat.add_zero, ↓reduceIte, Bool.not_true, ne_eq, eq_self, reduceCtorEq, Bool.false_eq_true, List.contains_cons, List.contains_nil, Nat.reduceBEq, Bool.or_false, Bool.or_true, h6, h.box, h.mbox, hf, hg, e1, decide_eq_true (show (n : Int) < 32768 by omega), Option.isSome_some, Option.getD_some, Option.map_some, ival]
      repeat (apply And.intro; focus (first | omega | (simp; done)))
      refine ⟨⟨n + 1, by omega, by omega, rfl, fun k h1 h2 => ?_⟩, by omega⟩
      by_cases e : k = n
      · subst e; rw [hg]; simp
      · exact hb k h1 (by omega)
set_option maxRecDepth 100000 in
set_option maxHeartbeats 4000000 in
theorem tblKeys_v (h : TblB st b mb most T es c) (hS : T.length ≤ 1000) : VCalls Try.prog 54 [ptrV b] st fun r s =>
    ∃ (ob : Nat) (M : List Key) (sp : List V), M.Perm (T.map (·.1)) ∧ M.Pairwise (fun x y => ltK y x = false) ∧ r = dataV ob M.length T.length ∧ RBC kval st s ob T.length M sp := by
  refine vcalls_enter vc54 (Nat.le_of_ble_eq_true rfl) fun hwf hok => ?_
  show Run _ Vc54.body (.fin (finQ Vc54.res _)) _ _
  unfold Vc54
  have hlt := hwf.lt
  have hms := hlt.box mb _ h.mbox
  have hbs := hlt.box b _ h.box
  simp (config := {maxSteps := 3000000}) only [run_reg, run_seq, at_code_n, ops_nil, ops_mv, ops_mko, mko_int, ops_fld, ops_load, ops_nilck, ev_t, ev_c, put_get, opv_mk, args0, List.getD_cons_zero, vfld, vnil, vload, takeV, takeB, vmlen, ops_mlen, V.cells, ptrV, List.length_cons, List.length_nil, List.getElem?_cons_zero, true_and, Int.toNat_natCast, Nat.zero_add, Nat.add_zero, ↓reduceIte, eq_self, reduceCtorEq, h.box, h.mbox, h.mp.len]
  repeat (apply And.intro; focus (first | omega | (simp; done)))
  refine Mkr.box ?_
  intro ob hob
  have nob : mb ≠ ob := by omega
  have bob : b ≠ ob := by omega
  simp (config := {maxSteps := 3000000}) only [run_reg, run_seq, run_blk, at_code_n, ops_nil, ops_mv, ops_fld, ops_load, ops_nilck, ev_t, put_get, opv_mk, put_sz, args0, List.getD_cons_zero, vfld, vnil, vload, takeV, takeB, ops_rng, rng_map, rgb_some, V.cells, ptrV, obsOk, List.length_cons, List.length_nil, List.getElem?_cons_zero, true_and, Nat.zero_add, Nat.add_zero, ↓reduceIte, eq_self, reduceCtorEq, put_box_ne nob, put_box_ne bob, h.box, h.mbox]
  intro r hr
  have nr : mb ≠ r := by omega
  have br : b ≠ r := by omega
  have obr : ob ≠ r := by omega
  have fr : st.sz ≤ r := by omega
  clear hr
  have hz : (List.replicate T.length [V.sc (Value.int .i64 0), V.sc (Value.int .u16 0)]).flatten = rowc kval [] ((List.replicate T.length [V.sc (Value.int .i64 0), V.sc (Value.int .u16 0)]).flatten) := rfl
  have hzl : ((List.replicate T.length [V.sc (Value.int .i64 0), V.sc (Value.int .u16 0)]).flatten).length = T.length * 2 := by simp
  have hzm : mono (rowc kval ([] : List Key) ((List.replicate T.length [V.sc (Value.int .i64 0), V.sc (Value.int .u16 0)]).flatten)) := by
    clear hz hzl
    cases T with
    | nil => exact mono_nil ▸ trivial
    | cons x l =>
      have : rowc kval ([] : List Key) ((List.replicate (x :: l).length [V.sc (Value.int .i64 0), V.sc (Value.int .u16 0)]).flatten) = V.sc (Value.int .i64 0) :: V.sc (Value.int .u16 0) :: (List.replicate l.length [V.sc (Value.int .i64 0), V.sc (Value.int .u16 0)]).flatten := by simp [rowc, List.replicate_succ]
      rw [this]; exact mono_two ▸ trivial
  have R0 : RBC kval st (st.put ob ((List.replicate T.length [V.sc (Value.int .i64 0), V.sc (Value.int .u16 0)]).flatten)) ob T.length [] ((List.replicate T.length [V.sc (Value.int .i64 0), V.sc (Value.int .u16 0)]).flatten) :=
    ⟨by rw [put_box_same]; exact congrArg some hz, by simp, hzm, by unfold maxLen; omega, weak_put hwf.weak hob, hlt.put, hob⟩
  generalize (List.replicate T.length [V.sc (Value.int .i64 0), V.sc (Value.int .u16 0)]).flatten = z at R0 ⊢
  generalize st.put ob z = s0 at R0 ⊢
  refine run_loop [3, 4, 16, 17, 18, 19, 20, 21, 22, 23] (fun B s => ∃ (seen ix : List Nat) (last : Nat) (M : List Key) (sp : List V), B 3 = dataV ob M.length T.length ∧ RBC kval st s ob T.length M sp ∧ s.box r = some [.it (some mb) c seen last] ∧ c ≤ last ∧ Going es seen ix ∧ M = ix.map (fun i => (((T.map (·.1))[i]?).getD (0, 0))))
    (fun B s => match s.box r with | some [.it _ _ seen _] => es.length - seen.length | _ => 0) rfl ?_ ?_
  · exact ⟨[], [], c, [], z, rfl, R0.put obr fr, put_box_same, Nat.le_refl _, .nil, rfl⟩
  · rintro B s ⟨seen, ix, last, M, sp, h3, R, hit, hl, hg, hM⟩
    simp (config := {maxSteps := 3000000}) only [run_reg, run_seq, ev_t, put_get, over_get, ops_nxt, ↓reduceIte, eq_self, Bool.false_eq_true, List.contains_cons, List.contains_nil, Nat.reduceBEq, Bool.or_false]
    have hbox : s.box mb = some [.mp true [.int .i64, .int .u16] es c] := (R.weak.box mb _ h.mbox).1
    have hMl : M.length = seen.length := by rw [hM, hg.seenLen]; simp
    refine Nxt.mk (m := mb) hit hbox h.mp.lt hl ?_ ?_
    · intro hall
      have hp := hg.perm h.mp hall
      have hMp : M.Perm (T.map (·.1)) := by
        rw [hM]
        refine (hp.map _).trans ?_
        rw [show T.length = (T.map (·.1)).length by simp]
        generalize T.map (·.1) = U
        refine List.Perm.of_eq (List.ext_getElem (by simp) fun i h1 h2 => ?_)
        simp at h1
        simp [h1]
      simp (config := {maxSteps := 3000000}) only [run_reg, run_seq, run_exit, run_cond, if_false, at_code_n, at_code_x, at_blk_x, at_rnd_x, ops_nil, ops_mv, ops_ext, ops_call, ev_t, ev_c, put_get, opv_mk, over_get, vext, obsOk, List.map_cons, List.map_nil, List.getElem?_cons_zero, true_and, Nat.reduceEqDiff, ↓reduceIte, eq_self, List.contains_cons, List.contains_nil, Nat.reduceBEq, Bool.or_false, h3]
      have cc := sortK_v (st := s) (b := ob) (cap := T.length) (L := M) (sp := sp) eltK R.mono (by have := R.len; omega)
      rw [R.self] at cc
      refine Cal.mk cc ?_
      rintro _ _ ⟨N, n1, n2, rfl⟩ -
      have hlen := n1.length_eq
      simp (config := {maxSteps := 3000000}) only [run_reg, run_seq, run_ret, at_code_n, at_fin_r, ops_nil, ops_mv, ev_t, put_get, opv_mk, over_get, obsOk, and_true, true_and, Nat.reduceEqDiff, ↓reduceIte, vret, rvAll, rvVal, resv_1, eq_self, List.contains_cons, List.contains_nil, Nat.reduceBEq, Bool.or_false, h3]
      exact ⟨_, _, Wk.refl _, (R.mix hlen).lt.weak, ob, N, sp, n1.trans hMp, n2, by rw [hlen], R.mix hlen⟩
    · intro e he hns
      obtain ⟨i, p, hni, hei, hp, hek, hev, hg'⟩ := hg.step h.mp he hns
      have hent := h.mp.ent he (seen := seen)
      have hMlt : M.length < T.length := by
        have := hg'.len
        rw [List.length_append] at this
        have h2 := h.mp.len
        rw [hMl, hg.seenLen]
        simp at this; omega
      have hname : e.1 = .agg [.sc (.int .i64 p.1.1), .sc (.int .u16 p.1.2)] := hek
      have nro : r ≠ ob := obr.symm
      simp (config := {maxSteps := 3000000}) only [run_skip, run_reg, run_seq, run_blk, run_cond, if_true, at_code_n, ops_nil, ops_mv, ops_load, ops_ext, ops_bsl, ops_alc, ops_store, ops_app, ev_t, put_get, put_none, opv_mk, stb_some, sto_ptr, over_get, Stp, vbsl, put_box_same, put_sz, put_put, vext, vload, takeV, takeB, mono_two, vent, ops_ent, splice, V.cells, strip, strip1, allLen, ptrV, obsOk, List.map_cons, List.map_nil, List.length_cons, List.length_nil, List.getElem?_cons_zero, List.take_succ_cons, List.take_zero, List.drop_succ_cons, List.drop_zero, List.nil_append, List.append_nil, List.take_nil, List.drop_nil, and_true, true_and, Nat.reduceEqDiff, Nat.reduceAdd, Nat.reduceLT, Nat.reduceLeDiff, Nat.reduceLT, Nat.zero_add, ↓reduceIte, eq_self, Bool.false_eq_true, List.contains_cons, List.contains_nil, Nat.reduceBEq, Bool.or_false, h3, hbox, hent, hname, put_box_ne nr]
      intro v hv
      have rs := R.lt.box r _ hit
      have os := R.lt.box ob _ R.box
      have rv : r ≠ v := by omega
      have ov : ob ≠ v := by omega
      have vo : v ≠ ob := ov.symm
      have sv : st.sz ≤ v := by have := R.weak.sz; omega
      have R' := (R.put (cs := [.it (some mb) c (seen ++ [e.2.2]) c]) obr fr).put (cs := [.sc (.int .i64 p.1.1), .sc (.int .u16 p.1.2)]) ov sv
      refine App.pushC (bytes := 16) (val := kval) (x := p.1) R'.box R'.len R'.mono R'.max (by unfold maxLen; omega) (by omega) ?_
      intro b' cap' sp' k1 k2 k3 k4 k5
      obtain ⟨rfl, rfl⟩ := k2 hMlt
      have R2 := R'.push (.inl rfl) k3 k4 k5
      simp (config := {maxSteps := 3000000}) only [at_blk_n, at_rnd_n, ops_nil, ops_mv, ev_t, put_get, opv_mk, rel_mk, obsOk, true_and, ↓reduceIte, eq_self]
      repeat (apply And.intro; focus (first | omega | (simp; done)))
      refine ⟨⟨seen ++ [e.2.2], ix ++ [i], c, M ++ [p.1], sp', rfl, R2, by rw [put_box_ne nro, put_box_ne rv, put_box_same], Nat.le_refl _, hg', ?_⟩, ?_⟩
      · rw [hM, List.map_append]
        simp [hp]
      · rw [put_box_ne nro, put_box_ne rv, put_box_same, hit]
        have := hg'.len
        have h2 := hg'.seenLen
        simp only [List.length_append, List.length_cons, List.length_nil] at *
        omega
end
end Go.Proofs.Ytlngegoamfklgaa
