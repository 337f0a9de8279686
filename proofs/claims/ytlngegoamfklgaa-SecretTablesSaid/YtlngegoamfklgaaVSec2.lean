/- Secrets: Find, Len, Names; rows of strings: contracts. -/
import Derived.Test.YtlngegoamfklgaaVSec1
import Derived.Test.YtlngegoamfklgaaVSortS
namespace Go.Proofs.Ytlngegoamfklgaa
open Go

section
variable {st : St} {S : List Sec} {tk : Tk}
def getS (n : ByteArray) (S : List Sec) : ByteArray := (aget n S).getD ⟨#[]⟩
set_option maxRecDepth 100000 in
theorem secFind_v {mb c : Nat} {es : List (V × V × Nat)} (h : TabS st mb S es c) {n : ByteArray} : VCalls Try.prog 20 [.agg [.sc (.map (some mb))], .sc (.string n)] st fun r s => r = .tup [.sc (.string (getS n S)), .sc (.bool (aget n S).isSome)] ∧ st = s := by
  refine vcalls_enter vc20 (Nat.le_of_ble_eq_true rfl) fun hwf hok => ?_
  show Run _ Vc20.body (.fin (finQ Vc20.res _)) _ _
  unfold Vc20
  simp (config := {maxSteps := 3000000}) only [run_reg, run_seq, at_code_n, ops_nil, ops_mv, ops_fld, ops_load, ops_box, ev_t, ev_c, put_get, opv_mk, Bx, put_box_same, args0, List.getD_cons_zero, List.getD_cons_succ, vfld, vload, takeV, takeB, vmlk, kOk, fitsV, ops_mlk, V.cells, ptrV, obsOk, List.length_cons, List.length_nil, List.getElem?_cons_zero, and_true, true_and, Nat.reduceEqDiff, Nat.zero_add, Nat.add_zero, ↓reduceIte, ne_eq, not_false_eq_true, eq_self, reduceCtorEq]
  intro b hb
  have nb : mb ≠ b := by have := hwf.lt.box mb _ h.box; omega
  cases hg : aget n S with
  | none =>
    simp (config := {maxSteps := 3000000}) only [run_reg, run_seq, run_ret, at_code_n, at_fin_r, ops_nil, ops_mv, ops_ext, ev_t, put_get, opv_mk, args0, vext, vload, takeV, takeB, V.cells, List.map_cons, List.map_nil, List.getElem?_cons_zero, List.getElem?_cons_succ, Option.map_none, and_true, true_and, Nat.reduceEqDiff, ↓reduceIte, vret, rvAll, rvVal, resv_2, eq_self, put_box_ne nb, h.box, h.find, hg, Option.isSome_none, Option.getD_none, Option.map_none]
    exact ⟨_, _, Wk.refl _, weak_put hwf.weak hb, by simp [getS, hg], rfl⟩
  | some k =>
    simp (config := {maxSteps := 3000000}) only [run_reg, run_seq, run_ret, at_code_n, at_fin_r, ops_nil, ops_mv, ops_ext, ev_t, put_get, opv_mk, args0, vext, vload, takeV, takeB, V.cells, List.map_cons, List.map_nil, List.getElem?_cons_zero, List.getElem?_cons_succ, Option.map_some, and_true, true_and, Nat.reduceEqDiff, ↓reduceIte, vret, rvAll, rvVal, resv_2, eq_self, put_box_ne nb, h.box, h.find, hg, Option.isSome_some, Option.getD_some, Option.map_some, vstr]
    exact ⟨_, _, Wk.refl _, weak_put hwf.weak hb, by simp [getS, hg], rfl⟩
set_option maxRecDepth 100000 in
theorem secFind0_v {n : ByteArray} : VCalls Try.prog 20 [.agg [.sc (.map none)], .sc (.string n)] st fun r s => r = .tup [.sc (.string ⟨#[]⟩), .sc (.bool false)] ∧ st = s := by
  refine vcalls_enter vc20 (Nat.le_of_ble_eq_true rfl) fun hwf hok => ?_
  show Run _ Vc20.body (.fin (finQ Vc20.res _)) _ _
  unfold Vc20
  simp (config := {maxSteps := 3000000}) only [run_reg, run_seq, run_ret, at_code_n, at_fin_r, ops_nil, ops_mv, ops_fld, ops_load, ops_ext, ops_box, ev_t, ev_c, put_get, opv_mk, Bx, put_box_same, args0, List.getD_cons_zero, List.getD_cons_succ, vfld, vext, vload, takeV, takeB, vmlk, kOk, fitsV, ops_mlk, V.cells, ptrV, obsOk, List.map_cons, List.map_nil, List.length_cons, List.length_nil, List.getElem?_cons_zero, List.getElem?_cons_succ, and_true, true_and, Nat.reduceEqDiff, Nat.zero_add, Nat.add_zero, ↓reduceIte, vret, rvAll, rvVal, resv_2, ne_eq, not_false_eq_true, eq_self, reduceCtorEq]
  intro b hb
  exact ⟨_, _, Wk.refl _, weak_put hwf.weak hb, rfl, rfl⟩
set_option maxRecDepth 100000 in
theorem secLen_v {mb c : Nat} {es : List (V × V × Nat)} (h : TabS st mb S es c) : VCalls Try.prog 22 [.agg [.sc (.map (some mb))]] st fun r s => r = .sc (.int .i64 S.length) ∧ st = s := by
  refine vcalls_enter vc22 (Nat.le_of_ble_eq_true rfl) fun hwf hok => ?_
  show Run _ Vc22.body (.fin (finQ Vc22.res _)) _ _
  unfold Vc22
  simp (config := {maxSteps := 3000000}) only [run_reg, run_seq, at_code_n, ops_nil, ops_mv, ops_fld, ops_load, ops_box, ev_t, ev_c, put_get, opv_mk, Bx, put_box_same, args0, List.getD_cons_zero, vfld, vload, takeV, takeB, vmlen, ops_mlen, V.cells, ptrV, obsOk, List.length_cons, List.length_nil, List.getElem?_cons_zero, true_and, Nat.reduceEqDiff, Nat.zero_add, Nat.add_zero, ↓reduceIte, ne_eq, not_false_eq_true, eq_self, reduceCtorEq]
  intro b hb
  have nb : mb ≠ b := by have := hwf.lt.box mb _ h.box; omega
  simp (config := {maxSteps := 3000000}) only [run_ret, at_code_n, at_fin_r, ops_nil, ops_mv, ev_t, put_get, opv_mk, and_true, true_and, ↓reduceIte, vret, rvAll, rvVal, resv_1, eq_self, put_box_ne nb, h.box, h.mp.len]
  exact ⟨_, _, Wk.refl _, weak_put hwf.weak hb, rfl, rfl⟩
set_option maxRecDepth 100000 in
theorem secLen0_v : VCalls Try.prog 22 [.agg [.sc (.map none)]] st fun r s => r = .sc (.int .i64 0) ∧ st = s := by
  refine vcalls_enter vc22 (Nat.le_of_ble_eq_true rfl) fun hwf hok => ?_
  show Run _ Vc22.body (.fin (finQ Vc22.res _)) _ _
  unfold Vc22
  simp (config := {maxSteps := 3000000}) only [run_reg, run_seq, run_ret, at_code_n, at_fin_r, ops_nil, ops_mv, ops_fld, ops_load, ops_box, ev_t, ev_c, put_get, opv_mk, Bx, put_box_same, args0, List.getD_cons_zero, vfld, vload, takeV, takeB, vmlen, ops_mlen, V.cells, ptrV, obsOk, List.length_cons, List.length_nil, List.getElem?_cons_zero, and_true, true_and, Nat.reduceEqDiff, Nat.zero_add, Nat.add_zero, ↓reduceIte, vret, rvAll, rvVal, resv_1, ne_eq, not_false_eq_true, eq_self, reduceCtorEq]
  intro b hb
  exact ⟨_, _, Wk.refl _, weak_put hwf.weak hb, rfl, rfl⟩
abbrev sval : ByteArray → Value := fun x => .string x
/-- The names sorted. -/
theorem sort_uniq {L M N : List ByteArray} (h1 : M.Perm L) (h2 : N.Perm L) (k1 : M.Pairwise (fun x y => ltS y x = false)) (k2 : N.Pairwise (fun x y => ltS y x = false)) : M = N := srt_eq ltS_ord ltS_tight (h1.trans h2.symm) k1 k2
set_option maxRecDepth 100000 in
set_option maxHeartbeats 4000000 in
theorem secNames_v {mb c : Nat} {es : List (V × V × Nat)} (h : TabS st mb S es c) (hS : S.length ≤ 1000) : VCalls Try.prog 27 [.agg [.sc (.map (some mb))]] st fun r s =>
    ∃ (b : Nat) (M : List ByteArray) (sp : List V), M.Perm (S.map (·.1)) ∧ M.Pairwise (fun x y => ltS y x = false) ∧ r = dataV b M.length S.length ∧ RB sval st s b S.length M sp := by
  refine vcalls_enter vc27 (Nat.le_of_ble_eq_true rfl) fun hwf hok => ?_
  show Run _ Vc27.body (.fin (finQ Vc27.res _)) _ _
  unfold Vc27
  simp (config := {maxSteps := 3000000}) only [run_reg, run_seq, at_code_n, ops_nil, ops_mv, ops_fld, ops_load, ops_box, ev_t, ev_c, put_get, opv_mk, Bx, put_box_same, args0, List.getD_cons_zero, vfld, vload, takeV, takeB, vmlen, ops_mlen, V.cells, ptrV, obsOk, List.length_cons, List.length_nil, List.getElem?_cons_zero, true_and, Nat.reduceEqDiff, Nat.zero_add, Nat.add_zero, ↓reduceIte, ne_eq, not_false_eq_true, eq_self, reduceCtorEq]
  intro v hv
  have hlt := hwf.lt
  have hms := hlt.box mb _ h.box
  have nv : mb ≠ v := by omega
  simp (config := {maxSteps := 3000000}) only [ops_mko, mko_int, ev_t, put_get, opv_mk, true_and, Int.toNat_natCast, ↓reduceIte, eq_self, put_box_ne nv, h.box, h.mp.len]
  repeat (apply And.intro; focus (first | omega | (simp; done)))
  refine Mkr.box ?_
  intro ob hob
  simp only [put_sz] at hob
  have nob : mb ≠ ob := by omega
  have voob : v ≠ ob := by omega
  simp (config := {maxSteps := 3000000}) only [run_reg, run_seq, run_blk, at_code_n, ops_nil, ops_mv, ops_fld, ops_load, ev_t, put_get, opv_mk, put_box_same, put_sz, vfld, vload, takeV, takeB, ops_rng, rng_map, rgb_some, V.cells, ptrV, obsOk, List.length_cons, List.length_nil, List.getElem?_cons_zero, true_and, Nat.reduceEqDiff, Nat.zero_add, Nat.add_zero, ↓reduceIte, eq_self, put_box_ne nv, put_box_ne nob, put_box_ne voob, h.box]
  intro r hr
  have nr : mb ≠ r := by omega
  have obr : ob ≠ r := by omega
  have fo : st.sz ≤ ob := by omega
  have fr : st.sz ≤ r := by omega
  clear hob hr
  have hz : (List.replicate S.length [V.sc (Value.string ⟨#[]⟩)]).flatten = row sval [] ((List.replicate S.length [V.sc (Value.string ⟨#[]⟩)]).flatten) := rfl
  have hzl : ((List.replicate S.length [V.sc (Value.string ⟨#[]⟩)]).flatten).length = S.length := by simp
  have hzm : mono (row sval ([] : List ByteArray) ((List.replicate S.length [V.sc (Value.string ⟨#[]⟩)]).flatten)) := by
    cases S with
    | nil => exact mono_nil ▸ trivial
    | cons x l =>
      have : row sval ([] : List ByteArray) ((List.replicate (x :: l).length [V.sc (Value.string ⟨#[]⟩)]).flatten) = V.sc (Value.string ⟨#[]⟩) :: (List.replicate l.length [V.sc (Value.string ⟨#[]⟩)]).flatten := by simp [row, List.replicate_succ]
      rw [this, mono_sc]; trivial
  have R0 : RB sval st ((st.put v [.sc (.map (some mb))]).put ob ((List.replicate S.length [V.sc (Value.string ⟨#[]⟩)]).flatten)) ob S.length [] ((List.replicate S.length [V.sc (Value.string ⟨#[]⟩)]).flatten) :=
    ⟨by rw [put_box_same]; exact congrArg some hz, by simp, hzm, by unfold maxLen; omega, weak_put (weak_put hwf.weak hv) fo, hlt.put.put, fo⟩
  generalize (List.replicate S.length [V.sc (Value.string ⟨#[]⟩)]).flatten = z at R0 ⊢
  generalize (st.put v [.sc (.map (some mb))]).put ob z = s0 at R0 ⊢
  refine run_loop [3, 4, 12, 13, 14, 15, 16, 17, 18, 19] (fun B s => ∃ (seen ix : List Nat) (last : Nat) (M : List ByteArray) (sp : List V), B 3 = dataV ob M.length S.length ∧ RB sval st s ob S.length M sp ∧ s.box r = some [.it (some mb) c seen last] ∧ c ≤ last ∧ Going es seen ix ∧ M = ix.map (fun i => (((S.map (·.1))[i]?).getD ⟨#[]⟩)))
    (fun B s => match s.box r with | some [.it _ _ seen _] => es.length - seen.length | _ => 0) rfl ?_ ?_
  · exact ⟨[], [], c, [], z, rfl, R0.put obr fr, put_box_same, Nat.le_refl _, .nil, rfl⟩
  · rintro B s ⟨seen, ix, last, M, sp, h3, R, hit, hl, hg, hM⟩
    simp (config := {maxSteps := 3000000}) only [run_reg, run_seq, ev_t, put_get, over_get, ops_nxt, ↓reduceIte, eq_self, Bool.false_eq_true, List.contains_cons, List.contains_nil, Nat.reduceBEq, Bool.or_false]
    have hbox : s.box mb = some [.mp false [.str] es c] := (R.weak.box mb _ h.box).1
    have hMl : M.length = seen.length := by rw [hM, hg.seenLen]; simp
    refine Nxt.mk (m := mb) hit hbox h.mp.lt hl ?_ ?_
    · intro hall
      have hp := hg.perm h.mp hall
      have hMp : M.Perm (S.map (·.1)) := by
        rw [hM]
        refine (hp.map _).trans ?_
        rw [show S.length = (S.map (·.1)).length by simp]
        generalize S.map (·.1) = T
        refine List.Perm.of_eq (List.ext_getElem (by simp) fun i h1 h2 => ?_)
        simp at h1
        simp [h1]
      simp (config := {maxSteps := 3000000}) only [run_reg, run_seq, run_exit, run_cond, if_false, at_code_n, at_code_x, at_blk_x, at_rnd_x, ops_nil, ops_mv, ops_ext, ops_call, ev_t, put_get, opv_mk, over_get, vext, obsOk, List.map_cons, List.map_nil, List.getElem?_cons_zero, true_and, Nat.reduceEqDiff, ↓reduceIte, eq_self, List.contains_cons, List.contains_nil, Nat.reduceBEq, Bool.or_false, h3]
      have cc := sortS_v (st := s) (b := ob) (cap := S.length) (L := M) (sp := sp) R.mono (by have := R.len; omega)
      rw [R.self] at cc
      refine Cal.mk cc ?_
      rintro _ _ ⟨N, n1, n2, rfl⟩ -
      have hlen := n1.length_eq
      simp (config := {maxSteps := 3000000}) only [run_reg, run_seq, run_ret, at_code_n, at_fin_r, ops_nil, ops_mv, ev_t, put_get, opv_mk, over_get, obsOk, and_true, true_and, Nat.reduceEqDiff, ↓reduceIte, vret, rvAll, rvVal, resv_1, eq_self, List.contains_cons, List.contains_nil, Nat.reduceBEq, Bool.or_false, h3]
      exact ⟨_, _, Wk.refl _, (R.mix hlen).lt.weak, ob, N, sp, n1.trans hMp, n2, by rw [hlen], R.mix hlen⟩
    · intro e he hns
      obtain ⟨i, p, hni, hei, hp, hek, hev, hg'⟩ := hg.step h.mp he hns
      have hent := h.mp.ent he (seen := seen)
      have hMlt : M.length < S.length := by
        have := hg'.len
        rw [List.length_append] at this
        have h2 := h.mp.len
        rw [hMl, hg.seenLen]
        simp at this; omega
      have hname : e.1 = .sc (.string p.1) := hek
      have nro : r ≠ ob := obr.symm
      simp (config := {maxSteps := 3000000}) only [run_skip, run_reg, run_seq, run_blk, run_cond, if_true, at_code_n, ops_nil, ops_mv, ops_ext, ops_bsl, ops_app, ev_t, put_get, opv_mk, over_get, vbsl, put_box_same, vext, vent, ops_ent, V.cells, strip, strip1, allLen, obsOk, List.map_cons, List.map_nil, List.length_cons, List.length_nil, List.getElem?_cons_zero, and_true, true_and, Nat.reduceEqDiff, Nat.zero_add, ↓reduceIte, eq_self, Bool.false_eq_true, List.contains_cons, List.contains_nil, Nat.reduceBEq, Bool.or_false, h3, hbox, hent, hname, put_box_ne nr]
      have R' := R.put (cs := [.it (some mb) c (seen ++ [e.2.2]) c]) obr fr
      refine App.push (bytes := 16) (val := sval) (x := p.1) R'.box R'.len R'.mono R'.max (by unfold maxLen; omega) (by omega) ?_
      intro b' cap' sp' k1 k2 k3 k4 k5
      obtain ⟨rfl, rfl⟩ := k2 hMlt
      have R2 := R'.push (.inl rfl) k3 k4 k5
      simp (config := {maxSteps := 3000000}) only [at_blk_n, at_rnd_n, ops_nil, ops_mv, ev_t, put_get, opv_mk, rel_mk, obsOk, true_and, ↓reduceIte, eq_self]
      repeat (apply And.intro; focus (first | omega | (simp; done)))
      refine ⟨⟨seen ++ [e.2.2], ix ++ [i], c, M ++ [p.1], sp', rfl, R2, by rw [put_box_ne nro, put_box_same], Nat.le_refl _, hg', ?_⟩, ?_⟩
      · rw [hM, List.map_append]
        simp [hp]
      · rw [put_box_ne nro, put_box_same, hit]
        have := hg'.len
        have h2 := hg'.seenLen
        simp only [List.length_append, List.length_cons, List.length_nil] at *
        omega
end
end Go.Proofs.Ytlngegoamfklgaa
