/- A pool of addresses: leasing and releasing: contracts. -/
import Derived.Test.YtlngegoamfklgaaVPool1
namespace Go.Proofs.Ytlngegoamfklgaa
open Go

/-- A map of addresses' names, in block b. -/
structure NM (st : St) (b : Nat) (es : List (V × V × Nat)) (c : Nat) (l : List (Int × ByteArray)) : Prop where
  box : st.box b = some [.mp false [.int .u32] es c]
  mp : Mp ku vstr es c l
theorem NM.find {st : St} {b : Nat} {es : List (V × V × Nat)} {c : Nat} {l : List (Int × ByteArray)} (h : NM st b es c l) (a : Int) : mfind (.sc (.int .u32 a)) es = (aget a l).map vstr := Mp.find ku_eq h.mp a
/-- A pool in block b: its two maps, what is kept, what is held. -/
structure PoolB (st : St) (b kb hb : Nat) (first many : Int) (kept held : List (Int × ByteArray)) (kes hes : List (V × V × Nat)) (kc hc : Nat) : Prop where
  box : st.box b = some [.sc (.int .u32 first), .sc (.int .i64 many), .sc (.map (some kb)), .sc (.map (some hb))]
  kept : NM st kb kes kc kept
  held : NM st hb hes hc held
  bk : b ≠ kb
  bh : b ≠ hb
  kh : kb ≠ hb
section
variable {st : St} {b kb hb : Nat} {first many : Int} {kept held : List (Int × ByteArray)} {kes hes : List (V × V × Nat)} {kc hc : Nat}
theorem PoolB.set (h : PoolB st b kb hb first many kept held kes hes kc hc) (a : Int) (s : ByteArray) : PoolB (st.put hb [.mp false [.int .u32] (mset (ku a) (vstr s) hc hes) (mclk hes (ku a) hc)]) b kb hb first many kept (aset a s held) kes (mset (ku a) (vstr s) hc hes) kc (mclk hes (ku a) hc) :=
  ⟨by rw [put_box_ne h.bh]; exact h.box, ⟨by rw [put_box_ne h.kh]; exact h.kept.box, h.kept.mp⟩, ⟨put_box_same, Mp.set ku_eq h.held.mp a s⟩, h.bk, h.bh, h.kh⟩
theorem PoolB.del (h : PoolB st b kb hb first many kept held kes hes kc hc) (a : Int) : PoolB (st.put hb [.mp false [.int .u32] (mdel (ku a) hes) hc]) b kb hb first many kept (adel a held) kes (mdel (ku a) hes) kc hc :=
  ⟨by rw [put_box_ne h.bh]; exact h.box, ⟨by rw [put_box_ne h.kh]; exact h.kept.box, h.kept.mp⟩, ⟨put_box_same, Mp.del ku_eq h.held.mp a⟩, h.bk, h.bh, h.kh⟩
theorem release_v (h : PoolB st b kb hb first many kept held kes hes kc hc) {a : Int} : VCalls Try.prog 14 [ptrV b, .sc (.int .u32 a)] st fun r st' =>
    (aget a held = none ∧ r = .sc (.int .i64 71) ∧ st = st') ∨ ((∃ s, aget a held = some s) ∧ r = .sc (.int .i64 0) ∧ st' = st.put hb [.mp false [.int .u32] (mdel (ku a) hes) hc]) := by
  refine vcalls_enter vc14 (Nat.le_of_ble_eq_true rfl) fun hwf hok => ?_
  show Run _ Vc14.body (.fin (finQ Vc14.res _)) _ _
  unfold Vc14
  cases hg : aget a held with
  | none =>
    simp (config := {maxSteps := 3000000}) only [run_reg, run_seq, run_ret, run_cond, if_true, at_code_n, at_code_r, at_fin_r, ops_nil, ops_mv, ops_un, ops_fld, ops_load, ops_nilck, ops_ext, ev_t, ev_c, put_get, opv_mk, args0, List.getD_cons_zero, List.getD_cons_succ, vun, vfld, vnil, vext, vload, takeV, takeB, vmlk, kOk, fitsV, ops_mlk, V.cells, ptrV, List.length_cons, List.length_nil, List.getElem?_cons_zero, List.getElem?_cons_succ, Option.map_none, and_true, true_and, Nat.reduceEqDiff, Nat.zero_add, ↓reduceIte, vret, rvAll, rvVal, resv_1, Bool.not_false, eq_self, reduceCtorEq, h.box, h.held.box, h.held.find, hg, Option.isSome_none, Option.getD_none]
    exact ⟨_, _, Wk.refl _, hwf.weak, .inl ⟨rfl, rfl⟩⟩
  | some s =>
    simp (config := {maxSteps := 3000000}) only [run_skip, run_reg, run_seq, run_ret, run_cond, if_false, at_code_n, at_fin_r, ops_nil, ops_mv, ops_un, ops_fld, ops_load, ops_nilck, ops_ext, ev_t, ev_c, put_get, put_none, opv_mk, args0, List.getD_cons_zero, List.getD_cons_succ, vun, vfld, vnil, vext, vload, takeV, takeB, vmlk, kOk, fitsV, ops_mlk, ops_mdel, mdl_map, mdb_some, V.cells, ptrV, obsOk, List.length_cons, List.length_nil, List.getElem?_cons_zero, List.getElem?_cons_succ, Option.map_some, and_true, true_and, Nat.reduceEqDiff, Nat.zero_add, ↓reduceIte, vret, rvAll, rvVal, resv_1, Bool.not_true, eq_self, reduceCtorEq, h.box, h.held.box, h.held.find, hg, Option.isSome_some, Option.getD_some, Option.map_some]
    exact ⟨_, _, Wk.refl _, weak_both hwf.weak, .inr ⟨⟨s, rfl⟩, rfl, rfl⟩⟩
/-- What a name may get. -/
def LeaseOK (first many : Int) (kept held : List (Int × ByteArray)) (name : ByteArray) (a : Int) : Prop :=
  ((a, name) ∈ kept ∧ aget a held = none) ∨
  ((∀ p ∈ kept, p.2 = name → aget p.1 held ≠ none) ∧ ∃ i : Nat, (i : Int) < many ∧ a = (first + i) % 4294967296 ∧ aget a kept = none ∧ aget a held = none ∧
    ∀ j : Nat, j < i → aget ((first + j) % 4294967296) kept ≠ none ∨ aget ((first + j) % 4294967296) held ≠ none)
def LeaseNo (first many : Int) (kept held : List (Int × ByteArray)) (name : ByteArray) : Prop :=
  (∀ p ∈ kept, p.2 = name → aget p.1 held ≠ none) ∧ ∀ j : Nat, (j : Int) < many → aget ((first + j) % 4294967296) kept ≠ none ∨ aget ((first + j) % 4294967296) held ≠ none
set_option maxRecDepth 100000 in
set_option maxHeartbeats 2000000 in
theorem lease_v (h : PoolB st b kb hb first many kept held kes hes kc hc) (hm : many ≤ 64) {name : ByteArray} : VCalls Try.prog 15 [ptrV b, .sc (.string name)] st fun r st' =>
    (LeaseNo first many kept held name ∧ r = .tup [.sc (.int .u32 0), .sc (.int .i64 70)] ∧ st = st') ∨
    ∃ a, LeaseOK first many kept held name a ∧ r = .tup [.sc (.int .u32 a), .sc (.int .i64 0)] ∧ st' = st.put hb [.mp false [.int .u32] (mset (ku a) (vstr name) hc hes) (mclk hes (ku a) hc)] := by
  refine vcalls_enter vc15 (Nat.le_of_ble_eq_true rfl) fun hwf hok => ?_
  show Run _ Vc15.body (.fin (finQ Vc15.res _)) _ _
  unfold Vc15
  simp (config := {maxSteps := 3000000}) only [run_reg, run_seq, run_blk, at_code_n, ops_nil, ops_mv, ops_fld, ops_load, ops_nilck, ev_t, ev_c, put_get, opv_mk, args0, List.getD_cons_zero, vfld, vnil, vload, takeV, takeB, ops_rng, rng_map, rgb_some, V.cells, ptrV, obsOk, List.length_cons, List.length_nil, List.getElem?_cons_zero, List.getElem?_cons_succ, true_and, Nat.zero_add, ↓reduceIte, eq_self, reduceCtorEq, h.box, h.kept.box]
  intro r hr
  have hlt := hwf.lt
  have hbs := hlt.box b _ h.box
  have hks := hlt.box kb _ h.kept.box
  have hhs := hlt.box hb _ h.held.box
  have br : b ≠ r := by omega
  have kr : kb ≠ r := by omega
  have hr' : hb ≠ r := by omega
  refine run_loop [4, 5, 6, 7, 8, 9, 21, 22, 23, 24, 25, 26, 27, 28, 29, 30, 31, 32, 33, 34, 35, 36, 37, 38, 39, 40, 41, 42, 43, 44, 45, 46, 47, 48] (fun B s => ∃ (seen ix : List Nat) (last : Nat), s = st.put r [.it (some kb) kc seen last] ∧ kc ≤ last ∧ Going kes seen ix ∧ ∀ i ∈ ix, ∀ p, kept[i]? = some p → p.2 = name → aget p.1 held ≠ none)
    (fun B s => match s.box r with | some [.it _ _ seen _] => kes.length - seen.length | _ => 0) rfl ?_ ?_
  · exact ⟨[], [], kc, rfl, Nat.le_refl _, .nil, fun i hi => by cases hi⟩
  · rintro B s ⟨seen, ix, last, rfl, hl, hg, hd⟩
    simp (config := {maxSteps := 3000000}) only [run_reg, run_seq, ev_t, put_get, over_get, put_box_same, ops_nxt, ↓reduceIte, ne_eq, eq_self, Bool.false_eq_true, List.contains_cons, List.contains_nil, Nat.reduceBEq, Bool.or_false]
    refine Nxt.mk (m := kb) put_box_same (by rw [put_box_ne kr]; exact h.kept.box) h.kept.mp.lt hl ?_ ?_
    · intro hall
      have hno : ∀ p ∈ kept, p.2 = name → aget p.1 held ≠ none := fun p hp hpn => by
        obtain ⟨i, hi⟩ := List.mem_iff_getElem?.1 hp
        exact hd i (hg.done h.kept.mp hall i (List.getElem?_eq_some_iff.1 hi).1) p hi hpn
      simp (config := {maxSteps := 3000000}) only [run_reg, run_seq, run_blk, run_exit, run_cond, if_false, at_code_n, at_code_x, at_blk_x, at_rnd_x, ops_nil, ops_mv, ops_fld, ops_load, ops_nilck, ops_ext, ev_t, ev_c, put_get, opv_mk, over_get, args0, List.getD_cons_zero, vfld, vnil, vext, vload, takeV, takeB, V.cells, obsOk, List.length_cons, List.length_nil, List.getElem?_cons_zero, List.getElem?_cons_succ, true_and, Nat.zero_add, ↓reduceIte, eq_self, reduceCtorEq, Bool.false_eq_true, List.contains_cons, List.contains_nil, Nat.reduceBEq, Bool.or_false, put_box_ne br, h.box]
      refine run_loop [4, 5, 10, 11, 12, 13, 14, 15, 53, 54, 55, 56, 57, 58, 59, 60, 61, 62, 63, 64, 65, 66, 67, 68, 69, 70, 71, 72, 73, 74, 75, 76, 77, 78, 79, 80, 81, 82, 83, 84, 85, 86, 87, 88, 89, 90, 91, 92, 93, 94] (fun C s' => ∃ i : Nat, (i ≤ 64 ∧ ((i : Int) ≤ many ∨ i = 0)) ∧ C 53 = .sc (.int .i64 i) ∧ (∀ j : Nat, j < i → aget ((first + j) % 4294967296) kept ≠ none ∨ aget ((first + j) % 4294967296) held ≠ none) ∧ s' = st.put r [.it (some kb) kc seen last]) (fun C _ => 64 - vnat (C 53)) rfl ?_ ?_
      · simp (config := {maxSteps := 3000000}) only [put_get, and_true, ↓reduceIte, ne_eq, eq_self]
        exact ⟨0, ⟨by omega, .inr rfl⟩, rfl, fun j hj => by omega⟩
      · rintro C s' ⟨i, ⟨hi, hi2⟩, h53, hd2, rfl⟩
        by_cases c : (i : Int) < many
        · have e1 : (i : Int) % 4294967296 = i := by omega
          obtain ⟨a, ha⟩ : ∃ a, (first + (i : Int)) % 4294967296 = a := ⟨_, rfl⟩
          cases g1 : aget a kept with
          | some s1 =>
            simp (config := {maxSteps := 3000000}) only [run_skip, run_reg, run_seq, run_blk, run_cond, if_true, if_false, at_code_n, at_blk_n, at_rnd_n, ops_nil, ops_grd, grd_ft, ops_mv, ops_pick, ops_bin, ops_un, ops_conv, ops_fld, ops_load, ops_nilck, ops_ext, ev_t, ev_c, put_get, opv_mk, over_get, rel_mk, vnat, args0, List.getD_cons_zero, vpick, vbin, vbinI, vun, vconv, norm, vfld, vnil, vext, vload, takeV, takeB, vmlk, kOk, fitsV, ops_mlk, V.cells, List.length_cons, List.length_nil, List.getElem?_cons_zero, List.getElem?_cons_succ, Option.map_some, and_true, true_and, Nat.reduceEqDiff, Int.toNat_natCast, Int.reduceNeg, Nat.zero_add, Nat.add_zero, ↓reduceIte, Bool.not_true, ne_eq, eq_self, reduceCtorEq, Bool.false_eq_true, List.contains_cons, List.contains_nil, Nat.reduceBEq, Bool.or_false, Bool.or_true, h53, decide_eq_true c, put_box_ne br, put_box_ne kr, put_box_ne hr', h.box, h.kept.box, h.held.box, e1, ha, h.kept.find, h.held.find, g1, Option.isSome_some, Option.getD_some, Option.map_some]
            repeat (apply And.intro; focus (first | omega | (simp; done)))
            refine ⟨⟨i + 1, ⟨by omega, .inl (by omega)⟩, by simp, fun j hj => ?_⟩, by omega⟩
            by_cases e : j = i
            · subst e; rw [ha, g1]; exact .inl (by simp)
            · exact hd2 j (by omega)
          | none =>
            cases g2 : aget a held with
            | some s2 =>
              simp (config := {maxSteps := 3000000}) only [run_skip, run_reg, run_seq, run_blk, run_cond, if_true, if_false, at_code_n, at_blk_n, at_rnd_n, ops_nil, ops_grd, grd_tt, ops_mv, ops_pick, ops_bin, ops_un, ops_conv, ops_fld, ops_load, ops_nilck, ops_ext, ev_t, ev_c, put_get, opv_mk, over_get, rel_mk, vnat, args0, List.getD_cons_zero, vpick, vbin, vbinI, vun, vconv, norm, vfld, vnil, vext, vload, takeV, takeB, vmlk, kOk, fitsV, ops_mlk, V.cells, List.length_cons, List.length_nil, List.getElem?_cons_zero, List.getElem?_cons_succ, Option.map_some, Option.map_none, and_true, true_and, Nat.reduceEqDiff, Int.toNat_natCast, Int.reduceNeg, Nat.zero_add, Nat.add_zero, ↓reduceIte, Bool.not_true, Bool.not_false, ne_eq, eq_self, reduceCtorEq, Bool.false_eq_true, List.contains_cons, List.contains_nil, Nat.reduceBEq, Bool.or_false, Bool.or_true, h53, decide_eq_true c, put_box_ne br, put_box_ne kr, put_box_ne hr', h.box, h.kept.box, h.held.box, e1, ha, h.kept.find, h.held.find, g1, g2, Option.isSome_some, Option.getD_some, Option.map_some, Option.isSome_none, Option.getD_none]
              repeat (apply And.intro; focus (first | omega | (simp; done)))
              refine ⟨⟨i + 1, ⟨by omega, .inl (by omega)⟩, by simp, fun j hj => ?_⟩, by omega⟩
              by_cases e : j = i
              · subst e; rw [ha, g2]; exact .inr (by simp)
              · exact hd2 j (by omega)
            | none =>
              simp (config := {maxSteps := 3000000}) only [run_skip, run_reg, run_seq, run_blk, run_ret, run_cond, if_true, at_code_n, at_code_r, at_blk_r, at_rnd_r, at_fin_r, ops_nil, ops_grd, grd_tt, ops_mv, ops_pick, ops_bin, ops_un, ops_conv, ops_fld, ops_load, ops_nilck, ops_ext, ev_t, ev_c, put_get, put_none, opv_mk, over_get, vnat, Stp, args0, List.getD_cons_zero, List.getD_cons_succ, vpick, vbin, vbinI, vun, vconv, norm, vfld, vnil, vext, vload, takeV, takeB, vmlk, kOk, fitsV, ops_mlk, ops_mup, mup_map, mub_some, V.cells, obsOk, List.map_cons, List.map_nil, List.length_cons, List.length_nil, List.getElem?_cons_zero, List.getElem?_cons_succ, Option.map_none, and_true, true_and, Nat.reduceEqDiff, Int.toNat_natCast, Nat.zero_add, Nat.add_zero, ↓reduceIte, vret, rvAll, rvVal, resv_2, Bool.not_false, ne_eq, eq_self, reduceCtorEq, Bool.false_eq_true, List.contains_cons, List.contains_nil, Nat.reduceBEq, Bool.or_false, Bool.or_true, h53, decide_eq_true c, put_box_ne br, put_box_ne kr, put_box_ne hr', h.box, h.kept.box, h.held.box, e1, ha, h.kept.find, h.held.find, g1, g2, Option.isSome_none, Option.getD_none]
              repeat (apply And.intro; focus (first | omega | (simp; done)))
              exact ⟨_, _, Wk.refl _, weak_both (weak_put hwf.weak hr), .inr ⟨a, .inr ⟨hno, i, c, ha.symm, g1, g2, hd2⟩, rfl, rfl⟩⟩
        · simp (config := {maxSteps := 3000000}) only [run_reg, run_seq, run_exit, run_ret, run_cond, if_false, at_code_n, at_code_x, at_blk_x, at_rnd_x, at_fin_r, ops_nil, ops_mv, ops_bin, ev_t, ev_c, put_get, opv_mk, over_get, vnat, args0, vbin, vbinI, vload, takeV, takeB, V.cells, List.map_cons, List.map_nil, and_true, true_and, Nat.reduceEqDiff, Int.toNat_natCast, ↓reduceIte, vret, rvAll, rvVal, resv_2, ne_eq, eq_self, Bool.false_eq_true, List.contains_cons, List.contains_nil, Nat.reduceBEq, Bool.or_false, Bool.or_true, h53, decide_eq_false c]
          refine ⟨_, _, Wk.refl _, weak_put hwf.weak hr, .inl ⟨⟨hno, fun j hj => hd2 j ?_⟩, rfl, rfl⟩⟩
          omega
    · intro e he hs
      obtain ⟨i, p, hni, hie, hip, h1, h2, hg'⟩ := hg.step h.kept.mp he hs
      obtain ⟨pa, pn⟩ := p
      simp only [ku, vstr] at h1 h2
      have hlen := hg.len
      have hlen' := hg'.len
      have hsl := hg.seenLen
      simp only [List.length_append, List.length_cons, List.length_nil] at hlen'
      have hent := h.kept.mp.ent he (seen := seen)
      by_cases c : pn = name
      · cases g2 : aget pa held with
        | some s2 =>
          simp (config := {maxSteps := 3000000}) only [run_skip, run_reg, run_seq, run_blk, run_cond, if_true, if_false, at_code_n, at_blk_n, at_rnd_n, ops_nil, ops_grd, grd_tt, ops_mv, ops_pick, ops_bin, ops_un, ops_fld, ops_load, ops_nilck, ops_ext, ev_t, put_get, opv_mk, over_get, rel_mk, put_box_same, put_put, args0, List.getD_cons_zero, List.getD_cons_succ, vpick, vbin, vbinS, vun, vfld, vnil, vext, vload, takeV, takeB, vmlk, vent, kOk, fitsV, ops_mlk, ops_ent, V.cells, obsOk, List.length_cons, List.length_nil, List.getElem?_cons_zero, List.getElem?_cons_succ, Option.map_some, and_true, true_and, Nat.reduceEqDiff, Nat.zero_add, ↓reduceIte, Bool.not_true, eq_self, reduceCtorEq, Bool.false_eq_true, List.contains_cons, List.contains_nil, Nat.reduceBEq, Bool.or_false, put_put, put_box_ne br, put_box_ne kr, put_box_ne hr', h.box, h.kept.box, h.held.box, hent, h1, h2, h.held.find, decide_eq_true c, g2, Option.isSome_some, Option.getD_some, Option.map_some]
          refine ⟨⟨_, _, _, rfl, Nat.le_refl _, hg', fun j hj q hq hqn => ?_⟩, by simp only [List.length_append, List.length_cons, List.length_nil]; omega⟩
          rcases List.mem_append.1 hj with hj | hj
          · exact hd j hj q hq hqn
          · simp at hj
            subst hj
            rw [hip] at hq
            cases hq
            rw [g2]; simp
        | none =>
          simp (config := {maxSteps := 3000000}) only [run_skip, run_reg, run_seq, run_blk, run_ret, run_cond, if_true, at_code_n, at_code_r, at_blk_r, at_rnd_r, at_fin_r, ops_nil, ops_grd, grd_tt, ops_mv, ops_pick, ops_bin, ops_un, ops_fld, ops_load, ops_nilck, ops_ext, ev_t, ev_c, put_get, put_none, opv_mk, over_get, Stp, put_box_same, put_put, args0, List.getD_cons_zero, List.getD_cons_succ, vpick, vbin, vbinS, vun, vfld, vnil, vext, vload, takeV, takeB, vmlk, vent, kOk, fitsV, ops_mlk, ops_ent, ops_mup, mup_map, mub_some, V.cells, obsOk, List.map_cons, List.map_nil, List.length_cons, List.length_nil, List.getElem?_cons_zero, List.getElem?_cons_succ, Option.map_none, and_true, true_and, Nat.reduceEqDiff, Nat.zero_add, ↓reduceIte, vret, rvAll, rvVal, resv_2, Bool.not_false, eq_self, reduceCtorEq, Bool.false_eq_true, List.contains_cons, List.contains_nil, Nat.reduceBEq, Bool.or_false, put_put, put_box_ne br, put_box_ne kr, put_box_ne hr', h.box, h.kept.box, h.held.box, hent, h1, h2, h.held.find, decide_eq_true c, g2, Option.isSome_none, Option.getD_none]
          subst c
          exact ⟨_, _, Wk.refl _, weak_both (weak_put hwf.weak hr), .inr ⟨pa, .inl ⟨List.mem_of_getElem? hip, g2⟩, rfl, rfl⟩⟩
      · simp (config := {maxSteps := 3000000}) only [run_skip, run_reg, run_seq, run_blk, run_cond, if_true, if_false, at_code_n, at_blk_n, at_rnd_n, ops_nil, ops_grd, grd_ft, ops_mv, ops_pick, ops_bin, ops_fld, ops_load, ops_nilck, ops_ext, ev_t, ev_c, put_get, opv_mk, over_get, rel_mk, put_box_same, put_put, args0, List.getD_cons_zero, List.getD_cons_succ, vpick, vbin, vbinS, vfld, vnil, vext, vload, takeV, takeB, vmlk, vent, kOk, fitsV, ops_mlk, ops_ent, V.cells, obsOk, List.length_cons, List.length_nil, List.getElem?_cons_zero, List.getElem?_cons_succ, and_true, true_and, Nat.reduceEqDiff, Nat.zero_add, ↓reduceIte, eq_self, reduceCtorEq, Bool.false_eq_true, List.contains_cons, List.contains_nil, Nat.reduceBEq, Bool.or_false, put_put, put_box_ne br, put_box_ne kr, put_box_ne hr', h.box, h.kept.box, h.held.box, hent, h1, h2, h.held.find, decide_eq_false c]
        refine ⟨⟨_, _, _, rfl, Nat.le_refl _, hg', fun j hj q hq hqn => ?_⟩, by simp only [List.length_append, List.length_cons, List.length_nil]; omega⟩
        rcases List.mem_append.1 hj with hj | hj
        · exact hd j hj q hq hqn
        · simp at hj
          subst hj
          rw [hip] at hq
          cases hq
          exact absurd hqn c
end
end Go.Proofs.Ytlngegoamfklgaa
