/- The law PoolApart: contract. -/
import Derived.Test.YtlngegoamfklgaaVPool3
import Derived.Test.YtlngegoamfklgaaVRows
namespace Go.Proofs.Ytlngegoamfklgaa
open Go

theorem PoolB.boxes {s s' : St} {b kb hb : Nat} {first many : Int} {kept held : List (Int × ByteArray)} {kes hes : List (V × V × Nat)} {kc hc : Nat} (h : PoolB s b kb hb first many kept held kes hes kc hc) (e : s'.box = s.box) : PoolB s' b kb hb first many kept held kes hes kc hc :=
  ⟨by rw [e]; exact h.box, ⟨by rw [e]; exact h.kept.box, h.kept.mp⟩, ⟨by rw [e]; exact h.held.box, h.held.mp⟩, h.bk, h.bh, h.kh⟩
theorem lease0 {first many : Int} {held : List (Int × ByteArray)} {name : ByteArray} {a : Int} (h : LeaseOK first many [] held name a) : ∃ i : Nat, (i : Int) < many ∧ a = (first + i) % 4294967296 ∧ aget a held = none ∧ ∀ j : Nat, j < i → aget ((first + j) % 4294967296) held ≠ none := by
  rcases h with ⟨h, _⟩ | ⟨_, i, h1, h2, _, h3, h4⟩
  · cases h
  · exact ⟨i, h1, h2, h3, fun j hj => by
      rcases h4 j hj with h | h
      · exact absurd rfl h
      · exact h⟩
section
variable {st : St}
set_option maxRecDepth 100000 in
theorem alive29_v : VCalls Try.prog 12 [] st fun r st' => r = .sc (.bool true) ∧ st = st' := by
  refine vcalls_enter vc12 (Nat.le_of_ble_eq_true rfl) fun hwf hok => ?_
  show Run _ Vc12.body (.fin (finQ Vc12.res _)) _ _
  unfold Vc12
  simp (config := {maxSteps := 3000000}) only [run_reg, run_seq, at_code_n, ops_nil, ops_mv, ops_call, ev_c, opv_mk, List.map_cons, List.map_nil, true_and]
  refine Cal.mk (new_v (S := []) (tk := .nil) (by omega) (by omega) (by simp)) ?_
  rintro r s hq -
  have hE : newE 167772161 2 [] = 0 := by decide
  rcases hq with ⟨h, _⟩ | ⟨_, b, kb, hb, kes, kc, rfl, hP, hw, hl, f1, f2, f3⟩
  · exact absurd hE h
  simp (config := {maxSteps := 3000000}) only [run_skip, run_reg, run_seq, run_cond, if_false, at_code_n, ops_nil, ops_grd, grd_ff, ops_mv, ops_pick, ops_bin, ops_pnil, vpnil, ops_ext, ops_call, ev_t, ev_c, put_get, opv_mk, vpick, vbin, vbinI, vext, ptrV, obsOk, List.map_cons, List.map_nil, List.getElem?_cons_zero, List.getElem?_cons_succ, true_and, Nat.reduceEqDiff, ↓reduceIte, decide_false, ne_eq, not_true_eq_false, eq_self, Bool.false_eq_true]
  refine Cal.mk (lease_v hP (by omega)) ?_
  rintro r s1 (⟨⟨_, h⟩, _⟩ | ⟨a, ha, rfl, rfl⟩) -
  · exfalso
    rcases h 0 (by omega) with h | h <;> exact h rfl
  have ea : a = 167772161 := by
    obtain ⟨i, h1, h2, h3, h4⟩ := lease0 ha
    cases i with
    | zero => rw [h2]; rfl
    | succ i => exact absurd rfl (h4 0 (by omega))
  subst ea
  simp (config := {maxSteps := 3000000}) only [run_reg, run_seq, at_code_n, ops_nil, ops_mv, ops_ext, ops_call, ev_t, ev_c, put_get, opv_mk, vext, obsOk, List.map_cons, List.map_nil, List.getElem?_cons_zero, List.getElem?_cons_succ, true_and, Nat.reduceEqDiff, ↓reduceIte, eq_self]
  have hP1 := hP.set 167772161 ⟨#[97]⟩
  simp only [aset] at hP1
  refine Cal.mk (lease_v hP1 (by omega)) ?_
  rintro r s2 (⟨⟨_, h⟩, _⟩ | ⟨a, ha, rfl, rfl⟩) -
  · exfalso
    rcases h 1 (by omega) with h | h
    · exact h rfl
    · exact h (by simp [aget])
  have ea : a = 167772162 := by
    obtain ⟨i, h1, h2, h3, h4⟩ := lease0 ha
    match i with
    | 0 => rw [h2] at h3; simp [aget] at h3
    | 1 => rw [h2]; rfl
    | i + 2 => exact absurd (by simp [aget]) (h4 1 (by omega))
  subst ea
  simp (config := {maxSteps := 3000000}) only [run_reg, run_seq, at_code_n, ops_nil, ops_mv, ops_ext, ops_call, ev_t, ev_c, put_get, opv_mk, put_put, vext, obsOk, List.map_cons, List.map_nil, List.getElem?_cons_zero, List.getElem?_cons_succ, true_and, Nat.reduceEqDiff, ↓reduceIte, eq_self]
  have hP2 := hP1.set 167772162 ⟨#[98]⟩
  have e2 : aset (167772162 : Int) (⟨#[98]⟩ : ByteArray) [(167772161, ⟨#[97]⟩)] = [(167772161, ⟨#[97]⟩), (167772162, ⟨#[98]⟩)] := by simp [aset]
  rw [e2, put_put] at hP2
  refine Cal.mk (lease_v hP2 (by omega)) ?_
  rintro r s3 (⟨_, rfl, rfl⟩ | ⟨a, ha, _⟩) -
  · simp (config := {maxSteps := 3000000}) only [run_reg, run_seq, run_ret, at_code_n, at_fin_r, ops_nil, ops_grd, grd_tt, ops_mv, ops_pick, ops_bin, ops_ext, ev_t, ev_c, put_get, opv_mk, vpick, vbin, vbinI, vext, obsOk, List.getElem?_cons_zero, List.getElem?_cons_succ, and_true, true_and, Nat.reduceEqDiff, ↓reduceIte, vret, rvAll, rvVal, resv_1, decide_true, eq_self]
    exact ⟨_, _, Wk.refl _, weak_put hw f3, rfl, rfl⟩
  · exfalso
    obtain ⟨i, h1, h2, h3, h4⟩ := lease0 ha
    match i, h1 with
    | 0, _ => rw [h2] at h3; simp [aget] at h3
    | 1, _ => rw [h2] at h3; simp [aget] at h3
    | i + 2, h1 => omega
end
/-- A call of the law's. -/
structure OpR where
  kind : Int
  name : ByteArray
  a : Int
def OpR.v (o : OpR) : V := .agg [.sc (.int .i64 o.kind), .sc (.string o.name), .sc (.int .u32 o.a)]
def opsV (l : List OpR) : List V := l.map OpR.v
theorem opl_len (l : List OpR) : (opsV l).length = l.length := by simp [opsV]
theorem opl_get {l : List OpR} {i : Nat} {o : OpR} (h : l[i]? = some o) : (opsV l)[i]? = some (.agg [.sc (.int .i64 o.kind), .sc (.string o.name), .sc (.int .u32 o.a)]) := by simp [opsV, h, OpR.v]
theorem statE_ok : ∀ {S : List (ByteArray × Int)} {kept : List (Int × ByteArray)}, statE kept S = 0 → (kept.map (·.1)).Nodup → ((kept ++ swp S).map (·.1)).Nodup
  | [], kept, _, hn => by simpa [swp] using hn
  | s :: r, kept, h, hn => by
    simp only [statE] at h
    split at h
    · cases h
    · split at h
      · cases h
      · rename_i hc
        have h1 : aget s.2 kept = none := by
          cases hg : aget s.2 kept with
          | none => rfl
          | some y => exact absurd (.inl (by rw [hg]; rfl)) hc
        have := statE_ok h (by
          rw [List.map_append, List.nodup_append]
          refine ⟨hn, by simp, fun x hx y hy => ?_⟩
          simp at hy
          subst hy
          obtain ⟨p, hp, rfl⟩ := List.mem_map.1 hx
          exact aget_none.1 h1 p hp)
        simpa [swp] using this
theorem newE_ok {first many : Int} {S : List (ByteArray × Int)} (h : newE first many S = 0) : many ≤ 64 ∧ ((swp S).map (·.1)).Nodup := by
  unfold newE at h
  split at h
  · cases h
  · split at h
    · cases h
    · split at h
      · cases h
      · exact ⟨by omega, by simpa using statE_ok h (by simp)⟩
/-- Midway: the pool, the law's shape, what is out. -/
structure LawI (base s : St) (b kb hb d : Nat) (first many : Int) (S : List (ByteArray × Int)) (tk : Tk) (held : List (Int × ByteArray)) (kes hes : List (V × V × Nat)) (kc hc : Nat) (r : V) (O : List Int) : Prop where
  pool : PoolB s b kb hb first many (swp S) held kes hes kc hc
  shape : s.box d = some [.sc (.int .u32 first), .sc (.int .i64 many), .sl tk (sts S)]
  row : RO 1 base s r (us O)
  nd : O.Nodup
  hn : (held.map (·.1)).Nodup
  iff : ∀ a, a ∈ O ↔ aget a held ≠ none
  fh : base.sz ≤ hb
  dh : d ≠ hb
theorem LawI.drop {base s s' : St} {b kb hb d : Nat} {first many : Int} {S : List (ByteArray × Int)} {tk : Tk} {held : List (Int × ByteArray)} {kes hes : List (V × V × Nat)} {kc hc : Nat} {r r' : V} {O : List Int} (h : LawI base s b kb hb d first many S tk held kes hes kc hc r O) {i : Nat} {a : Int} (hi : O[i]? = some a)
    (hs : s'.box = (s.put hb [.mp false [.int .u32] (mdel (ku a) hes) hc]).box) (hr : RO 1 base s' r' (us (O.take i ++ O.drop (i + 1)))) : LawI base s' b kb hb d first many S tk (adel a held) kes (mdel (ku a) hes) kc hc r' (O.take i ++ O.drop (i + 1)) := by
  have he : O.take i ++ O.drop (i + 1) = O.eraseIdx i := (List.eraseIdx_eq_take_drop_succ O i).symm
  have hlt := (List.getElem?_eq_some_iff.1 hi).1
  have hmem : ∀ x, x ∈ O.eraseIdx i ↔ x ∈ O ∧ x ≠ a := fun x => by
    rw [List.mem_eraseIdx_iff_getElem?]
    constructor
    · rintro ⟨j, hj, hx⟩
      refine ⟨List.mem_of_getElem? hx, fun e => hj ?_⟩
      subst e
      exact ((List.getElem?_inj (List.getElem?_eq_some_iff.1 hx).1 h.nd).1 (hx.trans hi.symm))
    · rintro ⟨hx, hne⟩
      obtain ⟨j, hj⟩ := List.mem_iff_getElem?.1 hx
      exact ⟨j, fun e => hne (by subst e; rw [hi] at hj; exact (Option.some.inj hj).symm), hj⟩
  refine ⟨(h.pool.del a).boxes hs, by rw [hs, put_box_ne h.dh]; exact h.shape, hr, by rw [he]; exact h.nd.eraseIdx i, adel_nodup h.hn, fun x => ?_, h.fh, h.dh⟩
  rw [he, hmem, aget_del h.hn, h.iff]
  by_cases e : x = a
  · simp [e]
  · simp [e]
theorem LawI.add {base s s' : St} {b kb hb d : Nat} {first many : Int} {S : List (ByteArray × Int)} {tk : Tk} {held : List (Int × ByteArray)} {kes hes : List (V × V × Nat)} {kc hc : Nat} {r r' : V} {O : List Int} (h : LawI base s b kb hb d first many S tk held kes hes kc hc r O) {a : Int} {n : ByteArray} (hg : aget a held = none)
    (hs : s'.box = (s.put hb [.mp false [.int .u32] (mset (ku a) (vstr n) hc hes) (mclk hes (ku a) hc)]).box) (hr : RO 1 base s' r' (us (O ++ [a]))) : LawI base s' b kb hb d first many S tk (aset a n held) kes (mset (ku a) (vstr n) hc hes) kc (mclk hes (ku a) hc) r' (O ++ [a]) := by
  have hna : a ∉ O := fun h' => (h.iff a).1 h' hg
  refine ⟨(h.pool.set a n).boxes hs, by rw [hs, put_box_ne h.dh]; exact h.shape, hr, ?_, aset_nodup h.hn, fun x => ?_, h.fh, h.dh⟩
  · rw [List.nodup_append]
    exact ⟨h.nd, by simp, fun x hx y hy => by simp at hy; subst hy; exact fun e => hna (e ▸ hx)⟩
  · rw [aget_set, List.mem_append, List.mem_singleton, h.iff]
    by_cases e : x = a
    · simp [e]
    · simp [e]
theorem lease_free {first many : Int} {kept held : List (Int × ByteArray)} {name : ByteArray} {a : Int} (h : LeaseOK first many kept held name a) : aget a held = none := by
  rcases h with ⟨_, h⟩ | ⟨_, i, _, _, _, h, _⟩ <;> exact h
theorem lease_kept {first many : Int} {S : List (ByteArray × Int)} {held : List (Int × ByteArray)} {name : ByteArray} {a : Int} (h : LeaseOK first many (swp S) held name a) (hn : ((swp S).map (·.1)).Nodup) {x : ByteArray × Int} (hx : x ∈ S) (ha : x.2 = a) : x.1 = name := by
  have hm : (x.2, x.1) ∈ swp S := List.mem_map.2 ⟨x, hx, rfl⟩
  have hg := aget_of_mem hn hm
  rcases h with ⟨h, _⟩ | ⟨_, i, _, _, h, _⟩
  · have := aget_of_mem hn h
    rw [← ha, hg] at this
    exact Option.some.inj this
  · rw [← ha, hg] at h
    cases h
section
variable {st : St} {first many : Int} {S : List (ByteArray × Int)} {C : List OpR} {tk t2 : Tk}
set_option maxRecDepth 100000 in
set_option maxHeartbeats 4000000 in
theorem poolApart_v (h0 : 0 ≤ first) (h1 : first ≤ 4294967295) (hS : ∀ s ∈ S, 0 ≤ s.2) : VCalls Try.prog 3 [.agg [.sc (.int .u32 first), .sc (.int .i64 many), .sl tk (sts S)], .sl t2 (opsV C)] st fun r st' => r = .sc (.bool true) ∧ st = st' := by
  have bT : (true == true) = true := rfl
  have bF : (false == false) = true := rfl
  refine vcalls_enter vc3 (Nat.le_of_ble_eq_true rfl) fun hwf hok => ?_
  show Run _ Vc3.body (.fin (finQ Vc3.res _)) _ _
  unfold Vc3
  simp (config := {maxSteps := 3000000}) only [run_reg, run_seq, at_code_n, ops_nil, ops_grd, ops_mv, ops_bin, ops_fld, ops_load, ops_len, ops_box, ev_t, ev_c, put_get, opv_mk, Bx, put_box_same, args0, List.getD_cons_zero, vbin, vbinI, vfld, vlen, vload, takeV, takeB, V.cells, ptrV, obsOk, List.length_cons, List.length_nil, List.getElem?_cons_zero, List.getElem?_cons_succ, true_and, Nat.reduceEqDiff, Nat.reduceAdd, Nat.zero_add, ↓reduceIte, ne_eq, not_false_eq_true, eq_self, reduceCtorEq]
  intro d hd
  by_cases c1 : 20 < S.length
  · simp (config := {maxSteps := 3000000}) only [run_reg, run_seq, run_ret, run_cond, if_true, at_code_n, at_code_r, at_fin_r, ops_nil, ops_grd, grd_tf, ops_mv, ops_pick, ev_t, ev_c, put_get, opv_mk, vpick, and_true, true_and, Nat.reduceEqDiff, ↓reduceIte, vret, rvAll, rvVal, resv_1, eq_self, sts_len, decide_eq_true (show (20 : Int) < (S.length : Int) by omega)]
    exact ⟨_, _, Wk.refl _, weak_put hwf.weak hd, rfl, rfl⟩
  by_cases c2 : 80 < C.length
  · simp (config := {maxSteps := 3000000}) only [run_reg, run_seq, run_ret, run_cond, if_true, at_code_n, at_code_r, at_fin_r, ops_nil, ops_grd, grd_ff, ops_mv, ops_pick, ops_bin, ops_len, ev_t, ev_c, put_get, opv_mk, args0, List.getD_cons_zero, List.getD_cons_succ, vpick, vbin, vbinI, vlen, and_true, true_and, Nat.reduceEqDiff, ↓reduceIte, vret, rvAll, rvVal, resv_1, eq_self, Bool.false_eq_true, sts_len, opl_len, decide_eq_false (show ¬ (20 : Int) < (S.length : Int) by omega), decide_eq_true (show (80 : Int) < (C.length : Int) by omega)]
    exact ⟨_, _, Wk.refl _, weak_put hwf.weak hd, rfl, rfl⟩
  simp (config := {maxSteps := 3000000}) only [run_skip, run_reg, run_seq, run_cond, if_false, at_code_n, ops_nil, ops_grd, grd_ff, ops_mv, ops_pick, ops_bin, ops_fld, ops_load, ops_len, ops_call, ev_t, ev_c, put_get, opv_mk, put_box_same, args0, List.getD_cons_zero, List.getD_cons_succ, vpick, vbin, vbinI, vfld, vlen, vload, takeV, takeB, V.cells, List.map_cons, List.map_nil, List.length_cons, List.length_nil, List.getElem?_cons_zero, List.getElem?_cons_succ, true_and, Nat.reduceEqDiff, Nat.zero_add, Nat.add_zero, ↓reduceIte, eq_self, Bool.false_eq_true, sts_len, opl_len, decide_eq_false (show ¬ (20 : Int) < (S.length : Int) by omega), decide_eq_false (show ¬ (80 : Int) < (C.length : Int) by omega)]
  refine Cal.mk (new_v h0 h1 hS) ?_
  rintro r s (⟨hE, rfl, rfl⟩ | ⟨hE, b, kb, hb, kes, kc, rfl, hP, hw, hl, f1, f2, f3⟩) -
  · simp (config := {maxSteps := 3000000}) only [run_reg, run_seq, run_cond, if_true, at_code_n, ops_nil, ops_grd, grd_tt, ops_mv, ops_bin, ops_pnil, vpnil, ops_ext, ops_call, ev_t, ev_c, put_get, opv_mk, vbin, vbinI, vext, obsOk, List.map_nil, List.getElem?_cons_zero, List.getElem?_cons_succ, true_and, Nat.reduceEqDiff, ↓reduceIte, Bool.not_false, ne_eq, eq_self, decide_eq_true hE]
    refine Cal.mk alive29_v ?_
    rintro _ _ ⟨rfl, rfl⟩ -
    simp (config := {maxSteps := 3000000}) only [run_ret, at_code_n, at_code_r, at_fin_r, ops_nil, ops_mv, ops_pick, ev_t, put_get, opv_mk, vpick, obsOk, and_true, true_and, Nat.reduceEqDiff, ↓reduceIte, vret, rvAll, rvVal, resv_1, eq_self]
    exact ⟨_, _, Wk.refl _, weak_put hwf.weak hd, rfl, rfl⟩
  obtain ⟨hm64, hnd⟩ := newE_ok hE
  simp (config := {maxSteps := 3000000}) only [run_skip, run_reg, run_seq, run_blk, run_cond, if_false, at_code_n, ops_nil, ops_mv, ops_bin, ops_pnil, vpnil, ops_ext, ev_t, ev_c, put_get, opv_mk, vbin, vbinI, vext, ptrV, obsOk, List.getElem?_cons_zero, List.getElem?_cons_succ, true_and, Nat.reduceEqDiff, ↓reduceIte, decide_false, ne_eq, not_true_eq_false, eq_self]
  have hdh : d ≠ hb := by simp only [put_sz] at f3; omega
  have hfh : st.sz ≤ hb := by simp only [put_sz] at f3; omega
  have hw' : st.weak s := weak_tr (weak_put hwf.weak hd) hw
  have I0 : LawI st s b kb hb d first many S tk [] kes [] kc 0 (.sl .nil []) [] :=
    ⟨hP, (hw.box d _ put_box_same).1, RO.nil hw' hl, .nil, .nil, fun a => by simp [aget], hfh, hdh⟩
  refine run_loop [4, 7, 8, 9, 10, 11, 12, 41, 42, 43, 44, 45, 46, 47, 48, 49, 50, 51, 52, 53, 54, 55, 56, 57, 58, 59, 60, 61, 62, 63, 64, 65, 66, 67, 68, 69, 70, 71, 72, 73, 74, 75, 76, 77, 78, 79, 80, 81, 82, 83, 84, 85, 86, 87, 88, 89, 90, 91, 92, 93, 94, 95, 96, 97, 98, 99, 100, 101, 102, 103, 104, 105, 106, 107, 108, 109, 110, 111, 112, 113, 114, 115, 116, 117, 118, 119, 120, 121, 122, 123, 124, 125, 126, 127, 128, 129, 130, 131, 132, 133, 134, 135, 136, 137] (fun B s => ∃ (i : Nat) (held : List (Int × ByteArray)) (hes : List (V × V × Nat)) (hc : Nat) (r : V) (O : List Int), i ≤ C.length ∧ B 8 = .sc (.int .i64 i) ∧ B 7 = r ∧ O.length ≤ i ∧ LawI st s b kb hb d first many S tk held kes hes kc hc r O) (fun B _ => C.length - vnat (B 8)) rfl ?_ ?_
  · simp (config := {maxSteps := 3000000}) only [put_get, Nat.reduceEqDiff, ↓reduceIte, eq_self]
    exact ⟨0, [], [], 0, _, [], by omega, rfl, rfl, by simp, I0⟩
  · rintro B s ⟨i, held, hes, hc, r, O, hi, h8, h7, hOl, I⟩
    by_cases hlt : i < C.length
    · obtain ⟨o, ho⟩ := get_ex hlt
      obtain ⟨tr, rfl⟩ := I.row.sl
      by_cases c3 : o.kind < 0
      · simp (config := {maxSteps := 3000000}) only [run_skip, run_reg, run_seq, run_blk, run_ret, run_cond, if_true, at_code_n, at_code_r, at_blk_r, at_rnd_r, at_fin_r, ops_nil, ops_mv, ops_bin, ops_fld, ops_ix, ops_load, ops_len, ev_t, ev_c, put_get, opv_mk, over_get, vnat, args0, List.getD_cons_zero, List.getD_cons_succ, vbin, vbinI, vfld, vlen, vix, vload, takeV, V.cells, List.length_cons, List.length_nil, List.getElem?_cons_zero, and_true, true_and, Nat.reduceEqDiff, Nat.reduceAdd, Int.toNat_natCast, Nat.zero_add, Nat.add_zero, ↓reduceIte, vret, rvAll, rvVal, resv_1, eq_self, Bool.false_eq_true, List.contains_cons, List.contains_nil, Nat.reduceBEq, Bool.or_false, Bool.or_true, h8, opl_len, opl_get ho, decide_eq_true (show (i : Int) < (C.length : Int) by omega), decide_eq_true c3]
        repeat (apply And.intro; focus (first | omega | (simp; done)))
        exact ⟨_, _, Wk.refl _, I.row.weak, rfl, rfl⟩
      by_cases c4 : 3 ≤ o.kind % 5
      · simp (config := {maxSteps := 3000000}) only [run_skip, run_reg, run_seq, run_blk, run_cond, if_true, if_false, at_code_n, ops_nil, ops_mv, ops_bin, ops_fld, ops_ix, ops_load, ops_len, ops_call, ev_t, ev_c, put_get, opv_mk, over_get, vnat, args0, List.getD_cons_zero, List.getD_cons_succ, vbin, vbinI, vfld, vlen, vix, vload, takeV, V.cells, List.map_cons, List.map_nil, List.length_cons, List.length_nil, List.getElem?_cons_zero, List.getElem?_cons_succ, and_true, true_and, Nat.reduceEqDiff, Nat.reduceAdd, Int.toNat_natCast, Int.reduceLT, Nat.zero_add, Nat.add_zero, ↓reduceIte, eq_self, Bool.false_eq_true, List.contains_cons, List.contains_nil, Nat.reduceBEq, Bool.or_false, Bool.or_true, h8, h7, opl_len, opl_get ho, decide_eq_true (show (i : Int) < (C.length : Int) by omega), decide_eq_false c3, decide_eq_true c4]
        repeat (apply And.intro; focus (first | omega | (simp; done)))
        refine Cal.mk index_v ?_
        rintro _ _ ⟨rfl, rfl⟩ -
        simp (config := {maxSteps := 3000000}) only [run_reg, run_seq, at_code_n, ops_nil, ops_mv, ops_fld, ops_ix, ops_load, ops_call, ev_t, put_get, opv_mk, over_get, args0, List.getD_cons_zero, List.getD_cons_succ, vfld, vix, vload, takeV, V.cells, obsOk, List.map_cons, List.map_nil, List.length_cons, List.length_nil, List.getElem?_cons_zero, List.getElem?_cons_succ, and_true, true_and, Nat.reduceEqDiff, Nat.reduceAdd, Int.toNat_natCast, Nat.zero_add, ↓reduceIte, eq_self, Bool.false_eq_true, List.contains_cons, List.contains_nil, Nat.reduceBEq, Bool.or_false, Bool.or_true, h8, opl_get ho]
        repeat (apply And.intro; focus (first | omega | (simp; done)))
        refine Cal.mk (release_v I.pool) ?_
        rintro _ s2 (⟨hg, rfl, rfl⟩ | ⟨⟨y, hg⟩, rfl, rfl⟩) -
        · have hna : o.a ∉ O := fun h => (I.iff o.a).1 h hg
          simp (config := {maxSteps := 3000000}) only [run_skip, run_reg, run_seq, run_exit, run_cond, if_false, at_code_n, at_code_x, at_blk_x, at_rnd_n, ops_nil, ops_mv, ops_bin, ops_binb, vbinb, ev_t, ev_c, put_get, opv_mk, over_get, rel_mk, vbin, vbinI, norm, obsOk, true_and, Nat.reduceEqDiff, Int.reduceLE, Int.reduceNeg, Int.reduceEq, ↓reduceIte, decide_false, Bool.not_true, eq_self, List.contains_cons, List.contains_nil, Nat.reduceBEq, Bool.or_false, Bool.or_true, h8, h7, idxU_none hna, bF]
          repeat (apply And.intro; focus (first | omega | (simp; done)))
          exact ⟨⟨i + 1, held, hes, hc, _, O, by omega, by simp, rfl, by omega, I⟩, by omega⟩
        · obtain ⟨k, hk, hk2, _⟩ := idxU_some ((I.iff o.a).2 (by rw [hg]; simp))
          have hkl := (List.getElem?_eq_some_iff.1 hk2).1
          have hk1 : ((k : Int) + 1).toNat = k + 1 := by omega
          simp (config := {maxSteps := 3000000}) only [run_skip, run_reg, run_seq, run_cond, if_true, if_false, at_code_n, ops_nil, ops_mv, ops_bin, ops_binb, vbinb, ops_slc, ops_bslo, ev_t, ev_c, put_get, opv_mk, over_get, vbin, vbinI, norm, vslc, strip, strip1, obsOk, List.map_nil, Option.map_some, Option.map_none, true_and, Nat.reduceEqDiff, Int.toNat_natCast, Int.reduceNeg, ↓reduceIte, decide_true, Bool.not_true, eq_self, List.contains_cons, List.contains_nil, Nat.reduceBEq, Bool.or_false, Bool.or_true, h7, hk, decide_eq_true (show (0 : Int) ≤ (k : Int) by omega), bT, us_len, us_take, us_drop, allSz_us', hk1]
          repeat (apply And.intro; focus (first | omega | (simp; done)))
          refine Bo.own (by simp [allLen]) ?_
          intro g hg2
          simp (config := {maxSteps := 3000000}) only [ops_app, ev_t, put_get, obsOk, List.length_nil, true_and, Nat.reduceEqDiff, ↓reduceIte, eq_self]
          have R0 : RO 1 st ((s.put hb [.mp false [.int .u32] (mdel (ku o.a) hes) hc]).use g 0) (.sl (.own g 1) []) [] := RO.use (cs := []) (weak_put I.row.weak I.fh) I.row.lt.put hg2
          refine App.mk (l := []) (ys := us (O.take k)) R0.own (allSz_us _) (by simp only [us_len, List.length_nil, List.length_take, maxLen]; omega) (by simp only [us_len, List.length_nil, List.length_take]; omega) ?_
          intro r1 s1 k1 k2
          have R1 := R0.app k1 k2
          rw [List.nil_append] at R1
          simp (config := {maxSteps := 3000000}) only [ops_app, ev_t, put_get, obsOk, true_and, Nat.reduceEqDiff, ↓reduceIte, eq_self]
          refine App.mk (l := us (O.take k)) (ys := us (O.drop (k + 1))) R1.own (allSz_us _) (by simp only [us_len, List.length_drop, List.length_take, maxLen]; omega) (by simp only [us_len, List.length_drop, List.length_take]; omega) ?_
          intro r2 s2 k3 k4
          have R2 := R1.app k3 k4
          rw [us_append] at R2
          simp (config := {maxSteps := 3000000}) only [run_reg, run_exit, at_code_n, at_code_x, at_blk_x, at_rnd_n, ops_nil, ops_mv, ops_bin, ev_t, ev_c, put_get, opv_mk, over_get, rel_mk, vbin, vbinI, norm, obsOk, true_and, Nat.reduceEqDiff, Int.reduceNeg, ↓reduceIte, eq_self, List.contains_cons, List.contains_nil, Nat.reduceBEq, Bool.or_false, Bool.or_true, h8]
          repeat (apply And.intro; focus (first | omega | (simp; done)))
          exact ⟨⟨i + 1, _, _, _, _, _, by omega, by simp, rfl, by simp only [List.length_append, List.length_take, List.length_drop]; omega, I.drop hk2 (by rw [k4.box, k2.box]; rfl) R2⟩, by omega⟩
      · simp (config := {maxSteps := 3000000}) only [run_skip, run_reg, run_seq, run_blk, run_cond, if_true, if_false, at_code_n, ops_nil, ops_mv, ops_bin, ops_fld, ops_ix, ops_load, ops_len, ops_call, ev_t, ev_c, put_get, opv_mk, over_get, vnat, args0, List.getD_cons_zero, List.getD_cons_succ, vbin, vbinI, vfld, vlen, vix, vload, takeV, V.cells, List.map_cons, List.map_nil, List.length_cons, List.length_nil, List.getElem?_cons_zero, List.getElem?_cons_succ, and_true, true_and, Nat.reduceEqDiff, Nat.reduceAdd, Int.toNat_natCast, Int.reduceLT, Nat.zero_add, Nat.add_zero, ↓reduceIte, eq_self, Bool.false_eq_true, List.contains_cons, List.contains_nil, Nat.reduceBEq, Bool.or_false, Bool.or_true, h8, opl_len, opl_get ho, decide_eq_true (show (i : Int) < (C.length : Int) by omega), decide_eq_false c3, decide_eq_false c4]
        repeat (apply And.intro; focus (first | omega | (simp; done)))
        refine Cal.mk (lease_v I.pool hm64) ?_
        rintro _ s2 (⟨_, rfl, rfl⟩ | ⟨a, ha, rfl, rfl⟩) -
        · simp (config := {maxSteps := 3000000}) only [run_reg, run_seq, run_exit, run_cond, if_true, at_code_n, at_code_x, at_blk_x, at_rnd_n, ops_nil, ops_mv, ops_bin, ops_ext, ev_t, ev_c, put_get, opv_mk, over_get, rel_mk, vbin, vbinI, norm, vext, obsOk, List.getElem?_cons_zero, List.getElem?_cons_succ, true_and, Nat.reduceEqDiff, Int.reduceNeg, Int.reduceEq, ↓reduceIte, decide_true, ne_eq, not_false_eq_true, eq_self, List.contains_cons, List.contains_nil, Nat.reduceBEq, Bool.or_false, Bool.or_true, h8, h7]
          repeat (apply And.intro; focus (first | omega | (simp; done)))
          exact ⟨⟨i + 1, held, hes, hc, _, O, by omega, by simp, rfl, by omega, I⟩, by omega⟩
        · have hg := lease_free ha
          have hna : a ∉ O := fun h => (I.iff a).1 h hg
          simp (config := {maxSteps := 3000000}) only [run_skip, run_reg, run_seq, run_cond, if_false, at_code_n, ops_nil, ops_mv, ops_bin, ops_ext, ops_call, ev_t, ev_c, put_get, opv_mk, over_get, vbin, vbinI, vext, obsOk, List.map_cons, List.map_nil, List.getElem?_cons_zero, List.getElem?_cons_succ, true_and, Nat.reduceEqDiff, ↓reduceIte, decide_false, ne_eq, not_true_eq_false, eq_self, List.contains_cons, List.contains_nil, Nat.reduceBEq, Bool.or_false, Bool.or_true, h7]
          refine Cal.mk contains_v ?_
          rintro _ _ ⟨rfl, rfl⟩ -
          rw [decide_eq_false hna]
          simp (config := {maxSteps := 3000000}) only [run_skip, run_reg, run_seq, run_blk, run_cond, if_false, at_code_n, ops_nil, ops_mv, ev_t, ev_c, put_get, opv_mk, obsOk, true_and, ↓reduceIte, eq_self]
          have I' := I.row.put (cs := [.mp false [.int .u32] (mset (ku a) (vstr o.name) hc hes) (mclk hes (ku a) hc)]) I.fh
          refine run_loop [4, 12, 105, 106, 107, 108, 109, 110, 111, 112, 113, 114, 115, 116, 117, 118, 119, 120, 121, 122, 123, 124, 125, 126, 127, 128, 129, 130, 131, 132, 133] (fun C' s' => ∃ j : Nat, j ≤ S.length ∧ C' 12 = .sc (.int .i64 j) ∧ s' = s.put hb [.mp false [.int .u32] (mset (ku a) (vstr o.name) hc hes) (mclk hes (ku a) hc)]) (fun C' _ => S.length - vnat (C' 12)) rfl ?_ ?_
          · simp (config := {maxSteps := 3000000}) only [put_get, and_true, ↓reduceIte, eq_self]
            exact ⟨0, by omega, rfl⟩
          · rintro C' s' ⟨j, hj, h12, rfl⟩
            have hdh' := I.dh
            by_cases hjl : j < S.length
            · obtain ⟨x, hx⟩ := get_ex hjl
              have hxm := List.mem_of_getElem? hx
              by_cases e : x.2 = a
              · have hxn := lease_kept ha hnd hxm e
                simp (config := {maxSteps := 3000000}) only [run_skip, run_reg, run_seq, run_blk, run_cond, if_true, if_false, at_code_n, at_blk_n, at_rnd_n, ops_nil, ops_grd, grd_tt, ops_mv, ops_pick, ops_bin, ops_fld, ops_ix, ops_load, ops_len, ev_t, ev_c, put_get, opv_mk, over_get, rel_mk, vnat, args0, List.getD_cons_zero, List.getD_cons_succ, vpick, vbin, vbinI, vbinS, norm, vfld, vlen, vix, vload, takeV, takeB, V.cells, List.length_cons, List.length_nil, List.getElem?_cons_zero, List.getElem?_cons_succ, and_true, true_and, Nat.reduceEqDiff, Nat.reduceAdd, Int.toNat_natCast, Int.reduceNeg, Nat.zero_add, Nat.add_zero, ↓reduceIte, decide_false, ne_eq, not_true_eq_false, eq_self, Bool.false_eq_true, List.contains_cons, List.contains_nil, Nat.reduceBEq, Bool.or_false, Bool.or_true, h8, h12, put_box_ne hdh', I.shape, sts_len, sts_get hx, opl_get ho, decide_eq_true (show (j : Int) < (S.length : Int) by omega), decide_eq_true e, hxn]
                repeat (apply And.intro; focus (first | omega | (simp; done)))
                exact ⟨⟨j + 1, by omega, by simp⟩, by omega⟩
              · simp (config := {maxSteps := 3000000}) only [run_skip, run_reg, run_seq, run_blk, run_cond, if_true, if_false, at_code_n, at_blk_n, at_rnd_n, ops_nil, ops_grd, grd_ft, ops_mv, ops_pick, ops_bin, ops_fld, ops_ix, ops_load, ops_len, ev_t, ev_c, put_get, opv_mk, over_get, rel_mk, vnat, vpick, vbin, vbinI, norm, vfld, vlen, vix, vload, takeV, takeB, V.cells, List.length_cons, List.length_nil, List.getElem?_cons_zero, List.getElem?_cons_succ, and_true, true_and, Nat.reduceEqDiff, Nat.reduceAdd, Int.toNat_natCast, Int.reduceNeg, Nat.zero_add, ↓reduceIte, eq_self, Bool.false_eq_true, List.contains_cons, List.contains_nil, Nat.reduceBEq, Bool.or_false, Bool.or_true, h12, put_box_ne hdh', I.shape, sts_len, sts_get hx, decide_eq_true (show (j : Int) < (S.length : Int) by omega), decide_eq_false e]
                repeat (apply And.intro; focus (first | omega | (simp; done)))
                exact ⟨⟨j + 1, by omega, by simp⟩, by omega⟩
            · obtain rfl : j = S.length := by omega
              simp (config := {maxSteps := 3000000}) only [run_reg, run_seq, run_exit, run_cond, if_false, at_code_n, at_code_x, at_blk_x, at_rnd_x, ops_nil, ops_mv, ops_bin, ops_fld, ops_load, ops_len, ops_bsl, ops_app, ev_t, put_get, opv_mk, over_get, vnat, vbsl, vbin, vbinI, vfld, vlen, vload, takeV, takeB, V.cells, strip, strip1, allLen, List.map_cons, List.map_nil, List.length_cons, List.length_nil, List.getElem?_cons_zero, List.getElem?_cons_succ, and_true, true_and, Nat.reduceEqDiff, Int.toNat_natCast, Nat.zero_add, ↓reduceIte, decide_false, Int.lt_irrefl, eq_self, Bool.false_eq_true, List.contains_cons, List.contains_nil, Nat.reduceBEq, Bool.or_false, Bool.or_true, h7, h12, put_box_ne hdh', I.shape, sts_len]
              refine App.mk (l := us O) (ys := us [a]) I'.own (allSz_us _) (by simp only [us_len, List.length_cons, List.length_nil, maxLen]; omega) (by simp only [us_len, List.length_cons, List.length_nil]; omega) ?_
              intro r2 s2 k3 k4
              have R2 := I'.app k3 k4
              rw [us_append] at R2
              simp (config := {maxSteps := 3000000}) only [run_reg, at_code_n, at_blk_n, at_rnd_n, ops_nil, ops_mv, ops_bin, ev_t, ev_c, put_get, opv_mk, over_get, rel_mk, vbin, vbinI, norm, obsOk, true_and, Nat.reduceEqDiff, Int.reduceNeg, ↓reduceIte, eq_self, Bool.false_eq_true, List.contains_cons, List.contains_nil, Nat.reduceBEq, Bool.or_false, Bool.or_true, h8]
              repeat (apply And.intro; focus (first | omega | (simp; done)))
              exact ⟨⟨i + 1, _, _, _, _, _, by omega, by simp, rfl, by simp only [List.length_append, List.length_cons, List.length_nil]; omega, I.add hg (by rw [k4.box]) R2⟩, by omega⟩
    · obtain rfl : i = C.length := by omega
      simp (config := {maxSteps := 3000000}) only [run_reg, run_seq, run_exit, run_cond, if_false, at_code_n, at_code_x, at_blk_x, at_rnd_x, ops_nil, ops_mv, ops_bin, ops_len, ops_call, ev_t, put_get, opv_mk, over_get, vnat, args0, List.getD_cons_zero, List.getD_cons_succ, vbin, vbinI, vlen, List.map_nil, true_and, Nat.reduceEqDiff, Int.toNat_natCast, ↓reduceIte, decide_false, Int.lt_irrefl, eq_self, Bool.false_eq_true, List.contains_cons, List.contains_nil, Nat.reduceBEq, Bool.or_false, Bool.or_true, h8, opl_len]
      refine Cal.mk alive29_v ?_
      rintro _ _ ⟨rfl, rfl⟩ -
      simp (config := {maxSteps := 3000000}) only [run_ret, at_code_n, at_fin_r, ops_nil, ops_mv, ev_t, put_get, opv_mk, obsOk, and_true, true_and, ↓reduceIte, vret, rvAll, rvVal, resv_1, eq_self]
      exact ⟨_, _, Wk.refl _, I.row.weak, rfl, rfl⟩
end
end Go.Proofs.Ytlngegoamfklgaa
