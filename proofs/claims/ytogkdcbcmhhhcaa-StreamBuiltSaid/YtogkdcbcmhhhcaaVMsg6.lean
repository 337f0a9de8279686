/- The document's bytes of a message: contract. -/
import Derived.Test.YtogkdcbcmhhhcaaVMsgOf
namespace Go.Proofs.Ytogkdcbcmhhhcaa
open Go

/-- A message, its texts of any length. -/
structure MB.Ok0 (m : MB) : Prop where
  n9 : m.N.length = 9
  t3 : m.T.length = 3
  nr : ∀ x ∈ m.N, 0 ≤ x ∧ x < 4294967296
  tb : ∀ t ∈ m.T, IsB t
theorem MB.Ok.ok0 {m : MB} (h : m.Ok) : m.Ok0 := ⟨h.n9, h.t3, h.nr, h.tb⟩
theorem MRow.later {base s s' : St} {r : V} {L : List Int} (h : MRow base s r L) (hw : s.weak s') (hl : s'.Lt) : MRow base s' r L := by
  obtain ⟨b, cap, spare, rfl, h1, h2, h3, h4⟩ := h.row
  exact ⟨h.weak.trans hw, hl, b, cap, spare, rfl, h1, (hw.box _ _ h2).1, h3, h4⟩
theorem Wk.tup2' {a a' : V} {x : Value} (h : Wk a a') : Wk (.tup [a, .sc x]) (.tup [a', .sc x]) := fun G v hv => by
  cases hv with
  | tup _ vs hl hg =>
    refine .tup _ vs hl fun i c u hc hu => ?_
    match i, hc with
    | 0, hc => simp at hc; subst hc; exact h _ _ (hg 0 _ u rfl hu)
    | 1, hc => simp at hc; subst hc; exact hg 1 _ u rfl hu
theorem strip_last {t : List Int} (h : 0 < t.length) : stripL t = t ↔ t[t.length - 1]? ≠ some 0 := by
  rw [stripL_eq]
  obtain ⟨n, hn⟩ : ∃ n, t.length = n + 1 := ⟨t.length - 1, by omega⟩
  rw [hn, Nat.add_sub_cancel, stripN]
  split
  · rename_i h0
    have := stripN_le t n
    exact ⟨fun e => by omega, fun e => absurd h0 e⟩
  · rename_i h0; exact ⟨fun _ => h0, fun _ => rfl⟩
theorem toPart_txt {k : Int} (h : kOk k) : decide ((toPart k).1 = 116) = isTxt k := by
  unfold kOk at h
  rcases h with rfl | rfl | rfl | rfl | rfl | rfl | rfl <;> decide
section
variable {st : St} {m : MB}
set_option maxRecDepth 100000 in
set_option maxHeartbeats 4000000 in
theorem refBuild_v (hm : m.Ok0) : VCalls Try.prog 41 [m.v] st fun r st' => r = .tup [.sl .no (bs (if okM m then bytesM m else [])), .sc (.bool (okM m))] ∧ st = st' := by
  have key : VCalls Try.prog 41 [m.v] st fun r s => (okM m = false ∧ r = .tup [.sl .nil [], .sc (.bool false)] ∧ st = s) ∨ (okM m = true ∧ ∃ row, MRow st s row (bytesM m) ∧ r = .tup [row, .sc (.bool true)]) := by
    refine vcalls_enter vc41 (Nat.le_of_ble_eq_true rfl) fun hwf hok => ?_
    show Run _ Vc41.body (.fin (finQ Vc41.res _)) _ _
    unfold Vc41
    have hK4 := layout_kOk m.ty
    have hl := layout_len m.ty
    have hcn := layout_cnt m.ty
    have hct := layout_txt m.ty
    have hsm := layout_sum m.ty
    have hS := fun st : St => refSize_v (st := st) m.ty
    have hL := fun st : St => parts16_v (st := st) m.ty
    have hsz := sizeT_le m.ty
    have hpos := sizeT_pos (t := m.ty)
    have hty : 0 < sizeT m.ty → 1 ≤ m.ty ∧ m.ty ≤ 15 := fun h => by
      have := sizeT_pos.1 h
      by_cases c : m.ty < 1 ∨ 15 < m.ty
      · exact absurd (layoutL_none c) this
      · omega
    obtain ⟨W, hW⟩ : ∃ W, bytesM m = W := ⟨_, rfl⟩
    have hWd := hW
    unfold bytesM at hWd
    obtain ⟨X, hX⟩ : ∃ X, rK (layoutL m.ty) m.N m.T = X := ⟨_, rfl⟩
    have hok2 : okM m = (X && decide (0 < sizeT m.ty)) := by unfold okM; rw [hX]
    rw [hW, hok2]
    clear hok2 hW
    generalize layoutL m.ty = K at *
    generalize sizeT m.ty = Z at *
    obtain ⟨C, hC⟩ : ∃ C, C = m.cells := ⟨_, rfl⟩
    have hC13 : C.length = 13 := by rw [hC]; exact MB.len hm.n9 hm.t3
    have g0 : C[0]? = some (.sc (.int .i64 m.ty)) := by rw [hC]; rfl
    have gN : ∀ {n : Nat} {x : Int}, m.N[n]? = some x → C[1 + n]? = some (.sc (.int .u32 x)) := fun h => by rw [hC]; exact MB.getN h
    have gT : ∀ {s : Nat} {t : List Int}, m.T[s]? = some t → C[10 + s]? = some (.sc (.string (strOf t))) := fun h => by rw [hC]; exact MB.getT hm.n9 h
    have hv : m.v = .agg C := by rw [hC]; rfl
    have n9 := hm.n9
    have t3 := hm.t3
    rw [hv]
    clear hok
    simp (config := {maxSteps := 3000000}) only [run_reg, run_seq, at_code_n, ops_nil, ops_mv, ops_fld, ops_load, ops_box, ops_call, ev_t, ev_c, put_get, opv_mk, Bx, put_box_same, args0, List.getD_cons_zero, vfld, vload, takeV, V.cells, ptrV, obsOk, List.map_cons, List.map_nil, List.length_cons, List.length_nil, true_and, Nat.reduceEqDiff, Nat.zero_add, Nat.add_zero, ↓reduceIte, ne_eq, not_false_eq_true, eq_self, reduceCtorEq, hC13, g0]
    intro b hb
    refine Cal.mk (hS _) ?_
    rintro _ _ ⟨rfl, rfl⟩ -
    by_cases hZ0 : Z = 0
    · simp (config := {maxSteps := 3000000}) only [run_reg, run_seq, run_ret, run_cond, if_true, at_code_n, at_code_r, at_fin_r, ops_nil, ops_mv, ops_bin, ev_t, ev_c, put_get, opv_mk, args0, vbin, vbinI, vload, takeV, V.cells, obsOk, List.map_cons, List.map_nil, and_true, true_and, Nat.reduceEqDiff, ↓reduceIte, vret, rvAll, rvVal, resv_2, decide_true, decide_false, Int.lt_irrefl, eq_self, hZ0]
      exact ⟨_, _, Wk.refl _, weak_put hwf.weak hb, .inl ⟨by simp [], rfl, rfl⟩⟩
    have hZp : 0 < Z := by omega
    have hty := hty hZp
    have eX : (X && decide (0 < Z)) = X := by rw [decide_eq_true hZp, Bool.and_true]
    rw [eX]
    have e1 : Z % 18446744073709551616 = Z := by omega
    have e2 : m.ty % 18446744073709551616 = m.ty := by omega
    simp (config := {maxSteps := 3000000}) only [run_skip, run_reg, run_seq, run_cond, if_false, at_code_n, ops_nil, ops_bin, ops_fld, ops_load, ops_call, ev_t, ev_c, put_get, opv_mk, put_box_same, vbin, vbinI, vfld, vload, takeV, V.cells, obsOk, List.map_cons, List.map_nil, List.length_cons, List.length_nil, true_and, Nat.reduceEqDiff, Nat.zero_add, Nat.add_zero, ↓reduceIte, eq_self, decide_eq_false hZ0, g0]
    refine Cal.mk (hS _) ?_
    rintro _ _ ⟨rfl, rfl⟩ -
    simp (config := {maxSteps := 3000000}) only [ops_conv, ops_call, ev_t, ev_c, put_get, opv_mk, vconv, norm, obsOk, List.map_cons, List.map_nil, true_and, ↓reduceIte, eq_self, e1]
    have hw0 : (st.put b C).weak (st.put b C) := (hwf.lt.put).weak
    refine Cal.mk (rPut_b (L := []) (size := 2) (BSrc.sl (tk := .nil) (M := [])) (by simp) (by omega) (by omega)) ?_
    rintro r1 s1 k1 -
    rw [if_neg (by omega), List.nil_append] at k1
    change MRow _ s1 r1 (beL Z 2) at k1
    simp (config := {maxSteps := 3000000}) only [run_reg, run_seq, at_code_n, ops_nil, ops_mv, ops_call, ev_t, ev_c, put_get, opv_mk, obsOk, List.map_cons, List.map_nil, true_and, ↓reduceIte, eq_self]
    refine Cal.mk (rPut2_b k1 (by simp [beL_len]) (by omega) (by omega)) ?_
    rintro r2 s2 k2 -
    simp (config := {maxSteps := 3000000}) only [ops_call, ev_t, ev_c, put_get, obsOk, List.map_cons, List.map_nil, true_and, ↓reduceIte, eq_self]
    refine Cal.mk (rPut4_b k2 (by simp [beL_len]) (by omega) (by omega)) ?_
    rintro r3 s3 k3 -
    have bx3 : s3.box b = some C := (k3.weak.box b C put_box_same).1
    simp (config := {maxSteps := 3000000}) only [run_reg, run_seq, at_code_n, ops_nil, ops_mv, ops_conv, ops_fld, ops_load, ops_call, ev_t, ev_c, put_get, opv_mk, vconv, norm, vfld, vload, takeV, V.cells, obsOk, List.map_cons, List.map_nil, List.length_cons, List.length_nil, true_and, Nat.reduceEqDiff, Nat.zero_add, Nat.add_zero, ↓reduceIte, eq_self, bx3, g0, e2]
    refine Cal.mk (rPut4_b k3 (by simp [beL_len]) (by omega) (by omega)) ?_
    rintro r4 s4 k4 -
    clear k1 k2 k3 bx3
    have eL : beL Z 2 ++ beL 1 2 ++ beL 439041101 4 ++ beL m.ty 4 = [Z / 256 % 256, Z % 256, 0, 1, 26, 43, 60, 77, m.ty / 16777216 % 256, m.ty / 65536 % 256, m.ty / 256 % 256, m.ty % 256] := by
      simp [beL2, beL4]
    rw [eL] at k4
    have eH : [Z / 256 % 256, Z % 256, 0, 1, 26, 43, 60, 77, m.ty / 256 % 256, m.ty % 256, m.ty / 16777216 % 256, m.ty / 65536 % 256] = hdrL Z m.ty := by
      have q1 : m.ty / 16777216 % 256 = 0 := by omega
      have q2 : m.ty / 65536 % 256 = 0 := by omega
      rw [q1, q2]
      simp [hdrL, beL2, beL4]
    obtain ⟨c, cap, spare, rfl, hge, hbox, hlen, hcm⟩ := k4.row
    have bx4 : s4.box b = some C := (k4.weak.box b C put_box_same).1
    have hbc : b < c := by simp only [put_sz] at hge; omega
    simp (config := {maxSteps := 3000000}) only [run_reg, run_seq, at_code_n, ops_nil, ops_mv, ops_fld, ops_ix, ops_load, ops_store, ops_call, ev_t, ev_c, put_get, put_none, opv_mk, stb_some, sto_ptr, Stp, put_box_same, put_put, vfld, vix, vload, takeV, splice, V.cells, obsOk, List.map_cons, List.map_nil, List.length_cons, List.length_nil, List.getElem?_cons_zero, List.getElem?_cons_succ, List.take_succ_cons, List.take_zero, List.drop_succ_cons, List.drop_zero, List.cons_append, List.nil_append, true_and, Nat.reduceEqDiff, Nat.reduceAdd, Nat.reduceLT, Nat.reduceLeDiff, Nat.reduceLT, Int.reduceToNat, Int.reduceLE, Nat.zero_add, Nat.add_zero, Nat.mul_one, ↓reduceIte, eq_self, hbox, bs_cons, put_box_ne (Nat.ne_of_lt hbc), bx4, g0]
    repeat (apply And.intro; focus (first | omega | (simp; done)))
    refine Cal.mk (hL _) ?_
    rintro _ _ ⟨rfl, rfl⟩ -
    have hdone : ∀ {s : St} {x : V} {L : List Int}, MRow (st.put b C) s x L → MRow st s x L := fun h => h.rebase (weak_put hwf.weak hb)
    simp (config := {maxSteps := 3000000}) only [run_reg, run_seq, run_blk, at_code_n, ops_nil, ops_mv, ev_t, ev_c, put_get, opv_mk, obsOk, true_and, ↓reduceIte, eq_self]
    refine run_loop [2, 3, 4, 6, 7, 8, 9, 10, 11, 52, 53, 54, 55, 56, 57, 58, 59, 60, 61, 62, 63, 64, 65, 66, 67, 68, 69, 70, 71, 72, 73, 74, 75, 76, 77, 78, 79, 80, 81, 82, 83, 84, 85, 86, 87, 88, 89, 90, 91, 92, 93, 94, 95, 96, 97, 98, 99, 100, 101, 102, 103, 104, 105, 106, 107, 108, 109, 110, 111, 112, 113, 114, 115, 116, 117, 118, 119, 120, 121, 122, 123, 124, 125] (fun B s => ∃ (i n q : Nat) (L' : List Int), i ≤ K.length ∧ B 8 = .sc (.int .i64 i) ∧ B 6 = .sc (.int .i64 n) ∧ B 7 = .sc (.int .i64 q) ∧ MRow (st.put b C) s (B 4) L' ∧ L' ++ bK (K.drop i) (m.N.drop n) (m.T.drop q) = W ∧ X = rK (K.drop i) (m.N.drop n) (m.T.drop q) ∧
      n + (K.drop i).countP isNum ≤ 9 ∧ q + (K.drop i).countP isTxt ≤ 3 ∧ L'.length ≤ 12 + 200000000 * i) (fun B _ => K.length - vnat (B 8)) rfl ?_ ?_
    · simp (config := {maxSteps := 3000000}) only [put_get, Nat.reduceEqDiff, ↓reduceIte, eq_self]
      refine ⟨0, 0, 0, hdrL Z m.ty, by omega, by simp, by simp, by simp, ?_, hWd, hX.symm, by simpa using hcn, by simpa using hct, by rw [hdrL_len]; omega⟩
      rw [← eH]
      exact MRow.put (L := [Z / 256 % 256, Z % 256, 0, 1, 26, 43, 60, 77, m.ty / 256 % 256, m.ty % 256, m.ty / 16777216 % 256, m.ty / 65536 % 256]) k4.weak k4.lt hge hlen hcm
    · clear eH eL hbox hlen bx4 hX
      rintro B s ⟨i, n, q, L', hi, h8, h6, h7, hR, he, hr, hn, hq, hll⟩
      have bx : s.box b = some C := (hR.weak.box b C put_box_same).1
      have hwk : st.weak s := (weak_put hwf.weak hb).trans hR.weak
      have bad : X = false → ∀ {A : Nat → V}, A 2 = .sl .nil [] → A 3 = .sc (.bool false) → True := fun _ _ _ _ => trivial
      clear bad
      by_cases hlt : i < K.length
      · obtain ⟨k, hk⟩ := get_ex hlt
        have hko := hK4 k (List.mem_of_getElem? hk)
        have hpn := toPart_num hko
        have hpt := toPart_txt hko
        have hps := toPart_sz k hko
        have hkk := hko
        unfold kOk at hkk
        have hlt' := decide_eq_true (show (i : Int) < (K.length : Int) by omega)
        have hsd : K.drop i = k :: K.drop (i + 1) := drop_cons hk
        rw [hsd, List.countP_cons] at hn hq
        rw [hsd] at he hr
        by_cases c1 : 0 < k ∧ k ≤ 4
        · have e1' : isTxt k = false := by simp [isTxt]; omega
          have e2' : isNum k = true := by simp [isNum]; omega
          rw [e2'] at hn hpn; rw [e1'] at hq
          simp only [↓reduceIte] at hn
          obtain ⟨x, hx⟩ := get_ex (L := m.N) (i := n) (by omega)
          have xr := hm.nr x (List.mem_of_getElem? hx)
          have gx := gN hx
          have ex : x % 18446744073709551616 = x := by omega
          have hka : (k.natAbs : Int) = k := by omega
          rw [bK_num (by omega) (by omega), headD_drop hx, tail_drop', ← List.append_assoc] at he
          rw [rK_num (by omega) (by omega), headD_drop hx, tail_drop'] at hr
          rw [hka] at hps
          simp (config := {maxSteps := 3000000}) only [run_skip, run_reg, run_seq, run_blk, run_cond, if_true, at_code_n, ops_nil, ops_mv, ops_bin, ops_conv, ops_fld, ops_ix, ops_ixa, ops_load, ops_len, ops_call, ev_t, ev_c, put_get, opv_mk, over_get, vnat, vbin, vbinI, vconv, norm, vfld, vlen, vix, vixa, vload, takeV, V.cells, List.map_cons, List.map_nil, List.length_cons, List.length_nil, List.getElem?_cons_zero, List.getElem?_cons_succ, Option.map_some, and_true, true_and, Nat.reduceEqDiff, Nat.reduceAdd, Int.toNat_natCast, Nat.zero_add, Nat.add_zero, Nat.mul_one, ↓reduceIte, eq_self, Bool.false_eq_true, List.contains_cons, List.contains_nil, Nat.reduceBEq, Bool.or_false, Bool.or_true, h8, h6, ps_len, List.length_map, ps_get, List.getElem?_map, hk, hlt', hpn, hps, bx, gx, ex]
          repeat (apply And.intro; focus (first | omega | (simp; done)))
          refine Cal.mk (rPut_v (tk := .nil) (L := []) (size := k) isB_nil (by simp) (by omega) (by omega)) ?_
          rintro r6 s6 ⟨q1, q2⟩ -
          rw [if_neg (by omega), List.nil_append] at q1
          have hR6 := hR.later q2.weak q2.lt
          have bx6 : s6.box b = some C := (hR6.weak.box b C put_box_same).1
          obtain ⟨tk6, rfl⟩ := q1.sl
          have hnum : numL (beL x k.toNat) = x % 256 ^ k.toNat := numL_beL x xr.1 k.toNat
          simp (config := {maxSteps := 3000000}) only [run_reg, run_seq, at_code_n, ops_nil, ops_mv, ops_conv, ops_fld, ops_ixa, ops_load, ops_call, ev_t, put_get, opv_mk, over_get, vconv, norm, vfld, vixa, vload, takeV, V.cells, obsOk, List.map_cons, List.map_nil, List.length_cons, List.length_nil, true_and, Nat.reduceEqDiff, Int.toNat_natCast, Nat.zero_add, Nat.mul_one, ↓reduceIte, eq_self, Bool.false_eq_true, List.contains_cons, List.contains_nil, Nat.reduceBEq, Bool.or_false, Bool.or_true, h6, bx6, gx, ex]
          repeat (apply And.intro; focus (first | omega | (simp; done)))
          refine Cal.mk (rNum_v (beL_isB _ _) (by rw [beL_len]; omega)) ?_
          rintro _ _ ⟨rfl, rfl⟩ -
          rw [hnum]
          have hp : 0 < (256 : Int) ^ k.toNat := pow256_pos _
          by_cases c3 : x < 256 ^ k.toNat
          · have em : x % 256 ^ k.toNat = x := Int.emod_eq_of_lt xr.1 c3
            rw [decide_eq_true c3, Bool.true_and] at hr
            simp (config := {maxSteps := 3000000}) only [run_skip, run_reg, run_seq, run_cond, if_false, at_code_n, ops_nil, ops_mv, ops_bin, ops_app, ev_t, put_get, opv_mk, over_get, vbin, vbinI, vload, takeV, V.cells, obsOk, List.length_cons, List.length_nil, and_true, true_and, Nat.reduceEqDiff, Nat.zero_add, ↓reduceIte, decide_false, ne_eq, not_true_eq_false, eq_self, List.contains_cons, List.contains_nil, Nat.reduceBEq, Bool.or_false, Bool.or_true, em, bx6, gx]
            repeat (apply And.intro; focus (first | omega | (simp; done)))
            refine App.row hR6 (by rw [beL_len]; omega) ?_
            intro r7 s7 k7 _
            simp (config := {maxSteps := 3000000}) only [run_reg, run_seq, run_exit, at_code_n, at_code_x, at_blk_x, at_rnd_n, ops_nil, ops_mv, ops_bin, ev_t, ev_c, put_get, opv_mk, over_get, rel_mk, vbin, vbinI, norm, obsOk, true_and, Nat.reduceEqDiff, Int.reduceNeg, ↓reduceIte, eq_self, List.contains_cons, List.contains_nil, Nat.reduceBEq, Bool.or_false, Bool.or_true, h8, h6, h7]
            repeat (apply And.intro; focus (first | omega | (simp; done)))
            exact ⟨⟨i + 1, n + 1, q, _, by omega, by simp, by simp, by first | exact h7 | simp, k7, he, hr, by omega, by simpa using hq, by simp [beL_len]; omega⟩, by omega⟩
          · have hlt2 := Int.emod_lt_of_pos x hp
            rw [decide_eq_false c3, Bool.false_and] at hr
            have hne := decide_eq_true (show ¬ x % 256 ^ k.toNat = x by omega)
            simp (config := {maxSteps := 3000000}) only [run_reg, run_seq, run_ret, run_cond, if_true, at_code_n, at_code_r, at_blk_r, at_rnd_r, at_fin_r, ops_nil, ops_mv, ops_bin, ev_t, ev_c, put_get, opv_mk, over_get, args0, vbin, vbinI, vload, takeV, V.cells, obsOk, List.map_cons, List.map_nil, List.length_cons, List.length_nil, and_true, true_and, Nat.reduceEqDiff, Nat.zero_add, ↓reduceIte, vret, rvAll, rvVal, resv_2, ne_eq, eq_self, List.contains_cons, List.contains_nil, Bool.or_false, bx6, gx, hne]
            repeat (apply And.intro; focus (first | omega | (simp; done)))
            exact ⟨_, _, Wk.refl _, (weak_put hwf.weak hb).trans hR6.weak, .inl ⟨hr, rfl, rfl⟩⟩
        · have e2' : isNum k = false := by simp [isNum]; omega
          rw [e2'] at hn hpn
          by_cases c2 : 4 < k
          · have e1' : isTxt k = true := by simp [isTxt, c2]
            rw [e1'] at hq hpt
            simp only [↓reduceIte] at hq
            obtain ⟨t, ht⟩ := get_ex (L := m.T) (i := q) (by omega)
            have tB := hm.tb t (List.mem_of_getElem? ht)
            have gt := gT ht
            have hbl : byL (strOf t) = bs t := byL_strOf tB
            have hbt : bytesOf (strOf t) = t := bytesOf_strOf tB
            have hka : (k.natAbs : Int) = k := by omega
            rw [hka] at hps
            rw [bK_txt c2, headD_drop ht, tail_drop', padT, List.append_assoc, ← List.append_assoc, ← List.append_assoc] at he
            rw [rK_txt c2, headD_drop ht, tail_drop'] at hr
            have etn : (k - (t.length : Int)).toNat = k.toNat - t.length := by omega
            by_cases d1 : k < (t.length : Int)
            · have hf : tOk k t = false := by simp [tOk]; omega
              rw [hf, Bool.false_and] at hr
              simp (config := {maxSteps := 3000000}) only [run_skip, run_reg, run_seq, run_blk, run_ret, run_cond, if_true, if_false, at_code_n, at_code_r, at_blk_r, at_rnd_r, at_fin_r, ops_nil, ops_grd, grd_und, grd_tf, ops_mv, ops_pick, ops_bin, ops_fld, ops_ix, ops_ixa, ops_load, ops_len, ops_slen, ev_t, ev_c, put_get, opv_mk, over_get, vnat, args0, vpick, vbin, vbinI, norm, vfld, vlen, vslen, vix, vixa, vload, takeV, V.cells, List.map_cons, List.map_nil, List.length_cons, List.length_nil, List.getElem?_cons_zero, List.getElem?_cons_succ, Option.map_some, and_true, true_and, Nat.reduceEqDiff, Nat.reduceAdd, Int.toNat_natCast, Int.reduceNeg, Nat.zero_add, Nat.add_zero, Nat.mul_one, ↓reduceIte, vret, rvAll, rvVal, resv_2, eq_self, Bool.false_eq_true, List.contains_cons, List.contains_nil, Nat.reduceBEq, Bool.or_false, Bool.or_true, h8, h7, ps_len, List.length_map, ps_get, List.getElem?_map, hk, hlt', hpn, hpt, hps, bx, gt, strOf_size, decide_eq_true d1]
              repeat (apply And.intro; focus (first | omega | (simp; done)))
              exact ⟨_, _, Wk.refl _, hwk, .inl ⟨hr, rfl, rfl⟩⟩
            by_cases d2 : t.length = 0
            · have ht0 : t = [] := List.eq_nil_of_length_eq_zero d2
              have hf : tOk k t = true := by rw [ht0]; simp [tOk, stripL]; omega
              rw [hf, Bool.true_and] at hr
              simp (config := {maxSteps := 3000000}) only [run_skip, run_reg, run_seq, run_blk, run_cond, if_true, if_false, at_code_n, ops_nil, ops_grd, grd_ff, grd_ft, ops_mv, ops_pick, ops_bin, srcX, ops_appx, apx_mk, ops_fld, ops_ix, ops_ixa, ops_load, ops_len, ops_slen, ev_t, ev_c, put_get, opv_mk, over_get, vnat, vpick, vbin, vbinI, norm, vfld, vlen, vslen, vix, vixa, vload, takeV, V.cells, List.length_cons, List.length_nil, List.getElem?_cons_zero, List.getElem?_cons_succ, Option.map_some, and_true, true_and, Nat.reduceEqDiff, Nat.reduceAdd, Int.toNat_natCast, Int.reduceNeg, Nat.zero_add, Nat.add_zero, Nat.mul_one, ↓reduceIte, eq_self, Bool.false_eq_true, List.contains_cons, List.contains_nil, Nat.reduceBEq, Bool.or_false, Bool.or_true, h8, h7, ps_len, List.length_map, ps_get, List.getElem?_map, hk, hlt', hpn, hpt, hps, bx, gt, strOf_size, decide_eq_false d1, decide_eq_false (show ¬ (0 : Int) < (t.length : Int) by omega), hbl]
              repeat (apply And.intro; focus (first | omega | (simp; done)))
              refine App.row hR (by omega) ?_
              intro r6 s6 k6 _
              simp (config := {maxSteps := 3000000}) only [ops_mv, ops_bin, srcX, ops_appx, apx_mk, ops_slen, ev_t, put_get, opv_mk, vbin, vbinI, norm, vslen, obsOk, true_and, Nat.reduceEqDiff, Int.reduceNeg, ↓reduceIte, eq_self, strOf_size, etn]
              repeat (apply And.intro; focus (first | omega | (simp; done)))
              rw [bs_rep]
              refine App.row k6 (by simp; omega) ?_
              intro r7 s7 k7 _
              simp (config := {maxSteps := 3000000}) only [run_reg, at_code_n, at_blk_n, at_rnd_n, ops_nil, ops_mv, ops_bin, ev_t, ev_c, put_get, opv_mk, over_get, rel_mk, vbin, vbinI, norm, obsOk, true_and, Nat.reduceEqDiff, Int.reduceNeg, ↓reduceIte, eq_self, List.contains_cons, List.contains_nil, Nat.reduceBEq, Bool.or_false, Bool.or_true, h8, h6]
              repeat (apply And.intro; focus (first | omega | (simp; done)))
              exact ⟨⟨i + 1, n, q + 1, _, by omega, by simp, by first | exact h6 | simp, by simp, k7, he, hr, by simpa using hn, by omega, by simp; omega⟩, by omega⟩
            · obtain ⟨z, hz⟩ := get_ex (L := t) (i := t.length - 1) (by omega)
              have eln : ((t.length : Int) - 1).toNat = t.length - 1 := by omega
              have hsl := strip_last (t := t) (by omega)
              rw [hz] at hsl
              by_cases d3 : z = 0
              · have hf : tOk k t = false := by
                  have : ¬ stripL t = t := fun h => (hsl.1 h) (by rw [d3])
                  simp [tOk, this]
                rw [hf, Bool.false_and] at hr
                simp (config := {maxSteps := 3000000}) only [run_skip, run_reg, run_seq, run_blk, run_ret, run_cond, if_true, if_false, at_code_n, at_code_r, at_blk_r, at_rnd_r, at_fin_r, ops_nil, ops_grd, grd_tt, grd_ff, ops_mv, ops_pick, ops_bin, ops_sidx, vsidx, ops_fld, ops_ix, ops_ixa, ops_load, ops_len, ops_slen, ev_t, ev_c, put_get, opv_mk, over_get, vnat, args0, vpick, vbin, vbinI, norm, vfld, vlen, vslen, vix, vixa, vload, takeV, V.cells, List.map_cons, List.map_nil, List.length_cons, List.length_nil, List.getElem?_cons_zero, List.getElem?_cons_succ, Option.map_some, and_true, true_and, Nat.reduceEqDiff, Nat.reduceAdd, Int.toNat_natCast, Int.reduceNeg, Nat.zero_add, Nat.add_zero, Nat.mul_one, ↓reduceIte, vret, rvAll, rvVal, resv_2, eq_self, Bool.false_eq_true, List.contains_cons, List.contains_nil, Nat.reduceBEq, Bool.or_false, Bool.or_true, h8, h7, ps_len, List.length_map, ps_get, List.getElem?_map, hk, hlt', hpn, hpt, hps, bx, gt, strOf_size, decide_eq_false d1, decide_eq_true (show (0 : Int) < (t.length : Int) by omega), hbt, eln, hz, decide_eq_true d3]
                repeat (apply And.intro; focus (first | omega | (simp; done)))
                exact ⟨_, _, Wk.refl _, hwk, .inl ⟨hr, rfl, rfl⟩⟩
              · have hf : tOk k t = true := by
                  have : stripL t = t := hsl.2 (fun h => d3 (by cases h; rfl))
                  simp [tOk, this]; omega
                rw [hf, Bool.true_and] at hr
                simp (config := {maxSteps := 3000000}) only [run_skip, run_reg, run_seq, run_blk, run_cond, if_true, if_false, at_code_n, ops_nil, ops_grd, grd_tt, grd_ff, ops_mv, ops_pick, ops_bin, ops_sidx, vsidx, srcX, ops_appx, apx_mk, ops_fld, ops_ix, ops_ixa, ops_load, ops_len, ops_slen, ev_t, ev_c, put_get, opv_mk, over_get, vnat, vpick, vbin, vbinI, norm, vfld, vlen, vslen, vix, vixa, vload, takeV, V.cells, List.length_cons, List.length_nil, List.getElem?_cons_zero, List.getElem?_cons_succ, Option.map_some, and_true, true_and, Nat.reduceEqDiff, Nat.reduceAdd, Int.toNat_natCast, Int.reduceNeg, Nat.zero_add, Nat.add_zero, Nat.mul_one, ↓reduceIte, eq_self, Bool.false_eq_true, List.contains_cons, List.contains_nil, Nat.reduceBEq, Bool.or_false, Bool.or_true, h8, h7, ps_len, List.length_map, ps_get, List.getElem?_map, hk, hlt', hpn, hpt, hps, bx, gt, strOf_size, decide_eq_false d1, decide_eq_true (show (0 : Int) < (t.length : Int) by omega), hbt, eln, hz, decide_eq_false d3, hbl]
                repeat (apply And.intro; focus (first | omega | (simp; done)))
                refine App.row hR (by omega) ?_
                intro r6 s6 k6 _
                simp (config := {maxSteps := 3000000}) only [ops_mv, ops_bin, srcX, ops_appx, apx_mk, ops_slen, ev_t, put_get, opv_mk, vbin, vbinI, norm, vslen, obsOk, true_and, Nat.reduceEqDiff, Int.reduceNeg, ↓reduceIte, eq_self, strOf_size, etn]
                repeat (apply And.intro; focus (first | omega | (simp; done)))
                rw [bs_rep]
                refine App.row k6 (by simp; omega) ?_
                intro r7 s7 k7 _
                simp (config := {maxSteps := 3000000}) only [run_reg, at_code_n, at_blk_n, at_rnd_n, ops_nil, ops_mv, ops_bin, ev_t, ev_c, put_get, opv_mk, over_get, rel_mk, vbin, vbinI, norm, obsOk, true_and, Nat.reduceEqDiff, Int.reduceNeg, ↓reduceIte, eq_self, List.contains_cons, List.contains_nil, Nat.reduceBEq, Bool.or_false, Bool.or_true, h8, h6]
                repeat (apply And.intro; focus (first | omega | (simp; done)))
                exact ⟨⟨i + 1, n, q + 1, _, by omega, by simp, by first | exact h6 | simp, by simp, k7, he, hr, by simpa using hn, by omega, by simp; omega⟩, by omega⟩
          · have e1' : isTxt k = false := by simp [isTxt]; omega
            rw [e1'] at hq hpt
            have c3 : k < 0 := by omega
            rw [bK_neg c3, ← List.append_assoc] at he
            rw [rK_neg c3] at hr
            have hbl : byL (strOf []) = bs [] := byL_strOf isB_nil
            have ekn : k.natAbs = (-k).toNat := by omega
            simp (config := {maxSteps := 3000000}) only [run_skip, run_reg, run_seq, run_blk, run_cond, if_true, if_false, at_code_n, ops_nil, ops_grd, grd_ff, grd_ft, ops_mv, ops_pick, ops_bin, srcX, ops_appx, apx_mk, ops_fld, ops_ix, ops_load, ops_len, ops_slen, ev_t, ev_c, put_get, opv_mk, over_get, vnat, vpick, vbin, vbinI, vfld, vlen, vslen, vix, vload, takeV, V.cells, List.length_cons, List.length_nil, List.getElem?_cons_zero, List.getElem?_cons_succ, Option.map_some, and_true, true_and, Nat.reduceEqDiff, Nat.reduceAdd, Int.toNat_natCast, Nat.zero_add, Nat.add_zero, ↓reduceIte, decide_false, Int.lt_irrefl, eq_self, Bool.false_eq_true, List.contains_cons, List.contains_nil, Nat.reduceBEq, Bool.or_false, Bool.or_true, h8, ps_len, List.length_map, ps_get, List.getElem?_map, hk, hlt', hpn, hpt, hps, strOf_nil, strOf_size, hbl, nc0, decide_eq_false (show ¬ (k.natAbs : Int) < 0 by omega)]
            repeat (apply And.intro; focus (first | omega | (simp; done)))
            refine App.row hR (by simp; omega) ?_
            intro r6 s6 k6 _
            rw [List.append_nil] at k6
            simp (config := {maxSteps := 3000000}) only [ops_mv, ops_bin, srcX, ops_appx, apx_mk, ops_slen, ev_t, put_get, opv_mk, vbin, vbinI, norm, vslen, obsOk, List.length_nil, true_and, Nat.reduceEqDiff, Int.reduceNeg, ↓reduceIte, eq_self, strOf_size]
            repeat (apply And.intro; focus (first | omega | (simp; done)))
            rw [bs_rep]
            refine App.row k6 (by simp; omega) ?_
            intro r7 s7 k7 _
            simp (config := {maxSteps := 3000000}) only [run_reg, at_code_n, at_blk_n, at_rnd_n, ops_nil, ops_mv, ops_bin, ev_t, ev_c, put_get, opv_mk, over_get, rel_mk, vbin, vbinI, norm, obsOk, true_and, Nat.reduceEqDiff, Int.reduceNeg, ↓reduceIte, eq_self, List.contains_cons, List.contains_nil, Nat.reduceBEq, Bool.or_false, Bool.or_true, h8, h6, h7]
            repeat (apply And.intro; focus (first | omega | (simp; done)))
            exact ⟨⟨i + 1, n, q, _, by omega, by simp, by first | exact h6 | simp, by first | exact h7 | simp, k7, by rw [← he]; simp [ekn]; omega, hr, by simpa using hn, by simpa using hq, by simp; omega⟩, by omega⟩
      · obtain rfl : i = K.length := by omega
        rw [List.drop_of_length_le (Nat.le_refl _)] at he hr hn hq
        rw [bK_nil, List.append_nil] at he
        subst he
        simp only [List.countP_nil, Nat.add_zero] at hn hq
        obtain ⟨c', cap', hR4, hc1, hc2⟩ := hR.is
        simp (config := {maxSteps := 3000000}) only [run_reg, run_seq, run_blk, run_exit, run_cond, if_false, at_code_n, at_code_x, at_blk_x, at_rnd_x, ops_nil, ops_mv, ops_bin, ops_len, ev_t, put_get, opv_mk, over_get, vnat, vbin, vbinI, vlen, true_and, Nat.reduceEqDiff, Int.toNat_natCast, ↓reduceIte, decide_false, Int.lt_irrefl, eq_self, Bool.false_eq_true, List.contains_cons, List.contains_nil, Nat.reduceBEq, Bool.or_false, Bool.or_true, h8, ps_len, List.length_map]
        refine run_loop [2, 3, 6, 126, 127, 128, 129, 130, 131, 132, 133, 134] (fun B s' => s' = s ∧ ∃ n : Nat, n ≤ 9 ∧ B 6 = .sc (.int .i64 n) ∧ X = rK [] (m.N.drop n) (m.T.drop q)) (fun B _ => 9 - vnat (B 6)) rfl ?_ ?_
        · simp (config := {maxSteps := 3000000}) only [put_get, over_get, true_and, Nat.reduceEqDiff, ↓reduceIte, eq_self, List.contains_cons, List.contains_nil, Nat.reduceBEq, Bool.or_false, Bool.or_true, h6]
          exact ⟨n, hn, rfl, hr⟩
        · rintro B2 s2 ⟨rfl, n, hn, h6, hX⟩
          have hX2 : X = ((m.N.drop n).all (fun x => decide (x = 0)) && (m.T.drop q).all (fun x => decide (x = []))) := hX
          by_cases hlt : n < 9
          · obtain ⟨x, hx⟩ := get_ex (L := m.N) (i := n) (by omega)
            have gx := gN hx
            rw [drop_cons hx, List.all_cons] at hX2
            by_cases c0 : x = 0
            · simp (config := {maxSteps := 3000000}) only [run_skip, run_reg, run_seq, run_blk, run_cond, if_true, if_false, at_code_n, at_blk_n, at_rnd_n, ops_nil, ops_mv, ops_bin, ops_fld, ops_ixa, ops_load, ev_t, ev_c, put_get, opv_mk, over_get, rel_mk, vnat, vbin, vbinI, norm, vfld, vixa, vload, takeV, V.cells, List.length_cons, List.length_nil, true_and, Nat.reduceEqDiff, Int.toNat_natCast, Int.reduceNeg, Nat.zero_add, Nat.mul_one, ↓reduceIte, ne_eq, eq_self, Bool.false_eq_true, List.contains_cons, List.contains_nil, Nat.reduceBEq, Bool.or_false, Bool.or_true, h6, gx, bx, decide_eq_true (show (n : Int) < 9 by omega), decide_eq_false (show ¬ ¬ x = 0 from fun h => h c0)]
              repeat (apply And.intro; focus (first | omega | (simp; done)))
              exact ⟨⟨n + 1, by omega, by simp, by rw [hX2, decide_eq_true c0, Bool.true_and]; rfl⟩, by omega⟩
            · simp (config := {maxSteps := 3000000}) only [run_skip, run_reg, run_seq, run_blk, run_ret, run_cond, if_true, at_code_n, at_code_r, at_blk_r, at_rnd_r, at_fin_r, ops_nil, ops_mv, ops_bin, ops_fld, ops_ixa, ops_load, ev_t, ev_c, put_get, opv_mk, over_get, vnat, args0, vbin, vbinI, vfld, vixa, vload, takeV, V.cells, List.map_cons, List.map_nil, List.length_cons, List.length_nil, and_true, true_and, Nat.reduceEqDiff, Int.toNat_natCast, Nat.zero_add, Nat.mul_one, ↓reduceIte, vret, rvAll, rvVal, resv_2, ne_eq, eq_self, Bool.false_eq_true, List.contains_cons, List.contains_nil, Nat.reduceBEq, Bool.or_false, Bool.or_true, h6, gx, bx, decide_eq_true (show (n : Int) < 9 by omega), decide_eq_true c0]
              repeat (apply And.intro; focus (first | omega | (simp; done)))
              exact ⟨_, _, Wk.refl _, hwk, .inl ⟨by rw [hX2, decide_eq_false c0]; rfl, rfl, rfl⟩⟩
          · obtain rfl : n = 9 := by omega
            rw [List.drop_of_length_le (by omega), List.all_nil, Bool.true_and] at hX2
            clear hX hr
            simp (config := {maxSteps := 3000000}) only [run_reg, run_seq, run_blk, run_exit, run_cond, if_false, at_code_n, at_code_x, at_blk_x, at_rnd_x, ops_nil, ops_mv, ops_bin, ev_t, ev_c, put_get, opv_mk, over_get, vnat, vbin, vbinI, true_and, Nat.reduceSub, Int.reduceToNat, ↓reduceIte, decide_false, Int.lt_irrefl, eq_self, List.contains_cons, List.contains_nil, Nat.reduceBEq, Bool.or_false, Bool.or_true, h6, nc9']
            refine run_loop [2, 3, 7, 135, 136, 137, 138, 139, 140, 141, 142, 143] (fun B s' => s' = s2 ∧ ∃ q : Nat, q ≤ 3 ∧ B 7 = .sc (.int .i64 q) ∧ X = (m.T.drop q).all (fun x => decide (x = []))) (fun B _ => 3 - vnat (B 7)) rfl ?_ ?_
            · simp (config := {maxSteps := 3000000}) only [put_get, over_get, true_and, Nat.reduceEqDiff, ↓reduceIte, eq_self, Bool.false_eq_true, List.contains_cons, List.contains_nil, Nat.reduceBEq, Bool.or_false, Bool.or_true, h7]
              exact ⟨q, hq, rfl, hX2⟩
            · rintro B3 s3 ⟨rfl, q, hq, h7, hX3⟩
              by_cases hlt : q < 3
              · obtain ⟨t, ht⟩ := get_ex (L := m.T) (i := q) (by omega)
                have gt := gT ht
                have hinj := strOf_inj (hm.tb t (List.mem_of_getElem? ht)) isB_nil
                rw [drop_cons ht, List.all_cons] at hX3
                by_cases c0 : t = []
                · simp (config := {maxSteps := 3000000}) only [run_skip, run_reg, run_seq, run_blk, run_cond, if_true, if_false, at_code_n, at_blk_n, at_rnd_n, ops_nil, ops_mv, ops_bin, ops_fld, ops_ixa, ops_load, ev_t, ev_c, put_get, opv_mk, over_get, rel_mk, vnat, vbin, vbinI, vbinS, norm, vfld, vixa, vload, takeV, V.cells, List.length_cons, List.length_nil, true_and, Nat.reduceEqDiff, Int.toNat_natCast, Int.reduceNeg, Nat.zero_add, Nat.mul_one, ↓reduceIte, ne_eq, eq_self, Bool.false_eq_true, List.contains_cons, List.contains_nil, Nat.reduceBEq, Bool.or_false, Bool.or_true, h7, gt, bx, strOf_nil, decide_eq_true (show (q : Int) < 3 by omega), decide_eq_false (show ¬ ¬ strOf t = strOf [] from fun h => h (hinj.2 c0))]
                  repeat (apply And.intro; focus (first | omega | (simp; done)))
                  exact ⟨⟨q + 1, by omega, by simp, by rw [hX3, decide_eq_true c0, Bool.true_and]⟩, by omega⟩
                · simp (config := {maxSteps := 3000000}) only [run_skip, run_reg, run_seq, run_blk, run_ret, run_cond, if_true, at_code_n, at_code_r, at_blk_r, at_rnd_r, at_fin_r, ops_nil, ops_mv, ops_bin, ops_fld, ops_ixa, ops_load, ev_t, ev_c, put_get, opv_mk, over_get, vnat, args0, vbin, vbinI, vbinS, vfld, vixa, vload, takeV, V.cells, List.map_cons, List.map_nil, List.length_cons, List.length_nil, and_true, true_and, Nat.reduceEqDiff, Int.toNat_natCast, Nat.zero_add, Nat.mul_one, ↓reduceIte, vret, rvAll, rvVal, resv_2, ne_eq, eq_self, Bool.false_eq_true, List.contains_cons, List.contains_nil, Nat.reduceBEq, Bool.or_false, Bool.or_true, h7, gt, bx, strOf_nil, decide_eq_true (show (q : Int) < 3 by omega), decide_eq_true (show ¬ strOf t = strOf [] from fun h => c0 (hinj.1 h))]
                  repeat (apply And.intro; focus (first | omega | (simp; done)))
                  exact ⟨_, _, Wk.refl _, hwk, .inl ⟨by rw [hX3, decide_eq_false c0]; rfl, rfl, rfl⟩⟩
              · obtain rfl : q = 3 := by omega
                rw [List.drop_of_length_le (by omega), List.all_nil] at hX3
                simp (config := {maxSteps := 3000000}) only [run_reg, run_seq, run_exit, run_ret, run_cond, if_false, at_code_n, at_code_x, at_blk_x, at_rnd_x, at_fin_r, ops_nil, ops_mv, ops_bin, ev_t, ev_c, put_get, opv_mk, over_get, vnat, args0, vbin, vbinI, vload, takeV, V.cells, List.map_cons, List.map_nil, and_true, true_and, Nat.reduceEqDiff, Nat.reduceSub, Int.reduceToNat, ↓reduceIte, vret, rvAll, rvVal, resv_2, decide_false, Int.lt_irrefl, eq_self, Bool.false_eq_true, List.contains_cons, List.contains_nil, Nat.reduceBEq, Bool.or_false, Bool.or_true, h7, nc3']
                exact ⟨_, _, Wk.refl _, hR.lt.weak, .inr ⟨hX3, _, hdone hR, rfl⟩⟩
  refine key.tell fun r s h => ?_
  rcases h with ⟨h1, rfl, rfl⟩ | ⟨h1, row, h2, rfl⟩
  · rw [h1]
    refine ⟨_, _, ?_, rfl, rfl⟩
    intro w0 G w u hw hr
    exact ⟨G, .refl G, hw, Wk.tup2' Wk.no G u hr⟩
  · rw [h1]
    exact ⟨_, _, h2.tell.tup2, rfl, rfl⟩
end
end Go.Proofs.Ytogkdcbcmhhhcaa
