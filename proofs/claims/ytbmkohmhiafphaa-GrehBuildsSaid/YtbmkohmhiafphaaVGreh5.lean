/- Layer 11 (greh): catwalkref11.Build, and the law GrehBuilds as a contract. (Printed by tools/gen_greh5.py.) -/
import Derived.Test.YtbmkohmhiafphaaVGreh4
namespace Go.Proofs.Ytbmkohmhiafphaa
open Go

/-! ### Plain -/
theorem greh_forth {t : TD} (ht : t.Ok) (hr : t.right = true) : grehE t.bytes = 0 ∧ grehD t.bytes = t := by
  obtain ⟨c, s, q, a, k, L⟩ := t
  obtain ⟨c0, c1, q0, q1, k0, k1, hB⟩ := ht
  simp only at c0 c1 q0 q1 k0 k1 hB
  simp only [TD.right, Bool.and_eq_true, Bool.or_eq_true, decide_eq_true_eq, beq_iff_eq] at hr
  obtain ⟨⟨⟨r1, r2⟩, r3⟩, r4⟩ := hr
  have key : grehE (TD.mk c s q a k L).bytes = 0 ∧ grehT (TD.mk c s q a k L).bytes = ⟨c, s, q, a, k, L⟩ := by
    have hZ : (L.length : Int) / 256 % 256 * 256 + (L.length : Int) % 256 = L.length := by omega
    have hC : c / 256 % 256 * 256 + c % 256 = c := by omega
    have hQ : ((q / 16777216 % 256 * 256 + q / 65536 % 256) * 256 + q / 256 % 256) * 256 + q % 256 = q := by omega
    have hK : ((k / 16777216 % 256 * 256 + k / 65536 % 256) * 256 + k / 256 % 256) * 256 + k % 256 = k := by omega
    cases s <;> cases a
    all_goals
      simp at r1 r3 r4
      try subst r3
      try subst r4
    · have hb : (TD.mk c false 0 false 0 L).bytes = (32 :: 1 :: 136 :: 11 :: L.length / 256 % 256 :: L.length % 256 :: c / 256 % 256 :: c % 256 :: L : List Int) := by simp [TD.bytes, TD.bits, beL]
      rw [hb]
      generalize hX : (32 :: 1 :: 136 :: 11 :: L.length / 256 % 256 :: L.length % 256 :: c / 256 % 256 :: c % 256 :: L : List Int) = X
      have hn : gN X = 8193 := by rw [← hX]; simp [gN, numL]
      have hp : gP X = 34827 := by rw [← hX]; simp [gP, numL]
      have hz : gZ X = L.length := by rw [← hX]; simp [gZ, numL]; omega
      have hc : gC X = c := by rw [← hX]; simp [gC, numL]; omega
      have hs : gS X = false := by simp [gS, hn]
      have ha : gA X = false := by simp [gA, hn]
      have h1 : gAt1 X = 8 := by simp [gAt1, hs]
      have h2 : gAt2 X = 8 := by simp [gAt2, h1, ha]
      have hh : gHead X = true := by simp [gHead, hn, hp]
      have hlen : X.length = L.length + 8 := by rw [← hX]; simp
      have hdr : X.drop 8 = L := by rw [← hX]; simp
      constructor
      · unfold grehE
        rw [if_neg (by omega), hh, hz, hs, h2, if_neg (by simp), if_neg (by omega), if_neg]
        rintro (h | h)
        · omega
        · exact h (by simp [r1])
      · simp only [grehT, hc, hs, ha, h2, hdr, ↓reduceIte, Bool.false_eq_true]
    · have hb : (TD.mk c false 0 true k L).bytes = (32 :: 129 :: 136 :: 11 :: L.length / 256 % 256 :: L.length % 256 :: c / 256 % 256 :: c % 256 :: k / 16777216 % 256 :: k / 65536 % 256 :: k / 256 % 256 :: k % 256 :: L : List Int) := by simp [TD.bytes, TD.bits, beL]
      rw [hb]
      generalize hX : (32 :: 129 :: 136 :: 11 :: L.length / 256 % 256 :: L.length % 256 :: c / 256 % 256 :: c % 256 :: k / 16777216 % 256 :: k / 65536 % 256 :: k / 256 % 256 :: k % 256 :: L : List Int) = X
      have hn : gN X = 8321 := by rw [← hX]; simp [gN, numL]
      have hp : gP X = 34827 := by rw [← hX]; simp [gP, numL]
      have hz : gZ X = L.length := by rw [← hX]; simp [gZ, numL]; omega
      have hc : gC X = c := by rw [← hX]; simp [gC, numL]; omega
      have hs : gS X = false := by simp [gS, hn]
      have ha : gA X = true := by simp [gA, hn]
      have h1 : gAt1 X = 8 := by simp [gAt1, hs]
      have h2 : gAt2 X = 12 := by simp [gAt2, h1, ha]
      have hh : gHead X = true := by simp [gHead, hn, hp]
      have hlen : X.length = L.length + 12 := by rw [← hX]; simp
      have hdr : X.drop 12 = L := by rw [← hX]; simp
      have hk : numL ((X.drop 8).take 4) = k := by rw [← hX]; simp [numL]; omega
      constructor
      · unfold grehE
        rw [if_neg (by omega), hh, hz, hs, h2, if_neg (by simp), if_neg (by omega), if_neg]
        rintro (h | h)
        · omega
        · exact h (by simp [r1])
      · simp only [grehT, hc, hs, ha, h1, h2, hdr, hk, ↓reduceIte, Bool.false_eq_true]
    · have hb : (TD.mk c true q false 0 L).bytes = (48 :: 1 :: 136 :: 11 :: L.length / 256 % 256 :: L.length % 256 :: c / 256 % 256 :: c % 256 :: q / 16777216 % 256 :: q / 65536 % 256 :: q / 256 % 256 :: q % 256 :: L : List Int) := by simp [TD.bytes, TD.bits, beL]
      rw [hb]
      generalize hX : (48 :: 1 :: 136 :: 11 :: L.length / 256 % 256 :: L.length % 256 :: c / 256 % 256 :: c % 256 :: q / 16777216 % 256 :: q / 65536 % 256 :: q / 256 % 256 :: q % 256 :: L : List Int) = X
      have hn : gN X = 12289 := by rw [← hX]; simp [gN, numL]
      have hp : gP X = 34827 := by rw [← hX]; simp [gP, numL]
      have hz : gZ X = L.length := by rw [← hX]; simp [gZ, numL]; omega
      have hc : gC X = c := by rw [← hX]; simp [gC, numL]; omega
      have hs : gS X = true := by simp [gS, hn]
      have ha : gA X = false := by simp [gA, hn]
      have h1 : gAt1 X = 12 := by simp [gAt1, hs]
      have h2 : gAt2 X = 12 := by simp [gAt2, h1, ha]
      have hh : gHead X = true := by simp [gHead, hn, hp]
      have hlen : X.length = L.length + 12 := by rw [← hX]; simp
      have hdr : X.drop 12 = L := by rw [← hX]; simp
      have hq : numL ((X.drop 8).take 4) = q := by rw [← hX]; simp [numL]; omega
      constructor
      · unfold grehE
        rw [if_neg (by omega), hh, hz, hs, h2, if_neg (by simp), if_neg (by omega), if_neg]
        rintro (h | h)
        · omega
        · exact h (by simp [r1])
      · simp only [grehT, hc, hs, ha, h2, hdr, hq, ↓reduceIte, Bool.false_eq_true]
    · have hb : (TD.mk c true q true k L).bytes = (48 :: 129 :: 136 :: 11 :: L.length / 256 % 256 :: L.length % 256 :: c / 256 % 256 :: c % 256 :: q / 16777216 % 256 :: q / 65536 % 256 :: q / 256 % 256 :: q % 256 :: k / 16777216 % 256 :: k / 65536 % 256 :: k / 256 % 256 :: k % 256 :: L : List Int) := by simp [TD.bytes, TD.bits, beL]
      rw [hb]
      generalize hX : (48 :: 129 :: 136 :: 11 :: L.length / 256 % 256 :: L.length % 256 :: c / 256 % 256 :: c % 256 :: q / 16777216 % 256 :: q / 65536 % 256 :: q / 256 % 256 :: q % 256 :: k / 16777216 % 256 :: k / 65536 % 256 :: k / 256 % 256 :: k % 256 :: L : List Int) = X
      have hn : gN X = 12417 := by rw [← hX]; simp [gN, numL]
      have hp : gP X = 34827 := by rw [← hX]; simp [gP, numL]
      have hz : gZ X = L.length := by rw [← hX]; simp [gZ, numL]; omega
      have hc : gC X = c := by rw [← hX]; simp [gC, numL]; omega
      have hs : gS X = true := by simp [gS, hn]
      have ha : gA X = true := by simp [gA, hn]
      have h1 : gAt1 X = 12 := by simp [gAt1, hs]
      have h2 : gAt2 X = 16 := by simp [gAt2, h1, ha]
      have hh : gHead X = true := by simp [gHead, hn, hp]
      have hlen : X.length = L.length + 16 := by rw [← hX]; simp
      have hdr : X.drop 16 = L := by rw [← hX]; simp
      have hq : numL ((X.drop 8).take 4) = q := by rw [← hX]; simp [numL]; omega
      have hk : numL ((X.drop 12).take 4) = k := by rw [← hX]; simp [numL]; omega
      constructor
      · unfold grehE
        rw [if_neg (by omega), hh, hz, hs, h2, if_neg (by simp), if_neg (by omega), if_neg]
        rintro (h | h)
        · omega
        · exact h (by simp [r1])
      · simp only [grehT, hc, hs, ha, h1, h2, hdr, hq, hk, ↓reduceIte]
  exact ⟨key.1, (if_pos key.1).trans key.2⟩

section
variable {tk tk' : Tk} {st : St} {L : List Int}
theorem IsB.app {L M : List Int} (h : IsB L) (k : IsB M) : IsB (L ++ M) := fun x hx => (List.mem_append.1 hx).elim (h x) (k x)
theorem isB_nil : IsB [] := fun x hx => by cases hx
theorem rPutK_v {x : V} {n : Int} (k : Nat) (hown : Own 1 st x (bs L)) (hB : IsB L) (hl : L.length ≤ 1000000000000) (h0 : 0 ≤ n) (h1 : n ≤ 18446744073709551615) (hk : 1 ≤ k) (hk2 : k ≤ 8) :
    VCalls Try.prog 43 [x, .sc (.int .u64 n), .sc (.int .i64 k)] st fun r st' => Own 1 st' r (bs (L ++ beL n k)) ∧ New st st' r := by
  obtain ⟨tk1, rfl⟩ := hown.sl
  refine (rPut_v (size := k) hB hl h0 h1).mono fun r st' h => ?_
  rwa [if_neg (by omega), Int.toNat_natCast] at h
theorem rPut2_v {x : V} {n : Int} (hown : Own 1 st x (bs L)) (hB : IsB L) (hl : L.length ≤ 1000000000000) (h0 : 0 ≤ n) (h1 : n ≤ 18446744073709551615) :
    VCalls Try.prog 43 [x, .sc (.int .u64 n), .sc (.int .i64 2)] st fun r st' => Own 1 st' r (bs (L ++ beL n 2)) ∧ New st st' r := rPutK_v 2 hown hB hl h0 h1 (by omega) (by omega)
theorem rPut4_v {x : V} {n : Int} (hown : Own 1 st x (bs L)) (hB : IsB L) (hl : L.length ≤ 1000000000000) (h0 : 0 ≤ n) (h1 : n ≤ 18446744073709551615) :
    VCalls Try.prog 43 [x, .sc (.int .u64 n), .sc (.int .i64 4)] st fun r st' => Own 1 st' r (bs (L ++ beL n 4)) ∧ New st st' r := rPutK_v 4 hown hB hl h0 h1 (by omega) (by omega)
theorem refBuild_v (t : TD) (ht : t.Ok) : VCalls Try.prog 21 [t.v tk] st fun r st' => r = .sl .no (bs (if t.right then t.bytes else [])) ∧ st = st' := by
  have g1 := fun st => refRight_v (tk := tk) (st := st) t
  obtain ⟨c, s, q, a, k, L⟩ := t
  obtain ⟨c0, c1, q0, q1, k0, k1, hB⟩ := ht
  simp only at c0 c1 q0 q1 k0 k1 hB
  refine vcalls_enter vc21 (Nat.le_of_ble_eq_true rfl) fun hwf hok => ?_
  show Run _ Vc21.body (.fin (finQ Vc21.res _)) _ _
  unfold Vc21
  simp only [TD.v] at g1
  simp (config := {maxSteps := 3000000}) only [run_reg, run_seq, at_code_n, ops_nil, ops_mv, ops_load, ops_box, ops_call, ev_t, ev_c, put_get, opv_mk, Bx, put_box_same, args0, List.getD_cons_zero, vload, takeV, V.cells, ptrV, obsOk, List.map_cons, List.map_nil, List.length_cons, List.length_nil, List.take_succ_cons, List.drop_zero, List.take_nil, true_and, Nat.reduceEqDiff, Nat.reduceAdd, Nat.reduceLeDiff, Nat.zero_add, ↓reduceIte, ne_eq, not_false_eq_true, eq_self, reduceCtorEq, TD.v]
  repeat (apply And.intro; focus (first | omega | (simp; done)))
  intro b hb
  refine Cal.mk (g1 _) ?_
  rintro _ _ ⟨rfl, rfl⟩ -
  cases hr : (TD.mk c s q a k L).right
  · simp (config := {maxSteps := 3000000}) only [run_reg, run_seq, run_ret, run_cond, if_true, at_code_n, at_code_r, at_fin_r, ops_nil, ops_mv, ops_un, ev_t, ev_c, put_get, opv_mk, vun, obsOk, and_true, true_and, ↓reduceIte, vret, rvAll, rvVal, resv_1, Bool.not_false, eq_self, Bool.false_eq_true]
    exact ⟨_, _, Wk.no, weak_put hwf.weak hb, rfl, rfl⟩
  have hL : L.length ≤ 1600 := by simp [TD.right] at hr; exact hr.1.1.2
  have B0 := Bd.start (cs := [.sc (.int .u16 c), .sc (.bool s), .sc (.int .u32 q), .sc (.bool a), .sc (.int .u32 k), .sl tk (bs L)]) hwf hb
  have I0 := isB_nil
  generalize st.put b _ = s0 at B0 ⊢
  generalize hs : s = s'
  generalize ha : a = a'
  cases s' <;> cases a'
  · subst hs ha
    simp (config := {maxSteps := 3000000}) only [run_skip, run_reg, run_seq, run_cond, if_false, at_code_n, ops_nil, ops_mv, ops_un, ops_fld, ops_load, ops_call, ev_t, ev_c, put_get, opv_mk, vun, vfld, vload, takeV, V.cells, obsOk, List.map_cons, List.map_nil, List.length_cons, List.length_nil, List.getElem?_cons_zero, List.getElem?_cons_succ, true_and, Nat.reduceEqDiff, Nat.zero_add, ↓reduceIte, Bool.not_true, eq_self, B0.box]
    refine Cal.mk (rPut2_v B0.own I0 (by simp only [List.length_nil]; omega) (by omega) (by omega)) ?_
    rintro r1 s1 ⟨x1, x2⟩ -
    have B1 := B0.new x1 x2
    have I1 := I0.app (beL_isB 8193 2)
    clear x1 x2
    simp (config := {maxSteps := 3000000}) (disch := ((fail_if_success refine selfNe ?_); omega)) only [run_reg, run_seq, at_code_n, ops_nil, ops_mv, ops_call, ev_t, ev_c, put_get, opv_mk, obsOk, List.map_cons, List.map_nil, true_and, ↓reduceIte, eq_self]
    repeat (apply And.intro; focus (first | omega | (simp; done)))
    refine Cal.mk (rPut2_v B1.own I1 (by simp only [List.length_append, List.length_nil, beL_len]; omega) (by omega) (by omega)) ?_
    rintro r2 s2 ⟨x1, x2⟩ -
    have B2 := B1.new x1 x2
    have I2 := I1.app (beL_isB 34827 2)
    clear x1 x2
    simp (config := {maxSteps := 3000000}) (disch := ((fail_if_success refine selfNe ?_); omega)) only [run_reg, run_seq, at_code_n, ops_nil, ops_mv, ops_conv, ops_fld, ops_load, ops_len, ops_call, ev_t, ev_c, put_get, opv_mk, vconv, norm, vfld, vlen, vload, takeV, V.cells, obsOk, List.map_cons, List.map_nil, List.length_cons, List.length_nil, List.getElem?_cons_zero, List.getElem?_cons_succ, true_and, Nat.reduceEqDiff, Nat.zero_add, ↓reduceIte, eq_self, B2.box, bs_len, emod_small]
    repeat (apply And.intro; focus (first | omega | (simp; done)))
    refine Cal.mk (rPut2_v B2.own I2 (by simp only [List.length_append, List.length_nil, beL_len]; omega) (by omega) (by omega)) ?_
    rintro r3 s3 ⟨x1, x2⟩ -
    have B3 := B2.new x1 x2
    have I3 := I2.app (beL_isB L.length 2)
    clear x1 x2
    simp (config := {maxSteps := 3000000}) (disch := ((fail_if_success refine selfNe ?_); omega)) only [run_reg, run_seq, at_code_n, ops_nil, ops_mv, ops_conv, ops_fld, ops_load, ops_call, ev_t, ev_c, put_get, opv_mk, vconv, norm, vfld, vload, takeV, V.cells, obsOk, List.map_cons, List.map_nil, List.length_cons, List.length_nil, List.getElem?_cons_zero, true_and, Nat.reduceEqDiff, Nat.zero_add, Nat.add_zero, ↓reduceIte, eq_self, B3.box, emod_small]
    repeat (apply And.intro; focus (first | omega | (simp; done)))
    refine Cal.mk (rPut2_v B3.own I3 (by simp only [List.length_append, List.length_nil, beL_len]; omega) (by omega) (by omega)) ?_
    rintro r4 s4 ⟨x1, x2⟩ -
    have B4 := B3.new x1 x2
    have I4 := I3.app (beL_isB c 2)
    clear x1 x2
    simp (config := {maxSteps := 3000000}) (disch := ((fail_if_success refine selfNe ?_); omega)) only [run_skip, run_reg, run_seq, run_cond, if_false, at_code_n, ops_nil, ops_mv, ops_fld, ops_load, ops_app, ev_t, put_get, opv_mk, vfld, vload, takeV, V.cells, obsOk, List.length_cons, List.length_nil, List.getElem?_cons_zero, List.getElem?_cons_succ, true_and, Nat.reduceEqDiff, Nat.zero_add, ↓reduceIte, eq_self, B4.box]
    repeat (apply And.intro; focus (first | omega | (simp; done)))
    refine App.mk B4.own (allSz_bs _) (by simp only [List.length_append, List.length_nil, beL_len, bs_len, maxLen]; omega) (by simp only [List.length_append, List.length_nil, beL_len, bs_len]; omega) ?_
    intro r s x1 x2
    rw [bs_append] at x1
    have B := B4.app x1 x2
    simp (config := {maxSteps := 3000000}) only [run_ret, at_code_n, at_fin_r, ops_nil, ops_mv, ev_t, put_get, opv_mk, obsOk, and_true, true_and, ↓reduceIte, vret, rvAll, rvVal, resv_1, eq_self]
    obtain ⟨tk', rfl⟩ := B.own.sl
    exact ⟨_, _, Wk.no, B.weak, by simp [TD.bytes, TD.bits], rfl⟩
  · subst hs ha
    simp (config := {maxSteps := 3000000}) only [run_skip, run_reg, run_seq, run_cond, if_true, if_false, at_code_n, ops_nil, ops_mv, ops_bin, ops_un, ops_fld, ops_load, ops_call, ev_t, ev_c, put_get, opv_mk, vbin, vbinI, vun, norm, vfld, vload, takeV, V.cells, obsOk, List.map_cons, List.map_nil, List.length_cons, List.length_nil, List.getElem?_cons_zero, List.getElem?_cons_succ, and_true, true_and, Nat.reduceEqDiff, Int.reduceAdd, Int.reduceMod, Nat.zero_add, ↓reduceIte, Bool.not_true, eq_self, B0.box]
    refine Cal.mk (rPut2_v B0.own I0 (by simp only [List.length_nil]; omega) (by omega) (by omega)) ?_
    rintro r1 s1 ⟨x1, x2⟩ -
    have B1 := B0.new x1 x2
    have I1 := I0.app (beL_isB 8321 2)
    clear x1 x2
    simp (config := {maxSteps := 3000000}) (disch := ((fail_if_success refine selfNe ?_); omega)) only [run_reg, run_seq, at_code_n, ops_nil, ops_mv, ops_call, ev_t, ev_c, put_get, opv_mk, obsOk, List.map_cons, List.map_nil, true_and, ↓reduceIte, eq_self]
    repeat (apply And.intro; focus (first | omega | (simp; done)))
    refine Cal.mk (rPut2_v B1.own I1 (by simp only [List.length_append, List.length_nil, beL_len]; omega) (by omega) (by omega)) ?_
    rintro r2 s2 ⟨x1, x2⟩ -
    have B2 := B1.new x1 x2
    have I2 := I1.app (beL_isB 34827 2)
    clear x1 x2
    simp (config := {maxSteps := 3000000}) (disch := ((fail_if_success refine selfNe ?_); omega)) only [run_reg, run_seq, at_code_n, ops_nil, ops_mv, ops_conv, ops_fld, ops_load, ops_len, ops_call, ev_t, ev_c, put_get, opv_mk, vconv, norm, vfld, vlen, vload, takeV, V.cells, obsOk, List.map_cons, List.map_nil, List.length_cons, List.length_nil, List.getElem?_cons_zero, List.getElem?_cons_succ, true_and, Nat.reduceEqDiff, Nat.zero_add, ↓reduceIte, eq_self, B2.box, bs_len, emod_small]
    repeat (apply And.intro; focus (first | omega | (simp; done)))
    refine Cal.mk (rPut2_v B2.own I2 (by simp only [List.length_append, List.length_nil, beL_len]; omega) (by omega) (by omega)) ?_
    rintro r3 s3 ⟨x1, x2⟩ -
    have B3 := B2.new x1 x2
    have I3 := I2.app (beL_isB L.length 2)
    clear x1 x2
    simp (config := {maxSteps := 3000000}) (disch := ((fail_if_success refine selfNe ?_); omega)) only [run_reg, run_seq, at_code_n, ops_nil, ops_mv, ops_conv, ops_fld, ops_load, ops_call, ev_t, ev_c, put_get, opv_mk, vconv, norm, vfld, vload, takeV, V.cells, obsOk, List.map_cons, List.map_nil, List.length_cons, List.length_nil, List.getElem?_cons_zero, true_and, Nat.reduceEqDiff, Nat.zero_add, Nat.add_zero, ↓reduceIte, eq_self, B3.box, emod_small]
    repeat (apply And.intro; focus (first | omega | (simp; done)))
    refine Cal.mk (rPut2_v B3.own I3 (by simp only [List.length_append, List.length_nil, beL_len]; omega) (by omega) (by omega)) ?_
    rintro r4 s4 ⟨x1, x2⟩ -
    have B4 := B3.new x1 x2
    have I4 := I3.app (beL_isB c 2)
    clear x1 x2
    simp (config := {maxSteps := 3000000}) (disch := ((fail_if_success refine selfNe ?_); omega)) only [run_skip, run_reg, run_seq, run_cond, if_true, if_false, at_code_n, ops_nil, ops_mv, ops_conv, ops_fld, ops_load, ops_call, ev_t, ev_c, put_get, opv_mk, vconv, norm, vfld, vload, takeV, V.cells, obsOk, List.map_cons, List.map_nil, List.length_cons, List.length_nil, List.getElem?_cons_zero, List.getElem?_cons_succ, true_and, Nat.reduceEqDiff, Nat.zero_add, ↓reduceIte, eq_self, B4.box, emod_small]
    repeat (apply And.intro; focus (first | omega | (simp; done)))
    refine Cal.mk (rPut4_v B4.own I4 (by simp only [List.length_append, List.length_nil, beL_len]; omega) (by omega) (by omega)) ?_
    rintro r5 s5 ⟨x1, x2⟩ -
    have B5 := B4.new x1 x2
    have I5 := I4.app (beL_isB k 4)
    clear x1 x2
    simp (config := {maxSteps := 3000000}) (disch := ((fail_if_success refine selfNe ?_); omega)) only [run_reg, run_seq, at_code_n, ops_nil, ops_mv, ops_fld, ops_load, ops_app, ev_t, put_get, opv_mk, vfld, vload, takeV, V.cells, obsOk, List.length_cons, List.length_nil, List.getElem?_cons_zero, List.getElem?_cons_succ, true_and, Nat.reduceEqDiff, Nat.zero_add, ↓reduceIte, eq_self, B5.box]
    repeat (apply And.intro; focus (first | omega | (simp; done)))
    refine App.mk B5.own (allSz_bs _) (by simp only [List.length_append, List.length_nil, beL_len, bs_len, maxLen]; omega) (by simp only [List.length_append, List.length_nil, beL_len, bs_len]; omega) ?_
    intro r s x1 x2
    rw [bs_append] at x1
    have B := B5.app x1 x2
    simp (config := {maxSteps := 3000000}) only [run_ret, at_code_n, at_fin_r, ops_nil, ops_mv, ev_t, put_get, opv_mk, obsOk, and_true, true_and, ↓reduceIte, vret, rvAll, rvVal, resv_1, eq_self]
    obtain ⟨tk', rfl⟩ := B.own.sl
    exact ⟨_, _, Wk.no, B.weak, by simp [TD.bytes, TD.bits], rfl⟩
  · subst hs ha
    simp (config := {maxSteps := 3000000}) only [run_skip, run_reg, run_seq, run_cond, if_true, if_false, at_code_n, ops_nil, ops_mv, ops_bin, ops_un, ops_fld, ops_load, ops_call, ev_t, ev_c, put_get, opv_mk, vbin, vbinI, vun, norm, vfld, vload, takeV, V.cells, obsOk, List.map_cons, List.map_nil, List.length_cons, List.length_nil, List.getElem?_cons_zero, List.getElem?_cons_succ, and_true, true_and, Nat.reduceEqDiff, Int.reduceAdd, Int.reduceMod, Nat.zero_add, ↓reduceIte, Bool.not_true, eq_self, B0.box]
    refine Cal.mk (rPut2_v B0.own I0 (by simp only [List.length_nil]; omega) (by omega) (by omega)) ?_
    rintro r1 s1 ⟨x1, x2⟩ -
    have B1 := B0.new x1 x2
    have I1 := I0.app (beL_isB 12289 2)
    clear x1 x2
    simp (config := {maxSteps := 3000000}) (disch := ((fail_if_success refine selfNe ?_); omega)) only [run_reg, run_seq, at_code_n, ops_nil, ops_mv, ops_call, ev_t, ev_c, put_get, opv_mk, obsOk, List.map_cons, List.map_nil, true_and, ↓reduceIte, eq_self]
    repeat (apply And.intro; focus (first | omega | (simp; done)))
    refine Cal.mk (rPut2_v B1.own I1 (by simp only [List.length_append, List.length_nil, beL_len]; omega) (by omega) (by omega)) ?_
    rintro r2 s2 ⟨x1, x2⟩ -
    have B2 := B1.new x1 x2
    have I2 := I1.app (beL_isB 34827 2)
    clear x1 x2
    simp (config := {maxSteps := 3000000}) (disch := ((fail_if_success refine selfNe ?_); omega)) only [run_reg, run_seq, at_code_n, ops_nil, ops_mv, ops_conv, ops_fld, ops_load, ops_len, ops_call, ev_t, ev_c, put_get, opv_mk, vconv, norm, vfld, vlen, vload, takeV, V.cells, obsOk, List.map_cons, List.map_nil, List.length_cons, List.length_nil, List.getElem?_cons_zero, List.getElem?_cons_succ, true_and, Nat.reduceEqDiff, Nat.zero_add, ↓reduceIte, eq_self, B2.box, bs_len, emod_small]
    repeat (apply And.intro; focus (first | omega | (simp; done)))
    refine Cal.mk (rPut2_v B2.own I2 (by simp only [List.length_append, List.length_nil, beL_len]; omega) (by omega) (by omega)) ?_
    rintro r3 s3 ⟨x1, x2⟩ -
    have B3 := B2.new x1 x2
    have I3 := I2.app (beL_isB L.length 2)
    clear x1 x2
    simp (config := {maxSteps := 3000000}) (disch := ((fail_if_success refine selfNe ?_); omega)) only [run_reg, run_seq, at_code_n, ops_nil, ops_mv, ops_conv, ops_fld, ops_load, ops_call, ev_t, ev_c, put_get, opv_mk, vconv, norm, vfld, vload, takeV, V.cells, obsOk, List.map_cons, List.map_nil, List.length_cons, List.length_nil, List.getElem?_cons_zero, true_and, Nat.reduceEqDiff, Nat.zero_add, Nat.add_zero, ↓reduceIte, eq_self, B3.box, emod_small]
    repeat (apply And.intro; focus (first | omega | (simp; done)))
    refine Cal.mk (rPut2_v B3.own I3 (by simp only [List.length_append, List.length_nil, beL_len]; omega) (by omega) (by omega)) ?_
    rintro r4 s4 ⟨x1, x2⟩ -
    have B4 := B3.new x1 x2
    have I4 := I3.app (beL_isB c 2)
    clear x1 x2
    simp (config := {maxSteps := 3000000}) (disch := ((fail_if_success refine selfNe ?_); omega)) only [run_reg, run_seq, run_cond, if_true, at_code_n, ops_nil, ops_mv, ops_conv, ops_fld, ops_load, ops_call, ev_t, ev_c, put_get, opv_mk, vconv, norm, vfld, vload, takeV, V.cells, obsOk, List.map_cons, List.map_nil, List.length_cons, List.length_nil, List.getElem?_cons_zero, List.getElem?_cons_succ, true_and, Nat.reduceEqDiff, Nat.zero_add, ↓reduceIte, eq_self, B4.box, emod_small]
    repeat (apply And.intro; focus (first | omega | (simp; done)))
    refine Cal.mk (rPut4_v B4.own I4 (by simp only [List.length_append, List.length_nil, beL_len]; omega) (by omega) (by omega)) ?_
    rintro r5 s5 ⟨x1, x2⟩ -
    have B5 := B4.new x1 x2
    have I5 := I4.app (beL_isB q 4)
    clear x1 x2
    simp (config := {maxSteps := 3000000}) (disch := ((fail_if_success refine selfNe ?_); omega)) only [run_skip, run_reg, run_seq, run_cond, if_false, at_code_n, ops_nil, ops_mv, ops_fld, ops_load, ops_app, ev_t, put_get, opv_mk, vfld, vload, takeV, V.cells, obsOk, List.length_cons, List.length_nil, List.getElem?_cons_zero, List.getElem?_cons_succ, true_and, Nat.reduceEqDiff, Nat.zero_add, ↓reduceIte, eq_self, B5.box]
    repeat (apply And.intro; focus (first | omega | (simp; done)))
    refine App.mk B5.own (allSz_bs _) (by simp only [List.length_append, List.length_nil, beL_len, bs_len, maxLen]; omega) (by simp only [List.length_append, List.length_nil, beL_len, bs_len]; omega) ?_
    intro r s x1 x2
    rw [bs_append] at x1
    have B := B5.app x1 x2
    simp (config := {maxSteps := 3000000}) only [run_ret, at_code_n, at_fin_r, ops_nil, ops_mv, ev_t, put_get, opv_mk, obsOk, and_true, true_and, ↓reduceIte, vret, rvAll, rvVal, resv_1, eq_self]
    obtain ⟨tk', rfl⟩ := B.own.sl
    exact ⟨_, _, Wk.no, B.weak, by simp [TD.bytes, TD.bits], rfl⟩
  · subst hs ha
    simp (config := {maxSteps := 3000000}) only [run_skip, run_reg, run_seq, run_cond, if_true, if_false, at_code_n, ops_nil, ops_mv, ops_bin, ops_un, ops_fld, ops_load, ops_call, ev_t, ev_c, put_get, opv_mk, vbin, vbinI, vun, norm, vfld, vload, takeV, V.cells, obsOk, List.map_cons, List.map_nil, List.length_cons, List.length_nil, List.getElem?_cons_zero, List.getElem?_cons_succ, and_true, true_and, Nat.reduceEqDiff, Int.reduceAdd, Int.reduceMod, Nat.zero_add, ↓reduceIte, Bool.not_true, eq_self, B0.box]
    refine Cal.mk (rPut2_v B0.own I0 (by simp only [List.length_nil]; omega) (by omega) (by omega)) ?_
    rintro r1 s1 ⟨x1, x2⟩ -
    have B1 := B0.new x1 x2
    have I1 := I0.app (beL_isB 12417 2)
    clear x1 x2
    simp (config := {maxSteps := 3000000}) (disch := ((fail_if_success refine selfNe ?_); omega)) only [run_reg, run_seq, at_code_n, ops_nil, ops_mv, ops_call, ev_t, ev_c, put_get, opv_mk, obsOk, List.map_cons, List.map_nil, true_and, ↓reduceIte, eq_self]
    repeat (apply And.intro; focus (first | omega | (simp; done)))
    refine Cal.mk (rPut2_v B1.own I1 (by simp only [List.length_append, List.length_nil, beL_len]; omega) (by omega) (by omega)) ?_
    rintro r2 s2 ⟨x1, x2⟩ -
    have B2 := B1.new x1 x2
    have I2 := I1.app (beL_isB 34827 2)
    clear x1 x2
    simp (config := {maxSteps := 3000000}) (disch := ((fail_if_success refine selfNe ?_); omega)) only [run_reg, run_seq, at_code_n, ops_nil, ops_mv, ops_conv, ops_fld, ops_load, ops_len, ops_call, ev_t, ev_c, put_get, opv_mk, vconv, norm, vfld, vlen, vload, takeV, V.cells, obsOk, List.map_cons, List.map_nil, List.length_cons, List.length_nil, List.getElem?_cons_zero, List.getElem?_cons_succ, true_and, Nat.reduceEqDiff, Nat.zero_add, ↓reduceIte, eq_self, B2.box, bs_len, emod_small]
    repeat (apply And.intro; focus (first | omega | (simp; done)))
    refine Cal.mk (rPut2_v B2.own I2 (by simp only [List.length_append, List.length_nil, beL_len]; omega) (by omega) (by omega)) ?_
    rintro r3 s3 ⟨x1, x2⟩ -
    have B3 := B2.new x1 x2
    have I3 := I2.app (beL_isB L.length 2)
    clear x1 x2
    simp (config := {maxSteps := 3000000}) (disch := ((fail_if_success refine selfNe ?_); omega)) only [run_reg, run_seq, at_code_n, ops_nil, ops_mv, ops_conv, ops_fld, ops_load, ops_call, ev_t, ev_c, put_get, opv_mk, vconv, norm, vfld, vload, takeV, V.cells, obsOk, List.map_cons, List.map_nil, List.length_cons, List.length_nil, List.getElem?_cons_zero, true_and, Nat.reduceEqDiff, Nat.zero_add, Nat.add_zero, ↓reduceIte, eq_self, B3.box, emod_small]
    repeat (apply And.intro; focus (first | omega | (simp; done)))
    refine Cal.mk (rPut2_v B3.own I3 (by simp only [List.length_append, List.length_nil, beL_len]; omega) (by omega) (by omega)) ?_
    rintro r4 s4 ⟨x1, x2⟩ -
    have B4 := B3.new x1 x2
    have I4 := I3.app (beL_isB c 2)
    clear x1 x2
    simp (config := {maxSteps := 3000000}) (disch := ((fail_if_success refine selfNe ?_); omega)) only [run_reg, run_seq, run_cond, if_true, at_code_n, ops_nil, ops_mv, ops_conv, ops_fld, ops_load, ops_call, ev_t, ev_c, put_get, opv_mk, vconv, norm, vfld, vload, takeV, V.cells, obsOk, List.map_cons, List.map_nil, List.length_cons, List.length_nil, List.getElem?_cons_zero, List.getElem?_cons_succ, true_and, Nat.reduceEqDiff, Nat.zero_add, ↓reduceIte, eq_self, B4.box, emod_small]
    repeat (apply And.intro; focus (first | omega | (simp; done)))
    refine Cal.mk (rPut4_v B4.own I4 (by simp only [List.length_append, List.length_nil, beL_len]; omega) (by omega) (by omega)) ?_
    rintro r5 s5 ⟨x1, x2⟩ -
    have B5 := B4.new x1 x2
    have I5 := I4.app (beL_isB q 4)
    clear x1 x2
    simp (config := {maxSteps := 3000000}) (disch := ((fail_if_success refine selfNe ?_); omega)) only [run_reg, run_seq, run_cond, if_true, at_code_n, ops_nil, ops_mv, ops_conv, ops_fld, ops_load, ops_call, ev_t, ev_c, put_get, opv_mk, vconv, norm, vfld, vload, takeV, V.cells, obsOk, List.map_cons, List.map_nil, List.length_cons, List.length_nil, List.getElem?_cons_zero, List.getElem?_cons_succ, true_and, Nat.reduceEqDiff, Nat.zero_add, ↓reduceIte, eq_self, B5.box, emod_small]
    repeat (apply And.intro; focus (first | omega | (simp; done)))
    refine Cal.mk (rPut4_v B5.own I5 (by simp only [List.length_append, List.length_nil, beL_len]; omega) (by omega) (by omega)) ?_
    rintro r6 s6 ⟨x1, x2⟩ -
    have B6 := B5.new x1 x2
    have I6 := I5.app (beL_isB k 4)
    clear x1 x2
    simp (config := {maxSteps := 3000000}) (disch := ((fail_if_success refine selfNe ?_); omega)) only [run_reg, run_seq, at_code_n, ops_nil, ops_mv, ops_fld, ops_load, ops_app, ev_t, put_get, opv_mk, vfld, vload, takeV, V.cells, obsOk, List.length_cons, List.length_nil, List.getElem?_cons_zero, List.getElem?_cons_succ, true_and, Nat.reduceEqDiff, Nat.zero_add, ↓reduceIte, eq_self, B6.box]
    repeat (apply And.intro; focus (first | omega | (simp; done)))
    refine App.mk B6.own (allSz_bs _) (by simp only [List.length_append, List.length_nil, beL_len, bs_len, maxLen]; omega) (by simp only [List.length_append, List.length_nil, beL_len, bs_len]; omega) ?_
    intro r s x1 x2
    rw [bs_append] at x1
    have B := B6.app x1 x2
    simp (config := {maxSteps := 3000000}) only [run_ret, at_code_n, at_fin_r, ops_nil, ops_mv, ev_t, put_get, opv_mk, obsOk, and_true, true_and, ↓reduceIte, vret, rvAll, rvVal, resv_1, eq_self]
    obtain ⟨tk', rfl⟩ := B.own.sl
    exact ⟨_, _, Wk.no, B.weak, by simp [TD.bytes, TD.bits], rfl⟩
theorem GrehBuilds_v (t : TD) (ht : t.Ok) : VCalls Try.prog 4 [t.v tk] st fun r _ => r = .sc (.bool true) := by
  have g1 := fun st => gBuild_v (tk := tk) (st := st) t ht
  have g2 := fun st => refBuild_v (tk := tk) (st := st) t ht
  have g3 := fun st => gRight_v (tk := tk) (st := st) t
  have g4 := fun st => refRight_v (tk := tk) (st := st) t
  have g5 := fun (tk' : Tk) (st : St) => refSame_v (tk := tk') (tk' := tk) (st := st) t
  have hB : IsB (if t.right then t.bytes else []) := by
    split
    · simp only [TD.bytes]
      refine (((((((beL_isB _ _).append (beL_isB _ _)).append (beL_isB _ _)).append (beL_isB _ _)).append ?_).append ?_).append ht.L)
      · split
        · exact beL_isB _ _
        · exact isB_nil
      · split
        · exact beL_isB _ _
        · exact isB_nil
    · exact isB_nil
  have hl : t.right = true → t.bytes.length ≤ 1000000000000 := fun h => by
    have : t.L.length ≤ 1600 := by simp [TD.right] at h; exact h.1.1.2
    simp only [TD.bytes, List.length_append, beL_len]
    split <;> split <;> simp [beL_len] <;> omega
  have g6 := greh_forth ht
  have hrl : t.right = true → t.L.length ≤ 1600 := fun h => by simp [TD.right] at h; exact h.1.1.2
  generalize t.bytes = M at *
  generalize t.right = rt at *
  obtain ⟨c, s, q, a, k, L⟩ := t
  refine vcalls_enter vc4 (Nat.le_of_ble_eq_true rfl) fun hwf hok => ?_
  show Run _ Vc4.body (.fin (finQ Vc4.res _)) _ _
  unfold Vc4
  simp only [TD.v] at g1 g2 g3 g4 g5
  by_cases h20 : 2000 < (L.length : Int)
  · simp (config := {maxSteps := 3000000}) only [run_reg, run_seq, run_ret, run_cond, if_true, at_code_n, at_code_r, at_fin_r, ops_nil, ops_mv, ops_bin, ops_fld, ops_load, ops_len, ops_box, ev_t, ev_c, put_get, opv_mk, Bx, put_box_same, args0, List.getD_cons_zero, vbin, vbinI, vfld, vlen, vload, takeV, V.cells, ptrV, obsOk, List.length_cons, List.length_nil, List.getElem?_cons_zero, List.getElem?_cons_succ, and_true, true_and, Nat.reduceEqDiff, Nat.reduceAdd, Nat.zero_add, ↓reduceIte, vret, rvAll, rvVal, resv_1, ne_eq, not_false_eq_true, eq_self, reduceCtorEq, TD.v, bs_len, decide_eq_true h20]
    intro b hb
    exact ⟨_, _, Wk.refl _, weak_put hwf.weak hb, rfl⟩
  simp (config := {maxSteps := 3000000}) only [run_skip, run_reg, run_seq, run_cond, if_false, at_code_n, ops_nil, ops_mv, ops_bin, ops_fld, ops_load, ops_len, ops_box, ops_call, ev_t, ev_c, put_get, opv_mk, Bx, put_box_same, args0, List.getD_cons_zero, vbin, vbinI, vfld, vlen, vload, takeV, V.cells, ptrV, obsOk, List.map_cons, List.map_nil, List.length_cons, List.length_nil, List.getElem?_cons_zero, List.getElem?_cons_succ, List.take_succ_cons, List.drop_zero, List.take_nil, true_and, Nat.reduceEqDiff, Nat.reduceAdd, Nat.reduceLeDiff, Nat.zero_add, ↓reduceIte, ne_eq, not_false_eq_true, eq_self, reduceCtorEq, TD.v, bs_len, decide_eq_false h20]
  intro b hb
  refine Cal.mk (g1 _) ?_
  rintro _ _ ⟨rfl, rfl⟩ -
  simp (config := {maxSteps := 3000000}) only [run_reg, run_seq, at_code_n, ops_nil, ops_mv, ops_load, ops_call, ev_t, put_get, opv_mk, put_box_same, vload, takeV, obsOk, List.map_cons, List.map_nil, List.length_cons, List.length_nil, List.take_succ_cons, List.drop_zero, List.take_nil, true_and, Nat.reduceEqDiff, Nat.reduceAdd, Nat.reduceLeDiff, Nat.zero_add, ↓reduceIte, eq_self]
  refine Cal.mk (g2 _) ?_
  rintro _ _ ⟨rfl, rfl⟩ -
  simp (config := {maxSteps := 3000000}) only [ops_call, ev_t, put_get, obsOk, List.map_cons, List.map_nil, true_and, Nat.reduceEqDiff, ↓reduceIte, eq_self]
  refine Cal.mk eqB_v ?_
  rintro _ _ ⟨rfl, rfl⟩ -
  simp (config := {maxSteps := 3000000}) only [ops_grd, grd_ff, ops_mv, ops_un, ops_load, ops_call, ev_t, put_get, opv_mk, put_box_same, vun, vload, takeV, obsOk, List.map_cons, List.map_nil, List.length_cons, List.length_nil, List.take_succ_cons, List.drop_zero, List.take_nil, true_and, Nat.reduceEqDiff, Nat.reduceAdd, Nat.reduceLeDiff, Nat.zero_add, ↓reduceIte, decide_true, Bool.not_true, eq_self]
  refine Cal.mk (g3 _) ?_
  rintro _ _ ⟨rfl, rfl⟩ -
  simp (config := {maxSteps := 3000000}) only [ops_grd, grd_ff, ops_call, ev_t, put_get, put_box_same, vload, takeV, obsOk, List.map_cons, List.map_nil, List.length_cons, List.length_nil, List.take_succ_cons, List.drop_zero, List.take_nil, and_true, true_and, Nat.reduceEqDiff, Nat.reduceAdd, Nat.reduceLeDiff, Nat.zero_add, ↓reduceIte, eq_self]
  refine Cal.mk (g4 _) ?_
  rintro _ _ ⟨rfl, rfl⟩ -
  have hrt : (rt == rt) = true := by simp
  simp (config := {maxSteps := 3000000}) only [run_skip, run_reg, run_seq, run_cond, if_false, at_code_n, ops_nil, ops_grd, grd_ff, ops_pick, ops_binb, vbinb, ops_load, ops_call, ev_t, put_get, opv_mk, put_box_same, vpick, vload, takeV, obsOk, List.map_cons, List.map_nil, List.length_cons, List.length_nil, List.take_succ_cons, List.drop_zero, List.take_nil, true_and, Nat.reduceEqDiff, Nat.reduceAdd, Nat.reduceLeDiff, Nat.zero_add, ↓reduceIte, Bool.not_true, eq_self, Bool.false_eq_true, hrt]
  refine Cal.mk (g4 _) ?_
  rintro _ _ ⟨rfl, rfl⟩ -
  cases rt
  · simp (config := {maxSteps := 3000000}) only [run_reg, run_seq, run_cond, if_true, at_code_n, ops_nil, ops_un, ops_call, ev_t, put_get, opv_mk, vun, obsOk, List.map_nil, true_and, ↓reduceIte, Bool.not_false, eq_self, Bool.false_eq_true]
    refine Cal.mk alive11_v ?_
    rintro _ _ ⟨rfl, rfl⟩ -
    simp (config := {maxSteps := 3000000}) only [run_ret, at_code_n, at_code_r, at_fin_r, ops_nil, ops_mv, ev_t, put_get, opv_mk, obsOk, and_true, true_and, ↓reduceIte, vret, rvAll, rvVal, resv_1, eq_self]
    exact ⟨_, _, Wk.refl _, weak_put hwf.weak hb, rfl⟩
  · obtain ⟨e1, e2⟩ := g6 rfl
    simp only [↓reduceIte] at hB
    have g7 := fun st : St => gParse_v (tk := .no) (st := st) hB (hl rfl)
    rw [e1, e2] at g7
    simp only [TD.v] at g7
    simp (config := {maxSteps := 3000000}) only [run_skip, run_reg, run_seq, run_cond, if_false, at_code_n, ops_nil, ops_mv, ops_un, ops_call, ev_t, put_get, opv_mk, vun, obsOk, List.map_cons, List.map_nil, true_and, Nat.reduceEqDiff, ↓reduceIte, Bool.not_true, eq_self]
    refine Cal.mk (g7 _) ?_
    rintro _ _ ⟨⟨tk2, rfl⟩, rfl⟩ -
    simp (config := {maxSteps := 3000000}) only [run_reg, run_seq, at_code_n, ops_nil, ops_grd, grd_tt, ops_mv, ops_bin, ops_load, ops_ext, ops_alc, ops_store, ev_t, ev_c, put_get, put_none, opv_mk, stb_some, sto_ptr, Stp, put_box_same, put_sz, put_put, vbin, vbinI, vext, vload, takeV, splice, V.cells, ptrV, obsOk, List.length_cons, List.length_nil, List.getElem?_cons_zero, List.getElem?_cons_succ, List.take_succ_cons, List.take_zero, List.drop_succ_cons, List.drop_zero, List.nil_append, List.append_nil, List.take_nil, List.drop_nil, true_and, Nat.reduceEqDiff, Nat.reduceAdd, Nat.reduceLT, Nat.reduceLeDiff, Nat.reduceLT, Nat.zero_add, ↓reduceIte, decide_true, eq_self]
    intro d hd
    obtain ⟨hd1, hbd⟩ : st.sz ≤ d ∧ b < d := by omega
    clear hd
    simp (config := {maxSteps := 3000000}) only [ops_grd, grd_tt, ops_call, ev_t, put_get, opv_mk, put_box_same, List.map_cons, List.map_nil, List.length_cons, List.length_nil, List.take_succ_cons, List.take_nil, true_and, Nat.reduceEqDiff, Nat.reduceAdd, Nat.reduceLeDiff, Nat.zero_add, ↓reduceIte, eq_self, put_box_ne (Nat.ne_of_lt hbd)]
    refine Cal.mk (g5 _ _) ?_
    rintro _ _ ⟨rfl, rfl⟩ -
    simp (config := {maxSteps := 3000000}) only [ops_grd, grd_tt, ops_mv, ops_pick, ops_call, ev_t, put_get, opv_mk, vpick, obsOk, List.map_nil, true_and, Nat.reduceEqDiff, ↓reduceIte, eq_self]
    refine Cal.mk alive11_v ?_
    rintro _ _ ⟨rfl, rfl⟩ -
    simp (config := {maxSteps := 3000000}) only [run_ret, at_code_n, at_fin_r, ops_nil, ops_mv, ops_pick, ev_t, put_get, opv_mk, vpick, obsOk, and_true, true_and, Nat.reduceEqDiff, ↓reduceIte, vret, rvAll, rvVal, resv_1, eq_self]
    exact ⟨_, _, Wk.refl _, weak_put (weak_put hwf.weak hb) hd1, rfl⟩
end
end Go.Proofs.Ytbmkohmhiafphaa
