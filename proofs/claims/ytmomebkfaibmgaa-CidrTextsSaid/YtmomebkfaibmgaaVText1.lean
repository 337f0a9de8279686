/- Packages hex and addr: numbers and addresses as texts: contracts. -/
import Derived.Test.YtmomebkfaibmgaaVRow
import Derived.Test.YtmomebkfaibmgaaVRef3
import Derived.Test.YtmomebkfaibmgaaVTextLaw2
namespace Go.Proofs.Ytmomebkfaibmgaa
open Go

theorem tnum2_rng {L : List Int} (hB : IsB L) (n : Nat) : 0 ≤ numL ((L.drop n).take 2) ∧ numL ((L.drop n).take 2) < 65536 := by
  have h := numL_range _ ((L.drop n).take 2) rfl ((hB.drop _).take _)
  have hl : ((L.drop n).take 2).length ≤ 2 := by simp; omega
  have hp : (256 : Int) ^ ((L.drop n).take 2).length ≤ 256 ^ 2 := by
    have : ∀ k : Nat, k ≤ 2 → (256 : Int) ^ k ≤ 256 ^ 2 := by decide
    exact this _ hl
  rw [show (256 : Int) ^ 2 = 65536 from rfl] at hp
  omega
theorem nc0s : ((0 : Nat) : Int) = 0 := rfl
theorem u8s_bs3 : ∀ L : List Int, u8sOf (bs L) = some L
  | [] => rfl
  | x :: L => by rw [bs_cons]; simp only [u8sOf, u8s_bs3 L, Option.map_some]
section
variable {tk : Tk} {st : St} {L : List Int}
theorem tget32_v (hB : IsB L) (h : L.length = 4) : VCalls Try.prog 61 [.sl tk (bs L)] st fun r st' => r = .sc (.int .u32 (numL L)) ∧ st = st' := by
  refine vcalls_enter vc61 (Nat.le_of_ble_eq_true rfl) fun hwf hok => ?_
  show Run _ Vc61.body (.fin (finQ Vc61.res _)) _ _
  unfold Vc61
  have r0 := tnum2_rng hB 0
  rw [List.drop_zero] at r0
  have r2 := tnum2_rng hB 2
  have hj := u32_join (numL (L.take 2)) (numL ((L.drop 2).take 2)) r0.1 r0.2 r2.1 r2.2
  have g0 := fun st : St => Get16_v (tk := tk) (st := st) hB
  have g2 := fun st : St => Get16_v (tk := .no) (st := st) (hB.drop 2)
  rw [if_neg (show ¬ L.length < 2 by omega)] at g0
  rw [if_neg (show ¬ (L.drop 2).length < 2 by simp; omega)] at g2
  have hsp : numL L = 65536 * numL (L.take 2) + numL ((L.drop 2).take 2) := by
    match L, h with
    | [a, b, c, d], _ => simp [numL]; omega
  rw [hsp]
  generalize numL (L.take 2) = a at *
  generalize numL ((L.drop 2).take 2) = c at *
  have e1 : a * 65536 % 4294967296 = a * 65536 := by omega
  have e2 : a % 4294967296 = a := by omega
  have e3 : c % 4294967296 = c := by omega
  simp (config := {maxSteps := 3000000}) only [run_skip, run_reg, run_seq, run_cond, if_false, at_code_n, ops_nil, ops_mv, ops_bin, ops_len, ops_slc, ops_call, ev_t, ev_c, put_get, opv_mk, args0, List.getD_cons_zero, vbin, vbinI, vlen, vslc, List.map_cons, List.map_nil, Option.map_some, Option.map_none, true_and, Nat.reduceEqDiff, Int.reduceToNat, Int.reduceLE, ↓reduceIte, eq_self, reduceCtorEq, bs_len, decide_eq_false (show ¬ (L.length : Int) < 4 by omega), bs_drop, allSz_bs']
  repeat (apply And.intro; focus (first | omega | (simp; done)))
  refine Cal.mk (g0 _) ?_
  rintro _ _ ⟨rfl, rfl⟩ -
  simp (config := {maxSteps := 3000000}) only [ops_bin, ops_conv, ops_call, ev_t, ev_c, put_get, opv_mk, vbin, vbinI, vconv, norm, obsOk, shAmt, IntKind.bits, List.map_cons, List.map_nil, and_true, true_and, Nat.reduceEqDiff, Nat.reduceLeDiff, Int.reduceToNat, Int.reduceLE, Int.reducePow, Nat.min_def, ↓reduceIte, eq_self, e1, e2]
  repeat (apply And.intro; focus (first | omega | (simp; done)))
  refine Cal.mk (g2 _) ?_
  rintro _ _ ⟨rfl, rfl⟩ -
  simp (config := {maxSteps := 3000000}) only [run_ret, at_code_n, at_fin_r, ops_nil, ops_mv, ops_bin, ops_conv, ev_t, put_get, opv_mk, vbin, vbinI, vconv, norm, obsOk, and_true, true_and, Nat.reduceEqDiff, ↓reduceIte, vret, rvAll, rvVal, resv_1, eq_self, e3, ibit_or, hj]
  exact ⟨_, _, Wk.refl _, hwf.weak, rfl, rfl⟩
theorem hexNum_v {n : Int} (h1 : n ≤ 9223372036854775807) : VCalls Try.prog 40 [.sc (.int .i64 n)] st fun r st' => r = .sc (.string (strOf (digs 19 n.toNat))) ∧ st = st' := by
  refine vcalls_enter vc40 (Nat.le_of_ble_eq_true rfl) fun hwf hok => ?_
  show Run _ Vc40.body (.fin (finQ Vc40.res _)) _ _
  unfold Vc40
  obtain ⟨n0, hn0⟩ : ∃ n0 : Nat, max n 0 = (n0 : Int) := ⟨n.toNat, by omega⟩
  have hnn : n.toNat = n0 := by omega
  rw [hnn]
  have hlt : n0 ≤ 9223372036854775807 := by omega
  have hpw : (10 : Nat) ^ 20 = 100000000000000000000 := by decide
  simp (config := {maxSteps := 3000000}) only [run_reg, run_seq, run_blk, at_code_n, ops_nil, ops_mv, ops_mx, ops_alc, ev_t, ev_c, put_get, opv_mk, args0, List.getD_cons_zero, vmm, ptrV, obsOk, true_and, ↓reduceIte, eq_self, reduceCtorEq, hn0]
  intro b hb
  refine run_loop [0, 4, 5, 8, 9, 10, 11, 12, 13, 14, 15, 16, 17, 18, 19, 20] (fun B s => ∃ (m q : Nat) (T : List Int), m ≤ 20 ∧ T.length + m = 20 ∧ B 4 = .sc (.int .i64 m) ∧ B 0 = .sc (.int .i64 q) ∧ s = st.put b (bs (List.replicate m 0 ++ T)) ∧ IsB T ∧ q ≤ 9223372036854775807 ∧
    ((B 5 = .sc (.bool true) ∧ 0 < m ∧ q < 10 ^ m ∧ digs (m - 1) q ++ T = digs 19 n0) ∨ (B 5 = .sc (.bool false) ∧ T = digs 19 n0))) (fun B _ => match B 5 with | .sc (.bool true) => 1 + vnat (B 4) | _ => 0) rfl ?_ ?_
  · simp (config := {maxSteps := 3000000}) only [put_get, true_and, Nat.reduceEqDiff, ↓reduceIte, eq_self, reduceCtorEq]
    exact ⟨20, n0, [], by omega, rfl, rfl, rfl, rfl, isB_nil, hlt, (by first | exact .inl ⟨rfl, by omega, by omega, by simp⟩ | exact .inl ⟨by omega, by omega, by simp⟩ | exact ⟨by omega, by omega, by simp⟩)⟩
  · rintro B s ⟨m, q, T, hm, hTl, h4, h0, rfl, hT, hqb, hcase⟩
    rcases hcase with ⟨h5, hmp, hq, hd⟩ | ⟨h5, hd⟩
    · obtain ⟨m', rfl⟩ : ∃ m', m = m' + 1 := ⟨m - 1, by omega⟩
      have e1 : ((m' + 1 : Nat) : Int) - 1 = (m' : Int) := by omega
      have hx : 0 ≤ (q : Int) % 10 ∧ (q : Int) % 10 < 10 := by omega
      have e2 : (48 + (q : Int) % 10) % 256 = 48 + (q : Int) % 10 := by omega
      have hs := splice_bs (m := m') (T := T) (x := 48 + (q : Int) % 10)
      have hq10 : (q : Int) / 10 = ((q / 10 : Nat) : Int) := by omega
      have hr10 : (q : Int) % 10 = ((q % 10 : Nat) : Int) := by omega
      by_cases c1 : q < 10
      · have hz : q / 10 = 0 := by omega
        have hqm : (q : Int) % 10 = q := by omega
        simp only [Nat.add_sub_cancel] at hd
        rw [digs_small c1] at hd
        simp (config := {maxSteps := 3000000}) only [run_skip, run_reg, run_seq, run_blk, run_cond, if_true, at_code_n, at_blk_n, at_rnd_n, ops_nil, ops_mv, ops_bin, ops_conv, ops_ixa, ops_store, ev_t, ev_c, put_get, put_none, opv_mk, stb_some, sto_ptr, over_get, rel_mk, vnat, Stp, put_box_same, put_put, vbin, vbinI, vconv, norm, vixa, splice, V.cells, obsOk, List.length_cons, List.length_nil, and_true, true_and, Nat.reduceEqDiff, Nat.reduceLT, Nat.reduceLT, Int.toNat_natCast, Int.reduceLE, Int.reduceLT, Int.reduceNeg, Nat.zero_add, Nat.mul_one, ↓reduceIte, decide_false, Int.lt_irrefl, eq_self, reduceCtorEq, Bool.false_eq_true, List.contains_cons, List.contains_nil, Nat.reduceBEq, Bool.or_false, Bool.or_true, h5, h4, h0, e1, e2, hq10, hz, nc0s, bs_len, List.length_append, List.length_replicate]
        repeat (apply And.intro; focus (first | omega | (simp; done)))
        refine ⟨⟨m', 0, (48 + (q : Int) % 10) :: T, by omega, by simp; omega, rfl, rfl, ?_, ?_, by omega, (by first | exact .inr ⟨rfl, by rw [hqm]; exact hd⟩ | exact .inr (by rw [hqm]; exact hd) | (rw [hqm]; exact hd))⟩, ?_⟩
        · exact congrArg (st.put b) hs
        · intro y hy
          rcases List.mem_cons.1 hy with rfl | hy
          · omega
          · exact hT y hy
        · omega
      · have hm2 : ∃ m2, m' = m2 + 1 := by
          cases m' with
          | zero => simp at hq; omega
          | succ m2 => exact ⟨m2, rfl⟩
        obtain ⟨m2, rfl⟩ := hm2
        simp only [Nat.add_sub_cancel] at hd
        rw [digs_big c1] at hd
        have hp : decide ((0 : Int) < ((q / 10 : Nat) : Int)) = true := decide_eq_true (by omega)
        simp (config := {maxSteps := 3000000}) only [run_skip, run_reg, run_seq, run_blk, run_cond, if_true, at_code_n, at_blk_n, at_rnd_n, ops_nil, ops_mv, ops_bin, ops_conv, ops_ixa, ops_store, ev_t, ev_c, put_get, put_none, opv_mk, stb_some, sto_ptr, over_get, rel_mk, vnat, Stp, put_box_same, put_put, vbin, vbinI, vconv, norm, vixa, splice, V.cells, obsOk, List.length_cons, List.length_nil, and_true, true_and, Nat.reduceEqDiff, Nat.reduceLT, Nat.reduceLT, Int.toNat_natCast, Int.reduceLT, Int.reduceNeg, Nat.zero_add, Nat.mul_one, ↓reduceIte, eq_self, reduceCtorEq, Bool.false_eq_true, List.contains_cons, List.contains_nil, Nat.reduceBEq, Bool.or_false, Bool.or_true, h5, h4, h0, e1, e2, hq10, hp, bs_len, List.length_append, List.length_replicate]
        repeat (apply And.intro; focus (first | omega | (simp; done)))
        refine ⟨⟨m2 + 1, q / 10, (48 + (q : Int) % 10) :: T, by omega, by simp; omega, rfl, rfl, ?_, ?_, by omega, ?_⟩, ?_⟩
        · exact congrArg (st.put b) hs
        · intro y hy
          rcases List.mem_cons.1 hy with rfl | hy
          · omega
          · exact hT y hy
        · have h1 : q / 10 < 10 ^ (m2 + 1) := by rw [Nat.pow_succ] at hq; omega
          have h2 : digs (m2 + 1 - 1) (q / 10) ++ (48 + (q : Int) % 10) :: T = digs 19 n0 := by
            rw [Nat.add_sub_cancel, ← hd, hr10]
            simp
          first | exact .inl ⟨rfl, by omega, h1, h2⟩ | exact .inl ⟨by omega, h1, h2⟩ | exact ⟨by omega, h1, h2⟩
        · omega
    · subst hd
      have hdl := digs_pos 19 n0
      have hdr : (List.replicate m (0 : Int) ++ digs 19 n0).drop m = digs 19 n0 := by
        rw [List.drop_append_of_le_length (by simp), List.drop_of_length_le (by simp), List.nil_append]
      have htk : (digs 19 n0).take (20 - m) = digs 19 n0 := List.take_of_length_le (by omega)
      simp (config := {maxSteps := 3000000}) only [run_reg, run_seq, run_exit, run_ret, run_cond, if_false, at_code_n, at_code_x, at_blk_x, at_rnd_x, at_fin_r, ops_nil, ops_mv, ops_b2sB, ops_slcA, vb2sB, vslcA, ev_t, put_get, opv_mk, over_get, vnat, put_box_same, vslc, Option.map_some, Option.map_none, and_true, true_and, Nat.reduceEqDiff, Nat.reduceLeDiff, Int.toNat_natCast, Nat.zero_add, Nat.mul_one, ↓reduceIte, vret, rvAll, rvVal, resv_1, eq_self, Bool.false_eq_true, List.contains_cons, List.contains_nil, Nat.reduceBEq, Bool.or_false, Bool.or_true, h5, h4, bs_drop, bs_take, hdr, htk, u8s_bs3, bs_len, List.length_append, List.length_replicate]
      repeat (apply And.intro; focus (first | omega | (simp; done)))
      exact ⟨_, _, Wk.refl _, weak_put hwf.weak hb, rfl, rfl⟩
end
end Go.Proofs.Ytmomebkfaibmgaa
