/- Package addr: an address as bytes and as a text: contracts. -/
import Derived.Test.YtmomebkfaibmgaaVText2
namespace Go.Proofs.Ytmomebkfaibmgaa
open Go

section
variable {tk : Tk} {st : St} {L : List Int}
theorem addrBytes_v {a : Int} (h0 : 0 ≤ a) (h1 : a < 4294967296) : VCalls Try.prog 56 [.sc (.int .u32 a)] st fun r st' => r = .agg (bs (beL a 4)) ∧ st = st' := by
  refine vcalls_enter vc56 (Nat.le_of_ble_eq_true rfl) fun hwf hok => ?_
  show Run _ Vc56.body (.fin (finQ Vc56.res _)) _ _
  unfold Vc56
  have htk : List.take 4 (beL a 4) = beL a 4 := List.take_of_length_le (by rw [beL_len]; omega)
  simp (config := {maxSteps := 3000000}) only [run_reg, run_seq, at_code_n, ops_nil, ops_mv, ops_alc, ops_call, ev_t, ev_c, put_get, opv_mk, args0, List.getD_cons_zero, ptrV, obsOk, List.map_cons, List.map_nil, true_and, ↓reduceIte, eq_self, reduceCtorEq]
  intro b hb
  refine Cal.mk (Put32_v (L := []) Own.nil (by simp) h0 h1) ?_
  rintro r1 s1 ⟨k1, k2⟩ -
  rw [List.nil_append] at k1
  obtain ⟨tk1, rfl⟩ := k1.sl
  have hb1 : s1.box b = _ := (congrFun k2.box b).trans put_box_same
  have hw1 : st.weak s1 := k2.over hwf.lt.put |> fun w => (weak_put hwf.weak hb).trans w
  have hdr : List.drop 4 ([V.sc (.int .u8 0), .sc (.int .u8 0), .sc (.int .u8 0), .sc (.int .u8 0)] : List V) = [] := rfl
  simp (config := {maxSteps := 3000000}) only [run_ret, at_code_n, at_fin_r, ops_nil, ops_s2a, vs2a, ops_load, ops_store, ev_t, put_get, put_none, opv_mk, stb_some, sto_ptr, Stp, put_box_same, vload, takeV, splice, V.cells, obsOk, List.length_cons, List.length_nil, List.take_zero, List.drop_succ_cons, List.drop_zero, List.nil_append, List.append_nil, List.drop_nil, and_true, true_and, Nat.reduceEqDiff, Nat.reduceAdd, Nat.reduceLT, Nat.reduceLeDiff, Nat.reduceLT, Nat.zero_add, ↓reduceIte, vret, rvAll, rvVal, resv_1, eq_self, hb1, allSz_bs', bs_flat, bs_len, beL_len, bs_take, htk]
  repeat (apply And.intro; focus (first | omega | (simp; done)))
  exact ⟨_, _, Wk.refl _, weak_put hw1 hb, rfl, rfl⟩
theorem addrOf_v (hB : IsB L) (h4 : L.length = 4) : VCalls Try.prog 54 [.agg (bs L)] st fun r st' => r = .sc (.int .u32 (numL L)) ∧ st = st' := by
  refine vcalls_enter vc54 (Nat.le_of_ble_eq_true rfl) fun hwf hok => ?_
  show Run _ Vc54.body (.fin (finQ Vc54.res _)) _ _
  unfold Vc54
  have hl4 : (bs L).length = 4 := by rw [bs_len, h4]
  simp (config := {maxSteps := 3000000}) only [run_reg, run_seq, at_code_n, ops_nil, ops_mv, ops_slcA, vslcA, ops_box, ops_call, ev_t, ev_c, put_get, opv_mk, Bx, args0, List.getD_cons_zero, vslc, V.cells, ptrV, obsOk, List.map_cons, List.map_nil, Option.map_none, true_and, Nat.reduceEqDiff, Nat.reduceLeDiff, ↓reduceIte, ne_eq, not_false_eq_true, eq_self, reduceCtorEq, bs_len, h4]
  intro b hb
  have hm := MRow.put (L := L) (spare := []) (cap := 4) hwf.weak hwf.lt hb (by simp [h4]) (by unfold maxLen; omega)
  rw [List.append_nil, h4] at hm
  refine Cal.mk (hm.reads fun n => (tget32_v hB h4).mono fun _ _ h => h.1) ?_
  rintro _ _ ⟨rfl, rfl⟩ -
  simp (config := {maxSteps := 3000000}) only [run_ret, at_code_n, at_fin_r, ops_nil, ops_mv, ev_t, put_get, opv_mk, obsOk, and_true, true_and, ↓reduceIte, vret, rvAll, rvVal, resv_1, eq_self]
  exact ⟨_, _, Wk.refl _, weak_put hwf.weak hb, rfl, rfl⟩
theorem addrText_v {a : Int} (h0 : 0 ≤ a) (h1 : a < 4294967296) : VCalls Try.prog 39 [.sc (.int .u32 a)] st fun r st' => r = .sc (.string (strOf (addrT a))) ∧ st = st' := by
  refine vcalls_enter vc39 (Nat.le_of_ble_eq_true rfl) fun hwf hok => ?_
  show Run _ Vc39.body (.fin (finQ Vc39.res _)) _ _
  unfold Vc39
  have hb : beL a 4 = [a / 16777216 % 256, a / 65536 % 256, a / 256 % 256, a % 256] := beL4 a
  have hT : addrT a = digs 2 (a / 16777216 % 256).toNat ++ 46 :: (digs 2 (a / 65536 % 256).toNat ++ 46 :: (digs 2 (a / 256 % 256).toNat ++ 46 :: digs 2 (a % 256).toNat)) := rfl
  have hB := addrBytes_v (st := st) h0 h1
  rw [hb] at hB
  rw [hT]
  have q0 : 0 ≤ a / 16777216 % 256 ∧ a / 16777216 % 256 < 256 := by omega
  have q1 : 0 ≤ a / 65536 % 256 ∧ a / 65536 % 256 < 256 := by omega
  have q2 : 0 ≤ a / 256 % 256 ∧ a / 256 % 256 < 256 := by omega
  have q3 : 0 ≤ a % 256 ∧ a % 256 < 256 := by omega
  generalize a / 16777216 % 256 = b0 at *
  generalize a / 65536 % 256 = b1 at *
  generalize a / 256 % 256 = b2 at *
  generalize a % 256 = b3 at *
  clear hb hT
  have l0 := digs_len 2 b0.toNat
  have l1 := digs_len 2 b1.toNat
  have l2 := digs_len 2 b2.toNat
  have l3 := digs_len 2 b3.toNat
  have n0 := fun st : St => hexNum_v (st := st) (n := b0) (by omega)
  have n1 := fun st : St => hexNum_v (st := st) (n := b1) (by omega)
  have n2 := fun st : St => hexNum_v (st := st) (n := b2) (by omega)
  have n3 := fun st : St => hexNum_v (st := st) (n := b3) (by omega)
  rw [digs_byte q0] at n0
  rw [digs_byte q1] at n1
  rw [digs_byte q2] at n2
  rw [digs_byte q3] at n3
  generalize digs 2 b0.toNat = d0 at *
  generalize digs 2 b1.toNat = d1 at *
  generalize digs 2 b2.toNat = d2 at *
  generalize digs 2 b3.toNat = d3 at *
  simp (config := {maxSteps := 3000000}) only [run_reg, run_seq, at_code_n, ops_nil, ops_mv, ops_call, ev_t, ev_c, put_get, opv_mk, args0, List.getD_cons_zero, List.map_cons, List.map_nil, true_and, ↓reduceIte, eq_self, reduceCtorEq]
  refine Cal.mk hB ?_
  rintro _ _ ⟨rfl, rfl⟩ -
  simp (config := {maxSteps := 3000000}) only [run_blk, at_code_n, ops_nil, ops_mv, ev_c, opv_mk, obsOk, true_and, bs_cons, bs_nil]
  refine run_loop [3, 4, 5, 8, 9, 10, 11, 12, 13, 14, 15, 16, 17, 18, 19, 20, 21] (fun B s => st = s ∧ ((B 8 = .sc (.int .i64 0) ∧ B 3 = .sc (.string (strOf []))) ∨ (B 8 = .sc (.int .i64 1) ∧ B 3 = .sc (.string (strOf d0))) ∨ (B 8 = .sc (.int .i64 2) ∧ B 3 = .sc (.string (strOf (d0 ++ [46] ++ d1)))) ∨
    (B 8 = .sc (.int .i64 3) ∧ B 3 = .sc (.string (strOf (d0 ++ [46] ++ d1 ++ [46] ++ d2)))) ∨ (B 8 = .sc (.int .i64 4) ∧ B 3 = .sc (.string (strOf (d0 ++ [46] ++ d1 ++ [46] ++ d2 ++ [46] ++ d3)))))) (fun B _ => 4 - vnat (B 8)) rfl ?_ ?_
  · simp (config := {maxSteps := 3000000}) only [put_get, true_and, Nat.reduceEqDiff, ↓reduceIte, eq_self]
    first | exact .inl ⟨rfl, rfl⟩ | exact .inl rfl
  · rintro B s ⟨rfl, ⟨h8, h3⟩ | ⟨h8, h3⟩ | ⟨h8, h3⟩ | ⟨h8, h3⟩ | ⟨h8, h3⟩⟩
    · simp (config := {maxSteps := 3000000}) only [run_skip, run_reg, run_seq, run_blk, run_cond, if_true, if_false, at_code_n, ops_nil, ops_mv, ops_bin, ops_aidx, vaidx, ops_conv, ops_call, ev_t, ev_c, put_get, opv_mk, over_get, vnat, vbin, vbinI, vconv, norm, List.map_cons, List.map_nil, List.getElem?_cons_zero, true_and, Nat.reduceEqDiff, Nat.reduceSub, Int.reduceToNat, Int.reduceLE, Int.reduceLT, Int.reduceNeg, ↓reduceIte, decide_true, decide_false, Int.lt_irrefl, eq_self, Bool.false_eq_true, List.contains_cons, List.contains_nil, Nat.reduceBEq, Bool.or_false, Bool.or_true, h8, h3]
      repeat (apply And.intro; focus (first | omega | (simp; done)))
      refine Cal.mk (n0 _) ?_
      rintro _ _ ⟨rfl, rfl⟩ -
      simp (config := {maxSteps := 3000000}) only [run_reg, at_code_n, at_blk_n, at_rnd_n, ops_nil, ops_mv, ops_bin, ev_t, ev_c, put_get, opv_mk, over_get, rel_mk, vbin, vbinI, vbinS, norm, obsOk, List.length_nil, List.nil_append, and_true, true_and, Nat.reduceEqDiff, Nat.reduceSub, Nat.reduceLT, Nat.reduceLT, Int.reduceToNat, Int.reduceLE, Int.reduceAdd, Int.reduceNeg, Nat.zero_add, ↓reduceIte, eq_self, List.contains_cons, List.contains_nil, Nat.reduceBEq, Bool.or_false, Bool.or_true, or_true, true_or, h8, strOf_size, strOf_append]
      repeat (apply And.intro; focus (first | omega | (simp; done)))
      first | omega | exact ⟨.inr (.inl ⟨rfl, by simp⟩), by omega⟩ | exact .inr (.inl ⟨rfl, by simp⟩) | exact ⟨.inr (.inl (by simp)), by omega⟩ | exact .inr (.inl (by simp))
    · simp (config := {maxSteps := 3000000}) only [run_skip, run_reg, run_seq, run_blk, run_cond, if_true, at_code_n, ops_nil, ops_mv, ops_bin, ops_aidx, vaidx, ops_conv, ops_call, ev_t, ev_c, put_get, opv_mk, over_get, vnat, vbin, vbinI, vbinS, vconv, norm, List.map_cons, List.map_nil, List.length_cons, List.length_nil, List.getElem?_cons_zero, List.getElem?_cons_succ, true_and, Nat.reduceEqDiff, Nat.reduceSub, Nat.reduceLeDiff, Int.reduceToNat, Int.reduceLE, Int.reduceLT, Int.reduceNeg, Nat.zero_add, ↓reduceIte, decide_true, eq_self, Bool.false_eq_true, List.contains_cons, List.contains_nil, Nat.reduceBEq, Bool.or_false, Bool.or_true, h8, h3, strOf_46, strOf_size, strOf_append]
      repeat (apply And.intro; focus (first | omega | (simp; done)))
      refine Cal.mk (n1 _) ?_
      rintro _ _ ⟨rfl, rfl⟩ -
      simp (config := {maxSteps := 3000000}) only [run_reg, at_code_n, at_blk_n, at_rnd_n, ops_nil, ops_mv, ops_bin, ev_t, ev_c, put_get, opv_mk, over_get, rel_mk, vbin, vbinI, vbinS, norm, obsOk, List.length_cons, List.length_nil, and_true, true_and, Nat.reduceEqDiff, Nat.reduceSub, Nat.reduceLT, Nat.reduceLT, Int.reduceToNat, Int.reduceLE, Int.reduceAdd, Int.reduceNeg, Nat.zero_add, ↓reduceIte, eq_self, List.contains_cons, List.contains_nil, Nat.reduceBEq, Bool.or_false, Bool.or_true, or_true, true_or, h8, strOf_size, strOf_append, List.length_append]
      repeat (apply And.intro; focus (first | omega | (simp; done)))
      first | omega | exact ⟨.inr (.inr (.inl ⟨rfl, by simp⟩)), by omega⟩ | exact .inr (.inr (.inl ⟨rfl, by simp⟩)) | exact ⟨.inr (.inr (.inl (by simp))), by omega⟩ | exact .inr (.inr (.inl (by simp)))
    · simp (config := {maxSteps := 3000000}) only [run_skip, run_reg, run_seq, run_blk, run_cond, if_true, at_code_n, ops_nil, ops_mv, ops_bin, ops_aidx, vaidx, ops_conv, ops_call, ev_t, ev_c, put_get, opv_mk, over_get, vnat, vbin, vbinI, vbinS, vconv, norm, List.map_cons, List.map_nil, List.length_cons, List.length_nil, List.getElem?_cons_zero, List.getElem?_cons_succ, true_and, Nat.reduceEqDiff, Nat.reduceSub, Nat.reduceLeDiff, Int.reduceToNat, Int.reduceLE, Int.reduceLT, Int.reduceNeg, Nat.zero_add, ↓reduceIte, decide_true, eq_self, Bool.false_eq_true, List.contains_cons, List.contains_nil, Nat.reduceBEq, Bool.or_false, Bool.or_true, h8, h3, strOf_46, strOf_size, strOf_append, List.length_append]
      repeat (apply And.intro; focus (first | omega | (simp; done)))
      refine Cal.mk (n2 _) ?_
      rintro _ _ ⟨rfl, rfl⟩ -
      simp (config := {maxSteps := 3000000}) only [run_reg, at_code_n, at_blk_n, at_rnd_n, ops_nil, ops_mv, ops_bin, ev_t, ev_c, put_get, opv_mk, over_get, rel_mk, vbin, vbinI, vbinS, norm, obsOk, List.length_cons, List.length_nil, and_true, true_and, Nat.reduceEqDiff, Nat.reduceSub, Nat.reduceLT, Nat.reduceLT, Int.reduceToNat, Int.reduceLE, Int.reduceAdd, Int.reduceNeg, Nat.zero_add, ↓reduceIte, eq_self, List.contains_cons, List.contains_nil, Nat.reduceBEq, Bool.or_false, Bool.or_true, or_true, true_or, h8, strOf_size, strOf_append, List.length_append]
      repeat (apply And.intro; focus (first | omega | (simp; done)))
      first | omega | exact ⟨.inr (.inr (.inr (.inl ⟨rfl, by simp⟩))), by omega⟩ | exact .inr (.inr (.inr (.inl ⟨rfl, by simp⟩))) | exact ⟨.inr (.inr (.inr (.inl (by simp)))), by omega⟩ | exact .inr (.inr (.inr (.inl (by simp))))
    · simp (config := {maxSteps := 3000000}) only [run_skip, run_reg, run_seq, run_blk, run_cond, if_true, at_code_n, ops_nil, ops_mv, ops_bin, ops_aidx, vaidx, ops_conv, ops_call, ev_t, ev_c, put_get, opv_mk, over_get, vnat, vbin, vbinI, vbinS, vconv, norm, List.map_cons, List.map_nil, List.length_cons, List.length_nil, List.getElem?_cons_zero, List.getElem?_cons_succ, true_and, Nat.reduceEqDiff, Nat.reduceSub, Nat.reduceLeDiff, Int.reduceToNat, Int.reduceLE, Int.reduceLT, Int.reduceNeg, Nat.zero_add, ↓reduceIte, decide_true, eq_self, Bool.false_eq_true, List.contains_cons, List.contains_nil, Nat.reduceBEq, Bool.or_false, Bool.or_true, h8, h3, strOf_46, strOf_size, strOf_append, List.length_append]
      repeat (apply And.intro; focus (first | omega | (simp; done)))
      refine Cal.mk (n3 _) ?_
      rintro _ _ ⟨rfl, rfl⟩ -
      simp (config := {maxSteps := 3000000}) only [run_reg, at_code_n, at_blk_n, at_rnd_n, ops_nil, ops_mv, ops_bin, ev_t, ev_c, put_get, opv_mk, over_get, rel_mk, vbin, vbinI, vbinS, norm, obsOk, List.length_cons, List.length_nil, and_true, true_and, Nat.reduceEqDiff, Nat.reduceSub, Nat.reduceLT, Nat.reduceLT, Int.reduceToNat, Int.reduceLE, Int.reduceAdd, Int.reduceNeg, Nat.zero_add, ↓reduceIte, eq_self, List.contains_cons, List.contains_nil, Nat.reduceBEq, Bool.or_false, Bool.or_true, or_true, h8, strOf_size, strOf_append, List.length_append]
      repeat (apply And.intro; focus (first | omega | (simp; done)))
      first | omega | exact ⟨.inr (.inr (.inr (.inr ⟨rfl, by simp⟩))), by omega⟩ | exact .inr (.inr (.inr (.inr ⟨rfl, by simp⟩))) | exact ⟨.inr (.inr (.inr (.inr (by simp)))), by omega⟩ | exact .inr (.inr (.inr (.inr (by simp))))
    · simp (config := {maxSteps := 3000000}) only [run_reg, run_seq, run_exit, run_ret, run_cond, if_false, at_code_n, at_code_x, at_blk_x, at_rnd_x, at_fin_r, ops_nil, ops_mv, ops_bin, ev_t, ev_c, put_get, opv_mk, over_get, vnat, vbin, vbinI, and_true, true_and, Nat.reduceEqDiff, Nat.reduceSub, Int.reduceToNat, ↓reduceIte, vret, rvAll, rvVal, resv_1, decide_false, Int.lt_irrefl, eq_self, List.contains_cons, List.contains_nil, Nat.reduceBEq, Bool.or_false, Bool.or_true, h8, h3]
      exact ⟨_, _, Wk.refl _, hwf.weak, by simp, rfl⟩
end
end Go.Proofs.Ytmomebkfaibmgaa
