/- bits.Len64, bits.Len, slices.nextPowerOfTwo, xorshift.Next: contracts. Printed by a program (gen_sortb.py). No program here. -/
import Derived.Test.YtlngegoamfklgaaVSortB0
namespace Go.Proofs.Ytlngegoamfklgaa
open Go

/-- The table of lengths. -/
def TabOk (T : ByteArray) : Prop := ∀ x : Nat, x < 256 → ∃ t : Nat, (bytesOf T)[x]? = some (t : Int) ∧ t ≤ 8 ∧ x < 2 ^ t ∧ (x = 0 ∨ 2 ^ t ≤ 2 * x)
theorem tab_all : (List.range 256).all (fun x => match (bytesOf bitsTab)[x]? with | some t => decide (0 ≤ t ∧ t ≤ 8 ∧ x < 2 ^ t.toNat ∧ (x = 0 ∨ 2 ^ t.toNat ≤ 2 * x)) | none => false) = true := by kernel_rfl
theorem tab_ok : TabOk bitsTab := fun x hx => by
  have h := List.all_eq_true.1 tab_all x (List.mem_range.2 hx)
  cases e : (bytesOf bitsTab)[x]? with
  | none => simp [e] at h
  | some t =>
    simp only [e, decide_eq_true_eq] at h
    exact ⟨t.toNat, by rw [show ((t.toNat : Nat) : Int) = t by omega], by omega, h.2.2.1, h.2.2.2⟩
theorem pow_in {k n t x y : Nat} (hk : k = n + t) {p : Nat} (hp : p = 2 ^ n) (h1 : y * p ≤ x) (h2 : x < (y + 1) * p) (h3 : y < 2 ^ t) (h4 : y = 0 ∨ 2 ^ t ≤ 2 * y) : x < 2 ^ k ∧ (y = 0 ∨ 2 ^ k ≤ 2 * x) := by
  subst hk hp
  rw [Nat.pow_add]
  refine ⟨Nat.lt_of_lt_of_le h2 (by rw [Nat.mul_comm]; exact Nat.mul_le_mul_left _ h3), ?_⟩
  rcases h4 with h4 | h4
  · exact .inl h4
  · refine .inr (Nat.le_trans (Nat.mul_le_mul_left (2 ^ n) h4) ?_)
    rw [← Nat.mul_assoc, Nat.mul_comm (2 ^ n) 2, Nat.mul_assoc]
    exact Nat.mul_le_mul_left 2 (by rw [Nat.mul_comm]; exact h1)
theorem weak_ne {st : St} {b : Nat} {X Y : List V} (h : (st.put b X).Wf) : (st.put b Y).weak (st.put b Y) := by
  have := (h.lt.put (b := b) (cs := Y)).weak
  rwa [put_put] at this
section
variable {P : Program} {st : St} {f flen flen32 flen64 : FuncId} {T : ByteArray}
set_option maxRecDepth 100000 in
set_option maxHeartbeats 16000000 in
theorem blen64_v (hf : cFun P f = some (BLen64 T)) (hT : TabOk T) {x : Nat} (hx : x < 18446744073709551616) :
    VCalls P f [.sc (.int .u64 x)] st fun v s => st = s ∧ ∃ k : Nat, k ≤ 64 ∧ x < 2 ^ k ∧ (x = 0 ∨ 2 ^ k ≤ 2 * x) ∧ v = .sc (.int .i64 k) := by
  refine vcalls_enter hf (Nat.le_of_ble_eq_true rfl) fun hwf hok => ?_
  show Run _ (BLen64 T).body (.fin (finQ (BLen64 T).res _)) _ _
  unfold BLen64
  by_cases c0 : (4294967296 : Int) ≤ (x : Int)
  · obtain ⟨a, ea⟩ : ∃ y : Nat, y = x / 4294967296 := ⟨_, rfl⟩
    have ia : (x : Int) / 4294967296 = (a : Int) := by omega
    by_cases c1 : (65536 : Int) ≤ (a : Int)
    · obtain ⟨b, eb⟩ : ∃ y : Nat, y = a / 65536 := ⟨_, rfl⟩
      have ib : (a : Int) / 65536 = (b : Int) := by omega
      by_cases c2 : (256 : Int) ≤ (b : Int)
      · obtain ⟨c, ec⟩ : ∃ y : Nat, y = b / 256 := ⟨_, rfl⟩
        have ic : (b : Int) / 256 = (c : Int) := by omega
        obtain ⟨t, ht, t8, t1, t2⟩ := hT c (by omega)
        have em : (c : Int) % 256 = (c : Int) := by omega
        simp (config := {maxSteps := 3000000}) only [run_reg, run_seq, run_ret, run_cond, if_true, at_code_n, at_fin_r, ops_nil, ops_mv, ops_bin, ops_sidx, vsidx, ops_conv, ev_t, ev_c, put_get, opv_mk, args0, List.getD_cons_zero, vbin, vbinI, vconv, norm, shAmt, IntKind.bits, and_true, true_and, Nat.reduceEqDiff, Nat.reduceLeDiff, Int.reduceToNat, Int.toNat_natCast, Int.reduceLE, Int.reducePow, Int.reduceAdd, Int.reduceNeg, Nat.min_def, ↓reduceIte, vret, rvAll, rvVal, resv_1, eq_self, reduceCtorEq, decide_eq_true c0, ia, decide_eq_true c1, ib, decide_eq_true c2, ic, em, ht]
        repeat (apply And.intro; focus (first | omega | (simp; done)))
        have hp := pow_in (k := 56 + t) (n := 56) (x := x) (y := c) rfl (p := 72057594037927936) (by decide) (by omega) (by omega) t1 t2
        exact ⟨_, _, Wk.refl _, hwf.weak, rfl, 56 + t, by omega, hp.1, by omega, by simp⟩
      · obtain ⟨t, ht, t8, t1, t2⟩ := hT b (by omega)
        have em : (b : Int) % 256 = (b : Int) := by omega
        simp (config := {maxSteps := 3000000}) only [run_skip, run_reg, run_seq, run_ret, run_cond, if_true, if_false, at_code_n, at_fin_r, ops_nil, ops_mv, ops_bin, ops_sidx, vsidx, ops_conv, ev_t, ev_c, put_get, opv_mk, args0, List.getD_cons_zero, vbin, vbinI, vconv, norm, shAmt, IntKind.bits, and_true, true_and, Nat.reduceEqDiff, Nat.reduceLeDiff, Int.reduceToNat, Int.toNat_natCast, Int.reduceLE, Int.reducePow, Int.reduceAdd, Int.reduceNeg, Nat.min_def, ↓reduceIte, vret, rvAll, rvVal, resv_1, eq_self, reduceCtorEq, decide_eq_true c0, ia, decide_eq_true c1, ib, decide_eq_false c2, em, ht]
        repeat (apply And.intro; focus (first | omega | (simp; done)))
        have hp := pow_in (k := 48 + t) (n := 48) (x := x) (y := b) rfl (p := 281474976710656) (by decide) (by omega) (by omega) t1 t2
        exact ⟨_, _, Wk.refl _, hwf.weak, rfl, 48 + t, by omega, hp.1, by omega, by simp⟩
    · by_cases c2 : (256 : Int) ≤ (a : Int)
      · obtain ⟨c, ec⟩ : ∃ y : Nat, y = a / 256 := ⟨_, rfl⟩
        have ic : (a : Int) / 256 = (c : Int) := by omega
        obtain ⟨t, ht, t8, t1, t2⟩ := hT c (by omega)
        have em : (c : Int) % 256 = (c : Int) := by omega
        simp (config := {maxSteps := 3000000}) only [run_skip, run_reg, run_seq, run_ret, run_cond, if_true, if_false, at_code_n, at_fin_r, ops_nil, ops_mv, ops_bin, ops_sidx, vsidx, ops_conv, ev_t, ev_c, put_get, opv_mk, args0, List.getD_cons_zero, vbin, vbinI, vconv, norm, shAmt, IntKind.bits, and_true, true_and, Nat.reduceEqDiff, Nat.reduceLeDiff, Int.reduceToNat, Int.toNat_natCast, Int.reduceLE, Int.reducePow, Int.reduceAdd, Int.reduceNeg, Nat.min_def, ↓reduceIte, vret, rvAll, rvVal, resv_1, eq_self, reduceCtorEq, decide_eq_true c0, ia, decide_eq_false c1, decide_eq_true c2, ic, em, ht]
        repeat (apply And.intro; focus (first | omega | (simp; done)))
        have hp := pow_in (k := 40 + t) (n := 40) (x := x) (y := c) rfl (p := 1099511627776) (by decide) (by omega) (by omega) t1 t2
        exact ⟨_, _, Wk.refl _, hwf.weak, rfl, 40 + t, by omega, hp.1, by omega, by simp⟩
      · obtain ⟨t, ht, t8, t1, t2⟩ := hT a (by omega)
        have em : (a : Int) % 256 = (a : Int) := by omega
        simp (config := {maxSteps := 3000000}) only [run_skip, run_reg, run_seq, run_ret, run_cond, if_true, if_false, at_code_n, at_fin_r, ops_nil, ops_mv, ops_bin, ops_sidx, vsidx, ops_conv, ev_t, ev_c, put_get, opv_mk, args0, List.getD_cons_zero, vbin, vbinI, vconv, norm, shAmt, IntKind.bits, and_true, true_and, Nat.reduceEqDiff, Nat.reduceLeDiff, Int.reduceToNat, Int.toNat_natCast, Int.reduceLE, Int.reducePow, Int.reduceNeg, Nat.min_def, ↓reduceIte, vret, rvAll, rvVal, resv_1, eq_self, reduceCtorEq, decide_eq_true c0, ia, decide_eq_false c1, decide_eq_false c2, em, ht]
        repeat (apply And.intro; focus (first | omega | (simp; done)))
        have hp := pow_in (k := 32 + t) (n := 32) (x := x) (y := a) rfl (p := 4294967296) (by decide) (by omega) (by omega) t1 t2
        exact ⟨_, _, Wk.refl _, hwf.weak, rfl, 32 + t, by omega, hp.1, by omega, by simp⟩
  · by_cases c1 : (65536 : Int) ≤ (x : Int)
    · obtain ⟨b, eb⟩ : ∃ y : Nat, y = x / 65536 := ⟨_, rfl⟩
      have ib : (x : Int) / 65536 = (b : Int) := by omega
      by_cases c2 : (256 : Int) ≤ (b : Int)
      · obtain ⟨c, ec⟩ : ∃ y : Nat, y = b / 256 := ⟨_, rfl⟩
        have ic : (b : Int) / 256 = (c : Int) := by omega
        obtain ⟨t, ht, t8, t1, t2⟩ := hT c (by omega)
        have em : (c : Int) % 256 = (c : Int) := by omega
        simp (config := {maxSteps := 3000000}) only [run_skip, run_reg, run_seq, run_ret, run_cond, if_true, if_false, at_code_n, at_fin_r, ops_nil, ops_mv, ops_bin, ops_sidx, vsidx, ops_conv, ev_t, ev_c, put_get, opv_mk, args0, List.getD_cons_zero, vbin, vbinI, vconv, norm, shAmt, IntKind.bits, and_true, true_and, Nat.reduceEqDiff, Nat.reduceLeDiff, Int.reduceToNat, Int.toNat_natCast, Int.reduceLE, Int.reducePow, Int.reduceAdd, Int.reduceNeg, Nat.min_def, ↓reduceIte, vret, rvAll, rvVal, resv_1, eq_self, reduceCtorEq, decide_eq_false c0, decide_eq_true c1, ib, decide_eq_true c2, ic, em, ht]
        repeat (apply And.intro; focus (first | omega | (simp; done)))
        have hp := pow_in (k := 24 + t) (n := 24) (x := x) (y := c) rfl (p := 16777216) (by decide) (by omega) (by omega) t1 t2
        exact ⟨_, _, Wk.refl _, hwf.weak, rfl, 24 + t, by omega, hp.1, by omega, by simp⟩
      · obtain ⟨t, ht, t8, t1, t2⟩ := hT b (by omega)
        have em : (b : Int) % 256 = (b : Int) := by omega
        simp (config := {maxSteps := 3000000}) only [run_skip, run_reg, run_seq, run_ret, run_cond, if_true, if_false, at_code_n, at_fin_r, ops_nil, ops_mv, ops_bin, ops_sidx, vsidx, ops_conv, ev_t, ev_c, put_get, opv_mk, args0, List.getD_cons_zero, vbin, vbinI, vconv, norm, shAmt, IntKind.bits, and_true, true_and, Nat.reduceEqDiff, Nat.reduceLeDiff, Int.reduceToNat, Int.toNat_natCast, Int.reduceLE, Int.reducePow, Int.reduceAdd, Int.reduceNeg, Nat.min_def, ↓reduceIte, vret, rvAll, rvVal, resv_1, eq_self, reduceCtorEq, decide_eq_false c0, decide_eq_true c1, ib, decide_eq_false c2, em, ht]
        repeat (apply And.intro; focus (first | omega | (simp; done)))
        have hp := pow_in (k := 16 + t) (n := 16) (x := x) (y := b) rfl (p := 65536) (by decide) (by omega) (by omega) t1 t2
        exact ⟨_, _, Wk.refl _, hwf.weak, rfl, 16 + t, by omega, hp.1, by omega, by simp⟩
    · by_cases c2 : (256 : Int) ≤ (x : Int)
      · obtain ⟨c, ec⟩ : ∃ y : Nat, y = x / 256 := ⟨_, rfl⟩
        have ic : (x : Int) / 256 = (c : Int) := by omega
        obtain ⟨t, ht, t8, t1, t2⟩ := hT c (by omega)
        have em : (c : Int) % 256 = (c : Int) := by omega
        simp (config := {maxSteps := 3000000}) only [run_skip, run_reg, run_seq, run_ret, run_cond, if_true, if_false, at_code_n, at_fin_r, ops_nil, ops_mv, ops_bin, ops_sidx, vsidx, ops_conv, ev_t, ev_c, put_get, opv_mk, args0, List.getD_cons_zero, vbin, vbinI, vconv, norm, shAmt, IntKind.bits, and_true, true_and, Nat.reduceEqDiff, Nat.reduceLeDiff, Int.reduceToNat, Int.toNat_natCast, Int.reduceLE, Int.reducePow, Int.reduceAdd, Int.reduceNeg, Nat.min_def, ↓reduceIte, vret, rvAll, rvVal, resv_1, eq_self, reduceCtorEq, decide_eq_false c0, decide_eq_false c1, decide_eq_true c2, ic, em, ht]
        repeat (apply And.intro; focus (first | omega | (simp; done)))
        have hp := pow_in (k := 8 + t) (n := 8) (x := x) (y := c) rfl (p := 256) (by decide) (by omega) (by omega) t1 t2
        exact ⟨_, _, Wk.refl _, hwf.weak, rfl, 8 + t, by omega, hp.1, by omega, by simp⟩
      · obtain ⟨t, ht, t8, t1, t2⟩ := hT x (by omega)
        have em : (x : Int) % 256 = (x : Int) := by omega
        simp (config := {maxSteps := 3000000}) only [run_skip, run_reg, run_seq, run_ret, run_cond, if_false, at_code_n, at_fin_r, ops_nil, ops_mv, ops_bin, ops_sidx, vsidx, ops_conv, ev_t, ev_c, put_get, opv_mk, args0, List.getD_cons_zero, vbin, vbinI, vconv, norm, and_true, true_and, Nat.reduceEqDiff, Int.toNat_natCast, Int.reduceNeg, ↓reduceIte, vret, rvAll, rvVal, resv_1, eq_self, reduceCtorEq, decide_eq_false c0, decide_eq_false c1, decide_eq_false c2, em, ht]
        repeat (apply And.intro; focus (first | omega | (simp; done)))
        have hp := pow_in (k := 0 + t) (n := 0) (x := x) (y := x) rfl (p := 1) (by decide) (by omega) (by omega) t1 t2
        exact ⟨_, _, Wk.refl _, hwf.weak, rfl, 0 + t, by omega, hp.1, by omega, by simp⟩
set_option maxRecDepth 100000 in
set_option maxHeartbeats 4000000 in
theorem blen_v (hf : cFun P f = some (BLen flen32 flen64)) (h64 : cFun P flen64 = some (BLen64 T)) (hT : TabOk T) {x : Nat} (hx : x < 18446744073709551616) :
    VCalls P f [.sc (.int .u64 x)] st fun v s => st = s ∧ ∃ k : Nat, k ≤ 64 ∧ x < 2 ^ k ∧ (x = 0 ∨ 2 ^ k ≤ 2 * x) ∧ v = .sc (.int .i64 k) := by
  refine vcalls_enter hf (Nat.le_of_ble_eq_true rfl) fun hwf hok => ?_
  show Run _ (BLen flen32 flen64).body (.fin (finQ (BLen flen32 flen64).res _)) _ _
  unfold BLen
  simp (config := {maxSteps := 3000000}) only [run_skip, run_reg, run_seq, run_cond, if_false, at_code_n, ops_nil, ops_mv, ops_call, ev_t, ev_c, put_get, opv_mk, args0, List.getD_cons_zero, List.map_cons, List.map_nil, true_and, ↓reduceIte, eq_self, reduceCtorEq]
  refine Cal.mk (blen64_v h64 hT hx) ?_
  rintro _ _ ⟨rfl, k, h1, h2, h3, rfl⟩ -
  simp (config := {maxSteps := 3000000}) only [run_ret, at_code_n, at_fin_r, ops_nil, ops_mv, ev_t, put_get, opv_mk, obsOk, and_true, true_and, ↓reduceIte, vret, rvAll, rvVal, resv_1, eq_self]
  exact ⟨_, _, Wk.refl _, hwf.weak, rfl, k, h1, h2, h3, rfl⟩
set_option maxRecDepth 100000 in
set_option maxHeartbeats 4000000 in
theorem bpow_v (hf : cFun P f = some (BPow flen)) (hfl : cFun P flen = some (BLen flen32 flen64)) (h64 : cFun P flen64 = some (BLen64 T)) (hT : TabOk T) {n : Nat} (h0 : 0 < n) (hn : n < 4611686018427387904) :
    VCalls P f [.sc (.int .i64 n)] st fun v s => st = s ∧ ∃ m : Nat, n < m ∧ m ≤ 2 * n ∧ v = .sc (.int .u64 m) := by
  have en : (n : Int) % 18446744073709551616 = (n : Int) := by omega
  refine vcalls_enter hf (Nat.le_of_ble_eq_true rfl) fun hwf hok => ?_
  show Run _ (BPow flen).body (.fin (finQ (BPow flen).res _)) _ _
  unfold BPow
  simp (config := {maxSteps := 3000000}) only [run_reg, run_seq, at_code_n, ops_nil, ops_mv, ops_conv, ops_call, ev_t, ev_c, put_get, opv_mk, args0, List.getD_cons_zero, vconv, norm, List.map_cons, List.map_nil, true_and, ↓reduceIte, eq_self, reduceCtorEq, en]
  refine Cal.mk (blen_v hfl h64 hT (x := n) (by omega)) ?_
  rintro _ _ ⟨rfl, k, h1, h2, h3, rfl⟩ -
  have h4 : 2 ^ k ≤ 2 * n := by omega
  have em : ((1 : Int) * 2 ^ min ((k : Int)).toNat 64) % 18446744073709551616 = ((2 ^ k : Nat) : Int) := by
    rw [Int.toNat_natCast, Nat.min_eq_left h1, Int.one_mul]
    have e2 : (2 : Int) ^ k = ((2 ^ k : Nat) : Int) := by simp
    rw [e2]
    have : 2 ^ k < 18446744073709551616 := by omega
    generalize 2 ^ k = q at this ⊢
    omega
  simp only [Int.toNat_natCast, Int.one_mul, Nat.min_eq_left h1] at em
  simp (config := {maxSteps := 3000000}) only [run_ret, at_code_n, at_fin_r, ops_nil, ops_mv, ops_bin, ev_t, ev_c, put_get, opv_mk, vbin, vbinI, norm, obsOk, shAmt, IntKind.bits, and_true, true_and, Int.toNat_natCast, ↓reduceIte, vret, rvAll, rvVal, resv_1, eq_self, em, Int.one_mul, Nat.min_eq_left h1]
  repeat (apply And.intro; focus (first | omega | (simp; done)))
  exact ⟨_, _, Wk.refl _, hwf.weak, rfl, 2 ^ k, h2, h4, by first | rfl | simp⟩
set_option maxRecDepth 100000 in
set_option maxHeartbeats 4000000 in
theorem bnext_v (hf : cFun P f = some BNext) (st : St) (r : Nat) (x : Int) : VCalls P f [ptrV r] (st.put r [.sc (.int .u64 x)]) fun v s => ∃ y, v = .sc (.int .u64 y) ∧ s = st.put r [.sc (.int .u64 y)] := by
  refine vcalls_enter hf (Nat.le_of_ble_eq_true rfl) fun hwf hok => ?_
  show Run _ (BNext).body (.fin (finQ (BNext).res _)) _ _
  unfold BNext
  simp (config := {maxSteps := 3000000}) only [run_reg, run_seq, run_ret, at_code_n, at_fin_r, ops_nil, ops_mv, ops_bin, ops_load, ops_nilck, ops_store, ev_t, ev_c, put_get, put_none, opv_mk, stb_some, sto_ptr, Stp, put_box_same, put_put, args0, List.getD_cons_zero, vbin, vbinI, norm, vnil, vload, takeV, takeB, mono_sc, splice, V.cells, ptrV, obsOk, shAmt, IntKind.bits, List.length_cons, List.length_nil, List.getElem?_cons_zero, List.take_zero, List.drop_succ_cons, List.nil_append, List.append_nil, List.drop_nil, and_true, true_and, Nat.reduceEqDiff, Nat.reduceLT, Nat.reduceLeDiff, Nat.reduceLT, Int.reduceToNat, Int.reduceLE, Int.reducePow, Nat.min_def, Nat.zero_add, ↓reduceIte, vret, rvAll, rvVal, resv_1, eq_self, reduceCtorEq]
  exact ⟨_, _, Wk.refl _, weak_ne hwf, _, rfl, rfl⟩
end
end Go.Proofs.Ytlngegoamfklgaa