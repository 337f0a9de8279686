/- msg.Of: contract. -/
import Derived.Test.YtogkdcbcmhhhcaaVMsg
namespace Go.Proofs.Ytogkdcbcmhhhcaa
open Go Go.RowKit

/-- The empty text. -/
def e0 : ByteArray := ⟨#[]⟩
/-- A control message. -/
structure MG where
  ty : Int
  N : List Int
  T : List ByteArray
def MG.cells (m : MG) : List V := .sc (.int .i64 m.ty) :: (us m.N ++ ts m.T)
def MG.v (m : MG) : V := .agg m.cells
def isNum (k : Int) : Bool := decide (0 < k) && decide (k ≤ 4)
/-- A part more. -/
def ofS (l : List Int) (s : List Int × Nat) (k : Int) : List Int × Nat :=
  if isNum k = true ∧ s.2 < l.length then (s.1.set s.2 (l.getD s.2 0 % 256 ^ k.toNat), s.2 + 1) else s
def ofN (l K : List Int) : List Int × Nat := K.foldl (ofS l) (List.replicate 9 0, 0)
def ofM (t : Int) (l : List Int) : MG := ⟨t, (ofN l (layoutL t)).1, [e0, e0, e0]⟩
theorem ofN_snoc (l K : List Int) (k : Int) : ofN l (K ++ [k]) = ofS l (ofN l K) k := by simp [ofN]
theorem ofN_nil (l : List Int) : ofN l [] = (List.replicate 9 0, 0) := rfl
theorem ofN_len (l : List Int) : ∀ (K : List Int) (s : List Int × Nat), s.1.length = 9 → (K.foldl (ofS l) s).1.length = 9
  | [], s, h => h
  | k :: K, s, h => by
    rw [List.foldl_cons]
    refine ofN_len l K _ ?_
    unfold ofS
    split
    · simp [h]
    · exact h
theorem ofN_cnt (l : List Int) : ∀ (K : List Int) (s : List Int × Nat), (K.foldl (ofS l) s).2 ≤ s.2 + K.countP isNum
  | [], s => by simp
  | k :: K, s => by
    rw [List.foldl_cons, List.countP_cons]
    have := ofN_cnt l K (ofS l s k)
    have h2 : (ofS l s k).2 ≤ s.2 + (if isNum k = true then 1 else 0) := by
      unfold ofS
      split
      · rename_i h; simp [h.1]
      · split <;> simp
    omega
def layouts : List (List Int) := [[], [2, -2, 4, 4, 2, 2, 64, 64], [2, 1, 1, 4, 4, 2, 2, 64, 64], [1, -3], [1, 1, -2], [4], [4, 1, 1, -2], [2, 2, 4, 4, 4, 4, 2, 2, 2, -2, 64, 64], [2, 2, 1, 1, 2, 4, 2, 2, 4], [2, 2, 4, 4, 2, 2, 64, 64, 64], [2, 2, 1, 1, 2, 2, -2], [2, -2, 4, 2, 2, 4], [2, -2], [2, 1, 1, 2, -2, 128], [2, -2, 4, 4, 4, 4, 4, 4], [2, -2, 4, 4]]
theorem layout_mem (t : Int) : layoutL t ∈ layouts := by
  unfold layoutL
  by_cases h1 : t = 1
  · rw [if_pos h1]; decide
  rw [if_neg h1]
  by_cases h2 : t = 2
  · rw [if_pos h2]; decide
  rw [if_neg h2]
  by_cases h3 : t = 3
  · rw [if_pos h3]; decide
  rw [if_neg h3]
  by_cases h4 : t = 4
  · rw [if_pos h4]; decide
  rw [if_neg h4]
  by_cases h5 : t = 5
  · rw [if_pos h5]; decide
  rw [if_neg h5]
  by_cases h6 : t = 6
  · rw [if_pos h6]; decide
  rw [if_neg h6]
  by_cases h7 : t = 7
  · rw [if_pos h7]; decide
  rw [if_neg h7]
  by_cases h8 : t = 8
  · rw [if_pos h8]; decide
  rw [if_neg h8]
  by_cases h9 : t = 9
  · rw [if_pos h9]; decide
  rw [if_neg h9]
  by_cases h10 : t = 10
  · rw [if_pos h10]; decide
  rw [if_neg h10]
  by_cases h11 : t = 11
  · rw [if_pos h11]; decide
  rw [if_neg h11]
  by_cases h12 : t = 12
  · rw [if_pos h12]; decide
  rw [if_neg h12]
  by_cases h13 : t = 13
  · rw [if_pos h13]; decide
  rw [if_neg h13]
  by_cases h14 : t = 14
  · rw [if_pos h14]; decide
  rw [if_neg h14]
  by_cases h15 : t = 15
  · rw [if_pos h15]; decide
  rw [if_neg h15]
  decide
theorem layout_cnt (t : Int) : (layoutL t).countP isNum ≤ 9 := (by decide : ∀ K ∈ layouts, K.countP isNum ≤ 9) _ (layout_mem t)
theorem layout_len (t : Int) : (layoutL t).length ≤ 12 := (by decide : ∀ K ∈ layouts, K.length ≤ 12) _ (layout_mem t)
theorem layout_big (t : Int) : ∀ k ∈ layoutL t, -100 ≤ k ∧ k ≤ 200 := (by decide : ∀ K ∈ layouts, ∀ k ∈ K, (-100 : Int) ≤ k ∧ k ≤ 200) _ (layout_mem t)
theorem u64_low8 {x : Int} (h0 : 0 ≤ x) (h1 : x < 18446744073709551616) : ibit .and .u64 x 255 = x % 256 := by
  rw [ibit_and, u64_and x 255 h0 h1 (by omega) (by omega), show (255 : Int).toNat = 2 ^ 8 - 1 from rfl, Nat.and_two_pow_sub_one_eq_mod]; omega
theorem u64_low16 {x : Int} (h0 : 0 ≤ x) (h1 : x < 18446744073709551616) : ibit .and .u64 x 65535 = x % 65536 := by
  rw [ibit_and, u64_and x 65535 h0 h1 (by omega) (by omega), show (65535 : Int).toNat = 2 ^ 16 - 1 from rfl, Nat.and_two_pow_sub_one_eq_mod]; omega
theorem u64_low24 {x : Int} (h0 : 0 ≤ x) (h1 : x < 18446744073709551616) : ibit .and .u64 x 16777215 = x % 16777216 := by
  rw [ibit_and, u64_and x 16777215 h0 h1 (by omega) (by omega), show (16777215 : Int).toNat = 2 ^ 24 - 1 from rfl, Nat.and_two_pow_sub_one_eq_mod]; omega
theorem u64_low32 {x : Int} (h0 : 0 ≤ x) (h1 : x < 18446744073709551616) : ibit .and .u64 x 4294967295 = x % 4294967296 := by
  rw [ibit_and, u64_and x 4294967295 h0 h1 (by omega) (by omega), show (4294967295 : Int).toNat = 2 ^ 32 - 1 from rfl, Nat.and_two_pow_sub_one_eq_mod]; omega
section
variable {tk : Tk} {st : St}
theorem us_set {N : List Int} {n : Nat} {x : Int} {T : List V} (h : n < N.length) (y : V) : splice (y :: (us N ++ T)) (1 + n) [.sc (.int .u32 x)] = y :: (us (N.set n x) ++ T) := by
  unfold splice
  apply List.ext_getElem?
  intro i
  have hl : (List.take (1 + n) (y :: (us N ++ T))).length = 1 + n := by simp [us_len]; omega
  rw [List.append_assoc, List.getElem?_append, hl]
  by_cases c1 : i < 1 + n
  · rw [if_pos c1, List.getElem?_take, if_pos c1]
    cases i with
    | zero => rfl
    | succ i =>
      simp only [List.getElem?_cons_succ, List.getElem?_append, us_len, List.length_set, us_get, List.getElem?_set]
      rw [if_pos (by omega), if_pos (by omega), if_neg (by omega)]
  · rw [if_neg c1]
    by_cases c2 : i = 1 + n
    · subst c2
      rw [show 1 + n = n + 1 by omega]
      simp [us, List.getElem?_append, h]
    · rw [List.getElem?_append, if_neg (by simp; omega), List.getElem?_drop]
      simp only [List.length_cons, List.length_nil, Nat.zero_add]
      rw [show 1 + n + 1 + (i - (1 + n) - 1) = i by omega]
      obtain ⟨k, rfl⟩ : ∃ k, i = k + 1 := ⟨i - 1, by omega⟩
      simp only [List.getElem?_cons_succ, List.getElem?_append, us_len, List.length_set, us_get, List.getElem?_set]
      split
      · rw [if_neg (by omega)]
      · rfl
theorem Of_v {l : List Int} (hl : ∀ x ∈ l, 0 ≤ x ∧ x < 4294967296) (hll : l.length ≤ 1000000) (t : Int) : VCalls Try.prog 37 [.sc (.int .i64 t), .sl tk (us l)] st fun r st' => r = (ofM t l).v ∧ st = st' := by
  have hlen := layout_len t
  have hcnt := layout_cnt t
  have hbig := layout_big t
  have hL := fun st : St => layout_v (st := st) t
  have hM : ofM t l = ⟨t, (ofN l (layoutL t)).1, [e0, e0, e0]⟩ := rfl
  generalize ofM t l = M at *
  generalize layoutL t = K at *
  subst hM
  refine vcalls_enter vc37 (Nat.le_of_ble_eq_true rfl) fun hwf hok => ?_
  show Run _ Vc37.body (.fin (finQ Vc37.res _)) _ _
  unfold Vc37
  simp (config := {maxSteps := 3000000}) only [run_reg, run_seq, at_code_n, ops_nil, ops_mv, ops_bld, ops_alc, ops_store, ops_call, ev_t, ev_c, put_get, put_none, opv_mk, stb_some, sto_ptr, Stp, vbld, put_box_same, put_sz, put_put, args0, List.getD_cons_zero, fillV, splice, V.cells, ptrV, obsOk, List.map_cons, List.map_nil, List.length_cons, List.length_nil, List.take_zero, List.drop_succ_cons, List.drop_zero, List.cons_append, List.nil_append, List.append_nil, List.drop_nil, and_true, true_and, Nat.reduceEqDiff, Nat.reduceAdd, Nat.reduceLT, Nat.reduceLeDiff, Nat.reduceLT, Nat.zero_add, ↓reduceIte, eq_self, reduceCtorEq]
  intro b hb c hc
  obtain ⟨hc1, hbc⟩ : st.sz ≤ c ∧ b < c := by omega
  clear hc
  refine Cal.mk (hL _) ?_
  rintro _ _ ⟨rfl, rfl⟩ -
  obtain ⟨Z, hZ⟩ : ∃ Z : List V, Z = ts [e0, e0, e0] := ⟨_, rfl⟩
  have hZ3 : Z.length = 3 := by rw [hZ]; rfl
  simp (config := {maxSteps := 3000000}) only [run_blk, at_code_n, ops_nil, ops_mv, ops_len, ev_t, ev_c, put_get, opv_mk, vlen, obsOk, true_and, ↓reduceIte, eq_self, is_len]
  have e1 : [V.sc (.int .i64 t), .sc (.int .u32 0), .sc (.int .u32 0), .sc (.int .u32 0), .sc (.int .u32 0), .sc (.int .u32 0), .sc (.int .u32 0), .sc (.int .u32 0), .sc (.int .u32 0), .sc (.int .u32 0), .sc (.string ⟨#[]⟩), .sc (.string ⟨#[]⟩), .sc (.string ⟨#[]⟩)] = .sc (.int .i64 t) :: (us (List.replicate 9 0) ++ Z) := by rw [hZ]; rfl
  rw [e1]
  obtain ⟨B0, hB0⟩ : ∃ B0 : List V, st.put b B0 = st.put b [V.sc (.int .i64 0), .sc (.int .u32 0), .sc (.int .u32 0), .sc (.int .u32 0), .sc (.int .u32 0), .sc (.int .u32 0), .sc (.int .u32 0), .sc (.int .u32 0), .sc (.int .u32 0), .sc (.int .u32 0), .sc (.string ⟨#[]⟩), .sc (.string ⟨#[]⟩), .sc (.string ⟨#[]⟩)] ∧ B0.length = 13 := ⟨_, rfl, rfl⟩
  obtain ⟨hB0, hB13⟩ := hB0
  rw [← hB0]
  refine run_loop [6, 8, 14, 15, 16, 17, 18, 19, 20, 21, 22, 23, 24, 25, 26, 27, 28, 29, 30, 31, 32, 33, 34, 35, 36, 37, 38, 39, 40, 41, 42, 43, 44, 45, 46] (fun B s => ∃ i : Nat, i ≤ K.length ∧ B 14 = .sc (.int .i64 i) ∧ B 6 = .sc (.int .i64 (ofN l (K.take i)).2) ∧ s = (st.put b B0).put c (.sc (.int .i64 t) :: (us (ofN l (K.take i)).1 ++ Z))) (fun B _ => K.length - vnat (B 14)) rfl ?_ ?_
  · simp (config := {maxSteps := 3000000}) only [put_get, Nat.reduceEqDiff, ↓reduceIte, eq_self]
    exact ⟨0, by omega, by simp, by simp [ofN_nil], by simp [ofN_nil]⟩
  · rintro B s ⟨i, hi, h14, h6, rfl⟩
    by_cases hlt : i < K.length
    · have hk : K[i]? = some K[i] := List.getElem?_eq_getElem hlt
      have hsn : ofN l (K.take (i + 1)) = ofS l (ofN l (K.take i)) K[i] := by rw [List.take_add_one, hk]; exact ofN_snoc _ _ _
      have hn9 : (ofN l (K.take i)).1.length = 9 := ofN_len l _ _ rfl
      have hc0 : (ofN l (K.take i)).2 ≤ 0 + (K.take i).countP isNum := ofN_cnt l _ _
      have hkb := hbig _ (List.getElem_mem hlt)
      have hc1' : isNum K[i] = true → (ofN l (K.take i)).2 < 9 := fun h => by
        have h2 : (K.take (i + 1)).countP isNum = (K.take i).countP isNum + 1 := by
          rw [List.take_add_one, hk, List.countP_append]
          simp only [Option.toList_some, List.countP_cons, List.countP_nil, h, ↓reduceIte]
        have h3 : (K.take (i + 1)).countP isNum ≤ K.countP isNum := (List.take_sublist _ _).countP_le
        omega
      generalize hkk : K[i] = k at *
      generalize ofN l (K.take i) = s0 at *
      obtain ⟨N, n⟩ := s0
      simp only at hn9 hc0 hc1' h6
      have hlt' := decide_eq_true (show (i : Int) < (K.length : Int) by omega)
      have skip : ¬ (isNum k = true ∧ n < l.length) → ofS l (N, n) k = (N, n) := fun h => if_neg h
      by_cases c1 : k ≤ 0
      · rw [skip (fun h => by have := h.1; simp [isNum] at this; omega)] at hsn
        simp (config := {maxSteps := 3000000}) only [run_skip, run_reg, run_seq, run_blk, run_exit, run_cond, if_true, at_code_n, at_code_x, at_blk_x, at_rnd_n, ops_nil, ops_grd, grd_tf, ops_mv, ops_pick, ops_bin, ops_ix, ops_load, ev_t, ev_c, put_get, opv_mk, over_get, rel_mk, vnat, vpick, vbin, vbinI, norm, vix, vload, takeV, V.cells, List.length_cons, List.length_nil, List.getElem?_cons_zero, Option.map_some, and_true, true_and, Nat.reduceEqDiff, Int.toNat_natCast, Int.reduceNeg, Nat.zero_add, ↓reduceIte, eq_self, Bool.false_eq_true, List.contains_cons, List.contains_nil, Nat.reduceBEq, Bool.or_false, Bool.or_true, h14, h6, is_get, hk, hlt', decide_eq_true c1]
        repeat (apply And.intro; focus (first | omega | (simp; done)))
        exact ⟨⟨i + 1, by omega, by simp, by rw [hsn], by rw [hsn]⟩, by omega⟩
      have q1 := decide_eq_false c1
      by_cases c2 : 4 < k
      · rw [skip (fun h => by have := h.1; simp [isNum] at this; omega)] at hsn
        simp (config := {maxSteps := 3000000}) only [run_skip, run_reg, run_seq, run_blk, run_exit, run_cond, if_true, at_code_n, at_code_x, at_blk_x, at_rnd_n, ops_nil, ops_grd, grd_ff, grd_tf, ops_mv, ops_pick, ops_bin, ops_ix, ops_load, ev_t, ev_c, put_get, opv_mk, over_get, rel_mk, vnat, vpick, vbin, vbinI, norm, vix, vload, takeV, V.cells, List.length_cons, List.length_nil, List.getElem?_cons_zero, Option.map_some, and_true, true_and, Nat.reduceEqDiff, Int.toNat_natCast, Int.reduceNeg, Nat.zero_add, ↓reduceIte, eq_self, Bool.false_eq_true, List.contains_cons, List.contains_nil, Nat.reduceBEq, Bool.or_false, Bool.or_true, h14, h6, is_get, hk, hlt', q1, decide_eq_true c2]
        repeat (apply And.intro; focus (first | omega | (simp; done)))
        exact ⟨⟨i + 1, by omega, by simp, by rw [hsn], by rw [hsn]⟩, by omega⟩
      have q2 := decide_eq_false c2
      by_cases c3 : l.length ≤ n
      · rw [skip (fun h => by have := h.2; omega)] at hsn
        simp (config := {maxSteps := 3000000}) only [run_skip, run_reg, run_seq, run_blk, run_exit, run_cond, if_true, at_code_n, at_code_x, at_blk_x, at_rnd_n, ops_nil, ops_grd, grd_ff, ops_mv, ops_pick, ops_bin, ops_ix, ops_load, ops_len, ev_t, ev_c, put_get, opv_mk, over_get, rel_mk, vnat, args0, List.getD_cons_zero, List.getD_cons_succ, vpick, vbin, vbinI, norm, vlen, vix, vload, takeV, V.cells, List.length_cons, List.length_nil, List.getElem?_cons_zero, Option.map_some, and_true, true_and, Nat.reduceEqDiff, Int.toNat_natCast, Int.reduceNeg, Nat.zero_add, ↓reduceIte, eq_self, Bool.false_eq_true, List.contains_cons, List.contains_nil, Nat.reduceBEq, Bool.or_false, Bool.or_true, h14, h6, is_get, hk, hlt', q1, q2, us_len, decide_eq_true (show (l.length : Int) ≤ (n : Int) by omega)]
        repeat (apply And.intro; focus (first | omega | (simp; done)))
        exact ⟨⟨i + 1, by omega, by simp, by rw [hsn], by rw [hsn]⟩, by omega⟩
      have q3 := decide_eq_false (show ¬ (l.length : Int) ≤ (n : Int) by omega)
      have hnum : isNum k = true := by simp [isNum]; omega
      have hn := hc1' hnum
      obtain ⟨x, hx⟩ := get_ex (L := l) (i := n) (by omega)
      obtain ⟨x0, x1⟩ := hl x (List.mem_of_getElem? hx)
      have hgd : l.getD n 0 = x := by simp [List.getD, hx]
      have hstep : ofS l (N, n) k = (N.set n (x % 256 ^ k.toNat), n + 1) := by rw [← hgd]; exact if_pos ⟨hnum, by omega⟩
      rw [hstep] at hsn
      have ex : x % 18446744073709551616 = x := by omega
      have hk4 : k = 1 ∨ k = 2 ∨ k = 3 ∨ k = 4 := by omega
      rcases hk4 with rfl | rfl | rfl | rfl
      · have hlw := u64_low8 (x := x) (by omega) (by omega)
        have em : x % 256 % 4294967296 = x % 256 := by omega
        simp (config := {maxSteps := 3000000}) only [run_skip, run_reg, run_seq, run_blk, run_cond, if_true, if_false, at_code_n, at_blk_n, at_rnd_n, ops_nil, ops_grd, grd_ff, ops_mv, ops_pick, ops_bin, ops_conv, ops_fld, ops_ix, ops_ixa, ops_load, ops_len, ops_store, ev_t, ev_c, put_get, put_none, opv_mk, stb_some, sto_ptr, over_get, rel_mk, vnat, Stp, put_box_same, put_put, args0, List.getD_cons_zero, List.getD_cons_succ, vpick, vbin, vbinI, vconv, norm, vfld, vlen, vix, vixa, vload, takeV, splice, V.cells, obsOk, shAmt, IntKind.bits, List.length_cons, List.length_nil, List.getElem?_cons_zero, List.drop_succ_cons, Option.map_some, and_true, true_and, Nat.reduceEqDiff, Nat.reduceLT, Nat.reduceLeDiff, Nat.reduceLT, Int.reduceToNat, Int.toNat_natCast, Int.reduceLE, Int.reduceLT, Int.reducePow, Int.reduceMul, Int.reduceSub, Int.reduceNeg, Int.reduceMod, Nat.min_def, Nat.zero_add, Nat.mul_one, ↓reduceIte, decide_false, eq_self, Bool.false_eq_true, List.contains_cons, List.contains_nil, Nat.reduceBEq, Bool.or_false, Bool.or_true, h14, h6, is_get, hk, hlt', q3, us_get, hx, us_len, ex, hlw, em]
        repeat (apply And.intro; focus (first | omega | (simp; done)))
        rw [show (256 : Int) ^ (1 : Int).toNat = 256 from rfl] at hsn
        have hs := us_set (N := N) (n := n) (x := x % 256) (T := Z) (by omega) (.sc (.int .i64 t))
        exact ⟨by rw [List.length_append, us_len, hn9, hZ3]; omega, by omega, by omega, ⟨i + 1, by omega, by simp, by rw [hsn]; simp, by rw [hsn]; exact congrArg ((st.put b B0).put c) hs⟩, by omega⟩
      · have hlw := u64_low16 (x := x) (by omega) (by omega)
        have em : x % 65536 % 4294967296 = x % 65536 := by omega
        simp (config := {maxSteps := 3000000}) only [run_skip, run_reg, run_seq, run_blk, run_cond, if_true, if_false, at_code_n, at_blk_n, at_rnd_n, ops_nil, ops_grd, grd_ff, ops_mv, ops_pick, ops_bin, ops_conv, ops_fld, ops_ix, ops_ixa, ops_load, ops_len, ops_store, ev_t, ev_c, put_get, put_none, opv_mk, stb_some, sto_ptr, over_get, rel_mk, vnat, Stp, put_box_same, put_put, args0, List.getD_cons_zero, List.getD_cons_succ, vpick, vbin, vbinI, vconv, norm, vfld, vlen, vix, vixa, vload, takeV, splice, V.cells, obsOk, shAmt, IntKind.bits, List.length_cons, List.length_nil, List.getElem?_cons_zero, List.drop_succ_cons, Option.map_some, and_true, true_and, Nat.reduceEqDiff, Nat.reduceLT, Nat.reduceLeDiff, Nat.reduceLT, Int.reduceToNat, Int.toNat_natCast, Int.reduceLE, Int.reduceLT, Int.reducePow, Int.reduceMul, Int.reduceSub, Int.reduceNeg, Int.reduceMod, Nat.min_def, Nat.zero_add, Nat.mul_one, ↓reduceIte, decide_false, eq_self, Bool.false_eq_true, List.contains_cons, List.contains_nil, Nat.reduceBEq, Bool.or_false, Bool.or_true, h14, h6, is_get, hk, hlt', q3, us_get, hx, us_len, ex, hlw, em]
        repeat (apply And.intro; focus (first | omega | (simp; done)))
        rw [show (256 : Int) ^ (2 : Int).toNat = 65536 from rfl] at hsn
        have hs := us_set (N := N) (n := n) (x := x % 65536) (T := Z) (by omega) (.sc (.int .i64 t))
        exact ⟨by rw [List.length_append, us_len, hn9, hZ3]; omega, by omega, by omega, ⟨i + 1, by omega, by simp, by rw [hsn]; simp, by rw [hsn]; exact congrArg ((st.put b B0).put c) hs⟩, by omega⟩
      · have hlw := u64_low24 (x := x) (by omega) (by omega)
        have em : x % 16777216 % 4294967296 = x % 16777216 := by omega
        simp (config := {maxSteps := 3000000}) only [run_skip, run_reg, run_seq, run_blk, run_cond, if_true, if_false, at_code_n, at_blk_n, at_rnd_n, ops_nil, ops_grd, grd_ff, ops_mv, ops_pick, ops_bin, ops_conv, ops_fld, ops_ix, ops_ixa, ops_load, ops_len, ops_store, ev_t, ev_c, put_get, put_none, opv_mk, stb_some, sto_ptr, over_get, rel_mk, vnat, Stp, put_box_same, put_put, args0, List.getD_cons_zero, List.getD_cons_succ, vpick, vbin, vbinI, vconv, norm, vfld, vlen, vix, vixa, vload, takeV, splice, V.cells, obsOk, shAmt, IntKind.bits, List.length_cons, List.length_nil, List.getElem?_cons_zero, List.drop_succ_cons, Option.map_some, and_true, true_and, Nat.reduceEqDiff, Nat.reduceLT, Nat.reduceLeDiff, Nat.reduceLT, Int.reduceToNat, Int.toNat_natCast, Int.reduceLE, Int.reduceLT, Int.reducePow, Int.reduceMul, Int.reduceSub, Int.reduceNeg, Int.reduceMod, Nat.min_def, Nat.zero_add, Nat.mul_one, ↓reduceIte, decide_false, eq_self, Bool.false_eq_true, List.contains_cons, List.contains_nil, Nat.reduceBEq, Bool.or_false, Bool.or_true, h14, h6, is_get, hk, hlt', q3, us_get, hx, us_len, ex, hlw, em]
        repeat (apply And.intro; focus (first | omega | (simp; done)))
        rw [show (256 : Int) ^ (3 : Int).toNat = 16777216 from rfl] at hsn
        have hs := us_set (N := N) (n := n) (x := x % 16777216) (T := Z) (by omega) (.sc (.int .i64 t))
        exact ⟨by rw [List.length_append, us_len, hn9, hZ3]; omega, by omega, by omega, ⟨i + 1, by omega, by simp, by rw [hsn]; simp, by rw [hsn]; exact congrArg ((st.put b B0).put c) hs⟩, by omega⟩
      · have hlw := u64_low32 (x := x) (by omega) (by omega)
        have em : x % 4294967296 % 4294967296 = x % 4294967296 := by omega
        simp (config := {maxSteps := 3000000}) only [run_skip, run_reg, run_seq, run_blk, run_cond, if_true, if_false, at_code_n, at_blk_n, at_rnd_n, ops_nil, ops_grd, grd_ff, ops_mv, ops_pick, ops_bin, ops_conv, ops_fld, ops_ix, ops_ixa, ops_load, ops_len, ops_store, ev_t, ev_c, put_get, put_none, opv_mk, stb_some, sto_ptr, over_get, rel_mk, vnat, Stp, put_box_same, put_put, args0, List.getD_cons_zero, List.getD_cons_succ, vpick, vbin, vbinI, vconv, norm, vfld, vlen, vix, vixa, vload, takeV, splice, V.cells, obsOk, shAmt, IntKind.bits, List.length_cons, List.length_nil, List.getElem?_cons_zero, List.drop_succ_cons, Option.map_some, and_true, true_and, Nat.reduceEqDiff, Nat.reduceLT, Nat.reduceLeDiff, Nat.reduceLT, Int.reduceToNat, Int.toNat_natCast, Int.reduceLE, Int.reducePow, Int.reduceMul, Int.reduceSub, Int.reduceNeg, Int.reduceMod, Nat.min_def, Nat.zero_add, Nat.mul_one, ↓reduceIte, decide_false, Int.lt_irrefl, eq_self, Bool.false_eq_true, List.contains_cons, List.contains_nil, Nat.reduceBEq, Bool.or_false, Bool.or_true, h14, h6, is_get, hk, hlt', q3, us_get, hx, us_len, ex, hlw, em]
        repeat (apply And.intro; focus (first | omega | (simp; done)))
        rw [show (256 : Int) ^ (4 : Int).toNat = 4294967296 from rfl] at hsn
        have hs := us_set (N := N) (n := n) (x := x % 4294967296) (T := Z) (by omega) (.sc (.int .i64 t))
        exact ⟨by rw [List.length_append, us_len, hn9, hZ3]; omega, by omega, by omega, ⟨i + 1, by omega, by simp, by rw [hsn]; simp, by rw [hsn]; exact congrArg ((st.put b B0).put c) hs⟩, by omega⟩
    · obtain rfl : i = K.length := by omega
      rw [List.take_of_length_le (Nat.le_refl _)] at h6 ⊢
      have hn9 : (ofN l K).1.length = 9 := ofN_len l _ _ rfl
      have hW : us (ofN l K).1 ++ Z = us (ofN l K).1 ++ ts [e0, e0, e0] := by rw [hZ]
      have hW12 : (us (ofN l K).1 ++ Z).length = 12 := by rw [List.length_append, us_len, hn9, hZ3]
      have hMv : (MG.mk t (ofN l K).1 [e0, e0, e0]).v = .agg (.sc (.int .i64 t) :: (us (ofN l K).1 ++ Z)) := by rw [hW]; rfl
      rw [hMv]
      generalize us (ofN l K).1 ++ Z = W at *
      have htk : List.take 12 W = W := List.take_of_length_le (by omega)
      have hdr : List.drop 13 B0 = [] := List.drop_of_length_le (by omega)
      simp (config := {maxSteps := 3000000}) only [run_reg, run_seq, run_exit, run_ret, run_cond, if_false, at_code_n, at_code_x, at_blk_x, at_rnd_x, at_fin_r, ops_nil, ops_bin, ops_load, ops_store, ev_t, put_get, put_none, opv_mk, stb_some, sto_ptr, over_get, vnat, Stp, put_box_same, vbin, vbinI, vload, takeV, splice, V.cells, obsOk, List.length_cons, List.take_succ_cons, List.take_zero, List.drop_zero, List.nil_append, List.append_nil, and_true, true_and, Nat.reduceEqDiff, Nat.reduceAdd, Nat.reduceLT, Nat.reduceLeDiff, Nat.reduceLT, Int.toNat_natCast, Nat.zero_add, ↓reduceIte, vret, rvAll, rvVal, resv_1, decide_false, Int.lt_irrefl, eq_self, Bool.false_eq_true, List.contains_cons, List.contains_nil, Nat.reduceBEq, Bool.or_false, Bool.or_true, h14, put_box_ne (Nat.ne_of_lt hbc), htk, hW12, hdr, hB13, List.append_nil]
      exact ⟨_, _, Wk.refl _, weak_put (weak_put (weak_put hwf.weak hb) hc1) hb, rfl, rfl⟩
end
end Go.Proofs.Ytogkdcbcmhhhcaa
