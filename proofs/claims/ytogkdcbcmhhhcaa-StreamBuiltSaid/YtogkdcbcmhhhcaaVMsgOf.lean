/- The law of messages of any numbers: contract. -/
import Derived.Test.YtogkdcbcmhhhcaaVMsg5
namespace Go.Proofs.Ytogkdcbcmhhhcaa
open Go

/-- A box that stands in the state. -/
structure Kp (st s : St) (b : Nat) (cs : List V) : Prop where
  weak : st.weak s
  lt : s.Lt
  box : s.box b = some cs
  ge : st.sz ≤ b
theorem Kp.put {st s : St} {b : Nat} {cs ds : List V} (h : Kp st s b cs) : Kp st (s.put b ds) b ds := ⟨weak_put h.weak h.ge, h.lt.put, put_box_same, h.ge⟩
theorem Kp.new {st s s' : St} {b : Nat} {cs : List V} {r : V} (h : Kp st s b cs) (k : New s s' r) : Kp st s' b cs := ⟨h.weak.trans k.weak, k.lt, (k.weak.box b cs h.box).1, h.ge⟩
def specM : List Lf := [.int .i64, .int .u32, .int .u32, .int .u32, .int .u32, .int .u32, .int .u32, .int .u32, .int .u32, .int .u32, .str, .str, .str]
theorem fits_us : ∀ (N : List Int) (S : List Lf) (T : List V), fitsV S T → fitsV (List.replicate N.length (.int .u32) ++ S) (us N ++ T)
  | [], S, T, h => h
  | x :: N, S, T, h => ⟨rfl, fits_us N S T h⟩
theorem fits_ss : ∀ (T : List (List Int)), fitsV (List.replicate T.length .str) (ss T)
  | [] => trivial
  | t :: T => fits_ss T
theorem eqV_self : ∀ (S : List Lf) (C : List V), fitsV S C → eqV C C = true
  | [], [], _ => rfl
  | .int k :: S, .sc (.int k' a) :: C, h => by simp only [eqV, decide_true, Bool.true_and]; exact eqV_self S C h.2
  | .bool :: S, .sc (.bool a) :: C, h => by simp only [eqV, beq_self_eq_true, Bool.true_and]; exact eqV_self S C h
  | .str :: S, .sc (.string a) :: C, h => by simp only [eqV, decide_true, Bool.true_and]; exact eqV_self S C h
theorem MB.fits {m : MB} (h9 : m.N.length = 9) (h3 : m.T.length = 3) : fitsV [.int .i64, .int .u32, .int .u32, .int .u32, .int .u32, .int .u32, .int .u32, .int .u32, .int .u32, .int .u32, .str, .str, .str] m.cells := by
  have h1 := fits_us m.N _ _ (fits_ss m.T)
  rw [h9, h3] at h1
  exact ⟨rfl, h1⟩
theorem MB.eqv {m : MB} (h9 : m.N.length = 9) (h3 : m.T.length = 3) : eqV m.cells m.cells = true := eqV_self _ _ (MB.fits h9 h3)
def echoM : MB := ⟨5, [258, 0, 0, 0, 0, 0, 0, 0, 0], [[], [], []]⟩
theorem echoM_ok : echoM.Ok := ⟨by decide, rfl, rfl, by decide, by intro t ht; simp [echoM] at ht; subst ht; exact isB_nil, by decide⟩
theorem echoM_bytes : (if okM echoM then bytesM echoM else []) = [0, 16, 0, 1, 26, 43, 60, 77, 0, 5, 0, 0, 0, 0, 1, 2] := by decide
section
variable {tk : Tk} {st : St}
theorem alive16_v : VCalls Try.prog 38 [] st fun r st' => r = .sc (.bool true) ∧ st = st' := by
  refine vcalls_enter vc38 (Nat.le_of_ble_eq_true rfl) fun hwf hok => ?_
  show Run _ Vc38.body (.fin (finQ Vc38.res _)) _ _
  unfold Vc38
  simp (config := {maxSteps := 3000000}) only [run_reg, run_seq, at_code_n, ops_nil, ops_mv, ops_bslo, ev_c, opv_mk, strip, strip1, List.map_cons, List.map_nil, true_and]
  refine Bo.own (by simp [allLen, V.cells]) ?_
  intro g hg
  simp (config := {maxSteps := 3000000}) only [ops_call, ev_t, ev_c, put_get, obsOk, List.map_cons, List.map_nil, List.length_cons, List.length_nil, true_and, Nat.zero_add, ↓reduceIte, eq_self]
  refine Cal.mk (Of_v (l := [258]) (by decide) (by simp) 5) ?_
  rintro _ _ ⟨rfl, rfl⟩ -
  simp (config := {maxSteps := 3000000}) only [ops_call, ev_t, put_get, obsOk, List.map_cons, List.map_nil, true_and, ↓reduceIte, eq_self]
  refine Cal.mk (build_v echoM_ok) ?_
  rintro _ _ ⟨rfl, rfl⟩ -
  rw [echoM_bytes]
  simp (config := {maxSteps := 3000000}) only [ops_bslo, ev_c, strip, strip1, obsOk, List.map_cons, List.map_nil, true_and]
  refine Bo.own (by simp [allLen, V.cells]) ?_
  intro g2 hg2
  simp (config := {maxSteps := 3000000}) only [ops_call, ev_t, put_get, obsOk, List.map_cons, List.map_nil, List.length_cons, List.length_nil, true_and, Nat.reduceEqDiff, Nat.reduceAdd, Nat.zero_add, ↓reduceIte, eq_self]
  refine Cal.mk (eqB_v (M := [0, 16, 0, 1, 26, 43, 60, 77, 0, 5, 0, 0, 0, 0, 1, 2])) ?_
  rintro _ _ ⟨rfl, rfl⟩ -
  have e1 : decide (([0, 16, 0, 1, 26, 43, 60, 77, 0, 5, 0, 0, 0, 0, 1, 2] : List Int) = [0, 16, 0, 1, 26, 43, 60, 77, 0, 5, 0, 0, 0, 0, 1, 2]) = true := by decide
  rw [e1]
  simp (config := {maxSteps := 3000000}) only [ops_grd, grd_tt, ops_mv, ops_call, ev_t, ev_c, put_get, opv_mk, obsOk, List.map_cons, List.map_nil, true_and, ↓reduceIte, eq_self]
  refine Cal.mk (msgSize_v 9) ?_
  rintro _ _ ⟨rfl, rfl⟩ -
  rw [show sizeT 9 = 220 by decide]
  simp (config := {maxSteps := 3000000}) only [ops_grd, grd_tt, ops_mv, ops_pick, ops_bin, ops_call, ev_t, ev_c, put_get, opv_mk, vpick, vbin, vbinI, obsOk, List.map_cons, List.map_nil, true_and, Nat.reduceEqDiff, ↓reduceIte, decide_true, eq_self]
  refine Cal.mk (msgSize_v 7) ?_
  rintro _ _ ⟨rfl, rfl⟩ -
  rw [show sizeT 7 = 168 by decide]
  simp (config := {maxSteps := 3000000}) only [ops_grd, grd_tt, ops_mv, ops_pick, ops_bin, ops_call, ev_t, ev_c, put_get, opv_mk, vpick, vbin, vbinI, obsOk, List.map_cons, List.map_nil, true_and, Nat.reduceEqDiff, ↓reduceIte, decide_true, eq_self]
  refine Cal.mk (msgSize_v 16) ?_
  rintro _ _ ⟨rfl, rfl⟩ -
  rw [show sizeT 16 = 0 by decide]
  simp (config := {maxSteps := 3000000}) only [run_ret, at_code_n, at_fin_r, ops_nil, ops_grd, grd_tt, ops_mv, ops_pick, ops_bin, ev_t, ev_c, put_get, opv_mk, vpick, vbin, vbinI, obsOk, and_true, true_and, Nat.reduceEqDiff, ↓reduceIte, vret, rvAll, rvVal, resv_1, decide_true, eq_self]
  exact ⟨_, _, Wk.refl _, weak_use (weak_use hwf.weak hg) (by simp only [use_sz] at hg2; omega), rfl, rfl⟩
theorem toPart_num {k : Int} (h : kOk k) : decide ((toPart k).1 = 110) = isNum k := by
  unfold kOk at h
  rcases h with rfl | rfl | rfl | rfl | rfl | rfl | rfl <;> decide
theorem ofN_len9 (l K : List Int) : (ofN l K).1.length = 9 := ofN_len l _ _ rfl
theorem ofN_rng (l : List Int) : ∀ (K : List Int) (s : List Int × Nat), (∀ k ∈ K, kOk k) → (∀ x ∈ s.1, 0 ≤ x ∧ x < 4294967296) → ∀ x ∈ (K.foldl (ofS l) s).1, 0 ≤ x ∧ x < 4294967296
  | [], s, _, h => h
  | k :: K, s, hk, h => by
    rw [List.foldl_cons]
    refine ofN_rng l K _ (fun x hx => hk x (by simp [hx])) ?_
    have hk1 := hk k (by simp)
    unfold ofS
    split
    · rename_i hc
      intro x hx
      rcases List.mem_or_eq_of_mem_set hx with hx | hx
      · exact h x hx
      · unfold kOk at hk1
        have := hc.1
        simp only [isNum, Bool.and_eq_true, decide_eq_true_eq] at this
        have h124 : k = 1 ∨ k = 2 ∨ k = 4 := by omega
        rcases h124 with rfl | rfl | rfl
        · rw [show (256 : Int) ^ (1 : Int).toNat = 256 from rfl] at hx; omega
        · rw [show (256 : Int) ^ (2 : Int).toNat = 65536 from rfl] at hx; omega
        · rw [show (256 : Int) ^ (4 : Int).toNat = 4294967296 from rfl] at hx; omega
    · exact h
theorem msgOfLaw_v {l : List Int} (hl : ∀ x ∈ l, 0 ≤ x ∧ x < 4294967296) (t : Int) : VCalls Try.prog 7 [.sc (.int .i64 t), .sl tk (us l)] st fun r st' => r = .sc (.bool true) ∧ st = st' := by
  refine vcalls_enter vc7 (Nat.le_of_ble_eq_true rfl) fun hwf hok => ?_
  show Run _ Vc7.body (.fin (finQ Vc7.res _)) _ _
  unfold Vc7
  by_cases h20 : 20 < l.length
  · simp (config := {maxSteps := 3000000}) only [run_reg, run_seq, run_ret, run_cond, if_true, at_code_n, at_code_r, at_fin_r, ops_nil, ops_mv, ops_bin, ops_len, ev_t, ev_c, put_get, opv_mk, args0, List.getD_cons_zero, List.getD_cons_succ, vbin, vbinI, vlen, and_true, true_and, Nat.reduceEqDiff, ↓reduceIte, vret, rvAll, rvVal, resv_1, eq_self, us_len, decide_eq_true (show (20 : Int) < (l.length : Int) by omega)]
    exact ⟨_, _, Wk.refl _, hwf.weak, rfl, rfl⟩
  have hK4 := layout_kOk t
  have hlen := layout_len t
  have hcnt := layout_cnt t
  have hL := fun st : St => parts16_v (st := st) t
  have hO := fun st : St => Of_v (tk := tk) (st := st) hl (by omega) t
  have hM : ofM t l = ⟨t, (ofN l (layoutL t)).1, [e0, e0, e0]⟩ := rfl
  have hMv : (ofM t l).v = (MB.mk t (ofN l (layoutL t)).1 [[], [], []]).v := rfl
  rw [hMv] at hO
  generalize layoutL t = K at *
  obtain ⟨Z, hZ⟩ : ∃ Z : List V, Z = ss [[], [], []] := ⟨_, rfl⟩
  have hZ3 : Z.length = 3 := by rw [hZ]; rfl
  simp (config := {maxSteps := 3000000}) only [run_skip, run_reg, run_seq, run_cond, if_false, at_code_n, ops_nil, ops_mv, ops_bin, ops_len, ops_bld, ops_alc, ops_store, ops_call, ev_t, ev_c, put_get, put_none, opv_mk, stb_some, sto_ptr, Stp, vbld, put_box_same, put_put, args0, List.getD_cons_zero, List.getD_cons_succ, vbin, vbinI, vlen, fillV, splice, V.cells, ptrV, obsOk, List.map_cons, List.map_nil, List.length_cons, List.length_nil, List.take_zero, List.drop_succ_cons, List.drop_zero, List.cons_append, List.nil_append, List.append_nil, List.drop_nil, and_true, true_and, Nat.reduceEqDiff, Nat.reduceAdd, Nat.reduceLT, Nat.reduceLeDiff, Nat.reduceLT, Nat.zero_add, ↓reduceIte, eq_self, reduceCtorEq, us_len, decide_eq_false (show ¬ (20 : Int) < (l.length : Int) by omega)]
  intro b hb
  refine Cal.mk (hL _) ?_
  rintro _ _ ⟨rfl, rfl⟩ -
  simp (config := {maxSteps := 3000000}) only [run_reg, run_seq, run_blk, at_code_n, ops_nil, ops_mv, ev_t, ev_c, put_get, opv_mk, obsOk, true_and, ↓reduceIte, eq_self]
  refine run_loop [6, 8, 16, 17, 18, 19, 20, 21, 22, 23, 24, 25, 26, 27, 28, 29, 30, 31, 32, 33, 34, 35, 36, 37, 38, 39, 40, 41, 42, 43, 44, 45, 46, 47, 48, 49, 50, 51] (fun B s => ∃ i : Nat, i ≤ K.length ∧ B 8 = .sc (.int .i64 i) ∧ B 6 = .sc (.int .i64 (ofN l (K.take i)).2) ∧ Kp st s b (.sc (.int .i64 t) :: (us (ofN l (K.take i)).1 ++ Z))) (fun B _ => K.length - vnat (B 8)) rfl ?_ ?_
  · simp (config := {maxSteps := 3000000}) only [put_get, Nat.reduceEqDiff, ↓reduceIte, eq_self]
    exact ⟨0, by omega, by simp, by simp [ofN_nil], by rw [hZ]; exact ⟨weak_put hwf.weak hb, hwf.lt.put, put_box_same, hb⟩⟩
  · rintro B s ⟨i, hi, h8, h6, hkp⟩
    by_cases hlt : i < K.length
    · have hk : K[i]? = some K[i] := List.getElem?_eq_getElem hlt
      have hsn : ofN l (K.take (i + 1)) = ofS l (ofN l (K.take i)) K[i] := by rw [List.take_add_one, hk]; exact ofN_snoc _ _ _
      have hn9 : (ofN l (K.take i)).1.length = 9 := ofN_len9 _ _
      have hc0 : (ofN l (K.take i)).2 ≤ 0 + (K.take i).countP isNum := ofN_cnt l _ _
      have hkk := hK4 _ (List.getElem_mem hlt)
      have hc1' : isNum K[i] = true → (ofN l (K.take i)).2 < 9 := fun h => by
        have h2 : (K.take (i + 1)).countP isNum = (K.take i).countP isNum + 1 := by
          rw [List.take_add_one, hk, List.countP_append]
          simp only [Option.toList_some, List.countP_cons, List.countP_nil, h, ↓reduceIte]
        have h3 : (K.take (i + 1)).countP isNum ≤ K.countP isNum := (List.take_sublist _ _).countP_le
        omega
      generalize hkd : K[i] = k at *
      generalize ofN l (K.take i) = s0 at *
      obtain ⟨N, n⟩ := s0
      simp only at hn9 hc0 hc1' h6 hkp
      have hlt' := decide_eq_true (show (i : Int) < (K.length : Int) by omega)
      have skip : ¬ (isNum k = true ∧ n < l.length) → ofS l (N, n) k = (N, n) := fun h => if_neg h
      have hpn := toPart_num hkk
      have hsz := toPart_sz k hkk
      by_cases c1 : isNum k = true
      · rw [c1] at hpn
        by_cases c3 : l.length ≤ n
        · rw [skip (fun h => by have := h.2; omega)] at hsn
          simp (config := {maxSteps := 3000000}) only [run_skip, run_reg, run_seq, run_blk, run_cond, if_true, if_false, at_code_n, at_blk_n, at_rnd_n, ops_nil, ops_grd, grd_tt, ops_mv, ops_pick, ops_bin, ops_fld, ops_ix, ops_load, ops_len, ev_t, ev_c, put_get, opv_mk, over_get, rel_mk, vnat, args0, List.getD_cons_zero, List.getD_cons_succ, vpick, vbin, vbinI, norm, vfld, vlen, vix, vload, takeV, V.cells, List.length_cons, List.length_nil, List.getElem?_cons_zero, Option.map_some, and_true, true_and, Nat.reduceEqDiff, Nat.reduceAdd, Int.toNat_natCast, Int.reduceNeg, Nat.zero_add, Nat.add_zero, ↓reduceIte, eq_self, Bool.false_eq_true, List.contains_cons, List.contains_nil, Nat.reduceBEq, Bool.or_false, Bool.or_true, h8, h6, ps_len, List.length_map, ps_get, List.getElem?_map, hk, hlt', hpn, us_len, decide_eq_false (show ¬ (n : Int) < (l.length : Int) by omega)]
          repeat (apply And.intro; focus (first | omega | (simp; done)))
          exact ⟨⟨i + 1, by omega, by simp, by rw [hsn], by rw [hsn]; exact hkp⟩, by omega⟩
        · have hn := hc1' c1
          obtain ⟨x, hx⟩ := get_ex (L := l) (i := n) (by omega)
          obtain ⟨x0, x1⟩ := hl x (List.mem_of_getElem? hx)
          have hgd : l.getD n 0 = x := by simp [List.getD, hx]
          have hstep : ofS l (N, n) k = (N.set n (x % 256 ^ k.toNat), n + 1) := by rw [← hgd]; exact if_pos ⟨c1, by omega⟩
          rw [hstep] at hsn
          have ex : x % 18446744073709551616 = x := by omega
          unfold kOk at hkk
          simp only [isNum, Bool.and_eq_true, decide_eq_true_eq] at c1
          have hB13 : (.sc (.int .i64 t) :: (us N ++ Z) : List V).length = 13 := by simp [us_len, hn9, hZ3]
          simp (config := {maxSteps := 3000000}) only [run_skip, run_reg, run_seq, run_blk, run_cond, if_true, at_code_n, ops_nil, ops_grd, grd_tt, ops_mv, ops_pick, ops_bin, ops_conv, ops_fld, ops_ix, ops_load, ops_len, ops_call, ev_t, ev_c, put_get, opv_mk, over_get, vnat, args0, List.getD_cons_zero, List.getD_cons_succ, vpick, vbin, vbinI, vconv, norm, vfld, vlen, vix, vload, takeV, V.cells, List.map_cons, List.map_nil, List.length_cons, List.length_nil, List.getElem?_cons_zero, List.getElem?_cons_succ, Option.map_some, and_true, true_and, Nat.reduceEqDiff, Nat.reduceAdd, Int.toNat_natCast, Nat.zero_add, Nat.add_zero, ↓reduceIte, eq_self, Bool.false_eq_true, List.contains_cons, List.contains_nil, Nat.reduceBEq, Bool.or_false, Bool.or_true, h8, h6, ps_len, List.length_map, ps_get, List.getElem?_map, hk, hlt', hpn, hsz, us_len, decide_eq_true (show (n : Int) < (l.length : Int) by omega), us_get, hx, ex]
          repeat (apply And.intro; focus (first | omega | (simp; done)))
          have hka : (k.natAbs : Int) = k := by omega
          rw [hka]
          refine Cal.mk (rPut_v (tk := .nil) (L := []) (size := k) isB_nil (by simp) (by omega) (by omega)) ?_
          rintro r1 s1 ⟨q1, q2⟩ -
          rw [if_neg (by omega), List.nil_append] at q1
          have hk1 := hkp.new q2
          obtain ⟨tk1, rfl⟩ := q1.sl
          have hnum : numL (beL x k.toNat) = x % 256 ^ k.toNat := numL_beL x x0 k.toNat
          have hmb : 0 ≤ x % 256 ^ k.toNat ∧ x % 256 ^ k.toNat < 4294967296 := by
            have h124 : k = 1 ∨ k = 2 ∨ k = 4 := by omega
            rcases h124 with rfl | rfl | rfl
            · rw [show (256 : Int) ^ (1 : Int).toNat = 256 from rfl]; omega
            · rw [show (256 : Int) ^ (2 : Int).toNat = 65536 from rfl]; omega
            · rw [show (256 : Int) ^ (4 : Int).toNat = 4294967296 from rfl]; omega
          have em : x % 256 ^ k.toNat % 4294967296 = x % 256 ^ k.toNat := by omega
          simp (config := {maxSteps := 3000000}) only [ops_call, ev_t, put_get, obsOk, List.map_cons, List.map_nil, true_and, ↓reduceIte, eq_self]
          refine Cal.mk (rNum_v (beL_isB _ _) (by rw [beL_len]; omega)) ?_
          rintro _ _ ⟨rfl, rfl⟩ -
          rw [hnum]
          have hs := us_set (N := N) (n := n) (x := x % 256 ^ k.toNat) (T := Z) (by omega) (.sc (.int .i64 t))
          simp (config := {maxSteps := 3000000}) only [run_reg, at_code_n, at_blk_n, at_rnd_n, ops_nil, ops_mv, ops_bin, ops_conv, ops_ixa, ops_store, ev_t, ev_c, put_get, put_none, opv_mk, stb_some, sto_ptr, over_get, rel_mk, Stp, vbin, vbinI, vconv, norm, vixa, splice, V.cells, obsOk, List.length_cons, List.length_nil, List.drop_succ_cons, true_and, Nat.reduceEqDiff, Nat.reduceLT, Nat.reduceLeDiff, Nat.reduceLT, Int.toNat_natCast, Int.reduceNeg, Nat.zero_add, Nat.mul_one, ↓reduceIte, eq_self, List.contains_cons, List.contains_nil, Nat.reduceBEq, Bool.or_false, Bool.or_true, h8, h6, em, hk1.box, hB13]
          repeat (apply And.intro; focus (first | omega | (simp; done)))
          exact ⟨⟨i + 1, by omega, by simp, by rw [hsn]; simp, by rw [hsn]; exact hs ▸ hk1.put⟩, by omega⟩
      · simp only [Bool.not_eq_true] at c1
        rw [c1] at hpn
        rw [skip (fun h => by rw [c1] at h; cases h.1)] at hsn
        simp (config := {maxSteps := 3000000}) only [run_skip, run_reg, run_seq, run_blk, run_cond, if_true, if_false, at_code_n, at_blk_n, at_rnd_n, ops_nil, ops_grd, grd_ft, ops_mv, ops_pick, ops_bin, ops_fld, ops_ix, ops_load, ops_len, ev_t, ev_c, put_get, opv_mk, over_get, rel_mk, vnat, vpick, vbin, vbinI, norm, vfld, vlen, vix, vload, takeV, V.cells, List.length_cons, List.length_nil, List.getElem?_cons_zero, Option.map_some, and_true, true_and, Nat.reduceEqDiff, Nat.reduceAdd, Int.toNat_natCast, Int.reduceNeg, Nat.zero_add, Nat.add_zero, ↓reduceIte, eq_self, Bool.false_eq_true, List.contains_cons, List.contains_nil, Nat.reduceBEq, Bool.or_false, Bool.or_true, h8, h6, ps_len, List.length_map, ps_get, List.getElem?_map, hk, hlt', hpn]
        repeat (apply And.intro; focus (first | omega | (simp; done)))
        exact ⟨⟨i + 1, by omega, by simp, by rw [hsn], by rw [hsn]; exact hkp⟩, by omega⟩
    · obtain rfl : i = K.length := by omega
      rw [List.take_of_length_le (Nat.le_refl _)] at hkp
      have h9 := ofN_len9 l K
      obtain ⟨C, hC⟩ : ∃ C, C = (MB.mk t (ofN l K).1 [[], [], []]).cells := ⟨_, rfl⟩
      have hC13 : C.length = 13 := by rw [hC]; exact MB.len h9 rfl
      have htk : C.take 13 = C := List.take_of_length_le (by omega)
      have hf := hC ▸ MB.fits (m := MB.mk t (ofN l K).1 [[], [], []]) h9 rfl
      have he := hC ▸ MB.eqv (m := MB.mk t (ofN l K).1 [[], [], []]) h9 rfl
      have hbx : s.box b = some C := by rw [hkp.box, hC, hZ]; rfl
      have hv : (MB.mk t (ofN l K).1 [[], [], []]).v = .agg C := by rw [hC]; rfl
      rw [hv] at hO
      simp (config := {maxSteps := 3000000}) only [run_reg, run_seq, run_exit, run_cond, if_false, at_code_n, at_code_x, at_blk_x, at_rnd_x, ops_nil, ops_mv, ops_bin, ops_load, ops_len, ops_call, ev_t, put_get, opv_mk, over_get, vnat, args0, List.getD_cons_zero, List.getD_cons_succ, vbin, vbinI, vlen, vload, takeV, List.map_cons, List.map_nil, List.drop_zero, true_and, Nat.reduceEqDiff, Nat.reduceLeDiff, Int.toNat_natCast, Nat.zero_add, ↓reduceIte, decide_false, Int.lt_irrefl, eq_self, reduceCtorEq, Bool.false_eq_true, List.contains_cons, List.contains_nil, Nat.reduceBEq, Bool.or_false, Bool.or_true, h8, ps_len, List.length_map, hbx, hC13, htk]
      refine Cal.mk (hO _) ?_
      rintro _ _ ⟨rfl, rfl⟩ -
      simp (config := {maxSteps := 3000000}) only [ops_grd, grd_tt, ops_mv, ops_eqs, veqs, ops_call, ev_t, put_get, opv_mk, over_get, vload, takeV, obsOk, List.map_nil, List.drop_zero, and_true, true_and, Nat.reduceEqDiff, Nat.reduceLeDiff, Nat.zero_add, ↓reduceIte, eq_self, Bool.false_eq_true, List.contains_cons, List.contains_nil, Nat.reduceBEq, Bool.or_false, hbx, hC13, htk, hf, he]
      refine Cal.mk alive16_v ?_
      rintro _ _ ⟨rfl, rfl⟩ -
      simp (config := {maxSteps := 3000000}) only [run_ret, at_code_n, at_fin_r, ops_nil, ops_mv, ops_pick, ev_t, put_get, opv_mk, vpick, obsOk, and_true, true_and, Nat.reduceEqDiff, ↓reduceIte, vret, rvAll, rvVal, resv_1, eq_self]
      exact ⟨_, _, Wk.refl _, hkp.weak, rfl, rfl⟩
end
end Go.Proofs.Ytogkdcbcmhhhcaa
