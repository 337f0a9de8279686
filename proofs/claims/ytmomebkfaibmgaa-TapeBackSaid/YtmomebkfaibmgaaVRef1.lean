/- The document's numbers as bytes (catwalkref01), and slices.Equal of bytes: contracts. -/
import Derived.Test.YtmomebkfaibmgaaVBe
namespace Go.Proofs.Ytmomebkfaibmgaa
open Go

section
variable {tk tk' : Tk} {L M : List Int} {st : St}
theorem pow256_le {k : Nat} (h : k ≤ 7) : (256 : Int) ^ k ≤ 72057594037927936 := by
  have h7 : ∀ k : Nat, k ≤ 7 → (256 : Int) ^ k ≤ 72057594037927936 := by decide
  exact h7 _ h
theorem eqB_v : VCalls Try.prog 31 [.sl tk (bs L), .sl tk' (bs M)] st fun r st' => r = .sc (.bool (decide (L = M))) ∧ st = st' := by
  refine vcalls_enter vc31 (Nat.le_of_ble_eq_true rfl) fun hwf hok => ?_
  show Run _ Vc31.body (.fin (finQ Vc31.res _)) _ _
  unfold Vc31
  have hL := vlen_max (hok _ (List.mem_cons_self ..))
  rw [bs_len] at hL
  by_cases hl : L.length = M.length
  · simp (config := {maxSteps := 3000000}) (disch := ((fail_if_success refine selfNe ?_); omega)) only [run_skip, run_reg, run_seq, run_blk, run_cond, if_false, at_code_n, ops_nil, ops_mv, ops_bin, ops_len, ev_t, ev_c, put_get, opv_mk, args0, List.getD_cons_zero, List.getD_cons_succ, vbin, vbinI, vlen, true_and, Nat.reduceEqDiff, ↓reduceIte, ne_eq, eq_self, reduceCtorEq, bs_len, decide_eq_false (show ¬ ¬ (L.length : Int) = (M.length : Int) by omega)]
    refine run_loop [4, 5, 13, 14, 15, 16, 17, 18, 19, 20, 21, 22, 23, 24, 25] (fun B s => st = s ∧ ∃ i : Nat, i ≤ L.length ∧ B 13 = .sc (.int .i64 i) ∧ L.take i = M.take i) (fun B _ => L.length - vnat (B 13)) rfl ?_ ?_
    · simp (config := {maxSteps := 3000000}) (disch := ((fail_if_success refine selfNe ?_); omega)) only [put_get, true_and, ↓reduceIte, eq_self]
      exact ⟨0, by omega, by simp, by simp⟩
    · rintro B s ⟨rfl, i, hi, h13, he⟩
      by_cases hlt : i < L.length
      · obtain ⟨c, hc⟩ := get_ex hlt
        obtain ⟨d, hd⟩ := get_ex (L := M) (i := i) (by omega)
        simp (config := {maxSteps := 3000000}) (disch := ((fail_if_success refine selfNe ?_); omega)) only [run_skip, run_reg, run_seq, run_blk, run_cond, if_true, at_code_n, ops_nil, ops_mv, ops_bin, ops_ix, ops_load, ev_t, put_get, opv_mk, over_get, vnat, args0, List.getD_cons_zero, List.getD_cons_succ, vbin, vbinI, vix, vload, takeV, V.cells, List.length_cons, List.length_nil, List.getElem?_cons_zero, Option.map_some, and_true, true_and, Nat.reduceEqDiff, Int.toNat_natCast, Nat.zero_add, ↓reduceIte, ne_eq, eq_self, reduceCtorEq, Bool.false_eq_true, List.contains_cons, List.contains_nil, Nat.reduceBEq, Bool.or_false, Bool.or_true, h13, decide_eq_true (show (i : Int) < (L.length : Int) by omega), bs_get, hc, hd]
        repeat (apply And.intro; focus (first | omega | (simp; done)))
        refine If.dec (fun h => ?_) (fun h => ?_)
        · simp (config := {maxSteps := 3000000}) (disch := ((fail_if_success refine selfNe ?_); omega)) only [run_reg, run_seq, run_ret, at_code_n, at_code_r, at_blk_r, at_rnd_r, at_fin_r, ops_nil, ops_mv, ev_c, put_get, opv_mk, and_true, true_and, ↓reduceIte, vret, rvAll, rvVal, resv_1, eq_self]
          exact ⟨_, _, Wk.refl _, hwf.weak, by rw [decide_eq_false]; rintro rfl; rw [hc] at hd; cases hd; exact h rfl, rfl⟩
        · obtain rfl : c = d := by omega
          simp (config := {maxSteps := 3000000}) (disch := ((fail_if_success refine selfNe ?_); omega)) only [run_skip, run_reg, at_code_n, at_blk_n, at_rnd_n, ops_nil, ops_mv, ops_bin, ev_t, ev_c, put_get, opv_mk, over_get, rel_mk, vbin, vbinI, norm, true_and, Nat.reduceEqDiff, Int.reduceNeg, ↓reduceIte, decide_false, not_true_eq_false, eq_self, List.contains_cons, List.contains_nil, Nat.reduceBEq, Bool.or_false, Bool.or_true, h13]
          repeat (apply And.intro; focus (first | omega | (simp; done)))
          exact ⟨⟨i + 1, by omega, by simp, by rw [List.take_add_one, List.take_add_one, hc, hd, he]⟩, by omega⟩
      · obtain rfl : i = L.length := by omega
        simp (config := {maxSteps := 3000000}) (disch := ((fail_if_success refine selfNe ?_); omega)) only [run_reg, run_seq, run_exit, run_ret, run_cond, if_false, at_code_n, at_code_x, at_blk_x, at_rnd_x, at_fin_r, ops_nil, ops_mv, ops_bin, ev_t, ev_c, put_get, opv_mk, over_get, vnat, vbin, vbinI, and_true, true_and, Nat.reduceEqDiff, Int.toNat_natCast, ↓reduceIte, vret, rvAll, rvVal, resv_1, decide_false, Int.lt_irrefl, eq_self, Bool.false_eq_true, List.contains_cons, List.contains_nil, Nat.reduceBEq, Bool.or_false, Bool.or_true, h13]
        rw [List.take_of_length_le (Nat.le_refl _), List.take_of_length_le (by omega)] at he
        exact ⟨_, _, Wk.refl _, hwf.weak, by rw [decide_eq_true he], rfl⟩
  · simp (config := {maxSteps := 3000000}) (disch := ((fail_if_success refine selfNe ?_); omega)) only [run_reg, run_seq, run_ret, run_cond, if_true, at_code_n, at_code_r, at_fin_r, ops_nil, ops_mv, ops_bin, ops_len, ev_t, ev_c, put_get, opv_mk, args0, List.getD_cons_zero, List.getD_cons_succ, vbin, vbinI, vlen, and_true, true_and, Nat.reduceEqDiff, ↓reduceIte, vret, rvAll, rvVal, resv_1, ne_eq, eq_self, reduceCtorEq, bs_len, decide_eq_true (show ¬ (L.length : Int) = (M.length : Int) by omega)]
    exact ⟨_, _, Wk.refl _, hwf.weak, by rw [decide_eq_false]; rintro rfl; exact hl rfl, rfl⟩
theorem Own.put {size : Nat} {st : St} {v : V} {l : List V} (h : Own size st v l) {b : Nat} {cs : List V} : Own size (st.put b cs) v l := by
  rcases h with h | ⟨g, h1, h2, h3⟩
  · exact .inl h
  · exact .inr ⟨g, h1, h2, by simp only [put_sz]; omega⟩
theorem bs_zeros (k : Nat) : (List.replicate k [V.sc (.int .u8 0)]).flatten = bs (List.replicate k 0) := by
  induction k with
  | zero => rfl
  | succ k ih => rw [List.replicate_succ, List.flatten_cons, ih, List.replicate_succ, bs_cons]; rfl
theorem splice_bs {m : Nat} {T : List Int} {x : Int} : splice (bs (List.replicate (m + 1) 0 ++ T)) m [.sc (.int .u8 x)] = bs (List.replicate m 0 ++ x :: T) := by
  unfold splice
  have e : List.replicate (m + 1) (0 : Int) ++ T = List.replicate m 0 ++ (0 :: T) := by rw [List.replicate_succ', List.append_assoc]; rfl
  have hl : (bs (List.replicate m 0)).length = m := by simp [bs_len]
  rw [e, ← bs_append, ← bs_append, List.take_append_of_le_length (by omega), List.take_of_length_le (by omega), List.drop_append, hl]
  rw [List.drop_of_length_le (by simp; omega), show m + [V.sc (.int .u8 x)].length - m = 1 by simp]
  simp [bs_cons]
theorem bs_flat (L : List Int) : (bs L).flatMap V.cells = bs L := by
  induction L with
  | nil => rfl
  | cons x L ih => rw [bs_cons, List.flatMap_cons, ih]; rfl
theorem St.weak.trans {a b c : St} (h : a.weak b) (k : b.weak c) : a.weak c :=
  ⟨fun x cs hx => ⟨(k.box x cs (h.box x cs hx).1).1, (h.box x cs hx).2⟩, fun g m hg => ⟨(k.own g m (h.own g m hg).1).1, (h.own g m hg).2⟩, Nat.le_trans h.sz k.sz⟩
/-- All that was is there as it was; r is a new row. -/
structure New (st st' : St) (r : V) : Prop where
  weak : st.weak st'
  lt : st'.Lt
  tok : ∀ g k l, r = .sl (.own g k) l → st.sz ≤ g
theorem AppSt.keeps {s s' : St} {x r : V} (h : AppSt s x s' r) {t : St} (hw : t.weak s) (hx : ∀ g k l, x = .sl (.own g k) l → t.sz ≤ g) : t.weak s' :=
  ⟨fun b cs hb => ⟨by rw [h.box]; exact (hw.box b cs hb).1, (hw.box b cs hb).2⟩, fun g m hg => ⟨h.own g m (hw.own g m hg).1 (fun l k e => by have := hx g k l e; have := (hw.own g m hg).2; omega), (hw.own g m hg).2⟩, Nat.le_trans hw.sz h.sz⟩
theorem AppSt.fresh {s s' : St} {x r : V} (h : AppSt s x s' r) {t : St} (hs : t.sz ≤ s.sz) (hx : ∀ g k l, x = .sl (.own g k) l → t.sz ≤ g) : ∀ g k l, r = .sl (.own g k) l → t.sz ≤ g := fun g k l e => by
  rcases h.tok g k l e with ⟨l', e'⟩ | h2
  · exact hx g k l' e'
  · omega
theorem rPut_v {n size : Int} (hB : IsB L) (hl : L.length ≤ 1000000000000) (h0 : 0 ≤ n) (h1 : n ≤ 18446744073709551615) : VCalls Try.prog 32 [.sl tk (bs L), .sc (.int .u64 n), .sc (.int .i64 size)] st fun r st' =>
    Own 1 st' r (bs (if size < 1 ∨ 8 < size then L else L ++ beL n size.toNat)) ∧ New st st' r := by
  refine vcalls_enter vc32 (Nat.le_of_ble_eq_true rfl) fun hwf hok => ?_
  show Run _ Vc32.body (.fin (finQ Vc32.res _)) _ _
  unfold Vc32
  simp (config := {maxSteps := 3000000}) (disch := ((fail_if_success refine selfNe ?_); omega)) only [run_reg, run_seq, at_code_n, ops_nil, ops_mv, ops_bslo, ev_c, opv_mk, strip, strip1, List.map_nil, true_and]
  refine Bo.own (by simp [allLen]) ?_
  intro g hg
  simp (config := {maxSteps := 3000000}) (disch := ((fail_if_success refine selfNe ?_); omega)) only [ops_mv, ops_app, ev_t, put_get, opv_mk, args0, List.getD_cons_zero, obsOk, List.length_nil, true_and, Nat.reduceEqDiff, ↓reduceIte, eq_self, reduceCtorEq]
  refine App.mk (l := []) (.inr ⟨g, rfl, by simp [St.use], by simp only [St.use]; omega⟩) (allSz_bs _) (by simp [bs_len, maxLen]; omega) (by simp [bs_len]; omega) ?_
  intro r1 s1 k1 k2
  rw [List.nil_append] at k1
  have hx0 : ∀ g' k l, V.sl (.own g 1) [] = .sl (.own g' k) l → st.sz ≤ g' := fun g' k l e => by cases e; exact hg
  have w1 : st.weak s1 := k2.keeps (weak_use hwf.weak hg) hx0
  have l1 : s1.Lt := hwf.lt.use.app k2
  have f1 := k2.fresh (t := st) (by simp only [use_sz]; omega) hx0
  by_cases c1 : size < 1
  · simp (config := {maxSteps := 3000000}) (disch := ((fail_if_success refine selfNe ?_); omega)) only [run_reg, run_seq, run_ret, run_cond, if_true, at_code_n, at_code_r, at_fin_r, ops_nil, ops_grd, grd_tf, ops_mv, ops_pick, ops_bin, ev_t, ev_c, put_get, opv_mk, args0, List.getD_cons_zero, List.getD_cons_succ, vpick, vbin, vbinI, obsOk, and_true, true_and, Nat.reduceEqDiff, ↓reduceIte, vret, rvAll, rvVal, resv_1, decide_true, eq_self, true_or, c1]
    exact ⟨_, _, Wk.refl _, l1.weak, k1, w1, l1, f1⟩
  by_cases c2 : 8 < size
  · simp (config := {maxSteps := 3000000}) (disch := ((fail_if_success refine selfNe ?_); omega)) only [run_reg, run_seq, run_ret, run_cond, if_true, at_code_n, at_code_r, at_fin_r, ops_nil, ops_grd, grd_ff, ops_mv, ops_pick, ops_bin, ev_t, ev_c, put_get, opv_mk, args0, List.getD_cons_zero, List.getD_cons_succ, vpick, vbin, vbinI, obsOk, and_true, true_and, Nat.reduceEqDiff, ↓reduceIte, vret, rvAll, rvVal, resv_1, decide_true, decide_false, eq_self, Bool.false_eq_true, or_true, c1, c2]
    exact ⟨_, _, Wk.refl _, l1.weak, k1, w1, l1, f1⟩
  rw [if_neg (by omega)]
  simp (config := {maxSteps := 3000000}) (disch := ((fail_if_success refine selfNe ?_); omega)) only [run_skip, run_reg, run_seq, run_blk, run_cond, if_false, at_code_n, ops_nil, ops_grd, grd_ff, ops_mv, ops_pick, ops_bin, ops_mks, mks_int, ev_t, ev_c, put_get, opv_mk, args0, List.getD_cons_zero, List.getD_cons_succ, vpick, vbin, vbinI, obsOk, true_and, Nat.reduceEqDiff, ↓reduceIte, eq_self, Bool.false_eq_true, decide_eq_false c1, decide_eq_false c2]
  repeat (apply And.intro; focus (first | omega | (simp; done)))
  intro b hb
  rw [bs_zeros]
  obtain ⟨sz, hsz⟩ : ∃ k : Nat, size = k := ⟨size.toNat, by omega⟩
  subst hsz
  rw [Int.toNat_natCast]
  have hsz8 : sz ≤ 8 := by omega
  refine run_loop [1, 9, 22, 23, 24, 25, 26, 27, 28, 29, 30, 31, 32, 33, 34, 35, 36, 37] (fun B s => ∃ i : Nat, i ≤ sz ∧ B 9 = .sc (.int .i64 i) ∧ B 1 = .sc (.int .u64 (n / 256 ^ i)) ∧ s = s1.put b (bs (List.replicate (sz - i) 0 ++ beL n i))) (fun B _ => sz - vnat (B 9)) rfl ?_ ?_
  · simp (config := {maxSteps := 3000000}) (disch := ((fail_if_success refine selfNe ?_); omega)) only [put_get, args0, List.getD_cons_zero, List.getD_cons_succ, Nat.reduceEqDiff, ↓reduceIte, eq_self]
    exact ⟨0, by omega, by simp, by simp, by simp [beL]⟩
  · rintro B s ⟨i, hi, h9, h1', rfl⟩
    have hdiv : 0 ≤ n / 256 ^ i := Int.ediv_nonneg h0 (by have := pow256_pos i; omega)
    by_cases hlt : i < sz
    · have hdd : n / 256 ^ i / 256 = n / 256 ^ (i + 1) := by rw [Int.pow_succ, Int.ediv_ediv_of_nonneg (by have := pow256_pos i; omega)]
      have hle : n / 256 ^ i ≤ n := Int.ediv_le_self _ h0
      obtain ⟨m, hm⟩ : ∃ m, sz - i = m + 1 := ⟨sz - i - 1, by omega⟩
      have hm2 : ((sz : Int) - 1 - i).toNat = m := by omega
      rw [hm]
      simp (config := {maxSteps := 3000000}) (disch := ((fail_if_success refine selfNe ?_); omega)) only [run_skip, run_reg, run_seq, run_blk, run_cond, if_true, at_code_n, at_blk_n, at_rnd_n, ops_nil, ops_mv, ops_bin, ops_conv, ops_ix, ops_store, ev_t, ev_c, put_get, put_none, opv_mk, stb_some, sto_ptr, over_get, rel_mk, vnat, Stp, put_box_same, put_put, args0, List.getD_cons_zero, List.getD_cons_succ, vbin, vbinI, vconv, norm, vix, splice, V.cells, obsOk, List.length_cons, List.length_nil, and_true, true_and, Nat.reduceEqDiff, Nat.reduceLT, Nat.reduceLT, Int.toNat_natCast, Int.reduceLT, Int.reduceNeg, Nat.zero_add, Nat.mul_one, ↓reduceIte, eq_self, Bool.false_eq_true, List.contains_cons, List.contains_nil, Nat.reduceBEq, Bool.or_false, Bool.or_true, h9, h1', decide_eq_true (show (i : Int) < (sz : Int) by omega), hm2, bs_len, List.length_append, List.length_replicate, beL_len, emod_small]
      repeat (apply And.intro; focus (first | omega | (simp; done)))
      have hsp := splice_bs (m := m) (T := beL n i) (x := n / 256 ^ i % 256)
      simp only [splice, List.length_cons, List.length_nil, Nat.zero_add] at hsp
      exact ⟨⟨i + 1, by omega, by simp, by rw [hdd], by rw [hsp, show sz - (i + 1) = m by omega]; rfl⟩, by omega⟩
    · obtain rfl : i = sz := by omega
      simp (config := {maxSteps := 3000000}) (disch := ((fail_if_success refine selfNe ?_); omega)) only [run_reg, run_seq, run_exit, run_cond, if_false, at_code_n, at_code_x, at_blk_x, at_rnd_x, ops_nil, ops_mv, ops_bin, ops_app, ev_t, put_get, opv_mk, over_get, vnat, args0, List.getD_cons_zero, List.getD_cons_succ, vbin, vbinI, List.nil_append, true_and, Nat.reduceEqDiff, Int.toNat_natCast, ↓reduceIte, decide_false, Int.lt_irrefl, eq_self, Bool.false_eq_true, List.contains_cons, List.contains_nil, Nat.reduceBEq, Bool.or_false, Bool.or_true, h9, Nat.sub_self, List.replicate_zero]
      obtain ⟨tk1, rfl⟩ := k1.sl
      refine App.box (b := b) (cs := bs (beL n i)) (ys := bs (beL n i)) k1.put put_box_same (by simp [bs_len, beL_len]) (by simp [bs_len, beL_len]) (by rw [bs_flat, List.drop_zero, Nat.mul_one]; exact List.take_of_length_le (by simp [bs_len, beL_len])) (allSz_bs _) (by simp [bs_len, maxLen]; omega) (by simp [bs_len]; omega) ?_
      intro r2 s2 k3 k4
      simp (config := {maxSteps := 3000000}) (disch := ((fail_if_success refine selfNe ?_); omega)) only [run_ret, at_code_n, at_fin_r, ops_nil, ops_mv, ev_t, put_get, opv_mk, obsOk, and_true, true_and, ↓reduceIte, vret, rvAll, rvVal, resv_1, eq_self]
      have hx1 : ∀ g' k l, V.sl tk1 (bs L) = .sl (.own g' k) l → st.sz ≤ g' := f1
      exact ⟨_, _, Wk.refl _, (l1.put.app k4).weak, by rw [← bs_append]; exact k3, k4.keeps (weak_put w1 (by have := w1.sz; omega)) hx1, l1.put.app k4, k4.fresh (by have := w1.sz; simp only [put_sz]; omega) hx1⟩
end
end Go.Proofs.Ytmomebkfaibmgaa
