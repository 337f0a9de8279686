/- Steps of the proof, joined: VRef1, VR15, VLcp3, VLp1, VIp1, VR10, VR34, VR35, VRef3, VR21, VR33, VR36, VR36b, VR10b, VR36c, VR36d, VR22, VR37, VLp2, VIp2, VIpLaw2, VLp3, VLp4, VIp3, Base, Open, VEnter, VSeat, VOpenB. -/
import Derived.Test.YtmmapbojjgpggaaGreatZwa
import Derived.Test.YtmmapbojjgpggaaGreatPc
import Derived.Test.YtmmapbojjgpggaaGreatProg
import Derived.WalkKit
import Derived.WalkSpells
import Derived.WalkLawsBesides
import Derived.Deep.RegionHeld3
import Derived.Deep.DrawnRows
import Derived.BigQuiet
import Derived.Lib.Hide
import Derived.ProofKit
import Derived.OpenShut
import Derived.Deep.Slices
import Derived.Test.YtmmapbojjgpggaaGreatZec
import Derived.Test.YtmmapbojjgpggaaGreatVc
namespace Go.Proofs.YtmmapbojjgpggaaGreat
open Go
attribute [local go_sem] run_skip run_reg run_seq run_blk run_exit run_ret run_cond if_true if_false at_code_n at_code_x at_code_r at_blk_n at_blk_x at_blk_r at_rnd_n at_rnd_x at_rnd_r at_fin_n at_fin_r ops_nil ops_grd grd_und grd_tt grd_ff grd_tf grd_ft ops_mv ops_pick ops_bin ops_un ops_binb ops_eqs ops_isnil ops_pnil ops_b2s ops_s2b ops_b2sB ops_s2a ops_slcA ops_aidx vaidx vb2sB vs2a vslcA ops_sidx vs2b vsidx srcX ops_appx apx_mk ops_mks ops_mko mks_int mko_int vbinb veqs visnil vpnil vb2s ops_conv ops_fld ops_ix ops_ixa ops_load ops_nilck ops_ext ops_len ops_slen ops_mn ops_mx ops_bld ops_bsl ops_slc ops_sslc ops_box ops_alc ops_alcX ops_boxX ops_bslo ops_store ops_app ops_call ev_t ev_c put_get put_none opv_mk stb_some sto_ptr over_get rel_mk vnat Bx Stp vbld vbsl put_box_same put_box_ne put_sz put_own use_box use_sz put_put args0 List.getD_cons_zero List.getD_cons_succ List.getD_nil vpick vbin vbinI vbinS vun vconv norm vfld vnil vlen vslen vext vmm vix vixa vload takeV takeB mono_nil mono_two mono_sc mono_any mono_und mono_sl mono_agg mono_ep vmlk vmlen vmnil vent vmfn allSc vslc3 kOk fitsV ops_mlk ops_mlen ops_mnil ops_ent ops_mfn ops_slc3 ops_mkm ops_mup mup_map mub_some ops_mdel mdl_nil mdl_map mdb_some ops_rng rng_none rng_map rgb_some ops_nxt ops_ment met_map meb_some ops_est est_map esb_some ops_clr clr_nil clr_box clb_some ops_calv clv_func vslc vsslc fillV splice V.cells strip strip1 allLen ptrV obsOk shAmt IntKind.bits List.map_cons List.map_nil List.length_cons List.length_nil List.getElem?_cons_zero List.getElem?_cons_succ List.take_succ_cons List.take_zero List.drop_succ_cons List.drop_zero List.cons_append List.nil_append List.append_nil List.take_nil List.drop_nil Option.map_some Option.map_none and_true true_and Int.toNat_natCast Nat.min_def Nat.zero_add Nat.add_zero Nat.zero_mul Nat.mul_one Nat.one_mul vret rvAll rvVal resv_1 resv_2 decide_true decide_false Int.lt_irrefl Bool.not_true Bool.not_false ne_eq not_true_eq_false not_false_eq_true eq_self Bool.true_eq_false Bool.false_eq_true List.contains_cons List.contains_nil Bool.false_or Bool.true_or Bool.or_false Bool.or_true List.mem_cons List.not_mem_nil or_false or_true true_or false_or mono_bs ops_aidxn vaidxn ops_fv vfv ops_mki vmki ops_inv ops_cpy cpy_box cpb_some at_finp_n at_finp_r vretp rpAll rpVal vpv resp_0 resp_1 resp_2 Nat.reduceEqDiff Nat.reduceAdd Nat.reduceMul Nat.reduceSub Nat.reduceLT Nat.reduceLeDiff Int.reduceToNat Int.reduceLE Int.reduceLT Int.reducePow Int.reduceMul Int.reduceAdd Int.reduceSub Int.reduceNeg Int.reduceEq Int.reduceMod Int.reduceDiv Nat.reducePow Nat.reduceMod Nat.reduceDiv reduceCtorEq Nat.reduceBEq
section
open Go
section
variable {tk tk' : Tk} {L M : List Int} {st : St}
theorem pow256_le {k : Nat} (h : k ≤ 7) : (256 : Int) ^ k ≤ 72057594037927936 := by
  have h7 : ∀ k : Nat, k ≤ 7 → (256 : Int) ^ k ≤ 72057594037927936 := by decide
  exact h7 _ h
theorem rNum_v (hB : IsB L) (hl : L.length ≤ 8) : VCalls Tryz.prog 53 [.sl tk (bs L)] st fun r st' => r = .sc (.int .u64 (numL L)) ∧ st = st' := by
  refine vcalls_enter vc53 (Nat.le_of_ble_eq_true rfl) fun hwf hok => ?_
  show Run _ Vc53.body (.fin (finQ Vc53.res _)) _ _
  unfold Vc53 zo
  simp (config := {maxSteps := 3000000}) (disch := ((fail_if_success refine selfNe ?_); omega)) only [go_sem]
  refine run_loop [3, 4, 5, 6, 7, 8, 9, 10, 11, 12, 13, 14, 15, 16, 17, 18] (fun B s => st = s ∧ ∃ i : Nat, i ≤ L.length ∧ B 4 = .sc (.int .i64 i) ∧ B 3 = .sc (.int .u64 (numL (L.take i)))) (fun B _ => L.length - vnat (B 4)) rfl ?_ ?_
  · simp (config := {maxSteps := 3000000}) (disch := ((fail_if_success refine selfNe ?_); omega)) only [go_sem, ↓reduceIte]
    exact ⟨0, by omega, by simp, by simp [numL_nil]⟩
  · rintro B s ⟨rfl, i, hi, h4, h3⟩
    by_cases hlt : i < L.length
    · obtain ⟨c, hc⟩ := get_ex hlt
      have bc := hB.get hc
      have hr := numL_range _ (L.take i) rfl (hB.take i)
      have hpw := pow256_le (k := (L.take i).length) (by simp; omega)
      have hsn : numL (L.take (i + 1)) = 256 * numL (L.take i) + c := by rw [List.take_add_one, hc]; exact numL_snoc _ _
      simp (config := {maxSteps := 3000000}) (disch := ((fail_if_success refine selfNe ?_); omega)) only [go_sem, ↓reduceIte, h4, h3, bs_len, decide_eq_true (show (i : Int) < (L.length : Int) by omega), bs_get, hc, emod_small]
      repeat (apply And.intro; focus (first | omega | (simp; done)))
      exact ⟨⟨i + 1, by omega, by simp, by rw [hsn]⟩, by omega⟩
    · obtain rfl : i = L.length := by omega
      have ht : L.take L.length = L := List.take_of_length_le (Nat.le_refl _)
      rw [ht] at h3
      simp (config := {maxSteps := 3000000}) (disch := ((fail_if_success refine selfNe ?_); omega)) only [go_sem, ↓reduceIte, h4, h3, bs_len]
      exact ⟨_, _, Wk.refl _, hwf.weak, rfl, rfl⟩
theorem eqB_v : VCalls Tryz.prog 54 [.sl tk (bs L), .sl tk' (bs M)] st fun r st' => r = .sc (.bool (decide (L = M))) ∧ st = st' := by
  refine vcalls_enter vc54 (Nat.le_of_ble_eq_true rfl) fun hwf hok => ?_
  show Run _ Vc54.body (.fin (finQ Vc54.res _)) _ _
  unfold Vc54 zo
  have hL := vlen_max (hok _ (List.mem_cons_self ..))
  rw [bs_len] at hL
  by_cases hl : L.length = M.length
  · simp (config := {maxSteps := 3000000}) (disch := ((fail_if_success refine selfNe ?_); omega)) only [go_sem, ↓reduceIte, bs_len, decide_eq_false (show ¬ ¬ (L.length : Int) = (M.length : Int) by omega)]
    refine run_loop [4, 5, 13, 14, 15, 16, 17, 18, 19, 20, 21, 22, 23, 24, 25] (fun B s => st = s ∧ ∃ i : Nat, i ≤ L.length ∧ B 13 = .sc (.int .i64 i) ∧ L.take i = M.take i) (fun B _ => L.length - vnat (B 13)) rfl ?_ ?_
    · simp (config := {maxSteps := 3000000}) (disch := ((fail_if_success refine selfNe ?_); omega)) only [go_sem, ↓reduceIte]
      exact ⟨0, by omega, by simp, by simp⟩
    · rintro B s ⟨rfl, i, hi, h13, he⟩
      by_cases hlt : i < L.length
      · obtain ⟨c, hc⟩ := get_ex hlt
        obtain ⟨d, hd⟩ := get_ex (L := M) (i := i) (by omega)
        simp (config := {maxSteps := 3000000}) (disch := ((fail_if_success refine selfNe ?_); omega)) only [go_sem, ↓reduceIte, h13, decide_eq_true (show (i : Int) < (L.length : Int) by omega), bs_get, hc, hd]
        repeat (apply And.intro; focus (first | omega | (simp; done)))
        refine If.dec (fun h => ?_) (fun h => ?_)
        · simp (config := {maxSteps := 3000000}) (disch := ((fail_if_success refine selfNe ?_); omega)) only [go_sem, ↓reduceIte]
          exact ⟨_, _, Wk.refl _, hwf.weak, by rw [decide_eq_false]; rintro rfl; rw [hc] at hd; cases hd; exact h rfl, rfl⟩
        · obtain rfl : c = d := by omega
          simp (config := {maxSteps := 3000000}) (disch := ((fail_if_success refine selfNe ?_); omega)) only [go_sem, ↓reduceIte, h13]
          repeat (apply And.intro; focus (first | omega | (simp; done)))
          exact ⟨⟨i + 1, by omega, by simp, by rw [List.take_add_one, List.take_add_one, hc, hd, he]⟩, by omega⟩
      · obtain rfl : i = L.length := by omega
        simp (config := {maxSteps := 3000000}) (disch := ((fail_if_success refine selfNe ?_); omega)) only [go_sem, ↓reduceIte, h13]
        rw [List.take_of_length_le (Nat.le_refl _), List.take_of_length_le (by omega)] at he
        exact ⟨_, _, Wk.refl _, hwf.weak, by rw [decide_eq_true he], rfl⟩
  · simp (config := {maxSteps := 3000000}) (disch := ((fail_if_success refine selfNe ?_); omega)) only [go_sem, ↓reduceIte, bs_len, decide_eq_true (show ¬ (L.length : Int) = (M.length : Int) by omega)]
    exact ⟨_, _, Wk.refl _, hwf.weak, by rw [decide_eq_false]; rintro rfl; exact hl rfl, rfl⟩
theorem Own.put {size : Nat} {st : St} {v : V} {l : List V} (h : Own size st v l) {b : Nat} {cs : List V} : Own size (st.put b cs) v l := by
  rcases h with h | ⟨g, h1, h2, h3⟩
  · exact .inl h
  · exact .inr ⟨g, h1, h2, by simp only [put_sz]; omega⟩
theorem bs_zeros (k : Nat) : (List.replicate k [V.sc (.int .u8 0)]).flatten = bs (List.replicate k 0) := by
  induction k with
  | zero => rfl
  | succ k ih => rw [List.replicate_succ, List.flatten_cons, ih, List.replicate_succ, bs_cons]; rfl
theorem splice_bs {m : Nat} {T : List Int} {x : Int} : splice (bs (List.replicate (m + 1) 0 ++ T)) m [.sc (.int .u8 x)] = bs (List.replicate m 0 ++ x :: T) := by
  unfold splice
  have e : List.replicate (m + 1) (0 : Int) ++ T = List.replicate m 0 ++ (0 :: T) := by rw [List.replicate_succ', List.append_assoc]; rfl
  have hl : (bs (List.replicate m 0)).length = m := by simp [bs_len]
  rw [e, ← bs_append, ← bs_append, List.take_append_of_le_length (by omega), List.take_of_length_le (by omega), List.drop_append, hl]
  rw [List.drop_of_length_le (by simp; omega), show m + [V.sc (.int .u8 x)].length - m = 1 by simp]
  simp [bs_cons]
theorem bs_flat (L : List Int) : (bs L).flatMap V.cells = bs L := by
  induction L with
  | nil => rfl
  | cons x L ih => rw [bs_cons, List.flatMap_cons, ih]; rfl
theorem St.weak.trans {a b c : St} (h : a.weak b) (k : b.weak c) : a.weak c :=
  ⟨fun x cs hx => ⟨(k.box x cs (h.box x cs hx).1).1, (h.box x cs hx).2⟩, fun g m hg => ⟨(k.own g m (h.own g m hg).1).1, (h.own g m hg).2⟩, Nat.le_trans h.sz k.sz⟩
structure New (st st' : St) (r : V) : Prop where
  weak : st.weak st'
  lt : st'.Lt
  tok : ∀ g k l, r = .sl (.own g k) l → st.sz ≤ g
theorem AppSt.keeps {s s' : St} {x r : V} (h : AppSt s x s' r) {t : St} (hw : t.weak s) (hx : ∀ g k l, x = .sl (.own g k) l → t.sz ≤ g) : t.weak s' :=
  ⟨fun b cs hb => ⟨by rw [h.box]; exact (hw.box b cs hb).1, (hw.box b cs hb).2⟩, fun g m hg => ⟨h.own g m (hw.own g m hg).1 (fun l k e => by have := hx g k l e; have := (hw.own g m hg).2; omega), (hw.own g m hg).2⟩, Nat.le_trans hw.sz h.sz⟩
theorem AppSt.fresh {s s' : St} {x r : V} (h : AppSt s x s' r) {t : St} (hs : t.sz ≤ s.sz) (hx : ∀ g k l, x = .sl (.own g k) l → t.sz ≤ g) : ∀ g k l, r = .sl (.own g k) l → t.sz ≤ g := fun g k l e => by
  rcases h.tok g k l e with ⟨l', e'⟩ | h2
  · exact hx g k l' e'
  · omega
theorem rPut_v {n size : Int} (hB : IsB L) (hl : L.length ≤ 1000000000000) (h0 : 0 ≤ n) (h1 : n ≤ 18446744073709551615) : VCalls Tryz.prog 16 [.sl tk (bs L), .sc (.int .u64 n), .sc (.int .i64 size)] st fun r st' =>
    Own 1 st' r (bs (if size < 1 ∨ 8 < size then L else L ++ beL n size.toNat)) ∧ New st st' r := by
  refine vcalls_enter vc16 (Nat.le_of_ble_eq_true rfl) fun hwf hok => ?_
  show Run _ Vc16.body (.fin (finQ Vc16.res _)) _ _
  unfold Vc16 zg zn zo
  simp (config := {maxSteps := 3000000}) (disch := ((fail_if_success refine selfNe ?_); omega)) only [go_sem]
  refine Bo.own (by simp [allLen]) ?_
  intro g hg
  simp (config := {maxSteps := 3000000}) (disch := ((fail_if_success refine selfNe ?_); omega)) only [go_sem, ↓reduceIte]
  refine App.mk (l := []) (.inr ⟨g, rfl, by simp [St.use], by simp only [St.use]; omega⟩) (allSz_bs _) (by simp [bs_len, maxLen]; omega) (by simp [bs_len]; omega) ?_
  intro r1 s1 k1 k2
  rw [List.nil_append] at k1
  have hx0 : ∀ g' k l, V.sl (.own g 1) [] = .sl (.own g' k) l → st.sz ≤ g' := fun g' k l e => by cases e; exact hg
  have w1 : st.weak s1 := k2.keeps (weak_use hwf.weak hg) hx0
  have l1 : s1.Lt := hwf.lt.use.app k2
  have f1 := k2.fresh (t := st) (by simp only [use_sz]; omega) hx0
  by_cases c1 : size < 1
  · simp (config := {maxSteps := 3000000}) (disch := ((fail_if_success refine selfNe ?_); omega)) only [go_sem, ↓reduceIte, c1]
    exact ⟨_, _, Wk.refl _, l1.weak, k1, w1, l1, f1⟩
  by_cases c2 : 8 < size
  · simp (config := {maxSteps := 3000000}) (disch := ((fail_if_success refine selfNe ?_); omega)) only [go_sem, ↓reduceIte, c1, c2]
    exact ⟨_, _, Wk.refl _, l1.weak, k1, w1, l1, f1⟩
  rw [if_neg (by omega)]
  simp (config := {maxSteps := 3000000}) (disch := ((fail_if_success refine selfNe ?_); omega)) only [go_sem, ↓reduceIte, decide_eq_false c1, decide_eq_false c2]
  repeat (apply And.intro; focus (first | omega | (simp; done)))
  intro b hb
  rw [bs_zeros]
  obtain ⟨sz, hsz⟩ : ∃ k : Nat, size = k := ⟨size.toNat, by omega⟩
  subst hsz
  rw [Int.toNat_natCast]
  have hsz8 : sz ≤ 8 := by omega
  refine run_loop [1, 9, 22, 23, 24, 25, 26, 27, 28, 29, 30, 31, 32, 33, 34, 35, 36, 37] (fun B s => ∃ i : Nat, i ≤ sz ∧ B 9 = .sc (.int .i64 i) ∧ B 1 = .sc (.int .u64 (n / 256 ^ i)) ∧ s = s1.put b (bs (List.replicate (sz - i) 0 ++ beL n i))) (fun B _ => sz - vnat (B 9)) rfl ?_ ?_
  · simp (config := {maxSteps := 3000000}) (disch := ((fail_if_success refine selfNe ?_); omega)) only [go_sem, ↓reduceIte]
    exact ⟨0, by omega, by simp, by simp, by simp [beL]⟩
  · rintro B s ⟨i, hi, h9, h1', rfl⟩
    have hdiv : 0 ≤ n / 256 ^ i := Int.ediv_nonneg h0 (by have := pow256_pos i; omega)
    by_cases hlt : i < sz
    · have hdd : n / 256 ^ i / 256 = n / 256 ^ (i + 1) := by rw [Int.pow_succ, Int.ediv_ediv_of_nonneg (by have := pow256_pos i; omega)]
      have hle : n / 256 ^ i ≤ n := Int.ediv_le_self _ h0
      obtain ⟨m, hm⟩ : ∃ m, sz - i = m + 1 := ⟨sz - i - 1, by omega⟩
      have hm2 : ((sz : Int) - 1 - i).toNat = m := by omega
      rw [hm]
      simp (config := {maxSteps := 3000000}) (disch := ((fail_if_success refine selfNe ?_); omega)) only [go_sem, ↓reduceIte, h9, h1', decide_eq_true (show (i : Int) < (sz : Int) by omega), hm2, bs_len, List.length_append, List.length_replicate, beL_len, emod_small]
      repeat (apply And.intro; focus (first | omega | (simp; done)))
      have hsp := splice_bs (m := m) (T := beL n i) (x := n / 256 ^ i % 256)
      simp only [splice, List.length_cons, List.length_nil, Nat.zero_add] at hsp
      exact ⟨⟨i + 1, by omega, by simp, by rw [hdd], by rw [hsp, show sz - (i + 1) = m by omega]; rfl⟩, by omega⟩
    · obtain rfl : i = sz := by omega
      simp (config := {maxSteps := 3000000}) (disch := ((fail_if_success refine selfNe ?_); omega)) only [go_sem, ↓reduceIte, h9, Nat.sub_self, List.replicate_zero]
      obtain ⟨tk1, rfl⟩ := k1.sl
      refine App.box (b := b) (cs := bs (beL n i)) (ys := bs (beL n i)) k1.put put_box_same (by simp [bs_len, beL_len]) (by simp [bs_len, beL_len]) (by rw [bs_flat, List.drop_zero, Nat.mul_one]; exact List.take_of_length_le (by simp [bs_len, beL_len])) (of_eq_true mono_bs) (allSz_bs _) (by simp [bs_len, maxLen]; omega) (by simp [bs_len]; omega) ?_
      intro r2 s2 k3 k4
      simp (config := {maxSteps := 3000000}) (disch := ((fail_if_success refine selfNe ?_); omega)) only [go_sem, ↓reduceIte]
      have hx1 : ∀ g' k l, V.sl tk1 (bs L) = .sl (.own g' k) l → st.sz ≤ g' := f1
      exact ⟨_, _, Wk.refl _, (l1.put.app k4).weak, by rw [← bs_append]; exact k3, k4.keeps (weak_put w1 (by have := w1.sz; omega)) hx1, l1.put.app k4, k4.fresh (by have := w1.sz; simp only [put_sz]; omega) hx1⟩
end
end
section
open Go
section
variable {st : St} {tk tk2 : Tk} {L : List Int} {p q : Ctl}
set_option maxRecDepth 100000 in
theorem r15First_v {m : Int} (hl : L.length ≤ 1000000000) : VCalls Tryz.prog 81 [.sl tk (bs L), .sc (.int .i64 m)] st fun r s => r = .sl .no (bs (L.take m.toNat)) ∧ st = s := by
  refine vcalls_enterq pc81 (Nat.le_of_ble_eq_true rfl) rfl fun hwf hok => ?_
  show Run _ Pc81.body (.fin (finP Pc81.res _)) _ _
  unfold Pc81 zg zo
  simp (maxSteps := 3000000) only [go_sem]
  refine run_loop [5, 6, 9, 10, 12, 13, 14, 15, 17, 21, 22, 23, 24] (fun B s => ∃ (i : Nat) (t : Tk), i ≤ L.length ∧ (i : Int) ≤ max m 0 ∧ B 6 = .sc (.int .i64 i) ∧ B 5 = .sl t (bs (L.take i)) ∧ RO 1 st s (.sl t (bs (L.take i))) (bs (L.take i))) (fun B _ => L.length - vnat (B 6)) rfl ?_ ?_
  · exact ⟨0, .nil, by omega, by omega, rfl, rfl, RO.nil hwf.weak hwf.lt⟩
  · rintro B s ⟨i, t, hi, hm, h6, h5, R⟩
    have fin : ∀ {v : V}, L.take i = L.take m.toNat → ∃ r st', Wk (.sl t (bs (L.take i))) r ∧ st'.weak s ∧ r = .sl .no (bs (L.take m.toNat)) ∧ st = st' := fun e => ⟨_, _, Wk.no, R.weak, by rw [e], rfl⟩
    by_cases c1 : i < L.length
    · by_cases c2 : (i : Int) < m
      · obtain ⟨c, hc⟩ := get_ex c1
        have hs : L.take (i + 1) = L.take i ++ [c] := take_snoc hc
        simp (maxSteps := 3000000) only [go_sem, ↓reduceIte, h6, h5, bs_len, decide_eq_true (show (i : Int) < (L.length : Int) by omega), decide_eq_true c2, bs_get, hc]
        repeat (apply And.intro; focus (first | omega | (simp; done)))
        refine App.mk (bytes := 1) (ys := bs [c]) R.own (allSz_bs _) (by simp only [bs_len, List.length_cons, List.length_nil, List.length_take]; unfold maxLen; omega) (by simp only [bs_len, List.length_cons, List.length_nil, List.length_take]; omega) ?_
        intro r2 s2 k1 k2
        have R2 := R.app k1 k2
        rw [bs_append, ← hs] at R2
        obtain ⟨t2, rfl⟩ := R2.sl
        simp (maxSteps := 3000000) only [go_sem, ↓reduceIte, h6]
        repeat (apply And.intro; focus (first | omega | (simp; done)))
        exact ⟨⟨i + 1, t2, by omega, by omega, by simp, rfl, R2⟩, by omega⟩
      · simp (maxSteps := 3000000) only [go_sem, ↓reduceIte, h6, h5, bs_len, decide_eq_true (show (i : Int) < (L.length : Int) by omega), decide_eq_false c2]
        exact fin (v := .any) (by rw [show i = m.toNat by omega])
    · simp (maxSteps := 3000000) only [go_sem, ↓reduceIte, h6, h5, bs_len, decide_eq_false (show ¬ (i : Int) < (L.length : Int) by omega)]
      exact fin (v := .any) (by rw [List.take_of_length_le (by omega), List.take_of_length_le (by omega)])
end
end
section
open Go
theorem weak_tnF {bx : List Nat} {base s t : St} (hl : base.Lt) (h : base.weak s) (T : Tn bx s t) (hb : ∀ b ∈ bx, base.sz ≤ b) : base.weak t := weak_tn h T fun b hm => by
  cases hx : base.box b with
  | none => rfl
  | some cs => have := hl.box b cs hx; have := hb b hm; omega
theorem ctls_at {l : List Ctl} {i : Nat} {p : Ctl} (h : l[i]? = some p) : (ctls l)[i]? = some (.agg [.sc (.int .u8 p.code), .sc (.int .u8 p.id), .sl .no (bs p.data)]) := by rw [ctls_get, h]; rfl
section
variable {st : St}
set_option maxRecDepth 100000 in
set_option maxHeartbeats 4000000 in
end
end
section
open Go
section
variable {st s s2 : St} {b : Nat} {a' l t : Int} {rest : List V}
theorem fsmTimed_v {x : Int} : VCalls Tryz.prog 99 [.sc (.int .i64 x)] st fun r s => r = .sc (.bool (decide (4 ≤ x ∧ x ≤ 8))) ∧ st = s := by
  refine vcalls_enterq pc99 (Nat.le_of_ble_eq_true rfl) rfl fun hwf hok => ?_
  show Run _ Pc99.body (.fin (finP Pc99.res _)) _ _
  unfold Pc99 zg zo
  repeat' first | simp (maxSteps := 3000000) only [go_sem, ↓reduceIte] | (refine If.dec (fun h => ?_) (fun h => ?_) <;> first | simp only [decide_eq_true h] | simp only [decide_eq_false h] | skip) | (refine Grd.decd (fun h => ?_) (fun h => ?_) <;> first | simp only [decide_eq_true h] | simp only [decide_eq_false h] | skip) | (refine If.mk (fun h => ?_) (fun h => ?_) <;> first | simp only [h] | skip) | (refine Grd.two (fun h => ?_) (fun h => ?_) <;> first | simp only [h] | skip) | (apply And.intro; focus (first | omega | (simp; done)))
  all_goals first | (exfalso; omega) | exact ⟨_, _, Wk.refl _, hwf.weak, by simp [*], rfl⟩
set_option maxRecDepth 100000 in
theorem autoTick_v {now : Int} (hb : st.box b = some (.sc (.int .i64 a') :: .sc (.int .i64 l) :: .sc (.int .i64 t) :: rest)) (h0 : 0 ≤ l) (h1 : l ≤ 10) (hn : 0 ≤ now) (hn2 : now ≤ 1000000000) :
    VCalls Tryz.prog 77 [ptrV b, .sc (.int .i64 now)] st fun r s => r = .sc (.int .u16 (tickA a' l t now).2.2.2) ∧ s = st.put b (.sc (.int .i64 (tickA a' l t now).1) :: .sc (.int .i64 (tickA a' l t now).2.1) :: .sc (.int .i64 (tickA a' l t now).2.2.1) :: rest) := by
  refine vcalls_enterq pc77 (Nat.le_of_ble_eq_true rfl) rfl fun hwf hok => ?_
  show Run _ Pc77.body (.fin (finP Pc77.res _)) _ _
  unfold Pc77 zg zn zo
  have hlt := hwf.lt
  have self : st.put b (.sc (.int .i64 a') :: .sc (.int .i64 l) :: .sc (.int .i64 t) :: rest) = st := put_selfR hb (hlt.box b _ hb)
  simp (maxSteps := 3000000) only [go_sem, ↓reduceIte, hb]
  refine Cal.mk fsmTimed_v ?_
  rintro _ _ ⟨rfl, rfl⟩ -
  by_cases c1 : 4 ≤ a' ∧ a' ≤ 8
  rotate_left
  · have e : tickA a' l t now = (a', l, t, 0) := by unfold tickA; rw [if_pos (by omega)]
    simp (maxSteps := 3000000) only [go_sem, ↓reduceIte, decide_eq_false c1, Bool.not_false]
    rw [e]
    exact ⟨_, _, Wk.refl _, hwf.weak, rfl, self.symm⟩
  by_cases c2 : now < t
  · have e : tickA a' l t now = (a', l, t, 0) := by unfold tickA; rw [if_pos (by omega)]
    simp (maxSteps := 3000000) only [go_sem, ↓reduceIte, decide_eq_true c1, Bool.not_true, hb, decide_eq_true c2]
    rw [e]
    exact ⟨_, _, Wk.refl _, hwf.weak, rfl, self.symm⟩
  have e : tickA a' l t now = ((stepF a' (if 0 < l then 4 else 5)).1, cntA (stepF a' (if 0 < l then 4 else 5)).2 l, atA (stepF a' (if 0 < l then 4 else 5)).2 now (now + 3), (stepF a' (if 0 < l then 4 else 5)).2) := by unfold tickA; rw [if_neg (by omega)]
  by_cases c3 : 0 < l
  · rw [if_pos c3] at e
    simp (maxSteps := 3000000) only [go_sem, ↓reduceIte, decide_eq_true c1, Bool.not_true, hb, decide_eq_false c2, decide_eq_true c3, put_box_same]
    repeat (apply And.intro; focus (first | omega | (simp; done)))
    refine Cal.mk (autoDo_v (e := 4) put_box_same h0 h1 hn hn2) ?_
    rintro _ _ ⟨rfl, rfl⟩ -
    simp (maxSteps := 3000000) only [go_sem, ↓reduceIte]
    rw [e]
    exact ⟨_, _, Wk.refl _, (hlt.put (b := b)).weak, rfl, rfl⟩
  · rw [if_neg c3] at e
    simp (maxSteps := 3000000) only [go_sem, ↓reduceIte, decide_eq_true c1, Bool.not_true, hb, decide_eq_false c2, decide_eq_false c3, put_box_same]
    repeat (apply And.intro; focus (first | omega | (simp; done)))
    refine Cal.mk (autoDo_v (e := 5) put_box_same h0 h1 hn hn2) ?_
    rintro _ _ ⟨rfl, rfl⟩ -
    simp (maxSteps := 3000000) only [go_sem, ↓reduceIte]
    rw [e]
    exact ⟨_, _, Wk.refl _, (hlt.put (b := b)).weak, rfl, rfl⟩
end
section
variable {R : Type} {U : Rul R} {t : TypeId} {pv : Value} {SI : Nat → St → R → Prop} {bx : List Nat} {codes : Int} {n k m : Nat} {st s s2 base : St} {N N' : Neg R}
theorem tickA_rng' {a left t now : Int} (h0 : 0 ≤ left) (h1 : left ≤ 10) : 0 ≤ (tickA a left t now).2.1 ∧ (tickA a left t now).2.1 ≤ 10 := by
  unfold tickA
  split
  · exact ⟨h0, h1⟩
  · exact cntA_rng (act := (stepF a (if 0 < left then 4 else 5)).2) h0 h1
theorem NOut.upT {iv : V} {X : Neg R × Nout} {r : V} {s0 : St} (T : Tn (n :: bx) st s0) (h : NOut s0 iv codes SI bx n k m X r s) : NOut st iv codes SI bx n k m X r s := by
  obtain ⟨tv, e, h1, h2, h3, h4⟩ := h
  exact ⟨tv, e, h1.down T.sz, h2, T.trans h3, h4⟩
theorem negTick_v (hU : RulC U t pv SI bx) (h : NegI (.sc (.iface t pv)) codes SI bx n k st N) {now : Int} (hn : 0 ≤ now) (hn2 : now ≤ 1000000000) :
    VCalls Tryz.prog 58 [ptrV n, .sc (.int .i64 now)] st (NOut st (.sc (.iface t pv)) codes SI bx n k 5 (N.tick U now)) := by
  refine vcalls_enterq pc58 (Nat.le_of_ble_eq_true rfl) rfl fun hwf hok => ?_
  show Run _ Pc58.body (.fin (finP Pc58.res _)) _ _
  unfold Pc58 zo
  have hlt := hwf.lt
  obtain ⟨tk, hb⟩ := h.box
  have hr := tickA_rng' (a := N.s) (t := N.at_) (now := now) h.l0 h.l1
  have h1 : NegI (.sc (.iface t pv)) codes SI bx n k (st.put n (negC (.sc (.iface t pv)) codes { N with s := (tickA N.s N.left N.at_ now).1, left := (tickA N.s N.left N.at_ now).2.1, at_ := (tickA N.s N.left N.at_ now).2.2.1 } tk)) { N with s := (tickA N.s N.left N.at_ now).1, left := (tickA N.s N.left N.at_ now).2.1, at_ := (tickA N.s N.left N.at_ now).2.2.1 } :=
    h.write hU rfl hr.1 hr.2 h.i0 h.i1 h.a0 h.a1 h.rb
  have T1 : Tn (n :: bx) st (st.put n (negC (.sc (.iface t pv)) codes { N with s := (tickA N.s N.left N.at_ now).1, left := (tickA N.s N.left N.at_ now).2.1, at_ := (tickA N.s N.left N.at_ now).2.2.1 } tk)) := (Tn.refl hlt).put (.inl (by simp)) hlt
  unfold negC at hb h1 T1
  simp (maxSteps := 3000000) only [go_sem, ↓reduceIte]
  refine Cal.mk (autoTick_v hb h.l0 h.l1 hn hn2) ?_
  rintro _ _ ⟨rfl, rfl⟩ -
  simp only at h1 T1
  generalize st.put n _ = s1 at h1 T1 ⊢
  simp (maxSteps := 3000000) only [go_sem, ↓reduceIte]
  refine Cal.mk (negDone_v hU h1 (p := zeroC) (back := zeroC) (tp := .nil) (tb := .nil) zeroC_good) ?_
  rintro r s2 o -
  have O := o.upT T1
  obtain ⟨tv, rfl, _⟩ := o
  simp (maxSteps := 3000000) only [go_sem, ↓reduceIte]
  exact ⟨_, _, Wk.refl _, O.lt.weak, O⟩
end
section
variable {a n q d k m : Nat} {st s s2 : St} {N : Neg Lr}
end
end
section
open Go
def irC (r : Ir) : List V := [.sc (.int .u32 r.mine.a), .sc (.int .u32 r.mine.d1), .sc (.int .u32 r.mine.d2), .sc (.int .u32 r.give.a), .sc (.int .u32 r.give.d1), .sc (.int .u32 r.give.d2), .sc (.int .u32 r.got.a), .sc (.int .u32 r.got.d1), .sc (.int .u32 r.got.d2)]
structure IpR (q k : Nat) (st : St) (r : Ir) : Prop where
  bq : st.box q = some (irC r)
  gm : r.mine.Good
  gg : r.give.Good
  lq : q < st.sz
section
variable {q k : Nat} {st s : St} {r r' : Ir} {l : List Opt} {tk : Tk}
theorem IpR.write (h : IpR q k st r) (gm : r'.mine.Good) (gg : r'.give.Good) : IpR q k (st.put q (irC r')) r' := ⟨put_box_same, gm, gg, by have := h.lq; simp only [put_sz]; omega⟩
theorem ip_req (h : IpR q k st r) : VCalls Tryz.prog 174 [ptrV q] st fun x s => x = .sl .no (opts (optsA r.mine)) ∧ st = s := by
  refine vcalls_enterq pc174 (Nat.le_of_ble_eq_true rfl) rfl fun hwf hok => ?_
  show Run _ Pc174.body (.fin (finP Pc174.res _)) _ _
  unfold Pc174 zo
  have hb := h.bq
  unfold irC at hb
  simp (maxSteps := 3000000) only [go_sem, ↓reduceIte, hb]
  refine Cal.mk (ioptOptions_v h.gm) ?_
  rintro _ _ ⟨rfl, rfl⟩ -
  simp (maxSteps := 3000000) only [go_sem, ↓reduceIte]
  exact ⟨_, _, Wk.refl _, hwf.weak, rfl, rfl⟩
theorem ip_judge (h : IpR q k st r) (hG : GoodO l) (hl : l.length ≤ 1000000) : VCalls Tryz.prog 171 [ptrV q, .sl tk (opts l)] st fun x s =>
    (∃ t2, x = .tup [.sc (.int .u8 (judgeA l r.give).1), .sl t2 (opts (judgeA l r.give).2)]) ∧ IpR q (k + 1) s r ∧ Tn [q] st s := by
  refine vcalls_enterq pc171 (Nat.le_of_ble_eq_true rfl) rfl fun hwf hok => ?_
  show Run _ Pc171.body (.fin (finP Pc171.res _)) _ _
  unfold Pc171 zo
  have hb := h.bq
  unfold irC at hb
  simp (maxSteps := 3000000) only [go_sem, ↓reduceIte, hb]
  refine Cal.mk (ioptJudge_v h.gg hG hl) ?_
  rintro _ _ ⟨⟨t2, rfl⟩, rfl⟩ -
  simp (maxSteps := 3000000) only [go_sem, ↓reduceIte]
  exact ⟨_, _, Wk.refl _, hwf.weak, ⟨t2, rfl⟩, ⟨h.bq, h.gm, h.gg, h.lq⟩, Tn.refl hwf.lt⟩
theorem ip_agreed (h : IpR q k st r) (hG : GoodO l) (hl : l.length ≤ 1000000) : VCalls Tryz.prog 170 [ptrV q, .sl tk (opts l)] st fun x s => x = .tup [] ∧ IpR q k s { r with got := ofA l } ∧ Tn [q] st s := by
  refine vcalls_enterq pc170 (Nat.le_of_ble_eq_true rfl) rfl fun hwf hok => ?_
  show Run _ Pc170.body (.fin (finP Pc170.res _)) _ _
  unfold Pc170 zn zo
  have hb := h.bq
  unfold irC at hb
  have hw := h.write (r' := { r with got := ofA l }) h.gm h.gg
  simp (maxSteps := 3000000) only [go_sem]
  refine Cal.mk (ioptOf_v hG hl) ?_
  rintro _ _ ⟨rfl, rfl⟩ -
  simp (maxSteps := 3000000) only [go_sem, ↓reduceIte, hb, AW.cells]
  have T : Tn [q] st (st.put q (irC { r with got := ofA l })) := (Tn.refl hwf.lt).put (.inl (by simp)) hwf.lt
  exact ⟨_, _, Wk.refl _, T.lt.weak, rfl, hw, T⟩
theorem ip_naked (h : IpR q k st r) : VCalls Tryz.prog 172 [ptrV q, .sl tk (opts l)] st fun x s => x = .tup [] ∧ IpR q (k + 1) s r ∧ Tn [q] st s := by
  refine vcalls_enterq pc172 (Nat.le_of_ble_eq_true rfl) rfl fun hwf hok => ?_
  show Run _ Pc172.body (.fin (finP Pc172.res _)) _ _
  unfold Pc172
  simp (maxSteps := 3000000) only [go_sem]
  exact ⟨_, _, Wk.refl _, hwf.weak, rfl, ⟨h.bq, h.gm, h.gg, h.lq⟩, Tn.refl hwf.lt⟩
theorem ip_rejected (h : IpR q k st r) (hG : GoodO l) (hl : l.length ≤ 1000000) : VCalls Tryz.prog 173 [ptrV q, .sl tk (opts l)] st fun x s =>
    x = .sc (.bool true) ∧ IpR q k s (ipU.rejected r l).1 ∧ Tn [q] st s := by
  refine vcalls_enterq pc173 (Nat.le_of_ble_eq_true rfl) rfl fun hwf hok => ?_
  show Run _ Pc173.body (.fin (finP Pc173.res _)) _ _
  unfold Pc173 zn zo
  have hb := h.bq
  obtain ⟨X, hX⟩ : ∃ X, X = (ipU.rejected r l).1 := ⟨_, rfl⟩
  rw [← hX]
  unfold ipU at hX
  simp only at hX
  have hw := h.write (r' := { r with mine := { r.mine with a := 0 } }) ⟨Int.le_refl 0, (by decide : (0 : Int) < 4294967296), h.gm.b0, h.gm.b1, h.gm.c0, h.gm.c1⟩ h.gg
  have T : Tn [q] st (st.put q (irC { r with mine := { r.mine with a := 0 } })) := (Tn.refl hwf.lt).put (.inl (by simp)) hwf.lt
  unfold irC at hb
  simp (maxSteps := 3000000) only [go_sem, ↓reduceIte]
  refine Cal.mk (optFind_v hl hG) ?_
  rintro _ _ ⟨rfl, rfl⟩ -
  cases hf : (findO l 3).isSome with
  | false =>
    rw [hf] at hX
    simp only [Bool.false_eq_true, ↓reduceIte] at hX
    simp (maxSteps := 3000000) only [go_sem, ↓reduceIte]
    exact ⟨_, _, Wk.refl _, hwf.weak, rfl, by rw [hX]; exact h, Tn.refl hwf.lt⟩
  | true =>
    rw [hf] at hX
    simp only [↓reduceIte] at hX
    simp (maxSteps := 3000000) only [go_sem, ↓reduceIte, hb]
    exact ⟨_, _, Wk.refl _, T.lt.weak, rfl, by rw [hX]; exact hw, T⟩
theorem ip_rules : RulC ipU 97 (.pointer (some ⟨q, 0, none⟩)) (IpR q) [q] where
  one := rfl
  req := ⟨174, by kernel_rfl, by kernel_rfl, fun k st r h => ip_req h⟩
  reqG := fun k st r h => ⟨optsA_good r.mine, Nat.le_trans (optsA_len r.mine) (by decide)⟩
  judge := ⟨171, by kernel_rfl, by kernel_rfl, fun k st r l tk h hk hG hl => ip_judge h hG hl⟩
  judgeG := fun k st r l h hG hl => judgeA_good hG hl
  agreed := ⟨170, by kernel_rfl, by kernel_rfl, fun k st r l tk h hk hG hl => ip_agreed h hG hl⟩
  naked := ⟨172, by kernel_rfl, by kernel_rfl, fun k st r l tk h hk hG hl => ip_naked h⟩
  rejected := ⟨173, by kernel_rfl, by kernel_rfl, fun k st r l tk h hk hG hl => ip_rejected h hG hl⟩
  stay := fun k st s r h hs hz => ⟨hs q _ h.bq (by simp), h.gm, h.gg, Nat.lt_of_lt_of_le h.lq hz⟩
  more := fun k st r h => ⟨h.bq, h.gm, h.gg, h.lq⟩
  lt := fun k st r h b hb => by simp only [List.mem_singleton] at hb; subst hb; exact h.lq
end
structure IpI (a n q k : Nat) (st : St) (N : Neg Ir) : Prop where
  ba : st.box a = some [ptrV n, ptrV q]
  ng : NegI (.sc (.iface 97 (.pointer (some ⟨q, 0, none⟩)))) 7 (IpR q) [q] n k st N
  na : a ∉ n :: [q]
  la : a < st.sz
section
variable {a n q k m : Nat} {st s s2 : St} {N : Neg Ir}
theorem IpI.of (h : IpI a n q k st N) {N' : Neg Ir} {k' : Nat} (hn : NegI (.sc (.iface 97 (.pointer (some ⟨q, 0, none⟩)))) 7 (IpR q) [q] n k' s N') (T : Tn (n :: [q]) st s) : IpI a n q k' s N' :=
  ⟨T.box a _ h.ba h.na, hn, h.na, Nat.lt_of_lt_of_le h.la T.sz⟩
def IOut (st : St) (a n q k m : Nat) (X : Neg Ir × Nout) (r : V) (s : St) : Prop :=
  ∃ tv, r = outV tv X.2 ∧ IpI a n q k s X.1 ∧ Tn (n :: [q]) st s ∧ X.2.P.length ≤ m
theorem IOut.of (h : IpI a n q k st N) {k' : Nat} {X : Neg Ir × Nout} {r : V} (o : NOut st (.sc (.iface 97 (.pointer (some ⟨q, 0, none⟩)))) 7 (IpR q) [q] n k' m X r s) : IOut st a n q k' m X r s := by
  obtain ⟨tv, e, h1, h2, h3, h4⟩ := o
  exact ⟨tv, e, h.of h2 h3, h3, h4⟩
theorem IpI.tnx (h : IpI a n q k st N) {cs : List Nat} (T : Tn cs st s) (hd : ∀ b ∈ a :: n :: [q], b ∉ cs) : IpI a n q k s N :=
  ⟨T.box a _ h.ba (hd a (by simp)), h.ng.tnx ip_rules T (fun b hb => hd b (List.mem_cons_of_mem _ hb)), h.na, Nat.lt_of_lt_of_le h.la T.sz⟩
theorem IpI.more (h : IpI a n q k st N) : IpI a n q (k + 1) st N := ⟨h.ba, h.ng.more ip_rules, h.na, h.la⟩
theorem ipStart_v (h : IpI a n q k st N) {now : Int} (hn : 0 ≤ now) (hn2 : now ≤ 1000000000) : VCalls Tryz.prog 49 [ptrV a, .sc (.int .i64 now)] st (IOut st a n q k 10 (N.start ipU now)) := by
  refine vcalls_enterq pc49 (Nat.le_of_ble_eq_true rfl) rfl fun hwf hok => ?_
  show Run _ Pc49.body (.fin (finP Pc49.res _)) _ _
  unfold Pc49 zo
  have ba := h.ba
  simp (maxSteps := 3000000) only [go_sem, ↓reduceIte, ba]
  refine Cal.mk (negStart_v ip_rules h.ng hn hn2) ?_
  intro r s o _
  have o := IOut.of h o
  obtain ⟨tv, rfl, o2, o3, o4⟩ := o
  simp (maxSteps := 3000000) only [go_sem, ↓reduceIte, outV]
  exact ⟨_, _, Wk.refl _, o3.lt.weak, tv, rfl, o2, o3, o4⟩
theorem ipClose_v (h : IpI a n q k st N) {now : Int} (hn : 0 ≤ now) (hn2 : now ≤ 1000000000) : VCalls Tryz.prog 48 [ptrV a, .sc (.int .i64 now)] st (IOut st a n q k 5 (N.close ipU now)) := by
  refine vcalls_enterq pc48 (Nat.le_of_ble_eq_true rfl) rfl fun hwf hok => ?_
  show Run _ Pc48.body (.fin (finP Pc48.res _)) _ _
  unfold Pc48 zo
  have ba := h.ba
  simp (maxSteps := 3000000) only [go_sem, ↓reduceIte, ba]
  refine Cal.mk (negClose_v ip_rules h.ng hn hn2) ?_
  intro r s o _
  have o := IOut.of h o
  obtain ⟨tv, rfl, o2, o3, o4⟩ := o
  simp (maxSteps := 3000000) only [go_sem, ↓reduceIte, outV]
  exact ⟨_, _, Wk.refl _, o3.lt.weak, tv, rfl, o2, o3, o4⟩
theorem ipTick_v (h : IpI a n q k st N) {now : Int} (hn : 0 ≤ now) (hn2 : now ≤ 1000000000) : VCalls Tryz.prog 47 [ptrV a, .sc (.int .i64 now)] st (IOut st a n q k 5 (N.tick ipU now)) := by
  refine vcalls_enterq pc47 (Nat.le_of_ble_eq_true rfl) rfl fun hwf hok => ?_
  show Run _ Pc47.body (.fin (finP Pc47.res _)) _ _
  unfold Pc47 zo
  have ba := h.ba
  simp (maxSteps := 3000000) only [go_sem, ↓reduceIte, ba]
  refine Cal.mk (negTick_v ip_rules h.ng hn hn2) ?_
  intro r s o _
  have o := IOut.of h o
  obtain ⟨tv, rfl, o2, o3, o4⟩ := o
  simp (maxSteps := 3000000) only [go_sem, ↓reduceIte, outV]
  exact ⟨_, _, Wk.refl _, o3.lt.weak, tv, rfl, o2, o3, o4⟩
theorem ipTake_v (h : IpI a n q k st N) (hk : k + 1 ≤ 1000000000) {now : Int} (hn : 0 ≤ now) (hn2 : now ≤ 1000000000) {p : Ctl} (hp : p.Good) {tp : Tk} : VCalls Tryz.prog 51 [ptrV a, .sc (.int .i64 now), .agg [.sc (.int .u8 p.code), .sc (.int .u8 p.id), .sl tp (bs p.data)]] st (IOut st a n q (k + 1) 5 (N.take ipU 7 now p)) := by
  refine vcalls_enterq pc51 (Nat.le_of_ble_eq_true rfl) rfl fun hwf hok => ?_
  show Run _ Pc51.body (.fin (finP Pc51.res _)) _ _
  unfold Pc51 zo
  have ba := h.ba
  simp (maxSteps := 3000000) only [go_sem, ↓reduceIte, ba]
  refine Cal.mk (negTake_v ip_rules h.ng hk hn hn2 hp) ?_
  intro r s o _
  have o := IOut.of h o
  obtain ⟨tv, rfl, o2, o3, o4⟩ := o
  simp (maxSteps := 3000000) only [go_sem, ↓reduceIte, outV]
  exact ⟨_, _, Wk.refl _, o3.lt.weak, tv, rfl, o2, o3, o4⟩
theorem negStateI_v (h : IpI a n q k st N) : VCalls Tryz.prog 43 [ptrV n] st fun r s => r = .sc (.int .i64 N.s) ∧ st = s := by
  refine vcalls_enterq pc43 (Nat.le_of_ble_eq_true rfl) rfl fun hwf hok => ?_
  show Run _ Pc43.body (.fin (finP Pc43.res _)) _ _
  unfold Pc43 zo
  simp (maxSteps := 3000000) only [go_sem, ↓reduceIte]
  refine Cal.mk (negState_v h.ng) ?_
  rintro _ _ ⟨rfl, rfl⟩ -
  simp (maxSteps := 3000000) only [go_sem, ↓reduceIte]
  exact ⟨_, _, Wk.refl _, hwf.weak, rfl, rfl⟩
theorem ipState_v (h : IpI a n q k st N) : VCalls Tryz.prog 23 [ptrV a] st fun r s => r = .sc (.int .i64 N.s) ∧ st = s := by
  refine vcalls_enterq pc23 (Nat.le_of_ble_eq_true rfl) rfl fun hwf hok => ?_
  show Run _ Pc23.body (.fin (finP Pc23.res _)) _ _
  unfold Pc23 zo
  have ba := h.ba
  simp (maxSteps := 3000000) only [go_sem, ↓reduceIte, ba]
  refine Cal.mk (negStateI_v h) ?_
  rintro _ _ ⟨rfl, rfl⟩ -
  simp (maxSteps := 3000000) only [go_sem, ↓reduceIte]
  exact ⟨_, _, Wk.refl _, hwf.weak, rfl, rfl⟩
theorem autoOpenI_v (h : IpI a n q k st N) : VCalls Tryz.prog 69 [ptrV n] st fun r s => r = .sc (.bool (decide (N.s = 9))) ∧ st = s := by
  refine vcalls_enterq pc69 (Nat.le_of_ble_eq_true rfl) rfl fun hwf hok => ?_
  show Run _ Pc69.body (.fin (finP Pc69.res _)) _ _
  unfold Pc69 zo
  obtain ⟨tk, hb⟩ := h.ng.box
  unfold negC at hb
  simp (maxSteps := 3000000) only [go_sem, ↓reduceIte, hb]
  exact ⟨_, _, Wk.refl _, hwf.weak, rfl, rfl⟩
theorem negOpenI_v (h : IpI a n q k st N) : VCalls Tryz.prog 44 [ptrV n] st fun r s => r = .sc (.bool (decide (N.s = 9))) ∧ st = s := by
  refine vcalls_enterq pc44 (Nat.le_of_ble_eq_true rfl) rfl fun hwf hok => ?_
  show Run _ Pc44.body (.fin (finP Pc44.res _)) _ _
  unfold Pc44 zo
  simp (maxSteps := 3000000) only [go_sem, ↓reduceIte]
  refine Cal.mk (autoOpenI_v h) ?_
  rintro _ _ ⟨rfl, rfl⟩ -
  simp (maxSteps := 3000000) only [go_sem, ↓reduceIte]
  exact ⟨_, _, Wk.refl _, hwf.weak, rfl, rfl⟩
theorem ipOpen_v (h : IpI a n q k st N) : VCalls Tryz.prog 24 [ptrV a] st fun r s => r = .sc (.bool (decide (N.s = 9))) ∧ st = s := by
  refine vcalls_enterq pc24 (Nat.le_of_ble_eq_true rfl) rfl fun hwf hok => ?_
  show Run _ Pc24.body (.fin (finP Pc24.res _)) _ _
  unfold Pc24 zo
  have ba := h.ba
  simp (maxSteps := 3000000) only [go_sem, ↓reduceIte, ba]
  refine Cal.mk (negOpenI_v h) ?_
  rintro _ _ ⟨rfl, rfl⟩ -
  simp (maxSteps := 3000000) only [go_sem, ↓reduceIte]
  exact ⟨_, _, Wk.refl _, hwf.weak, rfl, rfl⟩
theorem ipGot_v (h : IpI a n q k st N) : VCalls Tryz.prog 25 [ptrV a] st fun r s => r = .agg N.r.got.cells ∧ st = s := by
  refine vcalls_enterq pc25 (Nat.le_of_ble_eq_true rfl) rfl fun hwf hok => ?_
  show Run _ Pc25.body (.fin (finP Pc25.res _)) _ _
  unfold Pc25 zo
  have ba := h.ba
  have bq := h.ng.si.bq
  unfold irC at bq
  simp (maxSteps := 3000000) only [go_sem, ↓reduceIte, ba, bq]
  exact ⟨_, _, Wk.refl _, hwf.weak, rfl, rfl⟩
set_option maxRecDepth 100000 in
theorem ipNew_v {me : Int} {g : AW} (m0 : 0 ≤ me) (m1 : me < 4294967296) (hg : g.Good) : VCalls Tryz.prog 20 [.sc (.int .u32 me), .agg g.cells] st fun r s =>
    ∃ a n q, r = ptrV a ∧ IpI a n q 0 s (ipNew me g) ∧ Tn [] st s ∧ st.sz ≤ a ∧ st.sz ≤ n ∧ st.sz ≤ q := by
  refine vcalls_enterq pc20 (Nat.le_of_ble_eq_true rfl) rfl fun hwf hok => ?_
  show Run _ Pc20.body (.fin (finP Pc20.res _)) _ _
  unfold Pc20 zo
  have hlt := hwf.lt
  simp (maxSteps := 3000000) only [go_sem, ↓reduceIte, AW.cells]
  intro q hq
  obtain ⟨r2, hr2⟩ : ∃ r2 : Ir, r2 = ⟨⟨me, 0, 0⟩, g, .zero⟩ := ⟨_, rfl⟩
  have hN : ipNew me g = ⟨0, 0, 0, 0, [], 0, r2⟩ := by rw [hr2]; rfl
  have I1 : IpR q 0 (st.put q (irC r2)) r2 := ⟨put_box_same, by rw [hr2]; exact ⟨m0, m1, Int.le_refl 0, (by decide : (0 : Int) < 4294967296), Int.le_refl 0, (by decide : (0 : Int) < 4294967296)⟩, by rw [hr2]; exact hg, by simp only [put_sz]; omega⟩
  have T1 := tn_new (cs := irC r2) hlt hq
  have hs : st.put q (irC r2) = st.put q [.sc (.int .u32 me), .sc (.int .u32 0), .sc (.int .u32 0), .sc (.int .u32 g.a), .sc (.int .u32 g.d1), .sc (.int .u32 g.d2), .sc (.int .u32 0), .sc (.int .u32 0), .sc (.int .u32 0)] := by rw [hr2]; rfl
  rw [hN]
  rw [hs] at I1 T1
  generalize st.put q _ = s1 at I1 T1 ⊢
  refine Cal.mk (negNew_v r2) ?_
  rintro _ _ ⟨n, rfl, hn, rfl⟩ -
  have sz1 := T1.sz
  have lq := I1.lq
  have T3 := tn_new (cs := negC (.sc (.iface 97 (.pointer (some ⟨q, 0, none⟩)))) 7 (⟨0, 0, 0, 0, [], 0, r2⟩ : Neg Ir) .nil) T1.lt hn
  have I3 := NegI.new (codes := 7) ip_rules I1 T1.lt hn
  generalize s1.put n _ = s3 at I3 T3 ⊢
  simp (maxSteps := 3000000) only [go_sem, ↓reduceIte]
  intro a ha
  have sz3 := T3.sz
  have hl3 := I3.lt ip_rules T3.lt
  have T4 := tn_new (cs := [ptrV n, ptrV q]) T3.lt ha
  have I4 := I3.tn ip_rules T4
  have hna : a ∉ n :: [q] := fun hm => by have := hl3 a hm; omega
  exact ⟨_, _, Wk.refl _, T4.lt.weak, a, n, q, rfl, ⟨put_box_same, I4, hna, by simp only [put_sz]; omega⟩, T1.trans (T3.trans T4), by omega, by omega, by omega⟩
end
end
section
open Go
section
variable {st : St} {tk : Tk} {l : List Opt} {L : List Int}
set_option maxRecDepth 100000 in
set_option maxHeartbeats 4000000 in
theorem r10Build_v (hG : GoodO l) (hl : l.length ≤ 1000000000) : VCalls Tryz.prog 79 [.sl tk (opts l)] st fun r s => r = .sl .no (bs (buildO l)) ∧ st = s := by
  refine vcalls_enterq pc79 (Nat.le_of_ble_eq_true rfl) rfl fun hwf hok => ?_
  show Run _ Pc79.body (.fin (finP Pc79.res _)) _ _
  unfold Pc79 zo
  simp (maxSteps := 3000000) only [go_sem]
  refine run_loop [3, 4, 5, 8, 9, 11, 14, 15, 16, 17, 19, 23, 24, 25, 27, 28, 29, 30, 34, 35, 36, 38, 39] (fun B s => ∃ (i : Nat) (t : Tk), i ≤ l.length ∧ B 4 = .sc (.int .i64 i) ∧ B 3 = .sl t (bs (buildO (l.take i))) ∧ RO 1 st s (.sl t (bs (buildO (l.take i)))) (bs (buildO (l.take i)))) (fun B _ => l.length - vnat (B 4)) rfl ?_ ?_
  · exact ⟨0, .nil, by omega, rfl, rfl, RO.nil hwf.weak hwf.lt⟩
  · rintro B s ⟨i, t, hi, h4, h3, R⟩
    have hbl := buildO_len (l.take i)
    have hln : (l.take i).length ≤ i := by simp only [List.length_take]; omega
    by_cases c1 : i < l.length
    · obtain ⟨⟨T, D⟩, ho⟩ := get_ex c1
      obtain ⟨o0, o1, oB, oL⟩ := hG.get ho
      simp only at o0 o1 oB oL
      have hs := buildO_snoc ho
      simp only at hs
      have fin : ∀ (m : Nat), m = (D.take 253).length → ∀ k : Int, k = m → App Tryz.prog 1 1 (.sl t (bs (buildO (l.take i)))) (.sl .no [.sc (.int .u8 T), .sc (.int .u8 ((k + 2) % 256))]) (some 30) [] [] (.fin fun _ _ _ => True) (fun _ => .und) s := fun m hm k hk => by
        refine App.mk (bytes := 1) (ys := bs [T, (k + 2) % 256]) R.own (allSz_bs _) (by simp only [bs_len, List.length_cons, List.length_nil]; unfold maxLen; omega) (by simp only [bs_len, List.length_cons, List.length_nil]; omega) ?_
        intro r2 s2 k1 k2
        exact ⟨trivial, trivial⟩
      clear fin
      by_cases c2 : 253 < D.length
      · have hm : (D.take 253).length = 253 := by simp only [List.length_take]; omega
        rw [hm] at hs
        simp (maxSteps := 3000000) only [go_sem, ↓reduceIte, h4, h3, opts_len, opts_at ho, bs_len, decide_eq_true (show (i : Int) < (l.length : Int) by omega), decide_eq_true (show (253 : Int) < (D.length : Int) by omega)]
        repeat (apply And.intro; focus (first | omega | (simp; done)))
        refine App.mk (bytes := 1) (ys := bs [T, 255]) R.own (allSz_bs _) (by simp only [bs_len, List.length_cons, List.length_nil]; unfold maxLen; omega) (by simp only [bs_len, List.length_cons, List.length_nil]; omega) ?_
        intro r2 s2 k1 k2
        have R2 := R.app k1 k2
        rw [bs_append] at R2
        obtain ⟨t2, rfl⟩ := R2.sl
        simp (maxSteps := 3000000) only [go_sem, ↓reduceIte, h4, opts_at ho, bs_take, allSz_bs', bs_len]
        repeat (apply And.intro; focus (first | omega | (simp; done)))
        refine App.mk (bytes := 1) (ys := bs (D.take 253)) R2.own (allSz_bs _) (by simp only [bs_len, List.length_append, List.length_cons, List.length_nil, hm]; unfold maxLen; omega) (by simp only [bs_len, List.length_append, List.length_cons, List.length_nil, hm]; omega) ?_
        intro r3 s3 k3 k4
        have R3 := R2.app k3 k4
        rw [bs_append, ← show ((253 : Nat) : Int) + 2 = 255 from rfl, ← hs] at R3
        obtain ⟨t3, rfl⟩ := R3.sl
        simp (maxSteps := 3000000) only [go_sem, ↓reduceIte, h4]
        repeat (apply And.intro; focus (first | omega | (simp; done)))
        exact ⟨⟨i + 1, t3, by omega, by simp, rfl, R3⟩, by omega⟩
      · have hm : D.take 253 = D := List.take_of_length_le (by omega)
        rw [hm] at hs
        have e1 : ((D.length : Int) + 2) % 256 = (D.length : Int) + 2 := by omega
        have e2 : D.take D.length = D := List.take_length
        simp (maxSteps := 3000000) only [go_sem, ↓reduceIte, h4, h3, opts_len, opts_at ho, bs_len, decide_eq_true (show (i : Int) < (l.length : Int) by omega), decide_eq_false (show ¬ (253 : Int) < (D.length : Int) by omega), e1]
        repeat (apply And.intro; focus (first | omega | (simp; done)))
        refine App.mk (bytes := 1) (ys := bs [T, (D.length : Int) + 2]) R.own (allSz_bs _) (by simp only [bs_len, List.length_cons, List.length_nil]; unfold maxLen; omega) (by simp only [bs_len, List.length_cons, List.length_nil]; omega) ?_
        intro r2 s2 k1 k2
        have R2 := R.app k1 k2
        rw [bs_append] at R2
        obtain ⟨t2, rfl⟩ := R2.sl
        simp (maxSteps := 3000000) only [go_sem, ↓reduceIte, h4, opts_at ho, bs_take, allSz_bs', bs_len, e2]
        repeat (apply And.intro; focus (first | omega | (simp; done)))
        refine App.mk (bytes := 1) (ys := bs D) R2.own (allSz_bs _) (by simp only [bs_len, List.length_append, List.length_cons, List.length_nil]; unfold maxLen; omega) (by simp only [bs_len, List.length_append, List.length_cons, List.length_nil]; omega) ?_
        intro r3 s3 k3 k4
        have R3 := R2.app k3 k4
        rw [bs_append, ← hs] at R3
        obtain ⟨t3, rfl⟩ := R3.sl
        simp (maxSteps := 3000000) only [go_sem, ↓reduceIte, h4]
        repeat (apply And.intro; focus (first | omega | (simp; done)))
        exact ⟨⟨i + 1, t3, by omega, by simp, rfl, R3⟩, by omega⟩
    · obtain rfl : i = l.length := by omega
      rw [List.take_length] at R h3
      simp (maxSteps := 3000000) only [go_sem, ↓reduceIte, h4, h3, opts_len]
      exact ⟨_, _, Wk.no, R.weak, rfl, rfl⟩
theorem findO_take {l : List Opt} {t : Int} {i : Nat} {o : Opt} (h : l[i]? = some o) (ht : o.1 = t) (hn : ∀ x ∈ l.take i, x.1 ≠ t) : findO l t = some o.2 := by
  have hd : l.drop i = o :: l.drop (i + 1) := by rw [List.drop_eq_getElem_cons (List.getElem?_eq_some_iff.1 h).1, (List.getElem?_eq_some_iff.1 h).2]
  have hl : l = l.take i ++ o :: l.drop (i + 1) := by rw [← hd, List.take_append_drop]
  unfold findO
  rw [hl, List.find?_append, List.find?_eq_none.2 (by intro x hx; simpa using hn x hx)]
  simp [ht]
theorem findO_none {l : List Opt} {t : Int} (hn : ∀ x ∈ l, x.1 ≠ t) : findO l t = none := by
  unfold findO
  rw [List.find?_eq_none.2 (by intro x hx; simpa using hn x hx)]; rfl
theorem r10Find_v {t : Int} (hl : l.length ≤ 1000000) : VCalls Tryz.prog 91 [.sl tk (opts l), .sc (.int .u8 t)] st fun r s => (∃ n : Int, r = .sc (.int .i64 n) ∧ (n = -1 ∧ findO l t = none ∨ ∃ (i : Nat) (D : List Int), n = i ∧ l[i]? = some (t, D) ∧ findO l t = some D)) ∧ st = s := by
  refine vcalls_enterq pc91 (Nat.le_of_ble_eq_true rfl) rfl fun hwf hok => ?_
  show Run _ Pc91.body (.fin (finP Pc91.res _)) _ _
  unfold Pc91 zo
  simp (maxSteps := 3000000) only [go_sem]
  refine run_loop [4, 5, 8, 9, 11, 14, 15, 16, 18] (fun B s => s = st ∧ ∃ i : Nat, i ≤ l.length ∧ B 5 = .sc (.int .i64 i) ∧ ∀ x ∈ l.take i, x.1 ≠ t) (fun B _ => l.length - vnat (B 5)) rfl ?_ ?_
  · exact ⟨rfl, 0, by omega, rfl, by simp⟩
  · rintro B s ⟨rfl, i, hi, h5, hn⟩
    by_cases c1 : i < l.length
    · obtain ⟨⟨T, D⟩, ho⟩ := get_ex c1
      by_cases c2 : T = t
      · subst c2
        simp (maxSteps := 3000000) only [go_sem, ↓reduceIte, h5, opts_len, opts_at ho, decide_eq_true (show (i : Int) < (l.length : Int) by omega), decide_eq_true trivial]
        exact ⟨by omega, _, _, Wk.refl _, hwf.weak, ⟨_, rfl, .inr ⟨i, D, rfl, ho, findO_take ho rfl hn⟩⟩, rfl⟩
      · simp (maxSteps := 3000000) only [go_sem, ↓reduceIte, h5, opts_len, opts_at ho, decide_eq_true (show (i : Int) < (l.length : Int) by omega), decide_eq_false c2]
        repeat (apply And.intro; focus (first | omega | (simp; done)))
        refine ⟨⟨i + 1, by omega, by simp, fun x hx => ?_⟩, by omega⟩
        rw [take_snoc ho] at hx
        rcases List.mem_append.1 hx with hx | hx
        · exact hn x hx
        · simp only [List.mem_singleton] at hx; subst hx; exact c2
    · obtain rfl : i = l.length := by omega
      rw [List.take_length] at hn
      simp (maxSteps := 3000000) only [go_sem, ↓reduceIte, h5, opts_len]
      exact ⟨_, _, Wk.refl _, hwf.weak, ⟨_, rfl, .inl ⟨rfl, findO_none hn⟩⟩, rfl⟩
end
end
section
open Go
section
variable {st : St} {tk : Tk} {l : List Opt} {L : List Int} {w : Want} {own draw : Int}
theorem rPut0_v {n : Int} (k : Nat) (h0 : 0 ≤ n) (h1 : n ≤ 18446744073709551615) (k1 : 1 ≤ k) (k8 : k ≤ 8) : VCalls Tryz.prog 16 [.sl .nil [], .sc (.int .u64 n), .sc (.int .i64 k)] st fun r s => ∃ t, r = .sl t (bs (beL n k)) ∧ RO 1 st s (.sl t (bs (beL n k))) (bs (beL n k)) :=
  (rPut_v (L := []) (tk := .nil) (size := k) IsB.nil' (by simp) h0 h1).mono fun r s ⟨o, n⟩ => by
    rw [if_neg (by omega), List.nil_append, Int.toNat_natCast] at o
    obtain ⟨t, rfl⟩ := own_sl o
    exact ⟨t, rfl, o, n.weak, n.lt, n.tok⟩
theorem RO.over {size : Nat} {base s t : St} {x : V} {l : List V} (h : RO size base s x l) (hw : s.weak t) (hl : t.Lt) : RO size base t x l :=
  h.tn (Tn.ofWeak (bx := []) hw hl) (by simp)
theorem num4_is {D : List Int} (h : D.length = 4) : num4 D = numL D := by unfold num4; rw [if_neg (by omega), List.take_of_length_le (by omega)]
end
end
section
open Go
def AW.ofR (w : AW) (t : Int) : Int := if t = 3 then w.a else if t = 129 then w.d1 else w.d2
theorem AW.ofR_is {w : AW} {t : Int} (h : plcB t = true) : w.ofR t = w.of t := by
  have h := of_decide_eq_true h
  rcases h with rfl | rfl | rfl <;> rfl
section
variable {st s : St} {tk : Tk} {w g : AW} {l : List Opt}
theorem r35Of0_v {t : Int} : VCalls Tryz.prog 120 [.agg w.cells, .sc (.int .u8 t)] st fun r s => r = .tup [.sc (.int .u32 (w.ofR t)), .sc (.bool (plcB t))] ∧ st = s := by
  unfold AW.ofR plcB
  refine vcalls_enterq pc120 (Nat.le_of_ble_eq_true rfl) rfl fun hwf hok => ?_
  show Run _ Pc120.body (.fin (finP Pc120.res _)) _ _
  unfold Pc120 zo
  simp (maxSteps := 3000000) only [go_sem, ↓reduceIte, AW.cells]
  intro b hb
  have W := weak_put (cs := [.sc (.int .u32 w.a), .sc (.int .u32 w.d1), .sc (.int .u32 w.d2)]) hwf.weak hb
  by_cases c1 : t = 3
  · simp (maxSteps := 3000000) only [go_sem, ↓reduceIte, decide_eq_true c1]
    exact ⟨_, _, Wk.refl _, W, by simp [c1], rfl⟩
  by_cases c2 : t = 129
  · simp (maxSteps := 3000000) only [go_sem, ↓reduceIte, decide_eq_false c1, decide_eq_true c2]
    try repeat (apply And.intro; focus (first | omega | (simp; done)))
    exact ⟨_, _, Wk.refl _, W, by simp [c2], rfl⟩
  simp (maxSteps := 3000000) only [go_sem, ↓reduceIte, decide_eq_false c1, decide_eq_false c2]
  try repeat (apply And.intro; focus (first | omega | (simp; done)))
  exact ⟨_, _, Wk.refl _, W, by simp [c1, c2], rfl⟩
theorem r35One_v {t x : Int} (h0 : 0 ≤ x) (h1 : x < 4294967296) : VCalls Tryz.prog 121 [.sc (.int .u8 t), .sc (.int .u32 x)] st fun r s => (∃ u, r = .agg [.sc (.int .u8 t), .sl u (bs (beL x 4))]) ∧ st.weak s ∧ s.Lt := by
  refine vcalls_enterq pc121 (Nat.le_of_ble_eq_true rfl) rfl fun hwf hok => ?_
  show Run _ Pc121.body (.fin (finP Pc121.res _)) _ _
  unfold Pc121 zo
  have e : x % 18446744073709551616 = x := by omega
  simp (maxSteps := 3000000) only [go_sem, ↓reduceIte, e]
  refine Cal.mk (rPut0_v (n := x) 4 h0 (by omega) (by decide) (by decide)) ?_
  rintro _ s1 ⟨t1, rfl, R1⟩ -
  simp (maxSteps := 3000000) only [go_sem, ↓reduceIte]
  exact ⟨_, _, Wk.refl _, R1.lt.weak, ⟨t1, rfl⟩, R1.weak, R1.lt⟩
set_option maxRecDepth 100000 in
set_option maxHeartbeats 4000000 in
theorem r35Options_v (hw : w.Good) : VCalls Tryz.prog 101 [.agg w.cells] st fun r s => r = .sl .no (opts (optsA w)) ∧ st = s := by
  refine vcalls_enterq pc101 (Nat.le_of_ble_eq_true rfl) rfl fun hwf hok => ?_
  show Run _ Pc101.body (.fin (finP Pc101.res _)) _ _
  unfold Pc101 zn zo
  have hlt := hwf.lt
  obtain ⟨w1, w2, w3, w4, w5, w6⟩ := hw
  simp (maxSteps := 3000000) only [go_sem, ↓reduceIte, AW.cells]
  intro b hb
  refine run_loop [3, 5, 6, 10, 12, 14, 16, 17, 18, 19, 20, 22, 25, 26, 28, 29, 30] (fun B s => ∃ (i : Nat) (t : Tk), i ≤ 3 ∧ B 5 = .sc (.int .i64 i) ∧ B 3 = .sl t (opts (firstA w i)) ∧ RO 2 st s (.sl t (opts (firstA w i))) (opts (firstA w i)) ∧ s.box b = some [.sc (.int .u8 3), .sc (.int .u8 129), .sc (.int .u8 131)]) (fun B _ => 3 - vnat (B 5)) rfl ?_ ?_
  · exact ⟨0, .nil, by omega, rfl, rfl, RO.nil (weak_put hwf.weak hb) hlt.put, put_box_same⟩
  · rintro B s ⟨i, t, hi, h5, h3, R, bx⟩
    by_cases c : i < 3
    rotate_left
    · obtain rfl : i = 3 := by omega
      have h5 : B 5 = .sc (.int .i64 3) := h5
      simp (maxSteps := 3000000) only [go_sem, ↓reduceIte, h5, h3]
      exact ⟨_, _, Wk.no, R.weak, rfl, rfl⟩
    have hlen := firstA_len w i
    have hc : i = 0 ∨ i = 1 ∨ i = 2 := by omega
    have key : ∀ (ty x : Int), (i = 0 ∧ ty = 3 ∧ x = w.a ∨ i = 1 ∧ ty = 129 ∧ x = w.d1 ∨ i = 2 ∧ ty = 131 ∧ x = w.d2) → firstA w (i + 1) = firstA w i ++ if x ≠ 0 then [oneA ty x] else [] := fun ty x h => firstA_next c h
    rcases hc with rfl | rfl | rfl
    · have h5 : B 5 = .sc (.int .i64 0) := h5
      have kf := key 3 w.a (.inl ⟨rfl, rfl, rfl⟩)
      have ka : w.ofR 3 = w.a := rfl
      simp (maxSteps := 3000000) only [go_sem, ↓reduceIte, h5, bx]
      repeat (apply And.intro; focus (first | omega | (simp; done)))
      refine Cal.mk (r35Of0_v (w := w) (t := 3)) ?_
      rintro _ _ ⟨rfl, rfl⟩ -
      rw [ka]
      by_cases c0 : w.a = 0
      · rw [if_neg (fun e => e c0), List.append_nil] at kf
        simp (maxSteps := 3000000) only [go_sem, ↓reduceIte, decide_eq_false (show ¬ w.a ≠ 0 from fun e => e c0), h5]
        exact ⟨0 + 1, t, by omega, rfl, by rw [kf]; exact h3, by rw [kf]; exact R, bx⟩
      · rw [if_pos c0] at kf
        simp (maxSteps := 3000000) only [go_sem, ↓reduceIte, decide_eq_true (show w.a ≠ 0 from c0), h5, bx]
        repeat (apply And.intro; focus (first | omega | (simp; done)))
        refine Cal.mk (r35One_v (t := 3) (x := w.a) (by assumption) (by assumption)) ?_
        rintro _ s1 ⟨⟨u, rfl⟩, W1, L1⟩ -
        simp (maxSteps := 3000000) only [go_sem, ↓reduceIte, h3]
        refine App.mk (bytes := 32) (l := opts (firstA w 0)) (ys := opts [oneA 3 w.a]) (R.over' W1 L1).own (allSz_opts _) (by simp only [opts_len, List.length_cons, List.length_nil]; unfold maxLen; omega) (by simp only [opts_len, List.length_cons, List.length_nil]; omega) ?_
        intro r2 s2 k1 k2
        have R2 := (R.over' W1 L1).app k1 k2
        rw [opts_append, ← kf] at R2
        obtain ⟨t2, rfl⟩ := R2.sl
        have bx2 : s2.box b = some [.sc (.int .u8 3), .sc (.int .u8 129), .sc (.int .u8 131)] := by rw [k2.box]; exact (W1.box b _ bx).1
        simp (maxSteps := 3000000) only [go_sem, ↓reduceIte, h5]
        exact ⟨0 + 1, t2, by omega, rfl, rfl, R2, bx2⟩
    · have h5 : B 5 = .sc (.int .i64 1) := h5
      have kf := key 129 w.d1 (.inr (.inl ⟨rfl, rfl, rfl⟩))
      have ka : w.ofR 129 = w.d1 := rfl
      simp (maxSteps := 3000000) only [go_sem, ↓reduceIte, h5, bx]
      repeat (apply And.intro; focus (first | omega | (simp; done)))
      refine Cal.mk (r35Of0_v (w := w) (t := 129)) ?_
      rintro _ _ ⟨rfl, rfl⟩ -
      rw [ka]
      by_cases c0 : w.d1 = 0
      · rw [if_neg (fun e => e c0), List.append_nil] at kf
        simp (maxSteps := 3000000) only [go_sem, ↓reduceIte, decide_eq_false (show ¬ w.d1 ≠ 0 from fun e => e c0), h5]
        exact ⟨1 + 1, t, by omega, rfl, by rw [kf]; exact h3, by rw [kf]; exact R, bx⟩
      · rw [if_pos c0] at kf
        simp (maxSteps := 3000000) only [go_sem, ↓reduceIte, decide_eq_true (show w.d1 ≠ 0 from c0), h5, bx]
        repeat (apply And.intro; focus (first | omega | (simp; done)))
        refine Cal.mk (r35One_v (t := 129) (x := w.d1) (by assumption) (by assumption)) ?_
        rintro _ s1 ⟨⟨u, rfl⟩, W1, L1⟩ -
        simp (maxSteps := 3000000) only [go_sem, ↓reduceIte, h3]
        refine App.mk (bytes := 32) (l := opts (firstA w 1)) (ys := opts [oneA 129 w.d1]) (R.over' W1 L1).own (allSz_opts _) (by simp only [opts_len, List.length_cons, List.length_nil]; unfold maxLen; omega) (by simp only [opts_len, List.length_cons, List.length_nil]; omega) ?_
        intro r2 s2 k1 k2
        have R2 := (R.over' W1 L1).app k1 k2
        rw [opts_append, ← kf] at R2
        obtain ⟨t2, rfl⟩ := R2.sl
        have bx2 : s2.box b = some [.sc (.int .u8 3), .sc (.int .u8 129), .sc (.int .u8 131)] := by rw [k2.box]; exact (W1.box b _ bx).1
        simp (maxSteps := 3000000) only [go_sem, ↓reduceIte, h5]
        exact ⟨1 + 1, t2, by omega, rfl, rfl, R2, bx2⟩
    · have h5 : B 5 = .sc (.int .i64 2) := h5
      have kf := key 131 w.d2 (.inr (.inr ⟨rfl, rfl, rfl⟩))
      have ka : w.ofR 131 = w.d2 := rfl
      simp (maxSteps := 3000000) only [go_sem, ↓reduceIte, h5, bx]
      repeat (apply And.intro; focus (first | omega | (simp; done)))
      refine Cal.mk (r35Of0_v (w := w) (t := 131)) ?_
      rintro _ _ ⟨rfl, rfl⟩ -
      rw [ka]
      by_cases c0 : w.d2 = 0
      · rw [if_neg (fun e => e c0), List.append_nil] at kf
        simp (maxSteps := 3000000) only [go_sem, ↓reduceIte, decide_eq_false (show ¬ w.d2 ≠ 0 from fun e => e c0), h5]
        exact ⟨2 + 1, t, by omega, rfl, by rw [kf]; exact h3, by rw [kf]; exact R, bx⟩
      · rw [if_pos c0] at kf
        simp (maxSteps := 3000000) only [go_sem, ↓reduceIte, decide_eq_true (show w.d2 ≠ 0 from c0), h5, bx]
        repeat (apply And.intro; focus (first | omega | (simp; done)))
        refine Cal.mk (r35One_v (t := 131) (x := w.d2) (by assumption) (by assumption)) ?_
        rintro _ s1 ⟨⟨u, rfl⟩, W1, L1⟩ -
        simp (maxSteps := 3000000) only [go_sem, ↓reduceIte, h3]
        refine App.mk (bytes := 32) (l := opts (firstA w 2)) (ys := opts [oneA 131 w.d2]) (R.over' W1 L1).own (allSz_opts _) (by simp only [opts_len, List.length_cons, List.length_nil]; unfold maxLen; omega) (by simp only [opts_len, List.length_cons, List.length_nil]; omega) ?_
        intro r2 s2 k1 k2
        have R2 := (R.over' W1 L1).app k1 k2
        rw [opts_append, ← kf] at R2
        obtain ⟨t2, rfl⟩ := R2.sl
        have bx2 : s2.box b = some [.sc (.int .u8 3), .sc (.int .u8 129), .sc (.int .u8 131)] := by rw [k2.box]; exact (W1.box b _ bx).1
        simp (maxSteps := 3000000) only [go_sem, ↓reduceIte, h5]
        exact ⟨2 + 1, t2, by omega, rfl, rfl, R2, bx2⟩
def badA (g : AW) (l : List Opt) (i : Nat) (o : Opt) : Prop := g.of o.1 = 0 ∨ o.2.length ≠ 4 ∨ ∃ x ∈ l.take i, x.1 = o.1 ∧ x.2.length = 4
set_option maxRecDepth 100000 in
set_option maxHeartbeats 4000000 in
theorem r35Bad_v (hl : l.length ≤ 1000000) {i : Nat} {o : Opt} (ho : l[i]? = some o) : VCalls Tryz.prog 126 [.sl tk (opts l), .sc (.int .i64 i), .agg g.cells] st fun r s => (∃ b : Bool, r = .sc (.bool b) ∧ (b = true ↔ badA g l i o)) ∧ st = s := by
  obtain ⟨gc, hgc⟩ : ∃ c, c = g.cells := ⟨_, rfl⟩
  refine vcalls_enterq pc126 (Nat.le_of_ble_eq_true rfl) rfl fun hwf hok => ?_
  show Run _ Pc126.body (.fin (finP Pc126.res _)) _ _
  unfold Pc126 zg zo
  obtain ⟨T, D⟩ := o
  have hil := (List.getElem?_eq_some_iff.1 ho).1
  simp (maxSteps := 3000000) only [go_sem, ↓reduceIte, AW.cells, opts_at ho]
  repeat (apply And.intro; focus (first | omega | (simp; done)))
  refine Cal.mk (r35Of0_v (w := g)) ?_
  rintro _ _ ⟨rfl, rfl⟩ -
  simp (maxSteps := 3000000) only [go_sem, ↓reduceIte]
  by_cases c1 : g.of T = 0 ∨ D.length ≠ 4
  · have fin : ∃ (r : V) (st' : St), Wk (.sc (.bool true)) r ∧ st'.weak st ∧ (∃ b : Bool, r = .sc (.bool b) ∧ (b = true ↔ badA g l i (T, D))) ∧ st = st' :=
      ⟨_, _, Wk.refl _, hwf.weak, ⟨true, rfl, ⟨fun _ => by rcases c1 with c1 | c1; exact .inl c1; exact .inr (.inl c1), fun _ => rfl⟩⟩, rfl⟩
    cases hp : plcB T with
    | false =>
      simp (maxSteps := 3000000) only [go_sem, ↓reduceIte, Bool.not_false]
      exact fin
    | true =>
      rw [AW.ofR_is hp]
      by_cases c2 : g.of T = 0
      · simp (maxSteps := 3000000) only [go_sem, ↓reduceIte, Bool.not_true, decide_eq_true c2]
        exact fin
      · simp (maxSteps := 3000000) only [go_sem, ↓reduceIte, Bool.not_true, decide_eq_false c2, opts_at ho, bs_len, decide_eq_true (show (D.length : Int) ≠ 4 by omega)]
        repeat (apply And.intro; focus (first | omega | (simp; done)))
        exact fin
  · simp only [not_or, Decidable.not_not] at c1
    obtain ⟨c1, c2⟩ := c1
    have hp : plcB T = true := by
      cases hp : plcB T with
      | true => rfl
      | false => exact absurd (plc_no hp) c1
    rw [AW.ofR_is hp, hp]
    simp (maxSteps := 3000000) only [go_sem, ↓reduceIte, Bool.not_true, decide_eq_false c1, opts_at ho, bs_len, decide_eq_false (show ¬ (D.length : Int) ≠ 4 by omega)]
    repeat (apply And.intro; focus (first | omega | (simp; done)))
    refine run_loop [6, 9, 37, 39, 42, 43, 44, 47, 48, 49, 50, 52, 53, 54, 55, 56, 57, 58, 59] (fun B s => s = st ∧ ∃ k : Nat, k ≤ i ∧ B 9 = .sc (.int .i64 k) ∧ ∀ x ∈ l.take k, ¬ (x.1 = T ∧ x.2.length = 4)) (fun B _ => i - vnat (B 9)) rfl ?_ ?_
    · exact ⟨rfl, 0, by omega, rfl, by simp⟩
    · rintro B s ⟨rfl, k, hk, h9, hn⟩
      by_cases c3 : k < i
      · obtain ⟨⟨T2, D2⟩, hx⟩ := get_ex (L := l) (i := k) (by omega)
        have step : ¬ (T2 = T ∧ D2.length = 4) → ∀ x ∈ l.take (k + 1), ¬ (x.1 = T ∧ x.2.length = 4) := fun hne x hm => by
          rw [take_snoc hx] at hm
          rcases List.mem_append.1 hm with hm | hm
          · exact hn x hm
          · simp only [List.mem_singleton] at hm; subst hm; exact hne
        repeat' first | simp (maxSteps := 3000000) only [go_sem, ↓reduceIte, h9, opts_at ho, opts_at hx, bs_len, decide_eq_true (show (k : Int) < (i : Int) by omega)] | (refine If.dec (fun h => ?_) (fun h => ?_) <;> first | simp only [decide_eq_true h] | simp only [decide_eq_false h] | skip) | (refine Grd.decd (fun h => ?_) (fun h => ?_) <;> first | simp only [decide_eq_true h] | simp only [decide_eq_false h] | skip) | (refine If.mk (fun h => ?_) (fun h => ?_) <;> first | simp only [h] | skip) | (refine Grd.two (fun h => ?_) (fun h => ?_) <;> first | simp only [h] | skip) | (apply And.intro; focus (first | omega | (simp; done)))
        · refine ⟨_, _, Wk.refl _, hwf.weak, ⟨true, rfl, ⟨fun _ => .inr (.inr ⟨(T2, D2), ?_, by simp only; omega⟩), fun _ => rfl⟩⟩, rfl⟩
          exact List.mem_iff_getElem?.2 ⟨k, by rw [List.getElem?_take, if_pos c3]; exact hx⟩
        · exact ⟨⟨k + 1, by omega, by simp, step (by omega)⟩, by omega⟩
        · exact ⟨⟨k + 1, by omega, by simp, step (by omega)⟩, by omega⟩
      · obtain rfl : k = i := by omega
        simp (maxSteps := 3000000) only [go_sem, ↓reduceIte, h9]
        have hbad : ¬ badA g l k (T, D) := fun e => by
          rcases e with e | e | ⟨x, hx, e⟩
          · exact c1 e
          · exact e c2
          · exact hn x hx e
        exact ⟨_, _, Wk.refl _, hwf.weak, ⟨false, rfl, ⟨(fun e => by cases e), fun e => absurd e hbad⟩⟩, rfl⟩
theorem badA_iff {i : Nat} {o : Opt} : badA g l i o ↔ (g.of o.1 = 0 ∨ o.2.length ≠ 4 ∨ o.1 ∈ (foldA g (l.take i)).2.2) := by
  unfold badA
  by_cases c : g.of o.1 = 0
  · simp [c]
  · unfold foldA
    rw [seenA_fold c]
    simp
set_option maxRecDepth 100000 in
set_option maxHeartbeats 16000000 in
theorem r35Judge_v (hg : g.Good) (hG : GoodO l) (hl : l.length ≤ 1000000) : VCalls Tryz.prog 110 [.sl tk (opts l), .agg g.cells] st fun r s => (∃ t2, r = .tup [.sc (.int .u8 (judgeA l g).1), .sl t2 (opts (judgeA l g).2)]) ∧ st = s := by
  refine vcalls_enterq pc110 (Nat.le_of_ble_eq_true rfl) rfl fun hwf hok => ?_
  show Run _ Pc110.body (.fin (finP Pc110.res _)) _ _
  unfold Pc110 zg zn zo
  have hlt := hwf.lt
  simp (maxSteps := 3000000) only [go_sem, AW.cells]
  refine run_loop [6, 7, 8, 9, 10, 14, 15, 17, 20, 21, 25, 26, 27, 28, 30, 33, 34, 35, 36, 37, 38, 41, 42, 43, 44, 45, 46, 47, 50, 51, 52, 53, 55, 56, 60, 61, 62, 64, 65, 66] (fun B s => ∃ (i : Nat) (u v : Tk), i ≤ l.length ∧ B 9 = .sc (.int .i64 i) ∧ B 6 = .sl u (opts (foldA g (l.take i)).1) ∧ B 7 = .sl v (opts (foldA g (l.take i)).2.1) ∧ B 8 = .sc (.bool (decide (3 ∈ (foldA g (l.take i)).2.2))) ∧
    RO 2 st s (.sl u (opts (foldA g (l.take i)).1)) (opts (foldA g (l.take i)).1) ∧ RO 2 st s (.sl v (opts (foldA g (l.take i)).2.1)) (opts (foldA g (l.take i)).2.1) ∧ Apart u v) (fun B _ => l.length - vnat (B 9)) rfl ?_ ?_
  · exact ⟨0, .nil, .nil, by omega, rfl, rfl, rfl, rfl, RO.nil hwf.weak hwf.lt, RO.nil hwf.weak hwf.lt, .nil⟩
  · rintro B s ⟨i, u, v, hi, h9, h6, h7, h8, RU, RV, hap⟩
    have hFl := foldA_len (g := g) (l := l.take i) (a := ([], [], []))
    have hti : (l.take i).length ≤ 1000000 := by simp only [List.length_take]; omega
    change (foldA g (l.take i)).1.length ≤ _ ∧ (foldA g (l.take i)).2.1.length ≤ _ at hFl
    simp only [List.length_nil, Nat.zero_add] at hFl
    by_cases c1 : i < l.length
    · obtain ⟨⟨T, D⟩, ho⟩ := get_ex c1
      obtain ⟨q0, q1, oB, oL⟩ := hG.get ho
      simp only at oB
      have hil := decide_eq_true (show (i : Int) < (l.length : Int) by omega)
      have hsn := foldA_snoc (g := g) ho
      have hbad := badA_iff (g := g) (l := l) (i := i) (o := (T, D))
      generalize foldA g (l.take i) = F at h6 h7 h8 RU RV hFl hsn hbad
      obtain ⟨rej, nak, seen⟩ := F
      simp only at h6 h7 h8 RU RV hFl hbad
      simp (maxSteps := 3000000) only [go_sem, ↓reduceIte, h9, opts_len, hil]
      refine Cal.mk (r35Bad_v (g := g) hl ho) ?_
      rintro _ _ ⟨⟨b, rfl, hb⟩, rfl⟩ -
      cases b with
      | true =>
        have hst : stepA g (rej, nak, seen) (T, D) = (rej ++ [(T, D)], nak, seen) := if_pos (hbad.1 (hb.1 rfl))
        rw [hst] at hsn
        simp (maxSteps := 3000000) only [go_sem, ↓reduceIte, h9, opts_at ho, h6]
        repeat (apply And.intro; focus (first | omega | (simp; done)))
        refine App.mk (bytes := 32) (l := opts rej) (ys := opts [(T, D)]) RU.own (allSz_opts _) (by simp only [opts_len, List.length_cons, List.length_nil]; unfold maxLen; omega) (by simp only [opts_len, List.length_cons, List.length_nil]; omega) ?_
        intro r2 s2 k1 k2
        rw [opts_append] at k1
        obtain ⟨t2, rfl⟩ := own_sl k1
        obtain ⟨RU2, RV2, hap2⟩ := RU.two RV hap k1 k2
        simp (maxSteps := 3000000) only [go_sem, ↓reduceIte, h9, h7, h8]
        repeat (apply And.intro; focus (first | omega | (simp; done)))
        exact ⟨⟨i + 1, t2, v, by omega, by simp, by rw [hsn], by rw [hsn], by rw [hsn], by rw [hsn]; exact RU2, by rw [hsn]; exact RV2, hap2⟩, by omega⟩
      | false =>
        have hnb : ¬ (g.of T = 0 ∨ D.length ≠ 4 ∨ T ∈ seen) := fun e => by have := hb.2 (hbad.2 e); cases this
        have hst : stepA g (rej, nak, seen) (T, D) = (rej, nak ++ (if num4 D ≠ g.of T then [oneA T (g.of T)] else []), T :: seen) := if_neg hnb
        rw [hst] at hsn
        simp only [not_or, Decidable.not_not] at hnb
        obtain ⟨n1, n2, n3⟩ := hnb
        have hp : plcB T = true := by
          cases hp : plcB T with
          | true => rfl
          | false => exact absurd (plc_no hp) n1
        have hor := AW.of_rng hg T
        have em : g.of T % 18446744073709551616 = g.of T := by omega
        have n4e := num4_is n2
        have hs3 : decide (3 ∈ T :: seen) = (decide (3 ∈ seen) || decide (T = 3)) := by
          by_cases e1 : 3 ∈ seen <;> by_cases e2 : T = 3 <;> simp [e1, e2, eq_comm]
        obtain ⟨m3, hm3⟩ : ∃ b : Bool, b = decide (3 ∈ T :: seen) := ⟨_, rfl⟩
        rw [← hm3] at hs3
        simp (maxSteps := 3000000) only [go_sem, ↓reduceIte, h9, opts_at ho]
        repeat (apply And.intro; focus (first | omega | (simp; done)))
        refine Cal.mk (r35Of0_v (w := g)) ?_
        rintro _ _ ⟨rfl, rfl⟩ -
        rw [AW.ofR_is hp]
        simp (maxSteps := 3000000) only [go_sem, ↓reduceIte, h8]
        refine Grd.cut [41, 42, 43, 44, 45, 46, 47, 8] (fun B => B 8 = .sc (.bool m3)) rfl ?_ ?_
        · rw [hs3]
          by_cases e1 : 3 ∈ seen
          · simp (maxSteps := 3000000) only [go_sem, ↓reduceIte, decide_eq_true e1, h8, at_cut, Bool.true_or]
          · simp (maxSteps := 3000000) only [go_sem, ↓reduceIte, decide_eq_false e1, h8, h9, opts_at ho, at_cut, Bool.false_or]
            repeat (apply And.intro; focus (first | omega | (simp; done)))
            all_goals first | omega | rfl | trivial
        intro B2 h8
        simp (maxSteps := 3000000) only [go_sem, ↓reduceIte, h9, opts_at ho]
        repeat (apply And.intro; focus (first | omega | (simp; done)))
        refine Cal.mk (rNum_v oB (by omega)) ?_
        rintro _ _ ⟨rfl, rfl⟩ -
        rw [← n4e]
        by_cases c6 : num4 D = g.of T
        · rw [if_neg (fun e => e c6), List.append_nil] at hsn
          simp (maxSteps := 3000000) only [go_sem, ↓reduceIte, em, decide_eq_false (show ¬ num4 D ≠ g.of T from fun e => e c6), h9, h6, h7, h8]
          repeat (apply And.intro; focus (first | omega | (simp; done)))
          exact ⟨⟨i + 1, u, v, by omega, by simp, by rw [hsn], by rw [hsn], by rw [hsn, hm3], by rw [hsn]; exact RU, by rw [hsn]; exact RV, hap⟩, by omega⟩
        · rw [if_pos c6] at hsn
          simp (maxSteps := 3000000) only [go_sem, ↓reduceIte, em, decide_eq_true (show num4 D ≠ g.of T from c6), h9, opts_at ho]
          repeat (apply And.intro; focus (first | omega | (simp; done)))
          refine Cal.mk (r35One_v (t := T) hor.1 hor.2) ?_
          rintro _ s1 ⟨⟨t, rfl⟩, W1, L1⟩ -
          have RU1 := RU.over' W1 L1
          have RV1 := RV.over' W1 L1
          simp (maxSteps := 3000000) only [go_sem, ↓reduceIte, h7]
          refine App.mk (bytes := 32) (l := opts nak) (ys := opts [oneA T (g.of T)]) RV1.own (allSz_opts _) (by simp only [opts_len, List.length_cons, List.length_nil]; unfold maxLen; omega) (by simp only [opts_len, List.length_cons, List.length_nil]; omega) ?_
          intro r2 s2 k1 k2
          rw [opts_append] at k1
          obtain ⟨t2, rfl⟩ := own_sl k1
          obtain ⟨RV2, RU2, hap2⟩ := RV1.two RU1 hap.symm k1 k2
          simp (maxSteps := 3000000) only [go_sem, ↓reduceIte, h9, h6, h8]
          repeat (apply And.intro; focus (first | omega | (simp; done)))
          exact ⟨⟨i + 1, u, t2, by omega, by simp, by rw [hsn], by rw [hsn], by rw [hsn, hm3], by rw [hsn]; exact RU2, by rw [hsn]; exact RV2, hap2.symm⟩, by omega⟩
    · obtain rfl : i = l.length := by omega
      rw [List.take_length] at h6 h7 h8 RU RV hFl
      unfold judgeA nakA
      generalize foldA g l = F at h6 h7 h8 RU RV hFl ⊢
      obtain ⟨rej, nak, seen⟩ := F
      simp only at h6 h7 h8 RU RV hFl ⊢
      have hil := decide_eq_false (show ¬ (l.length : Int) < (l.length : Int) by omega)
      simp (maxSteps := 3000000) only [go_sem, ↓reduceIte, h9, opts_len, h8]
      obtain ⟨nk, hnk⟩ : ∃ n, n = (if 3 ∈ seen then nak else nak ++ [oneA 3 g.a]) := ⟨_, rfl⟩
      rw [← hnk]
      refine If.cut [7, 71, 72, 73, 74] (fun B s2 => (∃ v2, B 7 = .sl v2 (opts nk)) ∧ st.weak s2) rfl ?_ ?_
      · by_cases c4 : 3 ∈ seen
        · rw [if_pos c4] at hnk
          simp (maxSteps := 3000000) only [go_sem, ↓reduceIte, decide_eq_true c4, Bool.not_true, at_cutk_n, h7]
          exact ⟨⟨v, by rw [hnk]⟩, RU.weak⟩
        · rw [if_neg c4] at hnk
          simp (maxSteps := 3000000) only [go_sem, ↓reduceIte, decide_eq_false c4, Bool.not_false]
          refine Cal.mk (r35One_v (t := 3) hg.a0 hg.a1) ?_
          rintro _ s1 ⟨⟨t, rfl⟩, W1, L1⟩ -
          simp (maxSteps := 3000000) only [go_sem, ↓reduceIte, h7]
          refine opt_app (oneA 3 g.a) (RV.over' W1 L1) (by omega) fun t3 s3 R3 => ?_
          simp (maxSteps := 3000000) only [go_sem, ↓reduceIte, at_cutk_n]
          exact ⟨⟨t3, by rw [hnk]⟩, R3.weak⟩
      rintro B2 s2 ⟨⟨v2, h7⟩, W2⟩
      cases rej with
      | cons x rej =>
        simp (maxSteps := 3000000) only [go_sem, ↓reduceIte, h6, opts_len, List.length_cons, decide_eq_true (show (0 : Int) < ((rej.length + 1 : Nat) : Int) by omega)]
        exact ⟨_, _, Wk.refl _, W2, ⟨u, rfl⟩, rfl⟩
      | nil =>
        have h00 := decide_eq_false (show ¬ (0 : Int) < ((0 : Nat) : Int) by decide)
        cases nk with
        | cons x nk =>
          simp (maxSteps := 3000000) only [go_sem, ↓reduceIte, h6, h7, opts_len, List.length_cons, List.length_nil, h00, decide_eq_true (show (0 : Int) < ((nk.length + 1 : Nat) : Int) by omega)]
          exact ⟨_, _, Wk.refl _, W2, ⟨v2, rfl⟩, rfl⟩
        | nil =>
          simp (maxSteps := 3000000) only [go_sem, ↓reduceIte, h6, h7, opts_len, List.length_nil, h00]
          exact ⟨_, _, Wk.refl _, W2, ⟨tk, rfl⟩, rfl⟩
set_option maxRecDepth 100000 in
set_option maxHeartbeats 4000000 in
theorem r35Of_v (hG : GoodO l) (hl : l.length ≤ 1000000) : VCalls Tryz.prog 26 [.sl tk (opts l)] st fun r s => r = .agg (ofA l).cells ∧ st = s := by
  refine vcalls_enterq pc26 (Nat.le_of_ble_eq_true rfl) rfl fun hwf hok => ?_
  show Run _ Pc26.body (.fin (finP Pc26.res _)) _ _
  unfold Pc26 zn zo
  have hlt := hwf.lt
  simp (maxSteps := 3000000) only [go_sem, ↓reduceIte]
  intro b hb
  refine run_loop [4, 5, 9, 10, 12, 15, 16, 17, 18, 19, 22, 23, 24, 25, 26, 29, 30, 31, 32, 33, 35, 36, 37, 39, 40, 41, 42, 44, 45] (fun B s => ∃ (i : Nat) (X : AW), i ≤ l.length ∧ B 4 = .sc (.int .i64 i) ∧ X = (l.take i).foldl ofStepA .zero ∧ s = st.put b X.cells) (fun B _ => l.length - vnat (B 4)) rfl ?_ ?_
  · exact ⟨0, .zero, by omega, rfl, by simp, rfl⟩
  · rintro B s ⟨i, X, hi, h4, hX, rfl⟩
    by_cases c1 : i < l.length
    rotate_left
    · obtain rfl : i = l.length := by omega
      rw [List.take_length] at hX
      simp (maxSteps := 3000000) only [go_sem, ↓reduceIte, h4, opts_len, AW.cells, put_box_same]
      exact ⟨_, _, Wk.refl _, weak_put hwf.weak hb, by rw [ofA, ← hX], rfl⟩
    obtain ⟨⟨T, D⟩, ho⟩ := get_ex c1
    obtain ⟨q0, q1, oB, oL⟩ := hG.get ho
    simp only at oB
    have hil := decide_eq_true (show (i : Int) < (l.length : Int) by omega)
    have hsn := ofA_snoc ho
    rw [← hX] at hsn
    have done : ∀ X2, X2 = ofStepA X (T, D) → (∃ (i' : Nat) (X' : AW), i' ≤ l.length ∧ V.sc (.int .i64 ((i : Int) + 1)) = .sc (.int .i64 i') ∧ X' = (l.take i').foldl ofStepA .zero ∧ st.put b X2.cells = st.put b X'.cells) ∧ l.length - ((i : Int) + 1).toNat < l.length - i := fun X2 e =>
      ⟨⟨i + 1, X2, by omega, by simp, by rw [hsn, e], rfl⟩, by omega⟩
    by_cases c3 : D.length = 4
    rotate_left
    · have e := done X (by unfold ofStepA; rw [if_pos c3])
      unfold AW.cells at e
      simp (maxSteps := 3000000) only [go_sem, ↓reduceIte, h4, opts_len, hil, opts_at ho, bs_len, decide_eq_true (show (D.length : Int) ≠ 4 by omega), AW.cells]
      repeat (apply And.intro; focus (first | omega | (simp; done)))
      exact e
    have hc3 := decide_eq_false (show ¬ (D.length : Int) ≠ 4 by omega)
    have n4e := num4_is c3
    have hr := num4_rng oB
    have em : num4 D % 4294967296 = num4 D := by omega
    have hof : ofStepA X (T, D) = if T = 3 then { X with a := num4 D } else if T = 129 then { X with d1 := num4 D } else if T = 131 then { X with d2 := num4 D } else X := by unfold ofStepA; rw [if_neg (fun e => e c3)]
    rw [hof] at done
    simp (maxSteps := 3000000) only [go_sem, ↓reduceIte, h4, opts_len, hil, opts_at ho, bs_len, hc3]
    repeat (apply And.intro; focus (first | omega | (simp; done)))
    refine Cal.mk (rNum_v oB (by omega)) ?_
    rintro _ _ ⟨rfl, rfl⟩ -
    rw [← n4e]
    by_cases d1 : T = 3
    · have e := done _ (if_pos d1).symm
      unfold AW.cells at e
      simp (maxSteps := 3000000) only [go_sem, ↓reduceIte, em, h4, opts_at ho, decide_eq_true d1, AW.cells, put_box_same, put_put]
      repeat (apply And.intro; focus (first | omega | (simp; done)))
      exact e
    rw [if_neg d1] at done
    by_cases d2 : T = 129
    · have e := done _ (if_pos d2).symm
      unfold AW.cells at e
      simp (maxSteps := 3000000) only [go_sem, ↓reduceIte, em, h4, opts_at ho, decide_eq_false d1, decide_eq_true d2, AW.cells, put_box_same, put_put]
      repeat (apply And.intro; focus (first | omega | (simp; done)))
      exact e
    rw [if_neg d2] at done
    by_cases d3 : T = 131
    · have e := done _ (if_pos d3).symm
      unfold AW.cells at e
      simp (maxSteps := 3000000) only [go_sem, ↓reduceIte, em, h4, opts_at ho, decide_eq_false d1, decide_eq_false d2, decide_eq_true d3, AW.cells, put_box_same, put_put]
      repeat (apply And.intro; focus (first | omega | (simp; done)))
      exact e
    · have e := done _ (if_neg d3).symm
      unfold AW.cells at e
      simp (maxSteps := 3000000) only [go_sem, ↓reduceIte, em, h4, opts_at ho, decide_eq_false d1, decide_eq_false d2, decide_eq_false d3, AW.cells]
      repeat (apply And.intro; focus (first | omega | (simp; done)))
      exact e
end
end
section
open Go
section
variable {st : St} {L : List Int}
theorem New.nil (h : st.weak st) (hl : st.Lt) : New st st (.sl .nil []) := ⟨h, hl, fun g k l e => by cases e⟩
theorem New.app {s s' : St} {x r : V} (h : New st s x) (k : AppSt s x s' r) : New st s' r :=
  ⟨k.keeps h.weak h.tok, h.lt.app k, k.fresh h.weak.sz h.tok⟩
theorem split03_v {c : Int} (hB : IsB L) (hl : L.length ≤ 1000000) : VCalls Tryz.prog 127 [.sc (.string (strOf L)), .sc (.int .u8 c)] st fun r st' => Own 1 st' r (ss (splL c L)) ∧ New st st' r := by
  refine vcalls_enter vc127 (Nat.le_of_ble_eq_true rfl) fun hwf hok => ?_
  show Run _ Vc127.body (.fin (finQ Vc127.res _)) _ _
  unfold Vc127 zo
  simp (maxSteps := 3000000) only [go_sem]
  refine run_loop [5, 6, 7, 8, 9, 10, 11, 12, 13, 14, 15, 16, 17, 18, 19, 20, 21, 22, 23, 24, 25, 26, 27, 28, 29] (fun B s => ∃ i : Nat, i ≤ L.length ∧ B 7 = .sc (.int .i64 i) ∧ B 6 = .sc (.string (strOf (splF c (L.take i)).2)) ∧ Own 1 s (B 5) (ss (splF c (L.take i)).1) ∧ New st s (B 5)) (fun B _ => L.length - vnat (B 7)) rfl ?_ ?_
  · simp (maxSteps := 3000000) only [go_sem, ↓reduceIte]
    exact ⟨0, by omega, by simp, by simp [splF, strOf_nil], .inl ⟨rfl, by simp [splF, ss]⟩, .nil hwf.weak hwf.lt⟩
  · rintro B s ⟨i, hi, h7, h6, ho, hn⟩
    have hlen := splF_len c (L.take i) ([], [])
    have hln : (L.take i).length ≤ i := by simp; omega
    simp only [List.length_nil, Nat.zero_add] at hlen
    by_cases hlt : i < L.length
    · obtain ⟨x, hx⟩ := get_ex hlt
      have bx := hB.get hx
      have hsn : splF c (L.take (i + 1)) = splS c (splF c (L.take i)) x := by rw [List.take_add_one, hx]; exact splF_snoc _ _ _
      have hlt' := decide_eq_true (show (i : Int) < (L.length : Int) by omega)
      change (splF c (L.take i)).1.length ≤ _ ∧ (splF c (L.take i)).2.length ≤ _ at hlen
      generalize splF c (L.take i) = q at *
      obtain ⟨acc, one⟩ := q
      simp only at h6 ho hlen
      by_cases c1 : x = c
      · have hst : splS c (acc, one) x = (acc ++ [one], []) := if_pos c1
        simp (maxSteps := 3000000) only [go_sem, ↓reduceIte, h7, h6, strOf_size, hlt', bytesOf_strOf hB, hx, decide_eq_true c1]
        repeat (apply And.intro; focus (first | omega | (simp; done)))
        refine App.mk (l := ss acc) ho (ys := ss [one]) (allSz_ss _) (by simp [ss_len, maxLen]; omega) (by simp [ss_len]; omega) ?_
        intro r s1 k1 k2
        rw [ss_append] at k1
        simp (maxSteps := 3000000) only [go_sem, ↓reduceIte, h7]
        repeat (apply And.intro; focus (first | omega | (simp; done)))
        exact ⟨⟨i + 1, by omega, by simp, by rw [hsn, hst, strOf_nil], by rw [hsn, hst]; exact k1, hn.app k2⟩, by omega⟩
      · have hst : splS c (acc, one) x = (acc, one ++ [x]) := if_neg c1
        simp (maxSteps := 3000000) only [go_sem, ↓reduceIte, h7, h6, strOf_size, hlt', bytesOf_strOf hB, hx, decide_eq_false c1, u8sOf, strOf_append]
        repeat (apply And.intro; focus (first | omega | (simp; done)))
        exact ⟨⟨i + 1, by omega, by simp, by rw [hsn, hst], by rw [hsn, hst]; exact ho, hn⟩, by omega⟩
    · obtain rfl : i = L.length := by omega
      rw [List.take_of_length_le (Nat.le_refl _)] at h6 ho hlen
      change (splF c L).1.length ≤ _ ∧ (splF c L).2.length ≤ _ at hlen
      simp (maxSteps := 3000000) only [go_sem, ↓reduceIte, h7, h6, strOf_size]
      refine App.mk (l := ss (splF c L).1) ho (ys := ss [(splF c L).2]) (allSz_ss _) (by simp [ss_len, maxLen]; omega) (by simp [ss_len]; omega) ?_
      intro r s1 k1 k2
      rw [ss_append] at k1
      have hn2 := hn.app k2
      simp (maxSteps := 3000000) only [go_sem, ↓reduceIte]
      exact ⟨_, _, Wk.refl _, hn2.lt.weak, k1, hn2⟩
theorem words03_v (hB : IsB L) (hl : L.length ≤ 1000000) : VCalls Tryz.prog 115 [.sc (.string (strOf L))] st fun r st' => Own 1 st' r (ss (wordsL L)) ∧ New st st' r := by
  refine vcalls_enter vc115 (Nat.le_of_ble_eq_true rfl) fun hwf hok => ?_
  show Run _ Vc115.body (.fin (finQ Vc115.res _)) _ _
  unfold Vc115 zo
  simp (maxSteps := 3000000) only [go_sem, ↓reduceIte]
  refine Cal.mk (split03_v hB hl) ?_
  rintro r s0 ⟨k1, k2⟩ -
  obtain ⟨tk, rfl⟩ := k1.sl
  have hQ : ∀ M ∈ splL 32 L, IsB M := splL_isB hB
  have hQl := splL_len 32 L
  have hW : wordsL L = (splL 32 L).filter fun M => M ≠ [] := rfl
  generalize splL 32 L = Q at *
  simp (maxSteps := 3000000) only [go_sem, ↓reduceIte]
  refine run_loop [3, 5, 8, 9, 10, 11, 12, 13, 14, 15, 16, 17, 18, 19, 20, 21, 22, 23, 24, 25] (fun B s => ∃ i : Nat, i ≤ Q.length ∧ B 5 = .sc (.int .i64 i) ∧ Own 1 s (B 3) (ss ((Q.take i).filter fun M => M ≠ [])) ∧ New st s (B 3)) (fun B _ => Q.length - vnat (B 5)) rfl ?_ ?_
  · simp (maxSteps := 3000000) only [go_sem, ↓reduceIte]
    exact ⟨0, by omega, by simp, .inl ⟨rfl, by simp [ss]⟩, k2.weak, k2.lt, fun g k l e => by cases e⟩
  · rintro B s ⟨i, hi, h5, ho, hn⟩
    by_cases hlt : i < Q.length
    · obtain ⟨M, hM⟩ := get_ex hlt
      have bM := hQ M (List.mem_of_getElem? hM)
      have hsn : (Q.take (i + 1)).filter (fun M => M ≠ []) = (Q.take i).filter (fun M => M ≠ []) ++ (if M = [] then [] else [M]) := by
        rw [List.take_add_one, hM, List.filter_append]
        by_cases h : M = [] <;> simp [h]
      have hlt' := decide_eq_true (show (i : Int) < (Q.length : Int) by omega)
      have hfl : ((Q.take i).filter fun M => M ≠ []).length ≤ i := Nat.le_trans (List.length_filter_le _ _) (by simp; omega)
      have hdec := strOf_inj bM isB_nil
      by_cases c1 : M = []
      · rw [if_pos c1, List.append_nil] at hsn
        simp (maxSteps := 3000000) only [go_sem, ↓reduceIte, h5, ss_len, ss_get, hM, hlt', strOf_nil, decide_eq_false (show ¬ ¬ strOf M = strOf [] from fun h => h (hdec.2 c1))]
        repeat (apply And.intro; focus (first | omega | (simp; done)))
        exact ⟨⟨i + 1, by omega, by simp, by rw [hsn]; exact ho, hn⟩, by omega⟩
      · rw [if_neg c1] at hsn
        simp (maxSteps := 3000000) only [go_sem, ↓reduceIte, h5, ss_len, ss_get, hM, hlt', strOf_nil, decide_eq_true (show ¬ strOf M = strOf [] from fun h => c1 (hdec.1 h))]
        repeat (apply And.intro; focus (first | omega | (simp; done)))
        refine App.mk (l := ss ((Q.take i).filter fun M => M ≠ [])) ho (ys := ss [M]) (allSz_ss _) (by simp only [ss_len, maxLen, List.length_cons, List.length_nil]; omega) (by simp only [ss_len, List.length_cons, List.length_nil]; omega) ?_
        intro r s1 k1 k2
        rw [ss_append, ← hsn] at k1
        simp (maxSteps := 3000000) only [go_sem, ↓reduceIte, h5]
        repeat (apply And.intro; focus (first | omega | (simp; done)))
        exact ⟨⟨i + 1, by omega, by simp, k1, hn.app k2⟩, by omega⟩
    · obtain rfl : i = Q.length := by omega
      rw [List.take_of_length_le (Nat.le_refl _)] at ho
      simp (maxSteps := 3000000) only [go_sem, ↓reduceIte, h5, ss_len]
      exact ⟨_, _, Wk.refl _, hn.lt.weak, by rw [hW]; exact ho, hn⟩
end
end
section
open Go
def rowB : Nat → List Int
  | 0 => [50, 32, 54, 105, 114, 32, 46, 32, 46, 32, 46, 32, 46, 32, 46, 32, 46, 32, 46, 32, 46]
  | 1 => [46, 32, 46, 32, 48, 32, 49, 115, 32, 48, 32, 49, 32, 49, 32, 49, 32, 49, 32, 49, 100]
  | 2 => [49, 115, 32, 49, 32, 54, 105, 114, 32, 51, 32, 53, 32, 53, 32, 54, 32, 55, 32, 56, 32, 57]
  | 3 => [48, 32, 48, 102, 32, 50, 32, 50, 32, 52, 32, 52, 32, 52, 105, 116, 32, 52, 105, 116, 32, 52, 105, 116, 32, 52, 100, 105, 116]
  | 4 => [46, 32, 46, 32, 46, 32, 46, 32, 52, 116, 32, 53, 116, 32, 54, 114, 32, 54, 114, 32, 56, 114, 32, 46]
  | 5 => [46, 32, 46, 32, 46, 32, 46, 32, 50, 102, 32, 51, 102, 32, 51, 102, 32, 51, 102, 32, 51, 102, 32, 46]
  | 6 => [46, 32, 46, 32, 50, 107, 32, 56, 105, 114, 97, 32, 52, 32, 53, 32, 56, 97, 32, 57, 97, 117, 32, 56, 97, 32, 56, 100, 114, 97]
  | 7 => [46, 32, 46, 32, 50, 107, 32, 54, 105, 114, 110, 32, 52, 32, 53, 32, 54, 110, 32, 55, 110, 32, 54, 110, 32, 54, 100, 114, 110]
  | 8 => [46, 32, 46, 32, 50, 107, 32, 51, 107, 32, 52, 32, 53, 32, 55, 105, 32, 54, 114, 32, 57, 105, 117, 32, 54, 100, 114]
  | 9 => [46, 32, 46, 32, 50, 107, 32, 51, 107, 32, 52, 32, 53, 32, 54, 105, 114, 32, 54, 114, 32, 56, 105, 114, 32, 54, 100, 114]
  | 10 => [46, 32, 46, 32, 50, 107, 32, 51, 107, 32, 52, 107, 32, 53, 107, 32, 54, 107, 32, 54, 107, 32, 54, 107, 32, 53, 100, 122, 107]
  | 11 => [46, 32, 46, 32, 50, 32, 51, 32, 50, 102, 32, 51, 102, 32, 54, 32, 54, 32, 56, 32, 54, 100, 114]
  | 12 => [46, 32, 46, 32, 50, 106, 32, 51, 106, 32, 52, 106, 32, 53, 106, 32, 54, 106, 32, 55, 106, 32, 56, 106, 32, 57, 106]
  | 13 => [46, 32, 46, 32, 50, 32, 51, 32, 52, 32, 53, 32, 54, 32, 54, 32, 56, 32, 57]
  | 14 => [46, 32, 46, 32, 50, 102, 32, 51, 102, 32, 50, 102, 32, 51, 102, 32, 51, 102, 32, 51, 102, 32, 51, 102, 32, 53, 100, 105, 116]
  | 15 => [46, 32, 46, 32, 50, 32, 51, 32, 52, 32, 53, 32, 54, 32, 55, 32, 56, 32, 57, 101]
  | _ => []
def placeS : List Int := [117, 100, 115, 102, 105, 122, 114, 97, 110, 116, 107, 106, 101]
def placeN (c : Int) : Nat := (placeS.findIdx? fun x => decide (x = c)).getD 0
def actW (w : List Int) : Int := (w.drop 1).foldl (fun a c => a + 2 ^ placeN c) 0
def stepW (s : Int) (w : List Int) : Int × Int := if w = [46] then (s, 0) else (w.headD 0 - 48, actW w)
set_option maxRecDepth 100000 in
set_option maxHeartbeats 4000000 in
theorem step_words : ∀ e : Nat, e < 16 → ∀ s : Nat, s < 10 → ((wordsL (rowB e))[s]?).map (stepW (s : Int)) = some (stepF (s : Int) (e : Int)) := by decide
set_option maxRecDepth 100000 in
theorem words_ok : ∀ e : Nat, e < 16 → ∀ w ∈ wordsL (rowB e), 0 < w.length ∧ w.length ≤ 5 ∧ (w = [46] ∨ ∀ c ∈ w, 0 ≤ c ∧ c < 256) := by decide
theorem take_snocI {α : Type} {l : List α} {i : Nat} {o : α} (h : l[i]? = some o) : l.take (i + 1) = l.take i ++ [o] := by rw [List.take_add_one, h]; rfl
section
variable {st : St}
set_option maxRecDepth 100000 in
theorem r21Row_v {e : Nat} (he : e < 16) : VCalls Tryz.prog 116 [.sc (.int .i64 e)] st fun r s => r = .sc (.string (strOf (rowB e))) ∧ st = s := by
  have hc : e = 0 ∨ e = 1 ∨ e = 2 ∨ e = 3 ∨ e = 4 ∨ e = 5 ∨ e = 6 ∨ e = 7 ∨ e = 8 ∨ e = 9 ∨ e = 10 ∨ e = 11 ∨ e = 12 ∨ e = 13 ∨ e = 14 ∨ e = 15 := by omega
  rcases hc with rfl | rfl | rfl | rfl | rfl | rfl | rfl | rfl | rfl | rfl | rfl | rfl | rfl | rfl | rfl | rfl
  all_goals
    refine vcalls_enterq pc116 (Nat.le_of_ble_eq_true rfl) rfl fun hwf hok => ?_
    show Run _ Pc116.body (.fin (finP Pc116.res _)) _ _
    unfold Pc116 zn zo
    simp (maxSteps := 3000000) only [go_sem, ↓reduceIte]
    intro b hb
    exact ⟨⟨by decide, by decide⟩, _, _, Wk.refl _, weak_put hwf.weak hb, by kernel_rfl, rfl⟩
theorem placeB : strOf placeS = ⟨#[117, 100, 115, 102, 105, 122, 114, 97, 110, 116, 107, 106, 101]⟩ := by kernel_rfl
theorem placeS_isB : IsB placeS := fun x hx => by simp only [placeS, List.mem_cons, List.not_mem_nil, or_false] at hx; omega
theorem findIdx_at {l : List Int} {c : Int} : ∀ {i : Nat}, l[i]? = some c → c ∉ l.take i → l.findIdx? (fun x => decide (x = c)) = some i := by
  induction l with
  | nil => intro i h; simp at h
  | cons y l ih =>
    intro i h hn
    cases i with
    | zero => simp at h; subst h; simp [List.findIdx?_cons]
    | succ i =>
      simp only [List.getElem?_cons_succ] at h
      simp only [List.take_succ_cons, List.mem_cons, not_or] at hn
      have := ih h hn.2
      rw [List.findIdx?_cons, this]
      simp [show ¬ y = c from fun e => hn.1 e.symm]
theorem findIdx_no {l : List Int} {c : Int} (h : c ∉ l) : l.findIdx? (fun x => decide (x = c)) = none := by
  rw [List.findIdx?_eq_none_iff]
  intro x hx
  simp only [decide_eq_false_iff_not]
  rintro rfl; exact h hx
theorem placeN_lt (c : Int) : placeN c < 13 := by
  unfold placeN
  cases h : placeS.findIdx? (fun x => decide (x = c)) with
  | none => simp
  | some i => simp only [Option.getD_some]; exact (List.findIdx?_eq_some_iff_findIdx_eq.1 h).1
set_option maxRecDepth 100000 in
theorem r21Place_v {c : Int} : VCalls Tryz.prog 117 [.sc (.int .u8 c)] st fun r s => r = .sc (.int .i64 (placeN c)) ∧ st = s := by
  refine vcalls_enterq pc117 (Nat.le_of_ble_eq_true rfl) rfl fun hwf hok => ?_
  show Run _ Pc117.body (.fin (finP Pc117.res _)) _ _
  unfold Pc117 zo
  simp (maxSteps := 3000000) only [go_sem]
  rw [← placeB]
  refine run_loop [2, 4, 7, 8, 10, 13, 15] (fun B s => s = st ∧ ∃ i : Nat, i ≤ 13 ∧ B 4 = .sc (.int .i64 i) ∧ c ∉ placeS.take i) (fun B _ => 13 - vnat (B 4)) rfl ?_ ?_
  · exact ⟨rfl, 0, by omega, rfl, by simp⟩
  · rintro B s ⟨rfl, i, hi, h4, hn⟩
    have hl : placeS.length = 13 := rfl
    by_cases c1 : i < 13
    · obtain ⟨x, hx⟩ := get_ex (L := placeS) (i := i) (by omega)
      have hd := decide_eq_true (show (i : Int) < ((13 : Nat) : Int) by omega)
      by_cases c2 : x = c
      · subst c2
        have : placeN x = i := by rw [placeN, findIdx_at hx hn]; rfl
        simp (maxSteps := 3000000) only [go_sem, ↓reduceIte, h4, strOf_size, hl, hd, bytesOf_strOf placeS_isB, hx, decide_eq_true trivial]
        exact ⟨by omega, _, _, Wk.refl _, hwf.weak, by rw [this], rfl⟩
      · simp (maxSteps := 3000000) only [go_sem, ↓reduceIte, h4, strOf_size, hl, hd, bytesOf_strOf placeS_isB, hx, decide_eq_false c2]
        repeat (apply And.intro; focus (first | omega | (simp; done)))
        refine ⟨⟨i + 1, by omega, by simp, ?_⟩, by omega⟩
        rw [take_snocI hx]
        simp only [List.mem_append, List.mem_singleton, not_or]
        exact ⟨hn, fun e => c2 e.symm⟩
    · obtain rfl : i = 13 := by omega
      have : placeN c = 0 := by
        rw [placeN, findIdx_no (by simpa [hl] using (show c ∉ placeS from hn))]; rfl
      simp (maxSteps := 3000000) only [go_sem, ↓reduceIte, h4, strOf_size, hl]
      exact ⟨_, _, Wk.refl _, hwf.weak, by rw [this]; rfl, rfl⟩
theorem strDot : (⟨#[46]⟩ : ByteArray) = strOf [46] := by kernel_rfl
def accW (w : List Int) (k : Nat) : Int := ((w.take k).drop 1).foldl (fun a c => a + 2 ^ placeN c) 0
theorem accW_next {w : List Int} {k : Nat} {c : Int} (h : w[k]? = some c) (hk : 1 ≤ k) : accW w (k + 1) = accW w k + 2 ^ placeN c := by
  have hl := (List.getElem?_eq_some_iff.1 h).1
  unfold accW
  rw [take_snocI h, List.drop_append_of_le_length (by simp only [List.length_take]; omega), List.foldl_append]
  rfl
theorem accW_rng {w : List Int} : ∀ {k : Nat}, k ≤ w.length → 0 ≤ accW w k ∧ accW w k ≤ k * 4096
  | 0, _ => by simp [accW]
  | k + 1, h => by
    have ih := @accW_rng w k (by omega)
    obtain ⟨c, hc⟩ := get_ex (L := w) (i := k) (by omega)
    have hp := placeN_lt c
    have h2 : (2 : Int) ^ placeN c ≤ 4096 ∧ (0 : Int) < 2 ^ placeN c := by
      generalize placeN c = p at hp
      have : ∀ p : Nat, p < 13 → (2 : Int) ^ p ≤ 4096 ∧ (0 : Int) < 2 ^ p := by decide
      exact this p hp
    by_cases hk : 1 ≤ k
    · rw [accW_next hc hk]; omega
    · obtain rfl : k = 0 := by omega
      have : accW w 1 = 0 := by
        unfold accW
        rw [take_snocI hc]; rfl
      rw [this]; omega
set_option maxRecDepth 100000 in
set_option maxHeartbeats 4000000 in
theorem r21Step_v {s e : Int} : VCalls Tryz.prog 94 [.sc (.int .i64 s), .sc (.int .i64 e)] st fun r s' => r = .tup [.sc (.int .i64 (stepF s e).1), .sc (.int .i64 (stepF s e).2)] ∧ st = s' := by
  refine vcalls_enterq pc94 (Nat.le_of_ble_eq_true rfl) rfl fun hwf hok => ?_
  show Run _ Pc94.body (.fin (finP Pc94.res _)) _ _
  unfold Pc94 zg zo
  by_cases c1 : s < 0
  · simp (maxSteps := 3000000) only [go_sem, ↓reduceIte, decide_eq_true c1]
    exact ⟨_, _, Wk.refl _, hwf.weak, by simp [stepF, c1], rfl⟩
  by_cases c2 : 9 < s
  · simp (maxSteps := 3000000) only [go_sem, ↓reduceIte, decide_eq_false c1, decide_eq_true c2]
    exact ⟨_, _, Wk.refl _, hwf.weak, by simp [stepF, c2], rfl⟩
  by_cases c3 : e < 0
  · simp (maxSteps := 3000000) only [go_sem, ↓reduceIte, decide_eq_false c1, decide_eq_false c2, decide_eq_true c3]
    exact ⟨_, _, Wk.refl _, hwf.weak, by simp [stepF, c3], rfl⟩
  by_cases c4 : 15 < e
  · simp (maxSteps := 3000000) only [go_sem, ↓reduceIte, decide_eq_false c1, decide_eq_false c2, decide_eq_false c3, decide_eq_true c4]
    exact ⟨_, _, Wk.refl _, hwf.weak, by simp [stepF, c4], rfl⟩
  obtain ⟨i, rfl⟩ : ∃ i : Nat, s = i := ⟨s.toNat, by omega⟩
  obtain ⟨j, rfl⟩ : ∃ j : Nat, e = j := ⟨e.toNat, by omega⟩
  have hj : j < 16 := by omega
  have hst := step_words j hj i (by omega)
  cases hW : (wordsL (rowB j))[i]? with
  | none => rw [hW] at hst; cases hst
  | some w =>
    rw [hW] at hst
    simp only [Option.map_some, Option.some.injEq] at hst
    rw [← hst]
    obtain ⟨wl, wl5, wb⟩ := words_ok j hj w (List.mem_of_getElem? hW)
    have hB : IsB w := by
      rcases wb with rfl | wb
      · intro x hx; simp at hx; omega
      · exact wb
    have hR : IsB (rowB j) ∧ (rowB j).length ≤ 1000000 := by
      have : ∀ j : Nat, j < 16 → (∀ x ∈ rowB j, 0 ≤ x ∧ x < 256) ∧ (rowB j).length ≤ 1000000 := by decide
      exact this j hj
    simp (maxSteps := 3000000) only [go_sem, ↓reduceIte, decide_eq_false c1, decide_eq_false c2, decide_eq_false c3, decide_eq_false c4]
    refine Cal.mk (r21Row_v hj) ?_
    rintro _ _ ⟨rfl, rfl⟩ -
    simp (maxSteps := 3000000) only [go_sem, ↓reduceIte]
    refine Cal.mk (words03_v hR.1 hR.2) ?_
    rintro r2 s2 ⟨k1, k2⟩ -
    obtain ⟨tk, rfl⟩ := k1.sl
    have W2 := k2.weak
    have hdot := strOf_inj hB (show IsB [46] from by intro x hx; simp at hx; omega)
    rw [strDot]
    by_cases cd : w = [46]
    · have : stepW (i : Int) w = ((i : Int), 0) := if_pos cd
      rw [this]
      simp (maxSteps := 3000000) only [go_sem, ↓reduceIte, ss_get, hW, decide_eq_true (hdot.2 cd)]
      exact ⟨by omega, _, _, Wk.refl _, W2, rfl, rfl⟩
    · have hsw : stepW (i : Int) w = (w.headD 0 - 48, accW w w.length) := by rw [stepW, if_neg cd, accW, List.take_length]; rfl
      rw [hsw]
      have hsz := strOf_size w
      simp (maxSteps := 3000000) only [go_sem, ↓reduceIte, ss_get, hW, decide_eq_false (fun h => cd (hdot.1 h))]
      refine ⟨by omega, ?_⟩
      refine run_loop [7, 8, 35, 36, 38, 42, 43, 44, 45] (fun B s => s = s2 ∧ ∃ k : Nat, 1 ≤ k ∧ k ≤ w.length ∧ B 8 = .sc (.int .i64 k) ∧ B 7 = .sc (.int .i64 (accW w k))) (fun B _ => 6 - vnat (B 8)) rfl ?_ ?_
      · refine ⟨rfl, 1, by omega, by omega, rfl, ?_⟩
        have : accW w 1 = 0 := by
          obtain ⟨c, hc⟩ := get_ex (L := w) (i := 0) (by omega)
          unfold accW
          rw [take_snocI hc]; rfl
        rw [this]; rfl
      · rintro B s ⟨rfl, k, hk1, hk, h8, h7⟩
        have hr := accW_rng hk
        by_cases c5 : k < w.length
        · obtain ⟨c, hc⟩ := get_ex c5
          have hn := accW_next hc hk1
          have hp := placeN_lt c
          have h2 : (2 : Int) ^ placeN c ≤ 4096 ∧ (0 : Int) < 2 ^ placeN c := by
            have : ∀ p : Nat, p < 13 → (2 : Int) ^ p ≤ 4096 ∧ (0 : Int) < 2 ^ p := by decide
            exact this _ hp
          simp (maxSteps := 3000000) only [go_sem, ↓reduceIte, h8, hsz, decide_eq_true (show (k : Int) < (w.length : Int) by omega), bytesOf_strOf hB, hc]
          refine ⟨by omega, ?_⟩
          refine Cal.mk r21Place_v ?_
          rintro _ _ ⟨rfl, rfl⟩ -
          generalize placeN c = p at hn hp h2
          have hmin : (if p ≤ 64 then p else 64) = p := if_pos (by omega)
          simp (maxSteps := 3000000) only [go_sem, ↓reduceIte, h8, h7, hmin]
          rw [Int.one_mul]
          generalize (2 : Int) ^ p = z at hn h2
          exact ⟨⟨by omega, by omega, by omega⟩, ⟨by omega, by omega⟩, ⟨by omega, by omega⟩, ⟨k + 1, by omega, by omega, by simp, by rw [hn]⟩, by omega⟩
        · obtain rfl : k = w.length := by omega
          obtain ⟨c, hc⟩ := get_ex (L := w) (i := 0) (by omega)
          have hh : w.headD 0 = c := by cases w with
            | nil => simp at hc
            | cons x l => simp at hc; subst hc; rfl
          have hcb := hB.get hc
          simp (maxSteps := 3000000) only [go_sem, ↓reduceIte, h8, h7, hsz, bytesOf_strOf hB, hc]
          exact ⟨⟨by omega, by omega⟩, ⟨by omega, by omega⟩, _, _, Wk.refl _, W2, by rw [hh], rfl⟩
end
end
section
open Go
theorem acts_all : ∀ e : Nat, e < 16 → ∀ s : Nat, s < 10 → 0 ≤ (stepF (s : Int) (e : Int)).2 ∧ (stepF (s : Int) (e : Int)).2 < 8192 := by decide
theorem acts_rng (s e : Int) : 0 ≤ (stepF s e).2 ∧ (stepF s e).2 < 8192 := by
  by_cases c : s < 0 ∨ 9 < s ∨ e < 0 ∨ 15 < e
  · have : stepF s e = (s, 0) := by unfold stepF; rw [if_pos c]
    rw [this]; exact ⟨Int.le_refl 0, by show (0 : Int) < 8192; decide⟩
  · have := acts_all e.toNat (by omega) s.toNat (by omega)
    have e1 : (s.toNat : Int) = s := by omega
    have e2 : (e.toNat : Int) = e := by omega
    rw [e1, e2] at this; exact this
def bitA (act : Int) (n : Nat) : Bool := decide (act / 2 ^ n % 2 = 1)
theorem hasA_nat {a l : Nat} (ha : a < 65536) (hl : l < 65536) : hasA (a : Int) (l : Int) = decide (a &&& l ≠ 0) := by
  have e16 : ∀ x : Nat, x < 65536 → (BitVec.ofInt 16 (x : Int)).toNat = x := fun x h => by rw [BitVec.toNat_ofInt]; omega
  have hx : a &&& l < 2 ^ 16 := Nat.and_lt_two_pow _ (by omega)
  have g : ibit .and .u16 (a : Int) (l : Int) = IntKind.u16.wrap ((BitVec.ofInt 16 (a : Int) &&& BitVec.ofInt 16 (l : Int)).toNat : Int) := rfl
  have f : (BitVec.ofInt 16 (a : Int) &&& BitVec.ofInt 16 (l : Int)).toNat = a &&& l := by rw [BitVec.toNat_and, e16 a ha, e16 l hl]
  unfold hasA
  rw [g, f]
  generalize a &&& l = n at hx
  have : IntKind.u16.wrap (n : Int) = (n : Int) := by
    simp only [IntKind.wrap, IntKind.signed, IntKind.bits, Bool.false_and, Bool.false_eq_true, ↓reduceIte]; omega
  rw [this]
  by_cases h : n = 0
  · simp [h]
  · have : ¬ (n : Int) = 0 := by omega
    simp [h]
theorem bit_has {a n : Nat} (ha : a < 65536) (hn : n < 16) : bitA (a : Int) n = hasA (a : Int) ((2 ^ n : Nat) : Int) := by
  rw [hasA_nat ha (by have := Nat.pow_lt_pow_right (a := 2) (by decide) hn; simpa using this)]
  have h1 : bitA (a : Int) n = a.testBit n := by
    unfold bitA
    rw [Nat.testBit_eq_decide_div_mod_eq]
    have : ((a : Int) / 2 ^ n % 2 = 1) ↔ (a / 2 ^ n % 2 = 1) := by
      have e : ((a / 2 ^ n % 2 : Nat) : Int) = (a : Int) / 2 ^ n % 2 := by simp
      omega
    simp only [this]
  have h2 : a &&& 2 ^ n = if a.testBit n = true then 2 ^ n else 0 := by
    refine Nat.eq_of_testBit_eq fun i => ?_
    rw [Nat.testBit_and, Nat.testBit_two_pow]
    by_cases e : n = i
    · subst e
      cases a.testBit n <;> simp []
    · cases a.testBit n <;> simp [e]
  rw [h1, h2]
  have : 0 < 2 ^ n := Nat.pow_pos (by decide)
  cases a.testBit n
  · simp
  · simp
theorem has_or {a l m : Nat} (ha : a < 65536) (hl : l < 65536) (hm : m < 65536) : hasA (a : Int) ((l ||| m : Nat) : Int) = (hasA (a : Int) (l : Int) || hasA (a : Int) (m : Int)) := by
  rw [hasA_nat ha (Nat.or_lt_two_pow (n := 16) hl hm), hasA_nat ha hl, hasA_nat ha hm, Nat.and_or_distrib_left]
  simp only [ne_eq, Nat.or_eq_zero_iff]
  by_cases h1 : a &&& l = 0 <;> by_cases h2 : a &&& m = 0 <;> simp [h1, h2]
theorem iand1 {x : Int} (h0 : 0 ≤ x) (h1 : x < 65536) : ibit .and .i64 x 1 = x % 2 := by
  have e64 : (BitVec.ofInt 64 x).toNat = x.toNat := by rw [BitVec.toNat_ofInt]; congr 1; omega
  have g : ibit .and .i64 x 1 = IntKind.i64.wrap ((BitVec.ofInt 64 x &&& BitVec.ofInt 64 1).toNat : Int) := rfl
  have f : (BitVec.ofInt 64 x &&& BitVec.ofInt 64 1).toNat = x.toNat % 2 := by rw [BitVec.toNat_and, e64, ← Nat.and_one_is_mod]; rfl
  rw [g, f, IntWalk.i64_in _ (by omega)]
  omega
section
variable {st : St} {b : Nat} {s l t : Int} {rest : List V}
theorem r33Bit_v {act : Int} {n : Nat} (h0 : 0 ≤ act) (h1 : act < 65536) (hn : n < 16) : VCalls Tryz.prog 78 [.sc (.int .i64 act), .sc (.int .i64 n)] st fun r s' => r = .sc (.bool (hasA act ((2 ^ n : Nat) : Int))) ∧ st = s' := by
  obtain ⟨a, rfl⟩ : ∃ a : Nat, act = a := ⟨act.toNat, by omega⟩
  rw [← bit_has (by omega) hn]
  unfold bitA
  have hmin : (if n ≤ 64 then n else 64) = n := if_pos (by omega)
  have hq : 0 ≤ (a : Int) / 2 ^ n ∧ (a : Int) / 2 ^ n < 65536 := by
    have : 0 < (2 : Int) ^ n := Int.pow_pos (by decide)
    refine ⟨Int.ediv_nonneg (by omega) (by omega), Int.lt_of_le_of_lt (Int.ediv_le_self _ (by omega)) (by omega)⟩
  have h2 := iand1 hq.1 hq.2
  refine vcalls_enterq pc78 (Nat.le_of_ble_eq_true rfl) rfl fun hwf hok => ?_
  show Run _ Pc78.body (.fin (finP Pc78.res _)) _ _
  unfold Pc78 zo
  repeat' first | simp (maxSteps := 3000000) only [go_sem, ↓reduceIte, hmin, h2] | (refine If.dec (fun h => ?_) (fun h => ?_) <;> first | simp only [decide_eq_true h] | simp only [decide_eq_false h] | skip) | (refine Grd.decd (fun h => ?_) (fun h => ?_) <;> first | simp only [decide_eq_true h] | simp only [decide_eq_false h] | skip) | (refine If.mk (fun h => ?_) (fun h => ?_) <;> first | simp only [h] | skip) | (refine Grd.two (fun h => ?_) (fun h => ?_) <;> first | simp only [h] | skip) | (apply And.intro; focus (first | omega | (simp; done)))
  all_goals exact ⟨_, _, Wk.refl _, hwf.weak, rfl, rfl⟩
set_option maxRecDepth 100000 in
set_option maxHeartbeats 16000000 in
theorem r33Do_v {now e : Int} (hb : st.box b = some (.sc (.int .i64 s) :: .sc (.int .i64 l) :: .sc (.int .i64 t) :: rest)) (h0 : 0 ≤ l) (h1 : l ≤ 10) (hn : 0 ≤ now) (hn2 : now ≤ 1000000000) :
    VCalls Tryz.prog 73 [ptrV b, .sc (.int .i64 now), .sc (.int .i64 e)] st fun r s' => r = .sc (.int .i64 (stepF s e).2) ∧ s' = st.put b (.sc (.int .i64 (stepF s e).1) :: .sc (.int .i64 (cntA (stepF s e).2 l)) :: .sc (.int .i64 (atA (stepF s e).2 now t)) :: rest) := by
  have ha := acts_rng s e
  have B := fun (n : Nat) (hn : n < 16) (st : St) => r33Bit_v (st := st) ha.1 (show (stepF s e).2 < 65536 by omega) hn
  have B4 := fun st => B 4 (by decide) st
  have B5 := fun st => B 5 (by decide) st
  have B6 := fun st => B 6 (by decide) st
  have B9 := fun st => B 9 (by decide) st
  have e576 : hasA (stepF s e).2 576 = (hasA (stepF s e).2 512 || hasA (stepF s e).2 64) := by
    obtain ⟨a, hA⟩ : ∃ a : Nat, (stepF s e).2 = a := ⟨(stepF s e).2.toNat, by omega⟩
    rw [hA]; exact has_or (l := 512) (m := 64) (by omega) (by decide) (by decide)
  have e608 : hasA (stepF s e).2 608 = (hasA (stepF s e).2 576 || hasA (stepF s e).2 32) := by
    obtain ⟨a, hA⟩ : ∃ a : Nat, (stepF s e).2 = a := ⟨(stepF s e).2.toNat, by omega⟩
    rw [hA]; exact has_or (l := 576) (m := 32) (by omega) (by decide) (by decide)
  have hc : cntA (stepF s e).2 l = (if (hasA (stepF s e).2 512 || hasA (stepF s e).2 64) = true then max ((if hasA (stepF s e).2 16 = true ∧ hasA (stepF s e).2 512 = true then 2 else if hasA (stepF s e).2 16 = true then 10 else if hasA (stepF s e).2 32 = true then 0 else l) - 1) 0 else (if hasA (stepF s e).2 16 = true ∧ hasA (stepF s e).2 512 = true then 2 else if hasA (stepF s e).2 16 = true then 10 else if hasA (stepF s e).2 32 = true then 0 else l)) := by
    rw [cntA, e576]; simp only [Bool.and_eq_true]
  have ht : atA (stepF s e).2 now t = if ((hasA (stepF s e).2 512 || hasA (stepF s e).2 64) || hasA (stepF s e).2 32) = true then now + 3 else t := by rw [atA, e608, e576]
  rw [hc, ht]
  refine vcalls_enterq pc73 (Nat.le_of_ble_eq_true rfl) rfl fun hwf hok => ?_
  show Run _ Pc73.body (.fin (finP Pc73.res _)) _ _
  unfold Pc73 zg zn zo
  have hlt := hwf.lt
  simp (maxSteps := 3000000) only [go_sem, ↓reduceIte, hb]
  refine Cal.mk r21Step_v ?_
  rintro _ _ ⟨rfl, rfl⟩ -
  generalize (stepF s e).1 = s' at *
  generalize hA : (stepF s e).2 = act at *
  have B4' : ∀ st, VCalls Tryz.prog 78 [.sc (.int .i64 act), .sc (.int .i64 4)] st fun r s' => r = .sc (.bool (hasA act 16)) ∧ st = s' := B4
  have B5' : ∀ st, VCalls Tryz.prog 78 [.sc (.int .i64 act), .sc (.int .i64 5)] st fun r s' => r = .sc (.bool (hasA act 32)) ∧ st = s' := B5
  have B6' : ∀ st, VCalls Tryz.prog 78 [.sc (.int .i64 act), .sc (.int .i64 6)] st fun r s' => r = .sc (.bool (hasA act 64)) ∧ st = s' := B6
  have B9' : ∀ st, VCalls Tryz.prog 78 [.sc (.int .i64 act), .sc (.int .i64 9)] st fun r s' => r = .sc (.bool (hasA act 512)) ∧ st = s' := B9
  clear B B4 B5 B6 B9 e576 e608 hc ht
  generalize hasA act 16 = b16 at *
  generalize hasA act 32 = b32 at *
  generalize hasA act 64 = b64 at *
  generalize hasA act 512 = b512 at *
  cases b16 <;> cases b32 <;> cases b64 <;> cases b512
  all_goals
    repeat' first | simp (maxSteps := 3000000) only [go_sem, ↓reduceIte, hb, put_box_same, put_put, Bool.or_true, Bool.or_false, and_self, and_true, true_and, and_false] | (refine If.dec (fun h => ?_) (fun h => ?_) <;> first | simp only [decide_eq_true h] | simp only [decide_eq_false h] | skip) | (refine Grd.decd (fun h => ?_) (fun h => ?_) <;> first | simp only [decide_eq_true h] | simp only [decide_eq_false h] | skip) | (refine If.mk (fun h => ?_) (fun h => ?_) <;> first | simp only [h] | skip) | (refine Grd.two (fun h => ?_) (fun h => ?_) <;> first | simp only [h] | skip) | (apply And.intro; focus (first | omega | (simp; done))) | (refine Cal.mk (B4' _) ?_; rintro _ _ ⟨rfl, rfl⟩ -) | (refine Cal.mk (B5' _) ?_; rintro _ _ ⟨rfl, rfl⟩ -) | (refine Cal.mk (B6' _) ?_; rintro _ _ ⟨rfl, rfl⟩ -) | (refine Cal.mk (B9' _) ?_; rintro _ _ ⟨rfl, rfl⟩ -)
  all_goals exact ⟨_, _, Wk.refl _, (hlt.put (b := b)).weak, rfl, by first | rfl | (rw [show max (l - 1) 0 = l - 1 by omega]) | (rw [show max (l - 1) 0 = l by omega])⟩
set_option maxRecDepth 100000 in
set_option maxHeartbeats 16000000 in
theorem r33Tick_v {now : Int} (hb : st.box b = some (.sc (.int .i64 s) :: .sc (.int .i64 l) :: .sc (.int .i64 t) :: rest)) (h0 : 0 ≤ l) (h1 : l ≤ 10) (hn : 0 ≤ now) (hn2 : now ≤ 1000000000) :
    VCalls Tryz.prog 60 [ptrV b, .sc (.int .i64 now)] st fun r s' => r = .sc (.int .i64 (tickA s l t now).2.2.2) ∧ s' = st.put b (.sc (.int .i64 (tickA s l t now).1) :: .sc (.int .i64 (tickA s l t now).2.1) :: .sc (.int .i64 (tickA s l t now).2.2.1) :: rest) := by
  refine vcalls_enterq pc60 (Nat.le_of_ble_eq_true rfl) rfl fun hwf hok => ?_
  show Run _ Pc60.body (.fin (finP Pc60.res _)) _ _
  unfold Pc60 zg zn zo
  have hlt := hwf.lt
  by_cases c : s < 4 ∨ 8 < s ∨ now < t
  · have e : tickA s l t now = (s, l, t, 0) := by rw [tickA, if_pos c]
    rw [e]
    have hp : st.put b (.sc (.int .i64 s) :: .sc (.int .i64 l) :: .sc (.int .i64 t) :: rest) = st := put_selfR hb (hwf.box b _ hb)
    have fin : ∃ (r : V) (st' : St), Wk (.sc (.int .i64 0)) r ∧ st'.weak st ∧ r = .sc (.int .i64 0) ∧ st' = st.put b (.sc (.int .i64 s) :: .sc (.int .i64 l) :: .sc (.int .i64 t) :: rest) := ⟨_, _, Wk.refl _, hwf.weak, rfl, hp.symm⟩
    repeat' first | simp (maxSteps := 3000000) only [go_sem, ↓reduceIte, hb] | (refine If.dec (fun h => ?_) (fun h => ?_) <;> first | simp only [decide_eq_true h] | simp only [decide_eq_false h] | skip) | (refine Grd.decd (fun h => ?_) (fun h => ?_) <;> first | simp only [decide_eq_true h] | simp only [decide_eq_false h] | skip) | (refine If.mk (fun h => ?_) (fun h => ?_) <;> first | simp only [h] | skip) | (refine Grd.two (fun h => ?_) (fun h => ?_) <;> first | simp only [h] | skip) | (apply And.intro; focus (first | omega | (simp; done)))
    all_goals first | exact fin | (exfalso; omega)
  · have e : tickA s l t now = ((stepF s (if 0 < l then 4 else 5)).1, cntA (stepF s (if 0 < l then 4 else 5)).2 l, atA (stepF s (if 0 < l then 4 else 5)).2 now (now + 3), (stepF s (if 0 < l then 4 else 5)).2) := by rw [tickA, if_neg c]
    rw [e]
    simp (maxSteps := 3000000) only [go_sem, ↓reduceIte, hb, decide_eq_false (show ¬ s < 4 by omega), decide_eq_false (show ¬ 8 < s by omega), decide_eq_false (show ¬ now < t by omega), put_box_same]
    repeat (apply And.intro; focus (first | omega | (simp; done)))
    by_cases cl : 0 < l
    · simp only [if_pos cl]
      simp (maxSteps := 3000000) only [go_sem, ↓reduceIte, decide_eq_true cl]
      refine Cal.mk (r33Do_v (b := b) (rest := rest) put_box_same h0 h1 hn hn2) ?_
      rintro _ _ ⟨rfl, rfl⟩ -
      simp (maxSteps := 3000000) only [go_sem, ↓reduceIte, put_put]
      exact ⟨_, _, Wk.refl _, (hlt.put (b := b)).weak, rfl, rfl⟩
    · simp only [if_neg cl]
      simp (maxSteps := 3000000) only [go_sem, ↓reduceIte, decide_eq_false cl]
      refine Cal.mk (r33Do_v (b := b) (rest := rest) put_box_same h0 h1 hn hn2) ?_
      rintro _ _ ⟨rfl, rfl⟩ -
      simp (maxSteps := 3000000) only [go_sem, ↓reduceIte, put_put]
      exact ⟨_, _, Wk.refl _, (hlt.put (b := b)).weak, rfl, rfl⟩
end
end
section
open Go
def refC {R : Type} (kind codes : Int) (N : Neg R) (tk : Tk) (T : V) (tl : Tk) (last : List Opt) (r2 : List V) : List V :=
  .sc (.int .i64 N.s) :: .sc (.int .i64 N.left) :: .sc (.int .i64 N.at_) :: .sc (.int .i64 kind) :: .sc (.int .u8 codes) :: .sc (.int .u8 N.id) :: .sl tk (bs N.req) :: .sc (.int .i64 N.naks) :: T :: .sl tl (opts last) :: r2
structure RefI {R : Type} (SI : Nat → St → R → V → List Opt → List V → Prop) (bx : List Nat) (kind codes : Int) (n k : Nat) (st : St) (N : Neg R) : Prop where
  ex : ∃ tk T tl last r2, st.box n = some (refC kind codes N tk T tl last r2) ∧ SI k st N.r T last r2
  nn : n ∉ bx
  l0 : 0 ≤ N.left
  l1 : N.left ≤ 10
  i0 : 0 ≤ N.id
  i1 : N.id < 256
  a0 : 0 ≤ N.naks
  a1 : N.naks ≤ k
  rb : IsB N.req
  rl : N.req.length ≤ 1000000
structure RefR {R : Type} (U : Rul R) (SI : Nat → St → R → V → List Opt → List V → Prop) (bx : List Nat) (kind codes : Int) (n : Nat) : Prop where
  req : ∀ (k : Nat) (st : St) (N : Neg R), RefI SI bx kind codes n k st N → VCalls Tryz.prog 80 [ptrV n] st fun x s => x = .sl .no (opts (U.request N.r)) ∧ st = s
  reqG : ∀ (k : Nat) (st : St) (N : Neg R), RefI SI bx kind codes n k st N → GoodO (U.request N.r) ∧ (U.request N.r).length ≤ 100
  judge : ∀ (k : Nat) (st : St) (N : Neg R) (l : List Opt) (tk : Tk), RefI SI bx kind codes n k st N → k ≤ 1000000000 → GoodO l → l.length ≤ 1000000 →
    VCalls Tryz.prog 90 [ptrV n, .sl tk (opts l)] st fun x s => (∃ t2, x = .tup [.sc (.int .u8 (U.judge N.r l).2.1), .sl t2 (opts (U.judge N.r l).2.2)]) ∧ RefI SI bx kind codes n (k + 1) s { N with r := (U.judge N.r l).1 } ∧ Tn (n :: bx) st s
  judgeG : ∀ (k : Nat) (st : St) (N : Neg R) (l : List Opt), RefI SI bx kind codes n k st N → GoodO l → l.length ≤ 1000000 → 0 ≤ (U.judge N.r l).2.1 ∧ (U.judge N.r l).2.1 < 256 ∧ GoodO (U.judge N.r l).2.2 ∧ (U.judge N.r l).2.2.length ≤ 1000000
  agreed : ∀ (k : Nat) (st : St) (r : R) (T : V) (last l : List Opt) (r2 : List V), SI k st r T last r2 → GoodO l → l.length ≤ 1000000 → SI k st (U.agreed r l) T l r2
  naked : ∀ (k : Nat) (st : St) (N : Neg R) (l : List Opt) (tk : Tk), RefI SI bx kind codes n k st N → k ≤ 1000000000 → GoodO l → l.length ≤ 1000000 →
    VCalls Tryz.prog 92 [ptrV n, .sl tk (opts l)] st fun x s => x = .tup [] ∧ RefI SI bx kind codes n (k + 1) s { N with r := U.naked N.r l } ∧ Tn (n :: bx) st s
  rejected : ∀ (k : Nat) (st : St) (N : Neg R) (l : List Opt) (tk : Tk), RefI SI bx kind codes n k st N → k ≤ 1000000000 → GoodO l → l.length ≤ 1000000 →
    VCalls Tryz.prog 93 [ptrV n, .sl tk (opts l)] st fun x s => x = .sc (.bool (U.rejected N.r l).2) ∧ RefI SI bx kind codes n k s { N with r := (U.rejected N.r l).1 } ∧ Tn (n :: bx) st s
  stay : ∀ (k : Nat) (st s : St) (r : R) (T : V) (last : List Opt) (r2 : List V), SI k st r T last r2 → (∀ b cs, st.box b = some cs → b ∈ bx → s.box b = some cs) → st.sz ≤ s.sz → SI k s r T last r2
  more : ∀ (k : Nat) (st : St) (r : R) (T : V) (last : List Opt) (r2 : List V), SI k st r T last r2 → SI (k + 1) st r T last r2
  lt : ∀ (k : Nat) (st : St) (r : R) (T : V) (last : List Opt) (r2 : List V), SI k st r T last r2 → ∀ b ∈ bx, b < st.sz
section
variable {R : Type} {U : Rul R} {SI : Nat → St → R → V → List Opt → List V → Prop} {bx : List Nat} {kind codes : Int} {n k m : Nat} {st s s2 base : St} {N N' : Neg R}
theorem RefI.write (hU : RefR U SI bx kind codes n) (h : RefI SI bx kind codes n k st N) {N' : Neg R} {tk tl : Tk} {T : V} {last : List Opt} {r2 : List V} (hs : SI k st N.r T last r2) (hr : N'.r = N.r) (l0 : 0 ≤ N'.left) (l1 : N'.left ≤ 10) (i0 : 0 ≤ N'.id) (i1 : N'.id < 256) (a0 : 0 ≤ N'.naks) (a1 : N'.naks ≤ k) (rb : IsB N'.req) (rl : N'.req.length ≤ 1000000) :
    RefI SI bx kind codes n k (st.put n (refC kind codes N' tk T tl last r2)) N' :=
  ⟨⟨tk, T, tl, last, r2, put_box_same, by
    rw [hr]
    refine hU.stay k st _ _ _ _ _ hs (fun b cs hb hm => ?_) (by simp only [put_sz]; omega)
    rw [put_box_ne (fun e => h.nn (by subst e; exact hm))]; exact hb⟩, h.nn, l0, l1, i0, i1, a0, a1, rb, rl⟩
theorem RefI.tnx (hU : RefR U SI bx kind codes n) (h : RefI SI bx kind codes n k st N) {cs : List Nat} (T : Tn cs st s) (hd : ∀ b ∈ n :: bx, b ∉ cs) : RefI SI bx kind codes n k s N :=
  ⟨by
    obtain ⟨tk, T0, tl, last, r2, hb, hs⟩ := h.ex
    exact ⟨tk, T0, tl, last, r2, T.box n _ hb (hd n (by simp)), hU.stay k st s _ _ _ _ hs (fun b cs hb hm => T.box b cs hb (hd b (by simp [hm]))) T.sz⟩, h.nn, h.l0, h.l1, h.i0, h.i1, h.a0, h.a1, h.rb, h.rl⟩
theorem RefI.tn (hU : RefR U SI bx kind codes n) (h : RefI SI bx kind codes n k st N) (T : Tn [] st s) : RefI SI bx kind codes n k s N := h.tnx hU T (by simp)
theorem RefI.lt (hU : RefR U SI bx kind codes n) (h : RefI SI bx kind codes n k st N) (hs : st.Lt) : ∀ b ∈ n :: bx, b < st.sz := fun b hb => by
  obtain ⟨tk, T0, tl, last, r2, hx, hi⟩ := h.ex
  rcases List.mem_cons.1 hb with rfl | hb
  · exact hs.box b _ hx
  · exact hU.lt k st _ _ _ _ hi b hb
theorem RefI.more (hU : RefR U SI bx kind codes n) (h : RefI SI bx kind codes n k st N) : RefI SI bx kind codes n (k + 1) st N :=
  ⟨by
    obtain ⟨tk, T0, tl, last, r2, hb, hs⟩ := h.ex
    exact ⟨tk, T0, tl, last, r2, hb, hU.more k st _ _ _ _ hs⟩, h.nn, h.l0, h.l1, h.i0, h.i1, h.a0, by have := h.a1; omega, h.rb, h.rl⟩
theorem RefI.app (hU : RefR U SI bx kind codes n) (h : RefI SI bx kind codes n k s N) {x r : V} {l : List V} (RO3 : RO 3 base.bare s x l) (K : AppSt s x s2 r) : RefI SI bx kind codes n k s2 N :=
  ⟨by
    obtain ⟨tk, T0, tl, last, r2, hb, hs⟩ := h.ex
    exact ⟨tk, T0, tl, last, r2, by rw [K.box]; exact hb, hU.stay k s s2 _ _ _ _ hs (fun b cs hb hm => by rw [K.box]; exact hb) K.sz⟩, h.nn, h.l0, h.l1, h.i0, h.i1, h.a0, h.a1, h.rb, h.rl⟩
def ROut (st : St) (SI : Nat → St → R → V → List Opt → List V → Prop) (bx : List Nat) (kind codes : Int) (n k m : Nat) (X : Neg R × Nout) (r : V) (s : St) : Prop :=
  ∃ tv, r = .agg [.sl tv (ctls X.2.P), .sc (.bool X.2.up), .sc (.bool X.2.down), .sc (.bool X.2.over)] ∧ RO 3 st.bare s (.sl tv (ctls X.2.P)) (ctls X.2.P) ∧ RefI SI bx kind codes n k s X.1 ∧ Tn (n :: bx) st s ∧ X.2.P.length ≤ m
structure Dn (st : St) (SI : Nat → St → R → V → List Opt → List V → Prop) (bx : List Nat) (kind codes : Int) (n k m : Nat) (N : Neg R) (P : List Ctl) (t : Tk) (s : St) : Prop where
  row : RO 3 st.bare s (.sl t (ctls P)) (ctls P)
  neg : RefI SI bx kind codes n k s N
  tn : Tn (n :: bx) st s
  len : P.length ≤ m
theorem Dn.app (hU : RefR U SI bx kind codes n) (hlt : st.Lt) {P : List Ctl} {t : Tk} (D : Dn st SI bx kind codes n k m N P t s) (hm : m ≤ 100) (o : Ctl) {d : Option Nat} {rest : List VO} {kk : Kt} {A : Nat → V} (hk : ∀ t2 s2, Dn st SI bx kind codes n k (m + 1) N (P ++ [o]) t2 s2 → Ops Tryz.prog rest kk (putV A d (.sl t2 (ctls (P ++ [o])))) s2) :
    App Tryz.prog 3 32 (.sl t (ctls P)) (.sl .no [.agg [.sc (.int .u8 o.code), .sc (.int .u8 o.id), .sl .no (bs o.data)]]) d [] rest kk A s := by
  have := D.len
  refine App.mk (bytes := 32) (l := ctls P) (ys := ctls [o]) D.row.own (allSz_ctls _) (by simp only [ctls_len, List.length_cons, List.length_nil]; unfold maxLen; omega) (by simp only [ctls_len, List.length_cons, List.length_nil]; omega) ?_
  intro r2 s2 k1 k2
  have R2 := D.row.app k1 k2
  rw [ctls_append] at R2
  obtain ⟨t2, rfl⟩ := R2.sl
  exact ⟨trivial, hk t2 s2 ⟨R2, D.neg.app hU D.row k2, D.tn.app k2 (fun g k l e => D.row.tok g k l e) hlt, by simp only [List.length_append, List.length_cons, List.length_nil]; omega⟩⟩
theorem Dn.tn0 (hU : RefR U SI bx kind codes n) {P : List Ctl} {t : Tk} (D : Dn st SI bx kind codes n k m N P t s) (T : Tn [] s s2) : Dn st SI bx kind codes n k m N P t s2 :=
  ⟨D.row.tn T (by simp), D.neg.tn hU T, D.tn.trans (T.wide (by simp)), D.len⟩
theorem Dn.le {m' : Nat} {P : List Ctl} {t : Tk} (D : Dn st SI bx kind codes n k m N P t s) (h : m ≤ m') : Dn st SI bx kind codes n k m' N P t s := ⟨D.row, D.neg, D.tn, Nat.le_trans D.len h⟩
theorem Dn.write (hU : RefR U SI bx kind codes n) (hlt : st.Lt) {P : List Ctl} {t : Tk} (D : Dn st SI bx kind codes n k m N P t s) {N' : Neg R} {tk tl : Tk} {T : V} {last : List Opt} {r2 : List V} (hs : SI k s N.r T last r2) (hr : N'.r = N.r) (hl : N'.left = N.left) (i0 : 0 ≤ N'.id) (i1 : N'.id < 256) (a0 : 0 ≤ N'.naks) (a1 : N'.naks ≤ k) (rb : IsB N'.req) (rl : N'.req.length ≤ 1000000) :
    Dn st SI bx kind codes n k m N' P t (s.put n (refC kind codes N' tk T tl last r2)) :=
  ⟨D.row.tn ((Tn.refl (bx := [n]) D.row.lt).put (.inl (by simp)) D.row.lt) (fun _ _ => rfl), D.neg.write hU hs hr (by rw [hl]; exact D.neg.l0) (by rw [hl]; exact D.neg.l1) i0 i1 a0 a1 rb rl, D.tn.put (.inl (by simp)) hlt, D.len⟩
set_option maxRecDepth 100000 in
theorem r15Build_v {p : Ctl} {tk : Tk} (hp : p.Good) : VCalls Tryz.prog 82 [.agg [.sc (.int .u8 p.code), .sc (.int .u8 p.id), .sl tk (bs p.data)]] st fun r s => ∃ t, r = .sl t (bs (buildC p)) ∧ RO 1 st s (.sl t (bs (buildC p))) (bs (buildC p)) := by
  refine vcalls_enterq pc82 (Nat.le_of_ble_eq_true rfl) rfl fun hwf hok => ?_
  show Run _ Pc82.body (.fin (finP Pc82.res _)) _ _
  unfold Pc82 zn zo
  have hlt := hwf.lt
  have hl := hp.l
  simp (maxSteps := 3000000) only [go_sem, ↓reduceIte]
  refine Cal.mk (r15First_v (by omega)) ?_
  rintro _ _ ⟨rfl, rfl⟩ -
  rw [show ((65531 : Int)).toNat = 65531 from rfl]
  have hD : (p.data.take 65531).length ≤ 65531 := by simp only [List.length_take]; omega
  have hbc : buildC p = [p.code, p.id] ++ beL (((p.data.take 65531).length : Int) + 4) 2 ++ p.data.take 65531 := rfl
  rw [hbc]
  generalize p.data.take 65531 = X at hD ⊢
  have e1 : (4 + (X.length : Int)) % 18446744073709551616 = (X.length : Int) + 4 := by omega
  simp (maxSteps := 3000000) only [go_sem, ↓reduceIte]
  refine Bo.own (by simp [allLen, V.cells]) ?_
  intro g hg
  have W1 : st.weak (st.use g 2) := weak_use hlt.weak hg
  have L1 : (st.use g 2).Lt := hlt.use
  simp (maxSteps := 3000000) only [go_sem, ↓reduceIte, bs_len, e1]
  repeat (apply And.intro; focus (first | omega | (simp; done)))
  generalize st.use g 2 = s1 at W1 L1 ⊢
  refine Cal.mk (rPut_v (L := [p.code, p.id]) (tk := .own g 1) (n := (X.length : Int) + 4) (size := 2) (by intro y hy; simp only [List.mem_cons, List.not_mem_nil, or_false] at hy; have := hp.c0; have := hp.c1; have := hp.i0; have := hp.i1; omega) (by simp) (by omega) (by omega)) ?_
  rintro r2 s2 ⟨o2, n2⟩ -
  rw [if_neg (by decide)] at o2
  have R2 : RO 1 s1 s2 r2 (bs ([p.code, p.id] ++ beL ((X.length : Int) + 4) 2)) := ⟨o2, n2.weak, n2.lt, n2.tok⟩
  obtain ⟨t2, rfl⟩ := R2.sl
  simp (maxSteps := 3000000) only [go_sem, ↓reduceIte]
  refine App.mk (bytes := 1) (ys := bs X) R2.own (allSz_bs _) (by simp only [bs_len, List.length_append, List.length_cons, List.length_nil, beL_len]; unfold maxLen; omega) (by simp only [bs_len, List.length_append, List.length_cons, List.length_nil, beL_len]; omega) ?_
  intro r3 s3 k3 k4
  have R3 := R2.app k3 k4
  rw [bs_append] at R3
  obtain ⟨t3, rfl⟩ := R3.sl
  simp (maxSteps := 3000000) only [go_sem, ↓reduceIte]
  exact ⟨_, _, Wk.refl _, R3.lt.weak, t3, rfl, R3.own, weak_tr W1 R3.weak, R3.lt, fun g k l e => Nat.le_trans W1.sz (R3.tok g k l e)⟩
set_option maxRecDepth 100000 in
set_option maxHeartbeats 16000000 in
theorem r36Done_v (hU : RefR U SI bx kind codes n) (h : RefI SI bx kind codes n k st N) {act : Int} (ha : 0 ≤ act ∧ act < 8192) {again : Bool} {p back : Ctl} (hp : p.Good) {tp tb : Tk} :
    VCalls Tryz.prog 59 [ptrV n, .sc (.int .i64 act), .sc (.bool again), .agg [.sc (.int .u8 p.code), .sc (.int .u8 p.id), .sl tp (bs p.data)], .agg [.sc (.int .u8 back.code), .sc (.int .u8 back.id), .sl tb (bs back.data)]] st
      (ROut st SI bx kind codes n k 5 (N.done U act again p back)) := by
  have B := fun (n : Nat) (hn : n < 16) (st : St) => r33Bit_v (st := st) ha.1 (show act < 65536 by omega) hn
  have B0 : ∀ st, VCalls Tryz.prog 78 [.sc (.int .i64 act), .sc (.int .i64 0)] st fun r s' => r = .sc (.bool (hasA act 1)) ∧ st = s' := B 0 (by decide)
  have B1 : ∀ st, VCalls Tryz.prog 78 [.sc (.int .i64 act), .sc (.int .i64 1)] st fun r s' => r = .sc (.bool (hasA act 2)) ∧ st = s' := B 1 (by decide)
  have B3 : ∀ st, VCalls Tryz.prog 78 [.sc (.int .i64 act), .sc (.int .i64 3)] st fun r s' => r = .sc (.bool (hasA act 8)) ∧ st = s' := B 3 (by decide)
  have B6 : ∀ st, VCalls Tryz.prog 78 [.sc (.int .i64 act), .sc (.int .i64 6)] st fun r s' => r = .sc (.bool (hasA act 64)) ∧ st = s' := B 6 (by decide)
  have B7 : ∀ st, VCalls Tryz.prog 78 [.sc (.int .i64 act), .sc (.int .i64 7)] st fun r s' => r = .sc (.bool (hasA act 128)) ∧ st = s' := B 7 (by decide)
  have B8 : ∀ st, VCalls Tryz.prog 78 [.sc (.int .i64 act), .sc (.int .i64 8)] st fun r s' => r = .sc (.bool (hasA act 256)) ∧ st = s' := B 8 (by decide)
  have B9 : ∀ st, VCalls Tryz.prog 78 [.sc (.int .i64 act), .sc (.int .i64 9)] st fun r s' => r = .sc (.bool (hasA act 512)) ∧ st = s' := B 9 (by decide)
  have B10 : ∀ st, VCalls Tryz.prog 78 [.sc (.int .i64 act), .sc (.int .i64 10)] st fun r s' => r = .sc (.bool (hasA act 1024)) ∧ st = s' := B 10 (by decide)
  have B11 : ∀ st, VCalls Tryz.prog 78 [.sc (.int .i64 act), .sc (.int .i64 11)] st fun r s' => r = .sc (.bool (hasA act 2048)) ∧ st = s' := B 11 (by decide)
  have e384 : hasA act 384 = (hasA act 128 || hasA act 256) := by
    obtain ⟨a, rfl⟩ : ∃ a : Nat, act = a := ⟨act.toNat, by omega⟩
    exact has_or (l := 128) (m := 256) (by omega) (by decide) (by decide)
  clear B
  refine vcalls_enterq pc59 (Nat.le_of_ble_eq_true rfl) rfl fun hwf hok => ?_
  show Run _ Pc59.body (.fin (finP Pc59.res _)) _ _
  unfold Pc59 zg zn zo
  have hlt := hwf.lt
  obtain ⟨A1, hA1⟩ : ∃ A, A = N.d1 U act again := ⟨_, rfl⟩
  obtain ⟨P2, hP2⟩ : ∃ P, P = Neg.d2 act back A1.2 := ⟨_, rfl⟩
  obtain ⟨A3, hA3⟩ : ∃ A, A = A1.1.d3 act P2 := ⟨_, rfl⟩
  obtain ⟨P4, hP4⟩ : ∃ P, P = Neg.d4 act p A3.2 := ⟨_, rfl⟩
  obtain ⟨A5, hA5⟩ : ∃ A, A = A3.1.d5 act p P4 := ⟨_, rfl⟩
  have hX : N.done U act again p back = (A5.1.d6 act, ⟨A5.2, hasA act 1, hasA act 2, hasA act 8⟩) := by rw [hA5, hP4, hA3, hP2, hA1]; rfl
  rw [hX]
  simp (maxSteps := 3000000) only [go_sem, ↓reduceIte]
  refine Cal.mk (B0 _) ?_
  rintro _ _ ⟨rfl, rfl⟩ -
  simp (maxSteps := 3000000) only [go_sem, ↓reduceIte]
  refine Cal.mk (B1 _) ?_
  rintro _ _ ⟨rfl, rfl⟩ -
  simp (maxSteps := 3000000) only [go_sem, ↓reduceIte]
  refine Cal.mk (B3 _) ?_
  rintro _ _ ⟨rfl, rfl⟩ -
  generalize hasA act 1 = up
  generalize hasA act 8 = ov
  generalize hdn : hasA act 2 = dn
  simp (maxSteps := 3000000) only [go_sem, ↓reduceIte]
  refine Cal.mk (B6 _) ?_
  rintro _ _ ⟨rfl, rfl⟩ -
  have D0 : Dn st SI bx kind codes n k 0 N [] .nil st := ⟨RO.nil (bare_weak (Nat.le_refl _)) hlt, h, Tn.refl hlt, by simp⟩
  simp (maxSteps := 3000000) only [go_sem, ↓reduceIte]
  refine If.cut [11, 12, 22, 23, 24, 25, 26, 27, 28, 29, 30, 31, 32, 33, 34, 35, 36, 37, 38, 39, 40, 41, 42, 43, 44, 45, 46, 47, 48, 49, 50, 51, 52, 53, 54, 55, 56, 57, 58] (fun B s => ∃ t, B 11 = .agg [.sl t (ctls A1.2), .sc (.bool up), .sc (.bool dn), .sc (.bool ov)] ∧ Dn st SI bx kind codes n k 1 A1.1 A1.2 t s) rfl ?_ ?_
  · cases h64 : hasA act 64 with
    | false =>
      have e : A1 = (N, []) := by rw [hA1, Neg.d1, if_neg (by rw [h64]; simp)]
      rw [e]
      simp (maxSteps := 3000000) only [go_sem, ↓reduceIte, at_cutk_n]
      exact ⟨.nil, rfl, D0.le (by omega)⟩
    | true =>
      have e : A1 = (N.asked U again, [⟨1, (N.asked U again).id, buildO (U.request N.r)⟩]) := by rw [hA1, Neg.d1, if_pos h64]
      rw [e]
      obtain ⟨gG, gl⟩ := hU.reqG k st N h
      obtain ⟨tk, T0, tl, last, r2, hb, hs⟩ := h.ex
      unfold refC at hb
      have hbB := buildO_isB gG
      have hbl := buildO_len (U.request N.r)
      simp (maxSteps := 3000000) only [go_sem, ↓reduceIte]
      refine Cal.mk (hU.req k st N h) ?_
      rintro _ _ ⟨rfl, rfl⟩ -
      simp (maxSteps := 3000000) only [go_sem, ↓reduceIte]
      refine Cal.mk (r10Build_v gG (by omega)) ?_
      rintro _ _ ⟨rfl, rfl⟩ -
      have hask : N.asked U again = { N with id := if again = true ∧ buildO (U.request N.r) = N.req then N.id else (N.id + 1) % 256, req := buildO (U.request N.r) } := rfl
      rw [hask]
      generalize buildO (U.request N.r) = X at hbB hbl ⊢
      have hinj := strOf_inj hbB h.rb
      have fin : ∀ (id : Int), 0 ≤ id → id < 256 → (if again = true ∧ X = N.req then N.id else (N.id + 1) % 256) = id → ∀ {d : Option Nat} {rest : List VO} {kk : Kt} {A : Nat → V}, (∀ t2 s2, Dn st SI bx kind codes n k 1 { N with id := id, req := X } [⟨1, id, X⟩] t2 s2 → Ops Tryz.prog rest kk (putV A d (.sl t2 (ctls [⟨1, id, X⟩]))) s2) → App Tryz.prog 3 32 (.sl .nil []) (.sl .no [.agg [.sc (.int .u8 1), .sc (.int .u8 id), .sl .no (bs X)]]) d [] rest kk A (st.put n (refC kind codes { N with id := id, req := X } .no T0 tl last r2)) := fun id i0 i1 _ {d rest kk A} hk =>
        Dn.app (P := []) hU hlt (D0.write hU hlt (N' := { N with id := id, req := X }) (tk := .no) (tl := tl) hs rfl rfl i0 i1 h.a0 h.a1 hbB (by simp only; omega)) (by omega) ⟨1, id, X⟩ hk
      have hi := h.i0
      have hi2 := h.i1
      by_cases c1 : again = true ∧ X = N.req
      · rw [if_pos c1]
        have Hc : (if again = true ∧ X = N.req then N.id else (N.id + 1) % 256) = N.id := if_pos c1
        obtain ⟨rfl, c2⟩ := c1
        have e1 : decide (strOf X ≠ strOf N.req) = false := by rw [c2]; simp
        simp (maxSteps := 3000000) only [go_sem, ↓reduceIte, hb, u8sOf_bsN, e1, put_box_same]
        refine fin N.id hi hi2 Hc fun t2 s2 D2 => ?_
        simp (maxSteps := 3000000) only [go_sem, ↓reduceIte, at_cutk_n]
        exact ⟨t2, rfl, D2⟩
      · rw [if_neg c1]
        have Hc : (if again = true ∧ X = N.req then N.id else (N.id + 1) % 256) = (N.id + 1) % 256 := if_neg c1
        have hcond : again = false ∨ again = true ∧ decide (strOf X ≠ strOf N.req) = true := by
          cases again
          · exact .inl rfl
          · exact .inr ⟨rfl, decide_eq_true (fun e => c1 ⟨rfl, hinj.1 e⟩)⟩
        rcases hcond with rfl | ⟨rfl, e1⟩
        · simp (maxSteps := 3000000) only [go_sem, ↓reduceIte, hb, put_box_same, put_put]
          refine fin ((N.id + 1) % 256) (by omega) (by omega) Hc fun t2 s2 D2 => ?_
          simp (maxSteps := 3000000) only [go_sem, ↓reduceIte, at_cutk_n]
          exact ⟨t2, rfl, D2⟩
        · simp (maxSteps := 3000000) only [go_sem, ↓reduceIte, hb, u8sOf_bsN, e1, put_box_same, put_put]
          refine fin ((N.id + 1) % 256) (by omega) (by omega) Hc fun t2 s2 D2 => ?_
          simp (maxSteps := 3000000) only [go_sem, ↓reduceIte, at_cutk_n]
          exact ⟨t2, rfl, D2⟩
  · rintro B1 s1 ⟨t1, h11, D1⟩
    clear hA1
    obtain ⟨N1, P1⟩ := A1
    simp only at D1 h11 hP2 hA3
    simp (maxSteps := 3000000) only [go_sem, ↓reduceIte]
    refine Cal.mk (B7 _) ?_
    rintro _ _ ⟨rfl, rfl⟩ -
    simp (maxSteps := 3000000) only [go_sem, ↓reduceIte]
    refine Grd.cut [62, 63, 64] (fun B => B 64 = .sc (.bool (hasA act 384))) rfl ?_ ?_
    · rw [e384]
      cases hasA act 128 with
      | true => simp (maxSteps := 3000000) only [go_sem, ↓reduceIte, at_cut, Bool.true_or]
      | false =>
        simp (maxSteps := 3000000) only [go_sem, ↓reduceIte]
        refine Cal.mk (B8 _) ?_
        rintro _ _ ⟨rfl, rfl⟩ -
        simp (maxSteps := 3000000) only [go_sem, ↓reduceIte, at_cut]
    intro B2 h64
    simp (maxSteps := 3000000) only [go_sem, ↓reduceIte, h64]
    refine If.cut [11, 65, 66, 67, 68, 69, 70] (fun B s => ∃ t, B 11 = .agg [.sl t (ctls P2), .sc (.bool up), .sc (.bool dn), .sc (.bool ov)] ∧ Dn st SI bx kind codes n k 2 N1 P2 t s) rfl ?_ ?_
    · cases h384 : hasA act 384 with
      | false =>
        have e : P2 = P1 := by rw [hP2, Neg.d2, if_neg (by rw [h384]; simp)]
        rw [e]
        simp (maxSteps := 3000000) only [go_sem, ↓reduceIte, at_cutk_n, h11]
        exact ⟨t1, rfl, D1.le (by omega)⟩
      | true =>
        have e : P2 = P1 ++ [back] := by rw [hP2, Neg.d2, if_pos h384]
        rw [e]
        simp (maxSteps := 3000000) only [go_sem, ↓reduceIte, h11]
        refine D1.app hU hlt (by omega) back fun t2 s2 D2 => ?_
        simp (maxSteps := 3000000) only [go_sem, ↓reduceIte, at_cutk_n, h11]
        exact ⟨t2, rfl, D2⟩
    rintro B3 s3 ⟨t3, h11, D2⟩
    clear hP2
    simp (maxSteps := 3000000) only [go_sem, ↓reduceIte]
    refine Cal.mk (B9 _) ?_
    rintro _ _ ⟨rfl, rfl⟩ -
    simp (maxSteps := 3000000) only [go_sem, ↓reduceIte]
    refine If.cut [11, 73, 74, 75, 76, 77, 78, 79, 80, 81, 82, 83, 84, 85, 86, 87, 88, 89] (fun B s => ∃ t, B 11 = .agg [.sl t (ctls A3.2), .sc (.bool up), .sc (.bool dn), .sc (.bool ov)] ∧ Dn st SI bx kind codes n k 3 A3.1 A3.2 t s) rfl ?_ ?_
    · cases h512 : hasA act 512 with
      | false =>
        have e : A3 = (N1, P2) := by rw [hA3, Neg.d3, if_neg (by rw [h512]; simp)]
        rw [e]
        simp (maxSteps := 3000000) only [go_sem, ↓reduceIte, at_cutk_n, h11]
        exact ⟨t3, rfl, D2.le (by omega)⟩
      | true =>
        have e : A3 = (N1.bump, P2 ++ [⟨5, N1.bump.id, []⟩]) := by rw [hA3, Neg.d3, if_pos h512]
        rw [e]
        obtain ⟨tk, T0, tl, last, r2, hb, hs⟩ := D2.neg.ex
        unfold refC at hb
        have hW := D2.write hU hlt (N' := N1.bump) (tk := tk) (tl := tl) hs rfl rfl (by simp only [Neg.bump]; omega) (by simp only [Neg.bump]; omega) D2.neg.a0 D2.neg.a1 D2.neg.rb D2.neg.rl
        simp (maxSteps := 3000000) only [go_sem, ↓reduceIte, hb, h11, put_box_same]
        refine hW.app hU hlt (by omega) ⟨5, N1.bump.id, []⟩ fun t2 s2 D3 => ?_
        simp (maxSteps := 3000000) only [go_sem, ↓reduceIte, at_cutk_n, h11]
        exact ⟨t2, rfl, D3⟩
    rintro B4 s4 ⟨t4, h11, D3⟩
    clear hA3
    obtain ⟨N3, P3⟩ := A3
    simp only at D3 h11 hP4 hA5
    simp (maxSteps := 3000000) only [go_sem, ↓reduceIte]
    refine Cal.mk (B10 _) ?_
    rintro _ _ ⟨rfl, rfl⟩ -
    simp (maxSteps := 3000000) only [go_sem, ↓reduceIte]
    refine If.cut [11, 92, 93, 94, 95, 96, 97, 98, 99] (fun B s => ∃ t, B 11 = .agg [.sl t (ctls P4), .sc (.bool up), .sc (.bool dn), .sc (.bool ov)] ∧ Dn st SI bx kind codes n k 4 N3 P4 t s) rfl ?_ ?_
    · cases h1024 : hasA act 1024 with
      | false =>
        have e : P4 = P3 := by rw [hP4, Neg.d4, if_neg (by rw [h1024]; simp)]
        rw [e]
        simp (maxSteps := 3000000) only [go_sem, ↓reduceIte, at_cutk_n, h11]
        exact ⟨t4, rfl, D3.le (by omega)⟩
      | true =>
        have e : P4 = P3 ++ [⟨6, p.id, []⟩] := by rw [hP4, Neg.d4, if_pos h1024]
        rw [e]
        simp (maxSteps := 3000000) only [go_sem, ↓reduceIte, h11]
        refine D3.app hU hlt (by omega) ⟨6, p.id, []⟩ fun t2 s2 D4 => ?_
        simp (maxSteps := 3000000) only [go_sem, ↓reduceIte, at_cutk_n, h11]
        exact ⟨t2, rfl, D4⟩
    rintro B5 s5 ⟨t5, h11, D4⟩
    clear hP4
    simp (maxSteps := 3000000) only [go_sem, ↓reduceIte]
    refine Cal.mk (B11 _) ?_
    rintro _ _ ⟨rfl, rfl⟩ -
    simp (maxSteps := 3000000) only [go_sem, ↓reduceIte]
    refine If.cut [11, 102, 103, 104, 105, 106, 107, 108, 109, 110, 111, 112, 113, 114, 115, 116, 117, 118, 119, 120, 121] (fun B s => ∃ t, B 11 = .agg [.sl t (ctls A5.2), .sc (.bool up), .sc (.bool dn), .sc (.bool ov)] ∧ Dn st SI bx kind codes n k 5 A5.1 A5.2 t s) rfl ?_ ?_
    · cases h2048 : hasA act 2048 with
      | false =>
        have e : A5 = (N3, P4) := by rw [hA5, Neg.d5, if_neg (by rw [h2048]; simp)]
        rw [e]
        simp (maxSteps := 3000000) only [go_sem, ↓reduceIte, at_cutk_n, h11]
        exact ⟨t5, rfl, D4.le (by omega)⟩
      | true =>
        have e : A5 = (N3.bump, P4 ++ [rejC N3.bump.id p 1400]) := by rw [hA5, Neg.d5, if_pos h2048]
        rw [e]
        obtain ⟨tk, T0, tl, last, r2, hb, hs⟩ := D4.neg.ex
        unfold refC at hb
        have hW := D4.write hU hlt (N' := N3.bump) (tk := tk) (tl := tl) hs rfl rfl (by simp only [Neg.bump]; omega) (by simp only [Neg.bump]; omega) D4.neg.a0 D4.neg.a1 D4.neg.rb D4.neg.rl
        have hbW : (s5.put n (refC kind codes N3.bump tk T0 tl last r2)).box n = some (refC kind codes N3.bump tk T0 tl last r2) := put_box_same
        obtain ⟨s6, hs6⟩ : ∃ s6, s6 = s5.put n (refC kind codes N3.bump tk T0 tl last r2) := ⟨_, rfl⟩
        rw [← hs6] at hW hbW
        unfold refC at hs6 hbW
        simp (maxSteps := 3000000) only [go_sem, ↓reduceIte, hb, h11, put_box_same]
        generalize hq6 : s5.put n _ = q6
        obtain rfl : q6 = s6 := by rw [hs6, ← hq6]; rfl
        refine Cal.mk (r15Build_v hp) ?_
        rintro r7 s7 ⟨t7, rfl, R7⟩ -
        have hD7 := hW.tn0 hU (Tn.ofWeak (bx := []) R7.weak R7.lt)
        have hb7 := (R7.weak.box n _ hbW).1
        have hbl : (buildC p).length ≤ 65535 := buildC_len p
        rw [show N3.bump.id = (N3.id + 1) % 256 from rfl] at hb7
        simp (maxSteps := 3000000) only [go_sem, ↓reduceIte, hb7]
        refine Cal.mk (r15First_v (L := buildC p) (by omega)) ?_
        rintro _ _ ⟨rfl, rfl⟩ -
        simp (maxSteps := 3000000) only [go_sem, ↓reduceIte, hb7]
        refine hD7.app hU hlt (by omega) (rejC N3.bump.id p 1400) fun t2 s2 D5 => ?_
        simp (maxSteps := 3000000) only [go_sem, ↓reduceIte, at_cutk_n, h11]
        exact ⟨t2, rfl, D5⟩
    rintro B6 s6 ⟨t6, h11, D5⟩
    clear hA5
    obtain ⟨N5, P5⟩ := A5
    simp only at D5 h11
    have hd6 : N5.d6 act = if dn = true then { N5 with naks := 0 } else N5 := by rw [Neg.d6, hdn]
    rw [hd6]
    cases dn with
    | false =>
      simp (maxSteps := 3000000) only [go_sem, ↓reduceIte, h11]
      exact ⟨_, _, Wk.refl _, D5.row.lt.weak, t6, rfl, D5.row, D5.neg, D5.tn, D5.len⟩
    | true =>
      obtain ⟨tk, T0, tl, last, r2, hb, hs⟩ := D5.neg.ex
      unfold refC at hb
      have hW := D5.write hU hlt (N' := { N5 with naks := 0 }) (tk := tk) (tl := tl) hs rfl rfl D5.neg.i0 D5.neg.i1 (Int.le_refl 0) (Int.natCast_nonneg k) D5.neg.rb D5.neg.rl
      simp (maxSteps := 3000000) only [go_sem, ↓reduceIte, hb, h11]
      exact ⟨_, _, Wk.refl _, hW.row.lt.weak, t6, rfl, hW.row, hW.neg, hW.tn, hW.len⟩
end
end
section
open Go
section
variable {R : Type} {U : Rul R} {SI : Nat → St → R → V → List Opt → List V → Prop} {bx : List Nat} {kind codes : Int} {n k m : Nat} {st s s2 base : St} {N N' : Neg R}
theorem r36Do_v (hU : RefR U SI bx kind codes n) (h : RefI SI bx kind codes n k st N) {now e : Int} (hn : 0 ≤ now) (hn2 : now ≤ 1000000000) :
    VCalls Tryz.prog 73 [ptrV n, .sc (.int .i64 now), .sc (.int .i64 e)] st fun r s => r = .sc (.int .i64 (stepF N.s e).2) ∧ RefI SI bx kind codes n k s (N.step now e) ∧ Tn (n :: bx) st s := by
  obtain ⟨tk, T0, tl, last, r2, hb, hs⟩ := h.ex
  refine VCalls.wf fun hwf => (r33Do_v (e := e) hb h.l0 h.l1 hn hn2).mono fun r s ⟨e1, e2⟩ => ⟨e1, ?_, ?_⟩
  · have hc := cntA_rng (act := (stepF N.s e).2) h.l0 h.l1
    rw [e2]
    exact h.write hU (N' := N.step now e) (tk := tk) (tl := tl) hs rfl hc.1 hc.2 h.i0 h.i1 h.a0 h.a1 h.rb h.rl
  · rw [e2]
    exact (Tn.refl hwf.lt).put (.inl (by simp)) hwf.lt
theorem tickA_rng {a left t now : Int} (h0 : 0 ≤ left) (h1 : left ≤ 10) : 0 ≤ (tickA a left t now).2.1 ∧ (tickA a left t now).2.1 ≤ 10 ∧ 0 ≤ (tickA a left t now).2.2.2 ∧ (tickA a left t now).2.2.2 < 8192 := by
  unfold tickA
  split
  · exact ⟨h0, h1, Int.le_refl 0, (show (0 : Int) < 8192 by decide)⟩
  · have := cntA_rng (act := (stepF a (if 0 < left then 4 else 5)).2) h0 h1
    exact ⟨this.1, this.2, acts_rng _ _⟩
theorem r36MTick_v (hU : RefR U SI bx kind codes n) (h : RefI SI bx kind codes n k st N) {now : Int} (hn : 0 ≤ now) (hn2 : now ≤ 1000000000) :
    VCalls Tryz.prog 60 [ptrV n, .sc (.int .i64 now)] st fun r s => r = .sc (.int .i64 (tickA N.s N.left N.at_ now).2.2.2) ∧ RefI SI bx kind codes n k s { N with s := (tickA N.s N.left N.at_ now).1, left := (tickA N.s N.left N.at_ now).2.1, at_ := (tickA N.s N.left N.at_ now).2.2.1 } ∧ Tn (n :: bx) st s := by
  obtain ⟨tk, T0, tl, last, r2, hb, hs⟩ := h.ex
  refine VCalls.wf fun hwf => (r33Tick_v hb h.l0 h.l1 hn hn2).mono fun r s ⟨e1, e2⟩ => ⟨e1, ?_, ?_⟩
  · have hc := tickA_rng (a := N.s) (t := N.at_) (now := now) h.l0 h.l1
    rw [e2]
    exact h.write hU (N' := { N with s := (tickA N.s N.left N.at_ now).1, left := (tickA N.s N.left N.at_ now).2.1, at_ := (tickA N.s N.left N.at_ now).2.2.1 }) (tk := tk) (tl := tl) hs rfl hc.1 hc.2.1 h.i0 h.i1 h.a0 h.a1 h.rb h.rl
  · rw [e2]
    exact (Tn.refl hwf.lt).put (.inl (by simp)) hwf.lt
theorem ROut.lt {X : Neg R × Nout} {r : V} (h : ROut st SI bx kind codes n k m X r s) : s.Lt := by
  obtain ⟨_, _, _, _, T, _⟩ := h; exact T.lt
theorem RO.downR {size : Nat} {st s1 s : St} {r : V} {l : List V} (h : RO size s1.bare s r l) (hs : st.sz ≤ s1.sz) : RO size st.bare s r l :=
  ⟨h.own, bare_weak (by have := h.weak.sz; exact Nat.le_trans hs this), h.lt, fun g k l' e => Nat.le_trans hs (h.tok g k l' e)⟩
theorem ROut.up {X : Neg R × Nout} {r : V} {s0 : St} (T : Tn (n :: bx) st s0) (h : ROut s0 SI bx kind codes n k m X r s) : ROut st SI bx kind codes n k m X r s := by
  obtain ⟨tv, e, h1, h2, h3, h4⟩ := h
  exact ⟨tv, e, h1.downR T.sz, h2, T.trans h3, h4⟩
theorem ROut.le {X : Neg R × Nout} {r : V} {m' k' : Nat} (hU : RefR U SI bx kind codes n) (h : ROut st SI bx kind codes n k m X r s) (hm : m ≤ m') (hk : k' = k ∨ k' = k + 1) : ROut st SI bx kind codes n k' m' X r s := by
  obtain ⟨tv, e, h1, h2, h3, h4⟩ := h
  refine ⟨tv, e, h1, ?_, h3, Nat.le_trans h4 hm⟩
  rcases hk with rfl | rfl
  · exact h2
  · exact h2.more hU
theorem r36Event_v (hU : RefR U SI bx kind codes n) (h : RefI SI bx kind codes n k st N) {now e : Int} (hn : 0 ≤ now) (hn2 : now ≤ 1000000000) :
    VCalls Tryz.prog 62 [ptrV n, .sc (.int .i64 now), .sc (.int .i64 e)] st (ROut st SI bx kind codes n k 5 (N.event U now e zeroC zeroC)) := by
  refine vcalls_enterq pc62 (Nat.le_of_ble_eq_true rfl) rfl fun hwf hok => ?_
  show Run _ Pc62.body (.fin (finP Pc62.res _)) _ _
  unfold Pc62 zo
  simp (maxSteps := 3000000) only [go_sem, ↓reduceIte]
  refine Cal.mk (r36Do_v hU h hn hn2) ?_
  rintro _ s1 ⟨rfl, h1, T1⟩ -
  simp (maxSteps := 3000000) only [go_sem, ↓reduceIte]
  refine Cal.mk (r36Done_v hU h1 (acts_rng _ _) (p := zeroC) (back := zeroC) (tp := .nil) (tb := .nil) zeroC_good) ?_
  intro r s2 o _
  have O := o.up T1
  obtain ⟨tv, rfl, _⟩ := o
  simp (maxSteps := 3000000) only [go_sem, ↓reduceIte]
  exact ⟨_, _, Wk.refl _, O.lt.weak, O⟩
theorem r36Close_v (hU : RefR U SI bx kind codes n) (h : RefI SI bx kind codes n k st N) {now : Int} (hn : 0 ≤ now) (hn2 : now ≤ 1000000000) :
    VCalls Tryz.prog 37 [ptrV n, .sc (.int .i64 now)] st (ROut st SI bx kind codes n k 5 (N.close U now)) := by
  refine vcalls_enterq pc37 (Nat.le_of_ble_eq_true rfl) rfl fun hwf hok => ?_
  show Run _ Pc37.body (.fin (finP Pc37.res _)) _ _
  unfold Pc37 zo
  simp (maxSteps := 3000000) only [go_sem, ↓reduceIte]
  refine Cal.mk (r36Event_v hU h hn hn2) ?_
  intro r s2 O _
  obtain ⟨tv, rfl, h1⟩ := id O
  simp (maxSteps := 3000000) only [go_sem, ↓reduceIte]
  exact ⟨_, _, Wk.refl _, O.lt.weak, O⟩
theorem r36Tick_v (hU : RefR U SI bx kind codes n) (h : RefI SI bx kind codes n k st N) {now : Int} (hn : 0 ≤ now) (hn2 : now ≤ 1000000000) :
    VCalls Tryz.prog 35 [ptrV n, .sc (.int .i64 now)] st (ROut st SI bx kind codes n k 5 (N.tick U now)) := by
  refine vcalls_enterq pc35 (Nat.le_of_ble_eq_true rfl) rfl fun hwf hok => ?_
  show Run _ Pc35.body (.fin (finP Pc35.res _)) _ _
  unfold Pc35 zo
  simp (maxSteps := 3000000) only [go_sem, ↓reduceIte]
  refine Cal.mk (r36MTick_v hU h hn hn2) ?_
  rintro _ s1 ⟨rfl, h1, T1⟩ -
  have hr := tickA_rng (a := N.s) (t := N.at_) (now := now) h.l0 h.l1
  simp (maxSteps := 3000000) only [go_sem, ↓reduceIte]
  refine Cal.mk (r36Done_v hU h1 hr.2.2 (p := zeroC) (back := zeroC) (tp := .nil) (tb := .nil) zeroC_good) ?_
  intro r s2 o _
  have O := o.up T1
  obtain ⟨tv, rfl, _⟩ := o
  simp (maxSteps := 3000000) only [go_sem, ↓reduceIte]
  exact ⟨_, _, Wk.refl _, O.lt.weak, O⟩
set_option maxRecDepth 100000 in
theorem r36Both_v {X Y : Nout} {ta tb : Tk} (hx : X.P.length ≤ 1000) (hy : Y.P.length ≤ 1000) :
    VCalls Tryz.prog 64 [outV ta X, outV tb Y] st fun r s => ∃ tv, r = outV tv (X.both Y) ∧ RO 3 st s (.sl tv (ctls (X.both Y).P)) (ctls (X.both Y).P) := by
  obtain ⟨P, u, d, v⟩ := X
  obtain ⟨P2, u2, d2, v2⟩ := Y
  simp only at hx hy
  show VCalls Tryz.prog 64 [.agg [.sl ta (ctls P), .sc (.bool u), .sc (.bool d), .sc (.bool v)], .agg [.sl tb (ctls P2), .sc (.bool u2), .sc (.bool d2), .sc (.bool v2)]] st fun r s => ∃ tv, r = .agg [.sl tv (ctls (P ++ P2)), .sc (.bool (u || u2)), .sc (.bool (d || d2)), .sc (.bool (v || v2))] ∧ RO 3 st s (.sl tv (ctls (P ++ P2))) (ctls (P ++ P2))
  refine vcalls_enterq pc64 (Nat.le_of_ble_eq_true rfl) rfl fun hwf hok => ?_
  show Run _ Pc64.body (.fin (finP Pc64.res _)) _ _
  unfold Pc64 zg zn zo
  have hlt := hwf.lt
  simp (maxSteps := 3000000) only [go_sem, ↓reduceIte]
  refine Bo.own (by simp [allLen]) ?_
  intro g hg
  have R0 : RO 3 st (st.use g 0) (.sl (.own g 3) (ctls [])) (ctls []) := RO.use0' hlt.weak hlt hg
  cases u <;> cases d <;> cases v
  all_goals
    simp (maxSteps := 3000000) only [go_sem, ↓reduceIte, List.length_nil]
    refine App.mk (bytes := 32) (l := ctls []) (ys := ctls P) R0.own (allSz_ctls _) (by simp only [ctls_len, List.length_nil]; unfold maxLen; omega) (by simp only [ctls_len, List.length_nil]; omega) ?_
    intro r1 s1 k1 k2
    have R1 := R0.app k1 k2
    rw [ctls_append, List.nil_append] at R1
    obtain ⟨t1, rfl⟩ := R1.sl
    simp (maxSteps := 3000000) only [go_sem, ↓reduceIte]
    refine App.mk (bytes := 32) (l := ctls P) (ys := ctls P2) R1.own (allSz_ctls _) (by simp only [ctls_len]; unfold maxLen; omega) (by simp only [ctls_len]; omega) ?_
    intro r2 s2 k3 k4
    have R2 := R1.app k3 k4
    rw [ctls_append] at R2
    obtain ⟨t2, rfl⟩ := R2.sl
    simp (maxSteps := 3000000) only [go_sem, ↓reduceIte]
    exact ⟨_, _, Wk.refl _, R2.lt.weak, t2, rfl, R2⟩
theorem r36Start_v (hU : RefR U SI bx kind codes n) (h : RefI SI bx kind codes n k st N) {now : Int} (hn : 0 ≤ now) (hn2 : now ≤ 1000000000) :
    VCalls Tryz.prog 39 [ptrV n, .sc (.int .i64 now)] st (ROut st SI bx kind codes n k 10 (N.start U now)) := by
  refine vcalls_enterq pc39 (Nat.le_of_ble_eq_true rfl) rfl fun hwf hok => ?_
  show Run _ Pc39.body (.fin (finP Pc39.res _)) _ _
  unfold Pc39 zo
  have hlt := hwf.lt
  simp (maxSteps := 3000000) only [go_sem, ↓reduceIte]
  refine Cal.mk (r36Event_v hU h hn hn2) ?_
  rintro _ s1 ⟨ta, rfl, R1, h1, T1, l1⟩ -
  have hst : N.start U now = (((N.event U now 0 zeroC zeroC).1.event U now 2 zeroC zeroC).1, (N.event U now 0 zeroC zeroC).2.both ((N.event U now 0 zeroC zeroC).1.event U now 2 zeroC zeroC).2) := rfl
  rw [hst]
  generalize N.event U now 0 zeroC zeroC = A at R1 h1 l1 ⊢
  simp (maxSteps := 3000000) only [go_sem, ↓reduceIte]
  refine Cal.mk (r36Event_v hU h1 hn hn2) ?_
  rintro _ s2 ⟨tb, rfl, R2, h2, T2, l2⟩ -
  generalize A.1.event U now 2 zeroC zeroC = B at R2 h2 l2 ⊢
  simp (maxSteps := 3000000) only [go_sem, ↓reduceIte]
  refine Cal.mk (r36Both_v (X := A.2) (Y := B.2) (ta := ta) (tb := tb) (by omega) (by omega)) ?_
  rintro _ s3 ⟨tv, rfl, R3⟩ -
  have T3 : Tn [] s2 s3 := Tn.ofWeak R3.weak R3.lt
  have T13 := (T1.trans T2).trans (T3.wide (by simp))
  simp (maxSteps := 3000000) only [go_sem, ↓reduceIte, outV]
  exact ⟨_, _, Wk.refl _, R3.lt.weak, tv, rfl, ⟨R3.own, bare_weak T13.sz, R3.lt, fun g k l e => Nat.le_trans (T1.trans T2).sz (R3.tok g k l e)⟩, h2.tn hU T3, T13, by simp only [Nout.both, List.length_append]; omega⟩
end
end
section
open Go
section
variable {st : St} {tk : Tk} {L : List Int}
theorem drop_two {L : List Int} {i : Nat} {a b : Int} (h1 : L[i]? = some a) (h2 : L[i + 1]? = some b) : L.drop i = a :: b :: L.drop (i + 2) := by
  rw [List.drop_eq_getElem_cons (List.getElem?_eq_some_iff.1 h1).1, (List.getElem?_eq_some_iff.1 h1).2, List.drop_eq_getElem_cons (List.getElem?_eq_some_iff.1 h2).1, (List.getElem?_eq_some_iff.1 h2).2]
theorem drop_take_snoc {L : List Int} {i j : Nat} {c : Int} (h : L[i + j]? = some c) : (L.drop i).take (j + 1) = (L.drop i).take j ++ [c] := take_snoc (by rw [List.getElem?_drop]; exact h)
set_option maxRecDepth 100000 in
set_option maxHeartbeats 16000000 in
theorem r10Parse_v (hB : IsB L) (hl : L.length ≤ 1000000) : VCalls Tryz.prog 89 [.sl tk (bs L)] st fun r s => r = .tup [.sl .no (opts (parseO L).1), .sc (.int .i64 (parseO L).2)] ∧ st = s := by
  refine vcalls_enterq pc89 (Nat.le_of_ble_eq_true rfl) rfl fun hwf hok => ?_
  show Run _ Pc89.body (.fin (finP Pc89.res _)) _ _
  unfold Pc89 zo
  simp (maxSteps := 3000000) only [go_sem]
  refine run_loop [2, 3, 4, 5, 6, 7, 8, 11, 12, 14, 16, 17, 20, 21, 22, 23, 25, 28, 30, 31, 33, 37, 38, 40, 44, 45, 46, 47, 51, 52, 54, 55, 56, 59] (fun B s => ∃ (i k : Nat) (out : List Opt) (t : Tk), i ≤ L.length ∧ L.length ≤ i + k ∧ out.length ≤ i ∧ B 5 = .sc (.int .i64 i) ∧ B 4 = .sl t (opts out) ∧ RO 2 st s (.sl t (opts out)) (opts out) ∧ parseO L = parseF k (L.drop i) out) (fun B _ => L.length - vnat (B 5)) rfl ?_ ?_
  · exact ⟨0, L.length, [], .nil, by omega, by omega, by simp, rfl, rfl, RO.nil hwf.weak hwf.lt, rfl⟩
  · rintro B s ⟨i, k, out, t, hi, hk, ho, h5, h4, R, hp⟩
    rw [hp]
    have bad : ∀ (e : Int), parseF k (L.drop i) out = ([], e) → ∃ (r : V) (st' : St), Wk (.tup [.sl .nil [], .sc (.int .i64 e)]) r ∧ st'.weak s ∧ r = .tup [.sl .no (opts (parseF k (L.drop i) out).1), .sc (.int .i64 (parseF k (L.drop i) out).2)] ∧ st = st' := fun e he => by
      rw [he]
      exact ⟨_, _, Wk.tup (.cons .no (.cons (.refl _) .nil)), R.weak, rfl, rfl⟩
    by_cases c1 : i < L.length
    rotate_left
    · obtain rfl : i = L.length := by omega
      rw [List.drop_length, parseF_nil]
      simp (maxSteps := 3000000) only [go_sem, ↓reduceIte, h5, h4, bs_len]
      exact ⟨_, _, Wk.tup (.cons .no (.cons (.refl _) .nil)), R.weak, rfl, rfl⟩
    · obtain ⟨a, ha⟩ := get_ex c1
      have hil := decide_eq_true (show (i : Int) < (L.length : Int) by omega)
      obtain ⟨k, rfl⟩ : ∃ k', k = k' + 1 := ⟨k - 1, by omega⟩
      by_cases c2 : i + 1 = L.length
      · have hd : L.drop i = [a] := by
          rw [List.drop_eq_getElem_cons c1, (List.getElem?_eq_some_iff.1 ha).2, List.drop_of_length_le (by omega)]
        have B10 := bad 10 (by rw [hd]; rfl)
        simp (maxSteps := 3000000) only [go_sem, ↓reduceIte, h5, bs_len, hil, decide_eq_true (show (i : Int) + 1 = (L.length : Int) by omega)]
        repeat (apply And.intro; focus (first | omega | (simp; done)))
        exact B10
      · obtain ⟨m, hm⟩ := get_ex (L := L) (i := i + 1) (by omega)
        have hm2 := hB.get hm
        have hd := drop_two ha hm
        have ti : ((i : Int) + 1).toNat = i + 1 := by omega
        have hne := decide_eq_false (show ¬ (i : Int) + 1 = (L.length : Int) by omega)
        by_cases c3 : m < 2
        · have B11 := bad 11 (by rw [hd]; show (if m < 2 then _ else _) = _; rw [if_pos c3])
          simp (maxSteps := 3000000) only [go_sem, ↓reduceIte, h5, bs_len, hil, hne, ti, bs_get, hm, decide_eq_true c3]
          repeat (apply And.intro; focus (first | omega | (simp; done)))
          exact B11
        · by_cases c4 : (L.length : Int) - i < m
          · have B10 := bad 10 (by rw [hd]; show (if m < 2 then _ else if ((L.drop (i + 2)).length : Int) + 2 < m then _ else _) = _; rw [if_neg c3, if_pos (by simp only [List.length_drop]; omega)])
            simp (maxSteps := 3000000) only [go_sem, ↓reduceIte, h5, bs_len, hil, hne, ti, bs_get, hm, decide_eq_false c3, decide_eq_true c4]
            repeat (apply And.intro; focus (first | omega | (simp; done)))
            exact B10
          · obtain ⟨w, rfl⟩ : ∃ w : Nat, m = w := ⟨m.toNat, by omega⟩
            have hgo : parseF (k + 1) (L.drop i) out = parseF k (L.drop (i + w)) (out ++ [(a, (L.drop (i + 2)).take (w - 2))]) := by
              rw [hd]
              show (if (w : Int) < 2 then _ else if ((L.drop (i + 2)).length : Int) + 2 < (w : Int) then _ else parseF k ((L.drop (i + 2)).drop ((w : Int) - 2).toNat) (out ++ [(a, (L.drop (i + 2)).take ((w : Int) - 2).toNat)])) = _
              rw [if_neg c3, if_neg (by simp only [List.length_drop]; omega), List.drop_drop, show ((w : Int) - 2).toNat = w - 2 by omega, show i + 2 + (w - 2) = i + w by omega]
            rw [hgo]
            simp (maxSteps := 3000000) only [go_sem, ↓reduceIte, h5, bs_len, hil, hne, ti, bs_get, hm, decide_eq_false c3, decide_eq_false c4]
            repeat (apply And.intro; focus (first | omega | (simp; done)))
            refine run_loop [7, 8, 37, 38, 40, 44, 45, 46, 47] (fun B s => ∃ (j : Nat) (u : Tk), j + 2 ≤ w ∧ B 8 = .sc (.int .i64 ((i + 2 + j : Nat) : Int)) ∧ B 7 = .sl u (bs ((L.drop (i + 2)).take j)) ∧ RO 2 st s (.sl t (opts out)) (opts out) ∧ RO 1 st s (.sl u (bs ((L.drop (i + 2)).take j))) (bs ((L.drop (i + 2)).take j)) ∧ Apart u t) (fun B _ => i + w - vnat (B 8)) rfl ?_ ?_
            · exact ⟨0, .nil, by omega, rfl, rfl, R, RO.nil R.weak R.lt, .nil⟩
            · rintro B2 s2 ⟨j, u, hj, h8, h7, R2, RU, hap⟩
              by_cases c5 : j + 2 < w
              · obtain ⟨c, hc⟩ := get_ex (L := L) (i := i + 2 + j) (by omega)
                have hsn := drop_take_snoc hc
                simp (maxSteps := 3000000) only [go_sem, ↓reduceIte, h5, h8, h7, decide_eq_true (show ((i + 2 + j : Nat) : Int) < (i : Int) + (w : Int) by omega), bs_get, hc]
                repeat (apply And.intro; focus (first | omega | (simp; done)))
                have hx : ((L.drop (i + 2)).take j).length ≤ j := by simp only [List.length_take]; omega
                refine App.mk (bytes := 1) (ys := bs [c]) RU.own (allSz_bs _) (by simp only [bs_len, List.length_cons, List.length_nil]; unfold maxLen; omega) (by simp only [bs_len, List.length_cons, List.length_nil]; omega) ?_
                intro r3 s3 k1 k2
                rw [bs_append, ← hsn] at k1
                obtain ⟨t3, rfl⟩ := own_sl k1
                obtain ⟨RU3, R3, hap3⟩ := RU.two R2 hap k1 k2
                simp (maxSteps := 3000000) only [go_sem, ↓reduceIte, h8]
                repeat (apply And.intro; focus (first | omega | (simp; done)))
                exact ⟨⟨j + 1, t3, by omega, by congr 2, rfl, R3, RU3, hap3⟩, by omega⟩
              · obtain rfl : w = j + 2 := by omega
                rw [show j + 2 - 2 = j by omega] at hgo ⊢
                simp (maxSteps := 3000000) only [go_sem, ↓reduceIte, h5, h4, h8, h7, decide_eq_false (show ¬ ((i + 2 + j : Nat) : Int) < (i : Int) + ((j + 2 : Nat) : Int) by omega), bs_get, ha]
                repeat (apply And.intro; focus (first | omega | (simp; done)))
                refine App.mk (bytes := 32) (l := opts out) (ys := opts [(a, (L.drop (i + 2)).take j)]) R2.own (allSz_opts _) (by simp only [opts_len, List.length_cons, List.length_nil]; unfold maxLen; omega) (by simp only [opts_len, List.length_cons, List.length_nil]; omega) ?_
                intro r3 s3 k1 k2
                have R3 := R2.app k1 k2
                rw [opts_append] at R3
                obtain ⟨t3, rfl⟩ := R3.sl
                simp (maxSteps := 3000000) only [go_sem, ↓reduceIte, h5]
                repeat (apply And.intro; focus (first | omega | (simp; done)))
                refine ⟨⟨i + (j + 2), k, out ++ [(a, (L.drop (i + 2)).take j)], t3, by omega, by omega, by simp only [List.length_append, List.length_cons, List.length_nil]; omega, by congr 2, rfl, R3, ?_⟩, by omega⟩
                rw [← hgo]
end
end
section
open Go
def evC (codes : Int) (p : Ctl) : Int := if p.code < 1 ∨ codes < p.code then 12 else evOf p
section
variable {R : Type} {U : Rul R} {SI : Nat → St → R → V → List Opt → List V → Prop} {bx : List Nat} {kind codes : Int} {n k m : Nat} {st s s2 base : St} {N N' : Neg R}
set_option maxRecDepth 100000 in
set_option maxHeartbeats 4000000 in
theorem r36EventOf_v {p : Ctl} {tp : Tk} (hp : p.Good) : VCalls Tryz.prog 74 [.agg [.sc (.int .u8 p.code), .sc (.int .u8 p.id), .sl tp (bs p.data)], .sc (.int .u8 codes)] st fun r s => r = .sc (.int .i64 (evC codes p)) ∧ st = s := by
  obtain ⟨c, i, D⟩ := p
  have c0 := hp.c0
  simp only at c0
  obtain ⟨v, hv⟩ : ∃ v, v = evC codes ⟨c, i, D⟩ := ⟨_, rfl⟩
  rw [← hv]
  unfold evC evOf at hv
  simp only at hv
  cases D with
  | nil =>
    simp only [List.length_nil, Nat.lt_irrefl, false_and, and_false, ↓reduceIte] at hv
    refine vcalls_enterq pc74 (Nat.le_of_ble_eq_true rfl) rfl fun hwf hok => ?_
    show Run _ Pc74.body (.fin (finP Pc74.res _)) _ _
    unfold Pc74 zg zn zo
    repeat' first | simp (maxSteps := 3000000) only [go_sem, ↓reduceIte, bs_len, List.length_nil] | (refine If.dec (fun h => ?_) (fun h => ?_) <;> first | simp only [decide_eq_true h] | simp only [decide_eq_false h] | skip) | (refine Grd.decd (fun h => ?_) (fun h => ?_) <;> first | simp only [decide_eq_true h] | simp only [decide_eq_false h] | skip) | (refine If.mk (fun h => ?_) (fun h => ?_) <;> first | simp only [h] | skip) | (refine Grd.two (fun h => ?_) (fun h => ?_) <;> first | simp only [h] | skip) | (apply And.intro; focus (first | omega | (simp; done)))
    all_goals first | (exfalso; omega) | exact ⟨_, _, Wk.refl _, hwf.weak, by rw [hv]; (try dsimp only); (repeat' split) <;> first | rfl | (exfalso; omega) | simp_all, rfl⟩
  | cons x D =>
    have hx : (x :: D)[0]? = some x := rfl
    simp only [List.length_cons, Nat.zero_lt_succ, true_and, List.getD_cons_zero] at hv
    refine vcalls_enterq pc74 (Nat.le_of_ble_eq_true rfl) rfl fun hwf hok => ?_
    show Run _ Pc74.body (.fin (finP Pc74.res _)) _ _
    unfold Pc74 zg zn zo
    repeat' first | simp (maxSteps := 3000000) only [go_sem, ↓reduceIte, bs_len, List.length_cons, bs_get, hx] | (refine If.dec (fun h => ?_) (fun h => ?_) <;> first | simp only [decide_eq_true h] | simp only [decide_eq_false h] | skip) | (refine Grd.decd (fun h => ?_) (fun h => ?_) <;> first | simp only [decide_eq_true h] | simp only [decide_eq_false h] | skip) | (refine If.mk (fun h => ?_) (fun h => ?_) <;> first | simp only [h] | skip) | (refine Grd.two (fun h => ?_) (fun h => ?_) <;> first | simp only [h] | skip) | (apply And.intro; focus (first | omega | (simp; done)))
    all_goals first | (exfalso; omega) | exact ⟨_, _, Wk.refl _, hwf.weak, by rw [hv]; (try dsimp only); (repeat' split) <;> first | rfl | (exfalso; omega) | simp_all, rfl⟩
theorem ROut.up' {X : Neg R × Nout} {r : V} {s0 : St} (T : Tn (n :: bx) st s0) (h : ROut s0 SI bx kind codes n k m X r s) : ∃ tv, r = .agg [.sl tv (ctls X.2.P), .sc (.bool X.2.up), .sc (.bool X.2.down), .sc (.bool X.2.over)] ∧ ROut st SI bx kind codes n k m X r s := by
  obtain ⟨tv, e, _⟩ := id h
  exact ⟨tv, e, h.up T⟩
theorem RefI.rules {r : R} {k' : Nat} {s' : St} {N1 : Neg R} (h : RefI SI bx kind codes n k' s' N1) (e : N1 = { N with r := r }) : RefI SI bx kind codes n k' s' { N with r := r } := e ▸ h
set_option maxRecDepth 100000 in
set_option maxHeartbeats 16000000 in
theorem r36Asked_v (hU : RefR U SI bx kind codes n) (h : RefI SI bx kind codes n k st N) (hk : k + 1 ≤ 1000000000) {now : Int} (hn : 0 ≤ now) (hn2 : now ≤ 1000000000) {p : Ctl} (hp : p.Good) {tp : Tk} :
    VCalls Tryz.prog 71 [ptrV n, .sc (.int .i64 now), .agg [.sc (.int .u8 p.code), .sc (.int .u8 p.id), .sl tp (bs p.data)]] st (ROut st SI bx kind codes n (k + 1) 5 (N.request U now p)) := by
  obtain ⟨X, hX⟩ : ∃ X, X = N.request U now p := ⟨_, rfl⟩
  rw [← hX]
  refine vcalls_enterq pc71 (Nat.le_of_ble_eq_true rfl) rfl fun hwf hok => ?_
  show Run _ Pc71.body (.fin (finP Pc71.res _)) _ _
  unfold Pc71 zg zn zo
  have hlt := hwf.lt
  have hpb := hp.b
  have hpl := hp.l
  simp (maxSteps := 3000000) only [go_sem, ↓reduceIte]
  refine Cal.mk (r10Parse_v hpb hpl) ?_
  rintro _ _ ⟨rfl, rfl⟩ -
  obtain ⟨L, hL⟩ : ∃ L, L = parseO p.data := ⟨_, rfl⟩
  have hLg : GoodO L.1 := by rw [hL]; exact parseO_good hpb
  have hLl : L.1.length ≤ 1000000 := by rw [hL]; have := parseO_len (L := p.data); omega
  unfold Neg.request at hX
  simp only at hX
  rw [← hL] at hX ⊢
  obtain ⟨l, e⟩ := L
  simp only at hX hLg hLl
  clear hL
  by_cases c1 : e = 0
  rotate_left
  · rw [if_pos c1] at hX
    subst hX
    simp (maxSteps := 3000000) only [go_sem, ↓reduceIte, decide_eq_true c1]
    exact ⟨_, _, Wk.refl _, hwf.weak, .nil, rfl, RO.nil (bare_weak (Nat.le_refl _)) hlt, h.more hU, Tn.refl hlt, by simp [Nout.no]⟩
  rw [if_neg (show ¬ e ≠ 0 from fun x => x c1)] at hX
  obtain ⟨tk, T0, tl, last, r2, hb, hs⟩ := h.ex
  unfold refC at hb
  simp (maxSteps := 3000000) only [go_sem, ↓reduceIte, decide_eq_false (show ¬ e ≠ 0 from fun x => x c1), hb]
  refine Grd.cut [30, 31, 32, 33, 34, 35, 36, 38, 39, 40, 41, 42, 43, 44] (fun B => B 44 = .sc (.bool (decide (N.s = 4 ∨ N.s = 5 ∨ N.s < 3)))) rfl ?_ ?_
  · by_cases e3 : N.s < 3
    · simp (maxSteps := 3000000) only [go_sem, ↓reduceIte, decide_eq_true e3, at_cut]
      simp only [e3, or_true, decide_true]
    · by_cases e4 : N.s = 4
      · simp (maxSteps := 3000000) only [go_sem, ↓reduceIte, decide_eq_false e3, decide_eq_true e4, at_cut, hb]
        simp only [e4, true_or, decide_true]
      · simp (maxSteps := 3000000) only [go_sem, ↓reduceIte, decide_eq_false e3, decide_eq_false e4, at_cut, hb]
        simp only [e3, e4, false_or, or_false]
  intro B1 h44
  by_cases c2 : N.s = 4 ∨ N.s = 5 ∨ N.s < 3
  · rw [if_pos c2] at hX
    subst hX
    simp (maxSteps := 3000000) only [go_sem, ↓reduceIte, h44, decide_eq_true c2]
    refine Cal.mk (r36Do_v hU h hn hn2) ?_
    rintro _ s1 ⟨rfl, h1, T1⟩ -
    simp (maxSteps := 3000000) only [go_sem, ↓reduceIte]
    refine Cal.mk (r36Done_v hU h1 (acts_rng _ _) (p := p) (back := zeroC) (tp := tp) (tb := .nil) hp) ?_
    rintro _ s2 O -
    obtain ⟨tv, rfl, O2⟩ := O.up' T1
    simp (maxSteps := 3000000) only [go_sem, ↓reduceIte]
    exact ⟨_, _, Wk.refl _, O2.lt.weak, O2.le hU (Nat.le_refl _) (.inr rfl)⟩
  rw [if_neg c2] at hX
  simp (maxSteps := 3000000) only [go_sem, ↓reduceIte, h44, decide_eq_false c2]
  refine Cal.mk (hU.judge k st N l .no h (by omega) hLg hLl) ?_
  rintro _ s1 ⟨⟨t2, rfl⟩, h1, T1⟩ -
  obtain ⟨g1, g2, g3, g4⟩ := hU.judgeG k st N l h hLg hLl
  unfold Neg.judge at hX
  simp only at hX
  generalize U.judge N.r l = j at hX h1 g1 g2 g3 g4 ⊢
  obtain ⟨rr, code, out⟩ := j
  simp only at hX h1 g1 g2 g3 g4 ⊢
  have a0 := h.a0
  have a1 := h.a1
  simp (maxSteps := 3000000) only [go_sem, ↓reduceIte]
  obtain ⟨N1, hN1⟩ : ∃ N1 : Neg R, N1 = { N with r := rr, naks := if code = 3 then N.naks + 1 else N.naks } := ⟨_, rfl⟩
  refine If.cut [63, 64, 65, 66, 67, 68] (fun B s => RefI SI bx kind codes n (k + 1) s N1 ∧ Tn (n :: bx) st s) rfl ?_ ?_
  · obtain ⟨tk, T0, tl, last, r2, hb, hs⟩ := h1.ex
    by_cases c3 : code = 3
    · have hW := h1.write hU (N' := N1) (tk := tk) (tl := tl) hs (by rw [hN1]) (by rw [hN1]; exact h.l0) (by rw [hN1]; exact h.l1) (by rw [hN1]; exact h.i0) (by rw [hN1]; exact h.i1) (by rw [hN1]; simp only [if_pos c3]; omega) (by rw [hN1]; simp only [if_pos c3]; omega) (by rw [hN1]; exact h.rb) (by rw [hN1]; exact h.rl)
      have TW := T1.put (b := n) (cs := refC kind codes N1 tk T0 tl last r2) (.inl (by simp)) hlt
      unfold refC at hb
      rw [hN1] at hW TW
      unfold refC at hW TW
      simp only [if_pos c3] at hW TW
      simp only at hb
      simp (maxSteps := 3000000) only [go_sem, ↓reduceIte, decide_eq_true c3, hb, at_cutk_n]
      rw [hN1]
      simp only [if_pos c3]
      refine ⟨by omega, hW, TW⟩
    · have e : N1 = { N with r := rr } := by rw [hN1, if_neg c3]
      simp (maxSteps := 3000000) only [go_sem, decide_eq_false c3, at_cutk_n]
      rw [e]
      exact ⟨h1, T1⟩
  rintro B2 s2 ⟨h2, T2⟩
  have eN : N1.naks = if code = 3 then N.naks + 1 else N.naks := by rw [hN1]
  obtain ⟨ov, hov⟩ : ∃ ov : Bool, ov = decide (code = 3 ∧ 5 < N1.naks) := ⟨_, rfl⟩
  rw [← eN, ← hov] at hX
  obtain ⟨tk, T0, tl, last, r2, hb, hs⟩ := h2.ex
  unfold refC at hb
  simp (maxSteps := 3000000) only [go_sem, ↓reduceIte]
  refine Grd.cut [72, 73, 74, 75, 76, 77] (fun B => B 77 = .sc (.bool ov)) rfl ?_ ?_
  · rw [hov]
    by_cases c3 : code = 3
    · simp (maxSteps := 3000000) only [go_sem, ↓reduceIte, decide_eq_true c3, at_cut, hb]
      simp only [c3, true_and]
    · simp (maxSteps := 3000000) only [go_sem, ↓reduceIte, decide_eq_false c3, at_cut]
      simp only [c3, false_and, decide_false]
  intro B3 h77
  simp (maxSteps := 3000000) only [go_sem, ↓reduceIte, h77]
  obtain ⟨code2, hc2⟩ : ∃ c : Int, c = if ov = true then 4 else code := ⟨_, rfl⟩
  obtain ⟨out2, ho2⟩ : ∃ o, o = if ov = true then theirsO l out else out := ⟨_, rfl⟩
  rw [← hc2, ← ho2] at hX
  have hg2 : GoodO out2 := by rw [ho2]; split; exact theirsO_good hLg; exact g3
  have hl2 : out2.length ≤ 1000000 := by rw [ho2]; split; have := theirsO_len l out; omega; exact g4
  refine If.cut [9, 10, 11, 12, 80, 81, 83, 87, 88, 89, 90, 91, 95, 96, 97, 98] (fun B s => B 9 = .sc (.int .u8 code2) ∧ (∃ t, B 10 = .sl t (opts out2)) ∧ RefI SI bx kind codes n (k + 1) s N1 ∧ Tn (n :: bx) st s) rfl ?_ ?_
  · cases ov with
    | false =>
      simp (maxSteps := 3000000) only [go_sem, ↓reduceIte, at_cutk_n]
      exact ⟨by rw [hc2]; rfl, ⟨t2, by rw [ho2]; rfl⟩, h2, T2⟩
    | true =>
      simp only [↓reduceIte] at hc2 ho2
      simp (maxSteps := 3000000) only [go_sem]
      refine run_loop [11, 12, 80, 81, 83, 87, 88, 89, 90, 91, 95, 96, 97, 98] (fun B s => ∃ (i : Nat) (u : Tk), i ≤ l.length ∧ B 12 = .sc (.int .i64 i) ∧ B 11 = .sl u (opts (theirsO (l.take i) out)) ∧ RO 2 s2 s (.sl u (opts (theirsO (l.take i) out))) (opts (theirsO (l.take i) out))) (fun B _ => l.length - vnat (B 12)) rfl ?_ ?_
      · exact ⟨0, .nil, by omega, rfl, rfl, RO.nil T2.lt.weak T2.lt⟩
      · rintro B s ⟨i, u, hi, h12, h11, R⟩
        by_cases c1 : i < l.length
        · obtain ⟨⟨T, D⟩, ho⟩ := get_ex c1
          have hsn := theirsO_snoc (like := out) ho
          have htl := theirsO_len (l.take i) out
          have htl2 : (l.take i).length ≤ l.length := by simp only [List.length_take]; omega
          simp (maxSteps := 3000000) only [go_sem, ↓reduceIte, h12, opts_len, opts_at ho, decide_eq_true (show (i : Int) < (l.length : Int) by omega)]
          repeat (apply And.intro; focus (first | omega | (simp; done)))
          refine Cal.mk (r10Find_v (t := T) g4) ?_
          rintro _ _ ⟨⟨x, rfl, hx⟩, rfl⟩ -
          rcases hx with ⟨rfl, hf⟩ | ⟨a, D2, rfl, _, hf⟩
          · rw [hf] at hsn
            simp only [Option.isSome_none, Bool.false_eq_true, ↓reduceIte, List.append_nil] at hsn
            simp (maxSteps := 3000000) only [go_sem, ↓reduceIte, h12]
            repeat (apply And.intro; focus (first | omega | (simp; done)))
            exact ⟨⟨i + 1, u, by omega, by simp, by rw [hsn]; exact h11, by rw [hsn]; exact R⟩, by omega⟩
          · rw [hf] at hsn
            simp only [Option.isSome_some, ↓reduceIte] at hsn
            simp (maxSteps := 3000000) only [go_sem, ↓reduceIte, h12, h11, opts_at ho, decide_eq_true (show (0 : Int) ≤ (a : Int) by omega)]
            repeat (apply And.intro; focus (first | omega | (simp; done)))
            refine App.mk (bytes := 32) (l := opts (theirsO (l.take i) out)) (ys := opts [(T, D)]) R.own (allSz_opts _) (by simp only [opts_len, List.length_cons, List.length_nil]; unfold maxLen; omega) (by simp only [opts_len, List.length_cons, List.length_nil]; omega) ?_
            intro r2 s3 k1 k2
            have R2 := R.app k1 k2
            rw [opts_append, ← hsn] at R2
            obtain ⟨t3, rfl⟩ := R2.sl
            simp (maxSteps := 3000000) only [go_sem, ↓reduceIte, h12]
            repeat (apply And.intro; focus (first | omega | (simp; done)))
            exact ⟨⟨i + 1, t3, by omega, by simp, rfl, R2⟩, by omega⟩
        · obtain rfl : i = l.length := by omega
          rw [List.take_length] at R h11
          simp (maxSteps := 3000000) only [go_sem, ↓reduceIte, h12, h11, opts_len, at_cutk_n]
          have TR : Tn [] s2 s := Tn.ofWeak R.weak R.lt
          exact ⟨by rw [hc2], ⟨u, by rw [ho2]⟩, h2.tn hU TR, T2.trans (TR.wide (by simp))⟩
  rintro B4 s4 ⟨h9, ⟨t3, h10⟩, h4, T4⟩
  simp (maxSteps := 3000000) only [go_sem, ↓reduceIte, h10]
  refine Cal.mk (r10Build_v hg2 (by omega)) ?_
  rintro _ _ ⟨rfl, rfl⟩ -
  by_cases c5 : code2 = 2
  rotate_left
  · rw [if_pos (by simp only [decide_eq_false_iff_not]; exact c5)] at hX
    have eX : X = N1.event U now 7 p ⟨code2, p.id, buildO out2⟩ := by rw [hX, hN1]; simp only [if_neg c5]
    rw [eX]
    simp (maxSteps := 3000000) only [go_sem, ↓reduceIte, h9, decide_eq_true (show code2 ≠ 2 from c5)]
    refine Cal.mk (r36Do_v hU h4 hn hn2) ?_
    rintro _ s5 ⟨rfl, h5, T5⟩ -
    simp (maxSteps := 3000000) only [go_sem, ↓reduceIte]
    refine Cal.mk (r36Done_v hU h5 (acts_rng _ _) (p := p) (back := ⟨code2, p.id, buildO out2⟩) (tp := tp) (tb := .no) hp) ?_
    rintro _ s6 O -
    obtain ⟨tv, rfl, O2⟩ := O.up' (T4.trans T5)
    simp (maxSteps := 3000000) only [go_sem, ↓reduceIte]
    exact ⟨_, _, Wk.refl _, O2.lt.weak, O2⟩
  · rw [if_neg (by simp only [decide_eq_false_iff_not]; exact fun x => x c5)] at hX
    have eX : X = Neg.event U { N1 with naks := 0, r := U.agreed rr l } now 6 p ⟨code2, p.id, buildO out2⟩ := by rw [hX, hN1]; simp only [if_pos c5]
    rw [eX]
    obtain ⟨tk, T0, tl, last, r2, hb, hs⟩ := h4.ex
    have hs' := hU.agreed (k + 1) s4 N1.r T0 last l r2 hs hLg hLl
    have hrr : N1.r = rr := by rw [hN1]
    rw [hrr] at hs'
    obtain ⟨N5, hN5⟩ : ∃ N5 : Neg R, N5 = { N1 with naks := 0, r := U.agreed rr l } := ⟨_, rfl⟩
    rw [← hN5]
    have h45 : RefI SI bx kind codes n (k + 1) (s4.put n (refC kind codes N5 tk T0 .no l r2)) N5 :=
      ⟨⟨tk, T0, .no, l, r2, put_box_same, by
        rw [hN5]
        exact hU.stay (k + 1) s4 _ _ _ _ _ hs' (fun b cs hb hm => by rw [put_box_ne (fun e => h.nn (by subst e; exact hm))]; exact hb) (by simp only [put_sz]; omega)⟩, h.nn, by rw [hN5]; exact h4.l0, by rw [hN5]; exact h4.l1, by rw [hN5]; exact h4.i0, by rw [hN5]; exact h4.i1, by rw [hN5]; exact Int.le_refl 0, by rw [hN5]; exact Int.natCast_nonneg _, by rw [hN5]; exact h4.rb, by rw [hN5]; exact h4.rl⟩
    have T45 := T4.put (b := n) (cs := refC kind codes N5 tk T0 .no l r2) (.inl (by simp)) hlt
    unfold refC at hb
    rw [c5] at h9
    simp (maxSteps := 3000000) only [go_sem, ↓reduceIte, h9, hb, put_box_same, put_put]
    generalize hq : s4.put n _ = q
    obtain rfl : q = s4.put n (refC kind codes N5 tk T0 .no l r2) := by rw [← hq, hN5]; rfl
    refine Cal.mk (r36Do_v hU h45 hn hn2) ?_
    rintro _ s5 ⟨rfl, h5, T5⟩ -
    simp (maxSteps := 3000000) only [go_sem, ↓reduceIte]
    rw [c5]
    refine Cal.mk (r36Done_v hU h5 (acts_rng _ _) (p := p) (back := ⟨2, p.id, buildO out2⟩) (tp := tp) (tb := .no) hp) ?_
    rintro _ s6 O -
    obtain ⟨tv, rfl, O2⟩ := O.up' (T45.trans T5)
    simp (maxSteps := 3000000) only [go_sem, ↓reduceIte]
    exact ⟨_, _, Wk.refl _, O2.lt.weak, O2⟩
end
end
section
open Go
section
variable {R : Type} {U : Rul R} {SI : Nat → St → R → V → List Opt → List V → Prop} {bx : List Nat} {kind codes : Int} {n k m : Nat} {st s s2 base : St} {N N' : Neg R}
set_option maxRecDepth 100000 in
set_option maxHeartbeats 16000000 in
theorem r36Answered_v (hU : RefR U SI bx kind codes n) (h : RefI SI bx kind codes n k st N) (hk : k + 1 ≤ 1000000000) {now : Int} (hn : 0 ≤ now) (hn2 : now ≤ 1000000000) {p : Ctl} (hp : p.Good) {tp : Tk} :
    VCalls Tryz.prog 72 [ptrV n, .sc (.int .i64 now), .agg [.sc (.int .u8 p.code), .sc (.int .u8 p.id), .sl tp (bs p.data)]] st (ROut st SI bx kind codes n (k + 1) 5 (N.answered U now p)) := by
  obtain ⟨X, hX⟩ : ∃ X, X = N.answered U now p := ⟨_, rfl⟩
  rw [← hX]
  refine vcalls_enterq pc72 (Nat.le_of_ble_eq_true rfl) rfl fun hwf hok => ?_
  show Run _ Pc72.body (.fin (finP Pc72.res _)) _ _
  unfold Pc72 zg zn zo
  have hlt := hwf.lt
  have hpb := hp.b
  have hpl := hp.l
  simp (maxSteps := 3000000) only [go_sem, ↓reduceIte]
  refine Cal.mk (r10Parse_v hpb hpl) ?_
  rintro _ _ ⟨rfl, rfl⟩ -
  obtain ⟨L, hL⟩ : ∃ L, L = parseO p.data := ⟨_, rfl⟩
  have hLg : GoodO L.1 := by rw [hL]; exact parseO_good hpb
  have hLl : L.1.length ≤ 1000000 := by rw [hL]; have := parseO_len (L := p.data); omega
  unfold Neg.answered at hX
  simp only at hX
  rw [← hL] at hX ⊢
  obtain ⟨l, e⟩ := L
  simp only at hX hLg hLl
  clear hL
  obtain ⟨tk, T0, tl, last, r2, hb, hs⟩ := h.ex
  unfold refC at hb
  have hs1 : strOf p.data = strOf N.req ↔ p.data = N.req := strOf_inj hpb h.rb
  obtain ⟨bad, hbad⟩ : ∃ b : Bool, b = decide (e ≠ 0 ∨ p.id ≠ N.id ∨ p.code = 2 ∧ p.data ≠ N.req) := ⟨_, rfl⟩
  simp (maxSteps := 3000000) only [go_sem, ↓reduceIte]
  refine Grd.cut [19, 20, 21, 22, 23, 24, 25, 28, 29, 30, 32, 33, 34, 35, 36, 37, 38, 39, 40, 41] (fun B => B 41 = .sc (.bool bad)) rfl ?_ ?_
  · by_cases c1 : e = 0
    rotate_left
    · simp (maxSteps := 3000000) only [go_sem, ↓reduceIte, decide_eq_true c1, at_cut]
      rw [hbad, decide_eq_true (.inl c1)]
    by_cases c2 : p.id = N.id
    rotate_left
    · simp (maxSteps := 3000000) only [go_sem, ↓reduceIte, decide_eq_false (show ¬ e ≠ 0 from fun x => x c1), decide_eq_true (show p.id ≠ N.id from c2), at_cut, hb]
      rw [hbad, decide_eq_true (.inr (.inl c2))]
    by_cases c3 : p.code = 2
    rotate_left
    · simp (maxSteps := 3000000) only [go_sem, ↓reduceIte, decide_eq_false (show ¬ e ≠ 0 from fun x => x c1), decide_eq_false (show ¬ p.id ≠ N.id from fun x => x c2), decide_eq_false c3, at_cut, hb]
      rw [hbad]
      simp only [c1, c2, c3, ne_eq, not_true_eq_false, false_and, or_self, decide_false]
    simp (maxSteps := 3000000) only [go_sem, ↓reduceIte, decide_eq_false (show ¬ e ≠ 0 from fun x => x c1), decide_eq_false (show ¬ p.id ≠ N.id from fun x => x c2), decide_eq_true c3, at_cut, hb, u8sOf_bsN]
    rw [hbad]
    simp only [c1, c2, c3, ne_eq, not_true_eq_false, true_and, false_or, hs1]
  intro B1 h41
  cases bad with
  | true =>
    rw [if_pos (of_decide_eq_true hbad.symm)] at hX
    subst hX
    simp (maxSteps := 3000000) only [go_sem, ↓reduceIte, h41]
    exact ⟨_, _, Wk.refl _, hwf.weak, .nil, rfl, RO.nil (bare_weak (Nat.le_refl _)) hlt, h.more hU, Tn.refl hlt, by simp [Nout.no]⟩
  | false =>
    rw [if_neg (of_decide_eq_false hbad.symm)] at hX
    by_cases c2 : p.code = 2
    · rw [if_pos c2] at hX
      subst hX
      simp (maxSteps := 3000000) only [go_sem, ↓reduceIte, h41, decide_eq_true c2]
      refine Cal.mk (r36Do_v hU h hn hn2) ?_
      rintro _ s1 ⟨rfl, h1, T1⟩ -
      simp (maxSteps := 3000000) only [go_sem, ↓reduceIte]
      refine Cal.mk (r36Done_v hU h1 (acts_rng _ _) (p := p) (back := zeroC) (tp := tp) (tb := .nil) hp) ?_
      rintro _ s2 O -
      obtain ⟨tv, rfl, O2⟩ := O.up' T1
      simp (maxSteps := 3000000) only [go_sem, ↓reduceIte]
      exact ⟨_, _, Wk.refl _, O2.lt.weak, O2.le hU (Nat.le_refl _) (.inr rfl)⟩
    rw [if_neg c2] at hX
    by_cases c3 : p.code = 3
    · rw [if_pos c3] at hX
      subst hX
      simp (maxSteps := 3000000) only [go_sem, ↓reduceIte, h41, decide_eq_false c2, decide_eq_true c3]
      refine Cal.mk (hU.naked k st N l .no h (by omega) hLg hLl) ?_
      rintro _ s0 ⟨rfl, h0, T0⟩ -
      simp (maxSteps := 3000000) only [go_sem, ↓reduceIte]
      refine Cal.mk (r36Do_v hU h0 hn hn2) ?_
      rintro _ s1 ⟨rfl, h1, T1⟩ -
      simp (maxSteps := 3000000) only [go_sem, ↓reduceIte]
      refine Cal.mk (r36Done_v hU h1 (acts_rng _ _) (p := p) (back := zeroC) (tp := tp) (tb := .nil) hp) ?_
      rintro _ s2 O -
      obtain ⟨tv, rfl, O2⟩ := O.up' (T0.trans T1)
      simp (maxSteps := 3000000) only [go_sem, ↓reduceIte]
      exact ⟨_, _, Wk.refl _, O2.lt.weak, O2⟩
    rw [if_neg c3] at hX
    simp (maxSteps := 3000000) only [go_sem, ↓reduceIte, h41, decide_eq_false c2, decide_eq_false c3]
    refine Cal.mk (hU.rejected k st N l .no h (by omega) hLg hLl) ?_
    rintro _ s0 ⟨rfl, h0, T0⟩ -
    cases hr : (U.rejected N.r l).2 with
    | false =>
      rw [if_pos hr] at hX
      subst hX
      simp (maxSteps := 3000000) only [go_sem, ↓reduceIte, Bool.not_false]
      refine Cal.mk (r36Close_v hU h0 hn hn2) ?_
      rintro _ s2 O -
      obtain ⟨tv, rfl, O2⟩ := O.up' T0
      simp (maxSteps := 3000000) only [go_sem, ↓reduceIte]
      exact ⟨_, _, Wk.refl _, O2.lt.weak, O2.le hU (Nat.le_refl _) (.inr rfl)⟩
    | true =>
      rw [if_neg (by rw [hr]; simp)] at hX
      subst hX
      simp (maxSteps := 3000000) only [go_sem, ↓reduceIte, Bool.not_true]
      refine Cal.mk (r36Do_v hU h0 hn hn2) ?_
      rintro _ s1 ⟨rfl, h1, T1⟩ -
      simp (maxSteps := 3000000) only [go_sem, ↓reduceIte]
      refine Cal.mk (r36Done_v hU h1 (acts_rng _ _) (p := p) (back := zeroC) (tp := tp) (tb := .nil) hp) ?_
      rintro _ s2 O -
      obtain ⟨tv, rfl, O2⟩ := O.up' (T0.trans T1)
      simp (maxSteps := 3000000) only [go_sem, ↓reduceIte]
      exact ⟨_, _, Wk.refl _, O2.lt.weak, O2.le hU (Nat.le_refl _) (.inr rfl)⟩
set_option maxRecDepth 100000 in
set_option maxHeartbeats 16000000 in
theorem r36Take_v (hU : RefR U SI bx kind codes n) (h : RefI SI bx kind codes n k st N) (hk : k + 1 ≤ 1000000000) (hc : 4 ≤ codes) {now : Int} (hn : 0 ≤ now) (hn2 : now ≤ 1000000000) {p : Ctl} (hp : p.Good) {tp : Tk} :
    VCalls Tryz.prog 52 [ptrV n, .sc (.int .i64 now), .agg [.sc (.int .u8 p.code), .sc (.int .u8 p.id), .sl tp (bs p.data)]] st (ROut st SI bx kind codes n (k + 1) 5 (N.take U codes now p)) := by
  obtain ⟨X, hX⟩ : ∃ X, X = N.take U codes now p := ⟨_, rfl⟩
  rw [← hX]
  unfold Neg.take at hX
  refine vcalls_enterq pc52 (Nat.le_of_ble_eq_true rfl) rfl fun hwf hok => ?_
  show Run _ Pc52.body (.fin (finP Pc52.res _)) _ _
  unfold Pc52 zg zn zo
  have hlt := hwf.lt
  have c0 := hp.c0
  obtain ⟨tk, T0, tl, last, r2, hb, hs⟩ := h.ex
  unfold refC at hb
  by_cases c1 : p.code = 1
  · rw [if_neg (by omega), if_pos c1] at hX
    subst hX
    simp (maxSteps := 3000000) only [go_sem, ↓reduceIte, decide_eq_true c1, hb, decide_eq_true (show (1 : Int) ≤ codes by omega)]
    refine Cal.mk (r36Asked_v hU h hk hn hn2 hp) ?_
    rintro _ s1 O -
    obtain ⟨tv, rfl, _⟩ := id O
    simp (maxSteps := 3000000) only [go_sem, ↓reduceIte]
    exact ⟨_, _, Wk.refl _, O.lt.weak, O⟩
  by_cases c2 : 2 ≤ p.code ∧ p.code ≤ 4
  · rw [if_neg (by omega), if_neg c1, if_pos c2.2] at hX
    subst hX
    simp (maxSteps := 3000000) only [go_sem, ↓reduceIte, decide_eq_false c1, hb, decide_eq_true c2.1, decide_eq_true c2.2, decide_eq_true (show p.code ≤ codes by omega)]
    refine Cal.mk (r36Answered_v hU h hk hn hn2 hp) ?_
    rintro _ s1 O -
    obtain ⟨tv, rfl, _⟩ := id O
    simp (maxSteps := 3000000) only [go_sem, ↓reduceIte]
    exact ⟨_, _, Wk.refl _, O.lt.weak, O⟩
  have eX : X = N.event U now (evC codes p) p zeroC := by
    rw [hX, evC]
    by_cases c3 : p.code < 1 ∨ codes < p.code
    · rw [if_pos c3, if_pos c3]
    · rw [if_neg c3, if_neg c3, if_neg c1, if_neg (by omega)]
  rw [eX]
  by_cases c3 : 2 ≤ p.code
  · simp (maxSteps := 3000000) only [go_sem, ↓reduceIte, decide_eq_false c1, hb, decide_eq_true c3, decide_eq_false (show ¬ p.code ≤ 4 by omega)]
    refine Cal.mk (r36EventOf_v hp) ?_
    rintro _ _ ⟨rfl, rfl⟩ -
    simp (maxSteps := 3000000) only [go_sem, ↓reduceIte]
    refine Cal.mk (r36Do_v hU h hn hn2) ?_
    rintro _ s1 ⟨rfl, h1, T1⟩ -
    simp (maxSteps := 3000000) only [go_sem, ↓reduceIte]
    refine Cal.mk (r36Done_v hU h1 (acts_rng _ _) (p := p) (back := zeroC) (tp := tp) (tb := .nil) hp) ?_
    rintro _ s2 O -
    obtain ⟨tv, rfl, O2⟩ := O.up' T1
    simp (maxSteps := 3000000) only [go_sem, ↓reduceIte]
    exact ⟨_, _, Wk.refl _, O2.lt.weak, O2.le hU (Nat.le_refl _) (.inr rfl)⟩
  · simp (maxSteps := 3000000) only [go_sem, ↓reduceIte, decide_eq_false c1, hb, decide_eq_false c3]
    refine Cal.mk (r36EventOf_v hp) ?_
    rintro _ _ ⟨rfl, rfl⟩ -
    simp (maxSteps := 3000000) only [go_sem, ↓reduceIte]
    refine Cal.mk (r36Do_v hU h hn hn2) ?_
    rintro _ s1 ⟨rfl, h1, T1⟩ -
    simp (maxSteps := 3000000) only [go_sem, ↓reduceIte]
    refine Cal.mk (r36Done_v hU h1 (acts_rng _ _) (p := p) (back := zeroC) (tp := tp) (tb := .nil) hp) ?_
    rintro _ s2 O -
    obtain ⟨tv, rfl, O2⟩ := O.up' T1
    simp (maxSteps := 3000000) only [go_sem, ↓reduceIte]
    exact ⟨_, _, Wk.refl _, O2.lt.weak, O2.le hU (Nat.le_refl _) (.inr rfl)⟩
end
end
section
open Go
section
variable {st : St} {d : Nat} {r : Lr} {K : Int}
end
end
section
open Go
section
variable {st s : St} {tk tl : Tk} {L : List Int} {l last : List Opt} {n d k : Nat} {N : Neg Lr} {r' : Lr} {T0 : V} {r2 : List V}
end
end
section
open Go
structure LOp where
  kind : Int
  ticks : Int
  p : Ctl
  last : Bool
def LOp.v (o : LOp) (tk : Tk := .no) : V := .agg [.sc (.int .i64 o.kind), .sc (.int .i64 o.ticks), .sc (.int .u8 o.p.code), .sc (.int .u8 o.p.id), .sl tk (bs o.p.data), .sc (.bool o.last)]
def lops (l : List LOp) : List V := l.map fun o => o.v
theorem lops_len (l : List LOp) : (lops l).length = l.length := by simp [lops]
theorem lops_at {l : List LOp} {i : Nat} {o : LOp} (h : l[i]? = some o) : (lops l)[i]? = some (.agg [.sc (.int .i64 o.kind), .sc (.int .i64 o.ticks), .sc (.int .u8 o.p.code), .sc (.int .u8 o.p.id), .sl .no (bs o.p.data), .sc (.bool o.last)]) := by simp [lops, h, LOp.v]
structure LOp.Ok (o : LOp) : Prop where
  k0 : 0 ≤ o.kind
  t0 : 0 ≤ o.ticks
  t1 : o.ticks ≤ 100
  l : o.p.data.length ≤ 500
section
variable {st s : St} {tk tk2 : Tk} {l : List LOp} {most : Int}
set_option maxRecDepth 100000 in
set_option maxHeartbeats 4000000 in
theorem law36Great_v (hm : 0 ≤ most ∧ most ≤ 1000000) : VCalls Tryz.prog 5 [.sl tk (lops l), .sc (.int .i64 most)] st fun r s => (∃ b, r = .sc (.bool b) ∧ (b = false → (l.length : Int) ≤ most ∧ ∀ o ∈ l, o.Ok)) ∧ st = s := by
  refine vcalls_enterq pc5 (Nat.le_of_ble_eq_true rfl) rfl fun hwf hok => ?_
  show Run _ Pc5.body (.fin (finP Pc5.res _)) _ _
  unfold Pc5 zg zo
  by_cases c0 : most < (l.length : Int)
  · simp (maxSteps := 3000000) only [go_sem, ↓reduceIte, lops_len, decide_eq_true c0]
    exact ⟨_, _, Wk.refl _, hwf.weak, ⟨true, rfl, fun e => by cases e⟩, rfl⟩
  · simp (maxSteps := 3000000) only [go_sem, ↓reduceIte, lops_len, decide_eq_false c0]
    refine run_loop [4, 5, 12, 13, 15, 18, 19, 20, 21, 23, 24, 25, 26, 27, 28, 29, 31, 32, 33, 34, 35, 36, 37, 39, 40, 41, 42, 43, 44, 45, 46, 47] (fun B s => s = st ∧ ∃ i : Nat, i ≤ l.length ∧ B 5 = .sc (.int .i64 i) ∧ ∀ o ∈ l.take i, o.Ok) (fun B _ => l.length - vnat (B 5)) rfl ?_ ?_
    · exact ⟨rfl, 0, by omega, rfl, by simp⟩
    · rintro B s ⟨rfl, i, hi, h5, hn⟩
      by_cases c1 : i < l.length
      · obtain ⟨⟨k, t, ⟨c, id, D⟩, la⟩, ho⟩ := get_ex c1
        have step : LOp.Ok ⟨k, t, ⟨c, id, D⟩, la⟩ → ∀ o ∈ l.take (i + 1), o.Ok := fun h x hm => by
          rw [take_snoc ho] at hm
          rcases List.mem_append.1 hm with hm | hm
          · exact hn x hm
          · simp only [List.mem_singleton] at hm; subst hm; exact h
        repeat' first | simp (maxSteps := 3000000) only [go_sem, ↓reduceIte, h5, lops_len, lops_at ho, bs_len, decide_eq_true (show (i : Int) < (l.length : Int) by omega)] | (refine If.dec (fun h => ?_) (fun h => ?_) <;> first | simp only [decide_eq_true h] | simp only [decide_eq_false h] | skip) | (refine Grd.decd (fun h => ?_) (fun h => ?_) <;> first | simp only [decide_eq_true h] | simp only [decide_eq_false h] | skip) | (refine If.mk (fun h => ?_) (fun h => ?_) <;> first | simp only [h] | skip) | (refine Grd.two (fun h => ?_) (fun h => ?_) <;> first | simp only [h] | skip) | (apply And.intro; focus (first | omega | (simp; done)))
        all_goals first
          | (exfalso; omega)
          | exact ⟨_, _, Wk.refl _, hwf.weak, ⟨true, rfl, fun e => by cases e⟩, rfl⟩
          | (apply And.intro; focus exact ⟨i + 1, by omega, by simp, step ⟨by simp only; omega, by simp only; omega, by simp only; omega, by simp only; omega⟩⟩); omega
      · obtain rfl : i = l.length := by omega
        simp (maxSteps := 3000000) only [go_sem, ↓reduceIte, h5, lops_len]
        rw [List.take_length] at hn
        exact ⟨_, _, Wk.refl _, hwf.weak, ⟨false, rfl, fun _ => ⟨by omega, hn⟩⟩, rfl⟩
end
section
variable {st s : St} {tk tk2 : Tk} {p : Ctl} {P : List Ctl} {X : Nout}
theorem r15SameEq_v : VCalls Tryz.prog 17 [.agg [.sc (.int .u8 p.code), .sc (.int .u8 p.id), .sl tk (bs p.data)], .agg [.sc (.int .u8 p.code), .sc (.int .u8 p.id), .sl tk2 (bs p.data)]] st fun r s => r = .sc (.bool true) ∧ st = s := by
  refine vcalls_enterq pc17 (Nat.le_of_ble_eq_true rfl) rfl fun hwf hok => ?_
  show Run _ Pc17.body (.fin (finP Pc17.res _)) _ _
  unfold Pc17 zg zn zo
  simp (maxSteps := 3000000) only [go_sem, ↓reduceIte, u8sOf_bsN]
  exact ⟨_, _, Wk.refl _, hwf.weak, rfl, rfl⟩
set_option maxRecDepth 100000 in
theorem r15All_v (hP : P.length ≤ 1000000) : VCalls Tryz.prog 57 [.sl tk (ctls P), .sl tk2 (ctls P)] st fun r s => r = .sc (.bool true) ∧ st = s := by
  refine vcalls_enterq pc57 (Nat.le_of_ble_eq_true rfl) rfl fun hwf hok => ?_
  show Run _ Pc57.body (.fin (finP Pc57.res _)) _ _
  unfold Pc57 zo
  simp (maxSteps := 3000000) only [go_sem, ↓reduceIte, ctls_len]
  refine run_loop [4, 5, 13, 14, 16, 19, 20, 23, 24, 25, 26] (fun B s => s = st ∧ ∃ i : Nat, i ≤ P.length ∧ B 5 = .sc (.int .i64 i)) (fun B _ => P.length - vnat (B 5)) rfl ?_ ?_
  · exact ⟨rfl, 0, by omega, rfl⟩
  · rintro B s ⟨rfl, i, hi, h5⟩
    by_cases c1 : i < P.length
    · obtain ⟨p, ho⟩ := get_ex c1
      simp (maxSteps := 3000000) only [go_sem, ↓reduceIte, h5, ctls_len, ctls_at ho, decide_eq_true (show (i : Int) < (P.length : Int) by omega)]
      repeat (apply And.intro; focus (first | omega | (simp; done)))
      refine Cal.mk r15SameEq_v ?_
      rintro _ _ ⟨rfl, rfl⟩ -
      simp (maxSteps := 3000000) only [go_sem, ↓reduceIte, Bool.not_true, h5]
      repeat (apply And.intro; focus (first | omega | (simp; done)))
      exact ⟨⟨i + 1, by omega, by simp⟩, by omega⟩
    · obtain rfl : i = P.length := by omega
      simp (maxSteps := 3000000) only [go_sem, ↓reduceIte, h5, ctls_len]
      exact ⟨_, _, Wk.refl _, hwf.weak, rfl, rfl⟩
theorem law36Same_v (hP : X.P.length ≤ 1000000) : VCalls Tryz.prog 33 [.agg [.sl tk (ctls X.P), .sc (.bool X.up), .sc (.bool X.down), .sc (.bool X.over)], .agg [.sl tk2 (ctls X.P), .sc (.bool X.up), .sc (.bool X.down), .sc (.bool X.over)]] st fun r s => r = .sc (.bool true) ∧ st = s := by
  obtain ⟨P, u, d, v⟩ := X
  simp only at hP
  refine vcalls_enterq pc33 (Nat.le_of_ble_eq_true rfl) rfl fun hwf hok => ?_
  show Run _ Pc33.body (.fin (finP Pc33.res _)) _ _
  unfold Pc33 zg zn zo
  have bb : ∀ b : Bool, (b == b) = true := fun b => by cases b <;> rfl
  simp (maxSteps := 3000000) only [go_sem, ↓reduceIte]
  refine Cal.mk (r15All_v hP) ?_
  rintro _ _ ⟨rfl, rfl⟩ -
  simp (maxSteps := 3000000) only [go_sem, ↓reduceIte, bb]
  exact ⟨_, _, Wk.refl _, hwf.weak, rfl, rfl⟩
end
section
variable {st s : St} {tk tk2 : Tk} {n d k : Nat} {N : Neg Lr} {L : List Int}
end
end
section
open Go
def r2C (r : Ir) : List V := [.sc (.int .u16 0), .sc (.bool false), .sc (.int .u32 0), .sc (.bool false), .sc (.bool false), .sc (.pointer none), .sc (.int .i64 0), .sc (.int .u32 r.mine.a), .sc (.int .u32 r.mine.d1), .sc (.int .u32 r.mine.d2), .sc (.int .u32 r.give.a), .sc (.int .u32 r.give.d1), .sc (.int .u32 r.give.d2), .sc (.bool false)]
structure R2I (r : Ir) (last : List Opt) (r2 : List V) : Prop where
  e : r2 = r2C r
  eg : r.got = ofA last
  lg : GoodO last
  ll : last.length ≤ 1000000
  gm : r.mine.Good
  gg : r.give.Good
def R2S (_ : Nat) (_ : St) (r : Ir) (_ : V) (last : List Opt) (r2 : List V) : Prop := R2I r last r2
section
variable {st s : St} {tk tl : Tk} {l last : List Opt} {n k : Nat} {N : Neg Ir} {T0 : V} {r2 : List V}
theorem r2Req_v (h : RefI R2S [] 2 7 n k st N) : VCalls Tryz.prog 80 [ptrV n] st fun x s => x = .sl .no (opts (optsA N.r.mine)) ∧ st = s := by
  refine vcalls_enterq pc80 (Nat.le_of_ble_eq_true rfl) rfl fun hwf hok => ?_
  show Run _ Pc80.body (.fin (finP Pc80.res _)) _ _
  unfold Pc80 zo
  obtain ⟨tk, T0, tl, last, r2, hb, hi⟩ := h.ex
  rw [hi.e] at hb
  unfold refC r2C at hb
  simp (maxSteps := 3000000) only [go_sem, ↓reduceIte, hb]
  refine Cal.mk (r35Options_v hi.gm) ?_
  rintro _ _ ⟨rfl, rfl⟩ -
  simp (maxSteps := 3000000) only [go_sem, ↓reduceIte]
  exact ⟨_, _, Wk.refl _, hwf.weak, rfl, rfl⟩
theorem RefI.same (h : RefI R2S [] 2 7 n k st N) : RefI R2S [] 2 7 n (k + 1) st N := by
  obtain ⟨tk, T0, tl, last, r2, hb, hi⟩ := h.ex
  exact ⟨⟨tk, T0, tl, last, r2, hb, hi⟩, h.nn, h.l0, h.l1, h.i0, h.i1, h.a0, by have := h.a1; omega, h.rb, h.rl⟩
theorem r2Judge_v (h : RefI R2S [] 2 7 n k st N) (hG : GoodO l) (hl : l.length ≤ 1000000) : VCalls Tryz.prog 90 [ptrV n, .sl tk (opts l)] st fun x s =>
    (∃ t2, x = .tup [.sc (.int .u8 (judgeA l N.r.give).1), .sl t2 (opts (judgeA l N.r.give).2)]) ∧ RefI R2S [] 2 7 n (k + 1) s N ∧ Tn [n] st s := by
  refine vcalls_enterq pc90 (Nat.le_of_ble_eq_true rfl) rfl fun hwf hok => ?_
  show Run _ Pc90.body (.fin (finP Pc90.res _)) _ _
  unfold Pc90 zg zo
  obtain ⟨tk, T0, tl, last, r2, hb, hi⟩ := h.ex
  rw [hi.e] at hb
  unfold refC r2C at hb
  simp (maxSteps := 3000000) only [go_sem, ↓reduceIte, hb]
  refine Cal.mk (r35Judge_v hi.gg hG hl) ?_
  rintro _ _ ⟨⟨t2, rfl⟩, rfl⟩ -
  simp (maxSteps := 3000000) only [go_sem, ↓reduceIte]
  exact ⟨_, _, Wk.refl _, hwf.weak, ⟨t2, rfl⟩, h.same, Tn.refl hwf.lt⟩
theorem r2Naked_v (h : RefI R2S [] 2 7 n k st N) : VCalls Tryz.prog 92 [ptrV n, .sl tk (opts l)] st fun x s => x = .tup [] ∧ RefI R2S [] 2 7 n (k + 1) s N ∧ Tn [n] st s := by
  refine vcalls_enterq pc92 (Nat.le_of_ble_eq_true rfl) rfl fun hwf hok => ?_
  show Run _ Pc92.body (.fin (finP Pc92.res _)) _ _
  unfold Pc92 zg zn zo
  obtain ⟨tk, T0, tl, last, r2, hb, hi⟩ := h.ex
  rw [hi.e] at hb
  unfold refC r2C at hb
  simp (maxSteps := 3000000) only [go_sem, ↓reduceIte, hb]
  exact ⟨_, _, Wk.refl _, hwf.weak, rfl, h.same, Tn.refl hwf.lt⟩
theorem r2Rejected_v (h : RefI R2S [] 2 7 n k st N) (hl : l.length ≤ 1000000) : VCalls Tryz.prog 93 [ptrV n, .sl tk (opts l)] st fun x s => x = .sc (.bool true) ∧ RefI R2S [] 2 7 n k s { N with r := (ipU.rejected N.r l).1 } ∧ Tn [n] st s := by
  refine vcalls_enterq pc93 (Nat.le_of_ble_eq_true rfl) rfl fun hwf hok => ?_
  show Run _ Pc93.body (.fin (finP Pc93.res _)) _ _
  unfold Pc93 zg zn zo
  have hlt := hwf.lt
  obtain ⟨tk1, T0, tl, last, r2, hb, hi⟩ := h.ex
  obtain ⟨X, hX⟩ : ∃ X, X = (ipU.rejected N.r l).1 := ⟨_, rfl⟩
  rw [← hX]
  unfold ipU at hX
  simp only at hX
  have hw : RefI R2S [] 2 7 n k (st.put n (refC 2 7 { N with r := { N.r with mine := { N.r.mine with a := 0 } } } tk1 T0 tl last (r2C { N.r with mine := { N.r.mine with a := 0 } }))) { N with r := { N.r with mine := { N.r.mine with a := 0 } } } :=
    ⟨⟨tk1, T0, tl, last, _, put_box_same, ⟨rfl, hi.eg, hi.lg, hi.ll, ⟨Int.le_refl 0, (by decide : (0 : Int) < 4294967296), hi.gm.b0, hi.gm.b1, hi.gm.c0, hi.gm.c1⟩, hi.gg⟩⟩, h.nn, h.l0, h.l1, h.i0, h.i1, h.a0, h.a1, h.rb, h.rl⟩
  have T : Tn [n] st (st.put n (refC 2 7 { N with r := { N.r with mine := { N.r.mine with a := 0 } } } tk1 T0 tl last (r2C { N.r with mine := { N.r.mine with a := 0 } }))) := (Tn.refl hlt).put (.inl (by simp)) hlt
  rw [hi.e] at hb
  unfold refC r2C at hb
  simp (maxSteps := 3000000) only [go_sem, ↓reduceIte, hb]
  refine Cal.mk (r10Find_v (t := 3) hl) ?_
  rintro _ _ ⟨⟨x, rfl, hx⟩, rfl⟩ -
  rcases hx with ⟨rfl, hf⟩ | ⟨i, D, rfl, ho, hf⟩
  · rw [hf] at hX
    simp only [Option.isSome_none, Bool.false_eq_true, ↓reduceIte] at hX
    simp (maxSteps := 3000000) only [go_sem, ↓reduceIte]
    exact ⟨_, _, Wk.refl _, hwf.weak, rfl, by rw [hX]; exact h, Tn.refl hlt⟩
  · rw [hf] at hX
    simp only [Option.isSome_some, ↓reduceIte] at hX
    unfold refC r2C at hw T
    simp only at hw T
    simp (maxSteps := 3000000) only [go_sem, ↓reduceIte, decide_eq_true (show (0 : Int) ≤ (i : Int) by omega), hb]
    exact ⟨_, _, Wk.refl _, T.lt.weak, rfl, by rw [hX]; exact hw, T⟩
theorem ref_rules2 : RefR ipU R2S [] 2 7 n where
  req := fun k st N h => r2Req_v h
  reqG := fun k st N h => ⟨optsA_good N.r.mine, Nat.le_trans (optsA_len N.r.mine) (by decide)⟩
  judge := fun k st N l tk h hk hG hl => r2Judge_v h hG hl
  judgeG := fun k st N l h hG hl => judgeA_good hG hl
  agreed := fun k st r T last l r2 h hG hl => ⟨h.e, rfl, hG, hl, h.gm, h.gg⟩
  naked := fun k st N l tk h hk hG hl => r2Naked_v h
  rejected := fun k st N l tk h hk hG hl => r2Rejected_v h hl
  stay := fun k st s r T last r2 h hs hz => h
  more := fun k st r T last r2 h => h
  lt := fun k st r T last r2 h b hb => by cases hb
theorem law38New_v {me : Int} {g : AW} (m0 : 0 ≤ me) (m1 : me < 4294967296) (hg : g.Good) : VCalls Tryz.prog 21 [.sc (.int .u32 me), .agg g.cells] st fun r s => ∃ n, r = ptrV n ∧ RefI R2S [] 2 7 n 0 s (ipNew me g) ∧ Tn [] st s ∧ st.sz ≤ n := by
  refine vcalls_enterq pc21 (Nat.le_of_ble_eq_true rfl) rfl fun hwf hok => ?_
  show Run _ Pc21.body (.fin (finP Pc21.res _)) _ _
  unfold Pc21 zo
  have hlt := hwf.lt
  simp (maxSteps := 3000000) only [go_sem, ↓reduceIte, AW.cells]
  intro n hn
  have T := tn_new (cs := refC 2 7 (ipNew me g) .nil (.sl .nil []) .nil [] (r2C (ipNew me g).r)) hlt hn
  have I : RefI R2S [] 2 7 n 0 (st.put n (refC 2 7 (ipNew me g) .nil (.sl .nil []) .nil [] (r2C (ipNew me g).r))) (ipNew me g) :=
    ⟨⟨_, _, _, [], _, put_box_same, ⟨rfl, rfl, GoodO.nil, by simp, ⟨m0, m1, Int.le_refl 0, (by decide : (0 : Int) < 4294967296), Int.le_refl 0, (by decide : (0 : Int) < 4294967296)⟩, hg⟩⟩, by simp, Int.le_refl 0, (by decide : (0 : Int) ≤ 10), Int.le_refl 0, (by decide : (0 : Int) < 256), Int.le_refl 0, Int.le_refl 0, IsB.nil', (by decide : 0 ≤ 1000000)⟩
  exact ⟨_, _, Wk.refl _, T.lt.weak, n, rfl, I, T, hn⟩
def pktI (o : LOp) (N : Neg Ir) : Ctl := ⟨o.p.code, if o.last = true then N.id else o.p.id, if o.last = true ∧ o.p.code = 2 then N.req else o.p.data⟩
theorem pktI_good {o : LOp} (c0 : 0 ≤ o.p.code) (c1 : o.p.code < 256) (i0 : 0 ≤ o.p.id) (i1 : o.p.id < 256) (b : IsB o.p.data) (hl : o.p.data.length ≤ 500) (R : RefI R2S [] 2 7 n k st N) : (pktI o N).Good := by
  refine ⟨c0, c1, ?_, ?_, ?_, ?_⟩
  · show 0 ≤ (if o.last = true then N.id else o.p.id)
    have := R.i0; split <;> omega
  · show (if o.last = true then N.id else o.p.id) < 256
    have := R.i1; split <;> omega
  · show IsB (if o.last = true ∧ o.p.code = 2 then N.req else o.p.data)
    have := R.rb; split <;> assumption
  · show (if o.last = true ∧ o.p.code = 2 then N.req else o.p.data).length ≤ 1000000
    have := R.rl; split <;> omega
theorem law38Packet_v (h : RefI R2S [] 2 7 n k st N) {o : LOp} : VCalls Tryz.prog 50 [.agg [.sc (.int .i64 o.kind), .sc (.int .i64 o.ticks), .sc (.int .u8 o.p.code), .sc (.int .u8 o.p.id), .sl tk (bs o.p.data), .sc (.bool o.last)], ptrV n] st fun r s => (∃ t, r = .agg [.sc (.int .u8 (pktI o N).code), .sc (.int .u8 (pktI o N).id), .sl t (bs (pktI o N).data)]) ∧ st = s := by
  obtain ⟨ki, ti, ⟨c, i, D⟩, la⟩ := o
  refine vcalls_enterq pc50 (Nat.le_of_ble_eq_true rfl) rfl fun hwf hok => ?_
  show Run _ Pc50.body (.fin (finP Pc50.res _)) _ _
  unfold Pc50 zg zn zo
  obtain ⟨t1, T0, tl, last, r2, hb, hi⟩ := h.ex
  unfold refC at hb
  cases la with
  | false =>
    simp (maxSteps := 3000000) only [go_sem, ↓reduceIte]
    exact ⟨_, _, Wk.refl _, hwf.weak, ⟨tk, by simp [pktI]⟩, rfl⟩
  | true =>
    by_cases e : c = 2
    · simp (maxSteps := 3000000) only [go_sem, ↓reduceIte, hb, decide_eq_true e]
      exact ⟨_, _, Wk.refl _, hwf.weak, ⟨t1, by simp [pktI, e]⟩, rfl⟩
    · simp (maxSteps := 3000000) only [go_sem, ↓reduceIte, hb, decide_eq_false e]
      exact ⟨_, _, Wk.refl _, hwf.weak, ⟨tk, by simp [pktI, e]⟩, rfl⟩
end
end
section
open Go
theorem foldA_mono {g : AW} : ∀ {l : List Opt} {a : List Opt × List Opt × List Int}, a.1.length ≤ (l.foldl (stepA g) a).1.length ∧ a.2.1.length ≤ (l.foldl (stepA g) a).2.1.length
  | [], a => ⟨Nat.le_refl _, Nat.le_refl _⟩
  | o :: l, a => by
    have h := foldA_mono (g := g) (l := l) (a := stepA g a o)
    have h1 : a.1.length ≤ (stepA g a o).1.length ∧ a.2.1.length ≤ (stepA g a o).2.1.length := by
      unfold stepA
      split
      · simp only [List.length_append]; omega
      · simp only [List.length_append]; omega
    simp only [List.foldl_cons]
    omega
theorem foldA_ack {g : AW} : ∀ {l : List Opt} {a : List Opt × List Opt × List Int} {w : AW}, (l.foldl (stepA g) a).1 = [] → (l.foldl (stepA g) a).2.1 = [] → (3 ∈ a.2.2 → w.a = g.a) → 3 ∈ (l.foldl (stepA g) a).2.2 → (l.foldl ofStepA w).a = g.a
  | [], a, w, _, _, h, k => h k
  | o :: l, a, w, h1, h2, h, k => by
    simp only [List.foldl_cons] at h1 h2 k ⊢
    have hm := foldA_mono (g := g) (l := l) (a := stepA g a o)
    rw [h1, h2] at hm
    simp only [List.length_nil, Nat.le_zero_eq] at hm
    refine foldA_ack h1 h2 (fun h3 => ?_) k
    unfold stepA at hm h3
    by_cases c : g.of o.1 = 0 ∨ o.2.length ≠ 4 ∨ o.1 ∈ a.2.2
    · rw [if_pos c] at hm
      have := hm.1
      simp at this
    · rw [if_neg c] at hm h3
      simp only [not_or, Decidable.not_not] at c
      obtain ⟨c1, c2, c3⟩ := c
      have e4 : num4 o.2 = g.of o.1 := by
        by_cases e : num4 o.2 = g.of o.1
        · exact e
        · have := hm.2
          rw [if_pos e] at this
          simp at this
      unfold ofStepA
      rw [if_neg (fun e => e c2)]
      by_cases d1 : o.1 = 3
      · rw [if_pos d1]
        show num4 o.2 = g.a
        rw [e4, d1]; rfl
      · rw [if_neg d1]
        have h3' : 3 ∈ a.2.2 := by
          rcases List.mem_cons.1 h3 with e | e
          · exact absurd e.symm d1
          · exact e
        have := h h3'
        split
        · exact this
        split
        · exact this
        · exact this
theorem judgeA_ack {g : AW} {l : List Opt} (h : (judgeA l g).1 = 2) : (ofA l).a = g.a := by
  unfold judgeA at h
  by_cases c1 : (foldA g l).1 ≠ []
  · rw [if_pos c1] at h; exact absurd h (show ¬ (4 : Int) = 2 by decide)
  rw [if_neg c1] at h
  by_cases c2 : nakA g (foldA g l) ≠ []
  · rw [if_pos c2] at h; exact absurd h (show ¬ (3 : Int) = 2 by decide)
  have c1 := Decidable.not_not.1 c1
  have c2 := Decidable.not_not.1 c2
  unfold nakA at c2
  by_cases c3 : 3 ∈ (foldA g l).2.2
  · rw [if_pos c3] at c2
    exact foldA_ack c1 c2 (fun e => by cases e) c3
  · rw [if_neg c3] at c2
    simp at c2
def OkI (g : AW) (N : Neg Ir) : Prop := N.r.give = g ∧ ((N.s = 8 ∨ N.s = 9) → N.r.got.a = g.a)
theorem enter_all : ∀ e : Nat, e < 16 → ∀ s : Nat, s < 10 → e = 6 ∨ s = 8 ∨ s = 9 ∨ ((stepF (s : Int) (e : Int)).1 ≠ 8 ∧ (stepF (s : Int) (e : Int)).1 ≠ 9) := by decide
theorem enter_six : (stepF 0 6).1 ≠ 8 ∧ (stepF 0 6).1 ≠ 9 ∧ (stepF 1 6).1 ≠ 8 ∧ (stepF 1 6).1 ≠ 9 ∧ (stepF 2 6).1 ≠ 8 ∧ (stepF 2 6).1 ≠ 9 ∧ (stepF 4 6).1 ≠ 8 ∧ (stepF 4 6).1 ≠ 9 ∧ (stepF 5 6).1 ≠ 8 ∧ (stepF 5 6).1 ≠ 9 := by decide
theorem enter {s e : Int} (he : e ≠ 6) (h : (stepF s e).1 = 8 ∨ (stepF s e).1 = 9) : s = 8 ∨ s = 9 := by
  by_cases c : s < 0 ∨ 9 < s ∨ e < 0 ∨ 15 < e
  · have : stepF s e = (s, 0) := by unfold stepF; rw [if_pos c]
    rw [this] at h; exact h
  · by_cases c8 : s = 8
    · exact .inl c8
    by_cases c9 : s = 9
    · exact .inr c9
    have := enter_all e.toNat (by omega) s.toNat (by omega)
    have := ((this.resolve_left (by omega)).resolve_left (by omega)).resolve_left (by omega)
    rw [show (s.toNat : Int) = s by omega, show (e.toNat : Int) = e by omega] at this
    rcases h with h | h
    · exact absurd h this.1
    · exact absurd h this.2
theorem enter6 {s : Int} (hs : s = 4 ∨ s = 5 ∨ s < 3) : ¬ ((stepF s 6).1 = 8 ∨ (stepF s 6).1 = 9) := by
  obtain ⟨h1, h2, h3, h4, h5, h6, h7, h8, h9, h10⟩ := enter_six
  by_cases c : s < 0
  · have : stepF s 6 = (s, 0) := by unfold stepF; rw [if_pos (.inl c)]
    rw [this]; simp only; omega
  · have : s = 0 ∨ s = 1 ∨ s = 2 ∨ s = 4 ∨ s = 5 := by omega
    rcases this with rfl | rfl | rfl | rfl | rfl
    · exact fun h => h.elim h1 h2
    · exact fun h => h.elim h3 h4
    · exact fun h => h.elim h5 h6
    · exact fun h => h.elim h7 h8
    · exact fun h => h.elim h9 h10
theorem ite4 {P : Prop} [Decidable P] {x : Int} (h : (if P then 4 else x) = 2) : x = 2 := by
  split at h
  · exact absurd h (by decide)
  · exact h
section
variable {g : AW} {N : Neg Ir} {now e : Int} {p back : Ctl}
theorem OkI.event (h : OkI g N) (he : e ≠ 6) : OkI g (N.event ipU now e p back).1 := by
  obtain ⟨k1, k2⟩ := event_keep (U := ipU) (N := N) (now := now) (e := e) (p := p) (back := back)
  refine ⟨by rw [k1]; exact h.1, fun hs => ?_⟩
  rw [k1]
  rw [k2] at hs
  exact h.2 (enter he hs)
theorem OkI.close (h : OkI g N) : OkI g (N.close ipU now).1 := h.event (by decide)
theorem OkI.start (h : OkI g N) : OkI g (N.start ipU now).1 := OkI.event (OkI.event h (by decide)) (by decide)
theorem OkI.tick (h : OkI g N) : OkI g (N.tick ipU now).1 := by
  unfold Neg.tick
  simp only
  obtain ⟨k1, k2, _⟩ := done_keep (U := ipU) (N := { N with s := (tickA N.s N.left N.at_ now).1, left := (tickA N.s N.left N.at_ now).2.1, at_ := (tickA N.s N.left N.at_ now).2.2.1 }) (act := (tickA N.s N.left N.at_ now).2.2.2) (again := true) (p := zeroC) (back := zeroC)
  refine ⟨by rw [k1]; exact h.1, fun hs => ?_⟩
  rw [k1]
  rw [k2] at hs
  refine h.2 ?_
  simp only at hs
  unfold tickA at hs
  split at hs
  · exact hs
  · simp only at hs
    split at hs
    · exact enter (by decide) hs
    · exact enter (by decide) hs
theorem OkI.of {r : Ir} {x : Int} (h : OkI g N) (e1 : r.give = N.r.give) (e2 : r.got = N.r.got) : OkI g { N with r := r, naks := x } := ⟨by rw [← h.1]; exact e1, fun hs => by rw [← h.2 hs]; exact congrArg AW.a e2⟩
theorem OkI.request (h : OkI g N) : OkI g (N.request ipU now p).1 := by
  unfold Neg.request
  simp only
  split
  · exact h
  split
  · rename_i c
    obtain ⟨k1, k2⟩ := event_keep (U := ipU) (N := N) (now := now) (e := 6) (p := p) (back := zeroC)
    exact ⟨by rw [k1]; exact h.1, fun hs => by rw [k2] at hs; exact absurd hs (enter6 c)⟩
  split
  · refine OkI.event ?_ (by decide)
    unfold Neg.judge
    exact h.of rfl rfl
  · rename_i c
    refine ⟨?_, fun _ => ?_⟩
    · rw [(event_keep (U := ipU)).1]
      exact h.1
    · rw [(event_keep (U := ipU)).1]
      show (ofA (parseO p.data).1).a = g.a
      unfold Neg.judge at c
      simp only [Bool.not_eq_false, decide_eq_true_eq] at c
      have := judgeA_ack (g := N.r.give) (l := (parseO p.data).1) (ite4 c)
      rw [this, h.1]
theorem OkI.answered (h : OkI g N) : OkI g (N.answered ipU now p).1 := by
  unfold Neg.answered
  simp only
  split
  · exact h
  split
  · exact h.event (by decide)
  split
  · exact OkI.event (h.of rfl rfl) (by decide)
  split
  · exact OkI.close (h.of rfl rfl)
  · exact OkI.event (h.of rfl rfl) (by decide)
theorem evOf_ne (p : Ctl) : evOf p ≠ 6 := by
  unfold evOf
  split
  · decide
  split
  · decide
  split
  · decide
  split <;> decide
theorem OkI.take (h : OkI g N) : OkI g (N.take ipU 7 now p).1 := by
  unfold Neg.take
  split
  · exact h.event (by decide)
  split
  · exact h.request
  split
  · exact h.answered
  · exact h.event (evOf_ne p)
theorem OkI.new {me : Int} : OkI g (ipNew me g) := ⟨rfl, fun h => by rcases h with h | h; exact absurd h (show ¬ (0 : Int) = 8 by decide); exact absurd h (show ¬ (0 : Int) = 9 by decide)⟩
end
end
section
open Go
section
variable {st s : St} {tk : Tk} {n d k : Nat} {N : Neg Lr}
end
end
section
open Go
structure LOp.In (o : LOp) : Prop where
  c0 : 0 ≤ o.p.code
  c1 : o.p.code < 256
  i0 : 0 ≤ o.p.id
  i1 : o.p.id < 256
  b : IsB o.p.data
section
variable {st s : St} {tk : Tk} {a n q d n2 d2 k : Nat} {N : Neg Lr}
end
end
section
open Go
structure ApI (a n q n2 : Nat) : Prop where
  x : ∀ b ∈ n2 :: [], b ∉ n :: [q]
  y : ∀ b ∈ a :: n :: [q], b ∉ n2 :: []
structure TwoI (g : AW) (a n q n2 k : Nat) (st s : St) (N : Neg Ir) : Prop where
  L : IpI a n q k s N
  R : RefI R2S [] 2 7 n2 k s N
  T : Tn [n, q, n2] st s
  ok : OkI g N
section
variable {st s : St} {tk : Tk} {a n q n2 k : Nat} {N : Neg Ir} {g : AW}
theorem IOut.tn {m : Nat} {X : Neg Ir × Nout} {r : V} (o : IOut st a n q k m X r s) : Tn (n :: [q]) st s := by
  obtain ⟨_, _, _, h, _⟩ := o; exact h
theorem IOut.len {m : Nat} {X : Neg Ir × Nout} {r : V} (o : IOut st a n q k m X r s) : X.2.P.length ≤ m := by
  obtain ⟨_, _, _, _, h⟩ := o; exact h
theorem TwoI.next (hA : ApI a n q n2) (I : TwoI g a n q n2 k st s N) {X : Neg Ir × Nout} {r1 r2 : V} {s1 s2 : St} {k1 k2 m1 m2 : Nat} (hk1 : k1 = k ∨ k1 = k + 1) (hk2 : k2 = k ∨ k2 = k + 1)
    (o : IOut s a n q k1 m1 X r1 s1) (u : ROut s1 R2S [] 2 7 n2 k2 m2 X r2 s2) (ok : OkI g X.1) : TwoI g a n q n2 (k + 1) st s2 X.1 := by
  obtain ⟨_, _, o2, o3, _⟩ := o
  obtain ⟨_, _, _, u2, u3, _⟩ := u
  refine ⟨?_, ?_, (I.T.trans (o3.wide (by simp))).trans (u3.wide (by simp)), ok⟩
  · have := o2.tnx u3 hA.y
    rcases hk1 with rfl | rfl
    · exact this.more
    · exact this
  · rcases hk2 with rfl | rfl
    · exact u2.more ref_rules2
    · exact u2
set_option maxRecDepth 100000 in
set_option maxHeartbeats 16000000 in
theorem law38Step_v {base : St} (hA : ApI a n q n2) (I : TwoI g a n q n2 k base st N) (hk : k + 1 ≤ 1000000) {o : LOp} (hi : o.In) (ho : o.Ok) {now : Int} (hn : 0 ≤ now) (hn2 : now ≤ 1000000000) :
    VCalls Tryz.prog 22 [ptrV a, ptrV n2, .agg [.sc (.int .i64 o.kind), .sc (.int .i64 o.ticks), .sc (.int .u8 o.p.code), .sc (.int .u8 o.p.id), .sl tk (bs o.p.data), .sc (.bool o.last)], .sc (.int .i64 now)] st fun r s => r = .sc (.bool true) ∧ ∃ N', TwoI g a n q n2 (k + 1) base s N' := by
  refine vcalls_enterq pc22 (Nat.le_of_ble_eq_true rfl) rfl fun hwf hok => ?_
  show Run _ Pc22.body (.fin (finP Pc22.res _)) _ _
  unfold Pc22 zn zo
  have hlt := hwf.lt
  have hL := I.L
  have hk0 := ho.k0
  by_cases c4 : o.kind % 8 = 4
  · have e4 := decide_eq_true c4
    skip
    simp (maxSteps := 3000000) only [go_sem, ↓reduceIte, e4]
    refine ⟨hk0, ?_⟩
    refine Cal.mk (ipTick_v hL hn hn2) ?_
    rintro _ s1 o1 -
    have h1 := I.R.tnx ref_rules2 o1.tn hA.x
    have hln := o1.len
    obtain ⟨tv, rfl, _⟩ := id o1
    simp (maxSteps := 3000000) only [go_sem, ↓reduceIte, outV]
    refine Cal.mk (r36Tick_v ref_rules2 h1 hn hn2) ?_
    rintro _ s2 o2 -
    have J := I.next hA (.inl rfl) (.inl rfl) o1 o2 (I.ok.tick)
    have hlt2 := o2.lt
    obtain ⟨tv2, rfl, _⟩ := o2
    simp (maxSteps := 3000000) only [go_sem, ↓reduceIte]
    refine Cal.mk (law36Same_v (Nat.le_trans hln (by decide))) ?_
    rintro _ _ ⟨rfl, rfl⟩ -
    simp (maxSteps := 3000000) only [go_sem, ↓reduceIte]
    exact ⟨_, _, Wk.refl _, hlt2.weak, rfl, _, J⟩
  have e4 := decide_eq_false c4
  by_cases c7 : o.kind % 8 = 7
  · have e7 := decide_eq_true c7
    skip
    simp (maxSteps := 3000000) only [go_sem, ↓reduceIte, e4, e7]
    refine ⟨hk0, ?_⟩
    refine Cal.mk (ipTick_v hL hn hn2) ?_
    rintro _ s1 o1 -
    have h1 := I.R.tnx ref_rules2 o1.tn hA.x
    have hln := o1.len
    obtain ⟨tv, rfl, _⟩ := id o1
    simp (maxSteps := 3000000) only [go_sem, ↓reduceIte, outV]
    refine Cal.mk (r36Tick_v ref_rules2 h1 hn hn2) ?_
    rintro _ s2 o2 -
    have J := I.next hA (.inl rfl) (.inl rfl) o1 o2 (I.ok.tick)
    have hlt2 := o2.lt
    obtain ⟨tv2, rfl, _⟩ := o2
    simp (maxSteps := 3000000) only [go_sem, ↓reduceIte]
    refine Cal.mk (law36Same_v (Nat.le_trans hln (by decide))) ?_
    rintro _ _ ⟨rfl, rfl⟩ -
    simp (maxSteps := 3000000) only [go_sem, ↓reduceIte]
    exact ⟨_, _, Wk.refl _, hlt2.weak, rfl, _, J⟩
  have e7 := decide_eq_false c7
  by_cases c5 : o.kind % 8 = 5
  · have e5 := decide_eq_true c5
    skip
    simp (maxSteps := 3000000) only [go_sem, ↓reduceIte, e4, e7, e5]
    refine ⟨hk0, ?_⟩
    refine Cal.mk (ipClose_v hL hn hn2) ?_
    rintro _ s1 o1 -
    have h1 := I.R.tnx ref_rules2 o1.tn hA.x
    have hln := o1.len
    obtain ⟨tv, rfl, _⟩ := id o1
    simp (maxSteps := 3000000) only [go_sem, ↓reduceIte, outV]
    refine Cal.mk (r36Close_v ref_rules2 h1 hn hn2) ?_
    rintro _ s2 o2 -
    have J := I.next hA (.inl rfl) (.inl rfl) o1 o2 (I.ok.close)
    have hlt2 := o2.lt
    obtain ⟨tv2, rfl, _⟩ := o2
    simp (maxSteps := 3000000) only [go_sem, ↓reduceIte]
    refine Cal.mk (law36Same_v (Nat.le_trans hln (by decide))) ?_
    rintro _ _ ⟨rfl, rfl⟩ -
    simp (maxSteps := 3000000) only [go_sem, ↓reduceIte]
    exact ⟨_, _, Wk.refl _, hlt2.weak, rfl, _, J⟩
  have e5 := decide_eq_false c5
  by_cases c6 : o.kind % 8 = 6
  · have e6 := decide_eq_true c6
    skip
    simp (maxSteps := 3000000) only [go_sem, ↓reduceIte, e4, e7, e5, e6]
    refine ⟨hk0, ?_⟩
    refine Cal.mk (ipStart_v hL hn hn2) ?_
    rintro _ s1 o1 -
    have h1 := I.R.tnx ref_rules2 o1.tn hA.x
    have hln := o1.len
    obtain ⟨tv, rfl, _⟩ := id o1
    simp (maxSteps := 3000000) only [go_sem, ↓reduceIte, outV]
    refine Cal.mk (r36Start_v ref_rules2 h1 hn hn2) ?_
    rintro _ s2 o2 -
    have J := I.next hA (.inl rfl) (.inl rfl) o1 o2 (I.ok.start)
    have hlt2 := o2.lt
    obtain ⟨tv2, rfl, _⟩ := o2
    simp (maxSteps := 3000000) only [go_sem, ↓reduceIte]
    refine Cal.mk (law36Same_v (Nat.le_trans hln (by decide))) ?_
    rintro _ _ ⟨rfl, rfl⟩ -
    simp (maxSteps := 3000000) only [go_sem, ↓reduceIte]
    exact ⟨_, _, Wk.refl _, hlt2.weak, rfl, _, J⟩
  have e6 := decide_eq_false c6
  have hg := pktI_good hi.c0 hi.c1 hi.i0 hi.i1 hi.b ho.l I.R
  simp (maxSteps := 3000000) only [go_sem, ↓reduceIte, e4, e7, e5, e6]
  repeat (apply And.intro; focus (first | omega | (simp; done)))
  refine Cal.mk (law38Packet_v I.R) ?_
  rintro _ _ ⟨⟨t, rfl⟩, rfl⟩ -
  simp (maxSteps := 3000000) only [go_sem, ↓reduceIte]
  refine Cal.mk (ipTake_v hL (by omega) hn hn2 hg) ?_
  rintro _ s1 o1 -
  have h1 := I.R.tnx ref_rules2 o1.tn hA.x
  have hln := o1.len
  obtain ⟨tv, rfl, _⟩ := id o1
  simp (maxSteps := 3000000) only [go_sem, ↓reduceIte, outV]
  refine Cal.mk (r36Take_v ref_rules2 h1 (by omega) (by decide) hn hn2 hg) ?_
  rintro _ s2 o2 -
  have J := I.next hA (.inr rfl) (.inr rfl) o1 o2 (I.ok.take)
  have hlt2 := o2.lt
  obtain ⟨tv2, rfl, _⟩ := o2
  simp (maxSteps := 3000000) only [go_sem, ↓reduceIte]
  refine Cal.mk (law36Same_v (Nat.le_trans hln (by decide))) ?_
  rintro _ _ ⟨rfl, rfl⟩ -
  simp (maxSteps := 3000000) only [go_sem, ↓reduceIte]
  exact ⟨_, _, Wk.refl _, hlt2.weak, rfl, _, J⟩
theorem ipAlive_eq : ((ipNew 167772161 ⟨167772169, 0, 0⟩).start ipU 0).2 = ⟨[⟨1, 1, [3, 6, 10, 0, 0, 1]⟩], false, false, false⟩ := by decide
set_option maxRecDepth 100000 in
theorem ipAlive_v : VCalls Tryz.prog 27 [] st fun r s => r = .sc (.bool true) ∧ st = s := by
  refine vcalls_enterq pc27 (Nat.le_of_ble_eq_true rfl) rfl fun hwf hok => ?_
  show Run _ Pc27.body (.fin (finP Pc27.res _)) _ _
  unfold Pc27 zg zn zo
  have hlt := hwf.lt
  simp (maxSteps := 3000000) only [go_sem, ↓reduceIte]
  refine Cal.mk (ipNew_v (me := 167772161) (g := ⟨167772169, 0, 0⟩) (by decide) (by decide) ⟨by decide, by decide, by decide, by decide, by decide, by decide⟩) ?_
  rintro _ s1 ⟨a, n, q, rfl, I1, T1, sa, sn, sq⟩ -
  have S1 := T1.sz
  simp (maxSteps := 3000000) only [go_sem, ↓reduceIte]
  refine Cal.mk (ipStart_v I1 (Int.le_refl 0) (by decide)) ?_
  rintro r2 s2 ⟨tv, rfl, I2, T2, l2⟩ -
  rw [ipAlive_eq]
  have g0 : (ctls [⟨1, 1, [3, 6, 10, 0, 0, 1]⟩])[0]? = some (.agg [.sc (.int .u8 1), .sc (.int .u8 1), .sl .no (bs [3, 6, 10, 0, 0, 1])]) := rfl
  have W : st.weak s2 := weak_tnF hlt (T1.weak hlt) T2 (by simp only [List.mem_cons, List.not_mem_nil, or_false]; omega)
  simp (maxSteps := 3000000) only [go_sem, ↓reduceIte, outV, ctls_len, List.length_cons, List.length_nil, g0, show decide (((1 : Nat) : Int) = 1) = true from rfl]
  refine Bo.own (by simp [allLen, V.cells]) ?_
  intro gg hg
  have W3 := weak_tr W (weak_use (m := 6) T2.lt.weak hg)
  simp (maxSteps := 3000000) only [go_sem, ↓reduceIte]
  refine Cal.mk (eqB_v (L := [3, 6, 10, 0, 0, 1]) (M := [3, 6, 10, 0, 0, 1])) ?_
  rintro _ _ ⟨rfl, rfl⟩ -
  simp (maxSteps := 3000000) only [go_sem, ↓reduceIte]
  exact ⟨_, _, Wk.refl _, W3, rfl, rfl⟩
theorem eqA3 {a b c} : eqV [.sc (.int .u32 a), .sc (.int .u32 b), .sc (.int .u32 c)] [.sc (.int .u32 a), .sc (.int .u32 b), .sc (.int .u32 c)] = true := by simp [eqV]
set_option maxRecDepth 100000 in
set_option maxHeartbeats 32000000 in
theorem ipcpPlays_v {me : Int} {l : List LOp} {tk2 : Tk} (m0 : 0 ≤ me) (m1 : me < 4294967296) (hg : g.Good) (hl : ∀ o ∈ l, o.In) : VCalls Tryz.prog 4 [.sc (.int .u32 me), .agg g.cells, .sl tk2 (lops l)] st fun r s => r = .sc (.bool true) ∧ st = s := by
  refine vcalls_enterq pc4 (Nat.le_of_ble_eq_true rfl) rfl fun hwf hok => ?_
  show Run _ Pc4.body (.fin (finP Pc4.res _)) _ _
  unfold Pc4 zg zo
  have hlt := hwf.lt
  have bb : ∀ b : Bool, (b == b) = true := fun b => by cases b <;> rfl
  simp (maxSteps := 3000000) only [go_sem, ↓reduceIte, AW.cells]
  intro b hb
  have T0 := tn_new (cs := [.sc (.int .u32 g.a), .sc (.int .u32 g.d1), .sc (.int .u32 g.d2)]) hlt hb
  have bx0 : (st.put b [.sc (.int .u32 g.a), .sc (.int .u32 g.d1), .sc (.int .u32 g.d2)]).box b = some [.sc (.int .u32 g.a), .sc (.int .u32 g.d1), .sc (.int .u32 g.d2)] := put_box_same
  generalize st.put b _ = s0 at T0 bx0 ⊢
  have W0 := T0.weak hlt
  have lb := T0.lt.box b _ bx0
  refine Cal.mk (law36Great_v (most := 100) (by omega)) ?_
  rintro _ _ ⟨⟨c, rfl, hc⟩, rfl⟩ -
  cases c with
  | true =>
    simp (maxSteps := 3000000) only [go_sem, ↓reduceIte]
    exact ⟨_, _, Wk.refl _, W0, rfl, rfl⟩
  | false =>
    obtain ⟨hl1, hok1⟩ := hc rfl
    simp (maxSteps := 3000000) only [go_sem, ↓reduceIte, bx0]
    refine Cal.mk (ipNew_v (g := g) m0 m1 hg) ?_
    rintro _ s1 ⟨a, n, q, rfl, I1, T1, sa, sn, sq⟩ -
    have bx1 := T1.box b _ bx0 (by simp)
    have S0 := T0.sz
    have S1 := T1.sz
    have la := I1.la
    have ln := I1.ng.lt ip_rules T1.lt
    have ln0 := ln n (by simp)
    have lq0 := ln q (by simp)
    simp (maxSteps := 3000000) only [go_sem, ↓reduceIte, bx1]
    refine Cal.mk (law38New_v (g := g) m0 m1 hg) ?_
    rintro _ s3 ⟨n2, rfl, R3, T3, sn2⟩ -
    have bx3 := T3.box b _ bx1 (by simp)
    have hA : ApI a n q n2 := by
      refine ⟨fun b hb hm => ?_, fun b hb hm => ?_⟩
      · simp only [List.mem_cons, List.not_mem_nil, or_false] at hb hm; omega
      · simp only [List.mem_cons, List.not_mem_nil, or_false] at hb hm; omega
    have I3 := I1.tnx T3 (by simp)
    have W1 := weak_tnF hlt W0 T1 (by simp)
    have W3 := weak_tnF hlt W1 T3 (by simp)
    have J0 : TwoI g a n q n2 0 s3 s3 (ipNew me g) := ⟨I3, R3, Tn.refl T3.lt, OkI.new⟩
    have hge : ∀ b ∈ [n, q, n2], st.sz ≤ b := by simp only [List.mem_cons, List.not_mem_nil, or_false]; omega
    have hnb : b ∉ [n, q, n2] := by simp only [List.mem_cons, List.not_mem_nil, or_false]; omega
    simp (maxSteps := 3000000) only [go_sem, ↓reduceIte]
    refine run_loop [6, 9, 10, 23, 24, 26, 30, 31, 32, 33, 38, 39, 41, 42, 44, 45, 46, 47, 48, 49, 50, 51, 52, 54, 55, 56, 57, 58, 59, 60, 61, 62, 63, 65, 66, 67, 68, 69, 70, 71, 72, 73, 74, 75, 76, 78, 79, 80, 82, 83, 84, 85, 86, 87, 88] (fun B s => ∃ (i : Nat) (now : Int) (N : Neg Ir), i ≤ l.length ∧ B 10 = .sc (.int .i64 i) ∧ B 9 = .sc (.int .i64 now) ∧ 0 ≤ now ∧ now ≤ 100 * i ∧ TwoI g a n q n2 i s3 s N) (fun B _ => l.length - vnat (B 10)) rfl ?_ ?_
    · exact ⟨0, 0, _, by omega, rfl, rfl, by omega, by omega, J0⟩
    · rintro B s ⟨i, now, N, hi, h10, h9, n0, n1, J⟩
      by_cases c1 : i < l.length
      · obtain ⟨o, ho⟩ := get_ex c1
        have hin := hl o (List.mem_of_getElem? ho)
        have hok2 := hok1 o (List.mem_of_getElem? ho)
        have t0 := hok2.t0
        have t1 := hok2.t1
        simp (maxSteps := 3000000) only [go_sem, ↓reduceIte, h10, h9, lops_len, lops_at ho, decide_eq_true (show (i : Int) < (l.length : Int) by omega)]
        repeat (apply And.intro; focus (first | omega | (simp; done)))
        refine Cal.mk (law38Step_v hA J (by omega) hin hok2 (now := now + o.ticks) (by omega) (by omega)) ?_
        rintro _ s4 ⟨rfl, N4, J4⟩ -
        obtain ⟨tk4, T04, tl4, last4, r24, hb4, hi4⟩ := J4.R.ex
        unfold refC at hb4
        have bx4 := J4.T.box b _ bx3 hnb
        have hgot := hi4.eg
        simp (maxSteps := 3000000) only [go_sem, ↓reduceIte, Bool.not_true, hb4]
        refine Cal.mk (ipState_v J4.L) ?_
        rintro _ _ ⟨rfl, rfl⟩ -
        simp (maxSteps := 3000000) only [go_sem, ↓reduceIte, hb4]
        refine Cal.mk (ipOpen_v J4.L) ?_
        rintro _ _ ⟨rfl, rfl⟩ -
        simp (maxSteps := 3000000) only [go_sem, ↓reduceIte, hb4, bb, Bool.not_true]
        refine Cal.mk (ipGot_v J4.L) ?_
        rintro _ _ ⟨rfl, rfl⟩ -
        simp (maxSteps := 3000000) only [go_sem, ↓reduceIte, hb4]
        refine Cal.mk (r35Of_v hi4.lg hi4.ll) ?_
        rintro _ _ ⟨rfl, rfl⟩ -
        rw [← hgot]
        simp (maxSteps := 3000000) only [go_sem, ↓reduceIte, AW.cells, eqA3, Bool.not_true, bx4]
        have fin : (∃ (i' : Nat) (now' : Int) (N' : Neg Ir), i' ≤ l.length ∧ V.sc (.int .i64 ((i : Int) + 1)) = .sc (.int .i64 i') ∧ V.sc (.int .i64 (now + o.ticks)) = .sc (.int .i64 now') ∧ 0 ≤ now' ∧ now' ≤ 100 * i' ∧ TwoI g a n q n2 i' s3 s4 N') ∧ l.length - ((i : Int) + 1).toNat < l.length - i :=
          ⟨⟨i + 1, _, N4, by omega, by simp, rfl, by omega, by omega, J4⟩, by omega⟩
        by_cases c2 : g.a = 0
        · simp (maxSteps := 3000000) only [go_sem, ↓reduceIte, decide_eq_false (show ¬ g.a ≠ 0 from fun e => e c2), h10]
          repeat (apply And.intro; focus (first | omega | (simp; done)))
          exact fin
        simp (maxSteps := 3000000) only [go_sem, ↓reduceIte, decide_eq_true (show g.a ≠ 0 from c2)]
        refine Cal.mk (ipOpen_v J4.L) ?_
        rintro _ _ ⟨rfl, rfl⟩ -
        by_cases c3 : N4.s = 9
        · have hga := J4.ok.2 (.inr c3)
          simp (maxSteps := 3000000) only [go_sem, ↓reduceIte, decide_eq_true c3, bx4]
          refine Cal.mk (ipGot_v J4.L) ?_
          rintro _ _ ⟨rfl, rfl⟩ -
          simp (maxSteps := 3000000) only [go_sem, ↓reduceIte, AW.cells, bx4, decide_eq_false (show ¬ N4.r.got.a ≠ g.a from fun e => e hga), h10]
          repeat (apply And.intro; focus (first | omega | (simp; done)))
          exact fin
        · simp (maxSteps := 3000000) only [go_sem, ↓reduceIte, decide_eq_false c3, h10]
          repeat (apply And.intro; focus (first | omega | (simp; done)))
          exact fin
      · obtain rfl : i = l.length := by omega
        have W5 := weak_tnF hlt W3 J.T hge
        simp (maxSteps := 3000000) only [go_sem, ↓reduceIte, h10, lops_len]
        refine Cal.mk ipAlive_v ?_
        rintro _ _ ⟨rfl, rfl⟩ -
        simp (maxSteps := 3000000) only [go_sem, ↓reduceIte]
        exact ⟨_, _, Wk.refl _, W5, rfl, rfl⟩
end
end
section
open Go Go.RowKit
def Pure (w : World) (v : Value) (e : Ending) (w' : World) : Prop := e = .returned v ∧ Below w.heap.size w w'
theorem lt_of_cell {w : World} {a : Addr} {v : Value} (h : w.cell? a = some v) : a.block < w.heap.size := by
  rcases Nat.lt_or_ge a.block w.heap.size with hlt | hge
  · exact hlt
  · simp [World.cell?, Array.getElem?_eq_none hge] at h
theorem keep_cell {w w1 : World} {a : Addr} {v : Value} (h : w.cell? a = some v) (hb : Below w.heap.size w w1) : w1.cell? a = some v := (hb.cell (lt_of_cell h)).trans h
structure More where
  blocks : List Obj
  count : Nat
instance : Nonempty More := ⟨⟨[], 0⟩⟩
def ext (w : World) (e : More) : World := { w with heap := w.heap ++ e.blocks.toArray, drawn := e.count }
def Holds (w : World) (L : List (Addr × Value)) : Prop := ∀ p ∈ L, w.cell? p.1 = some p.2
theorem Holds.keep {w w1 : World} {L : List (Addr × Value)} (h : Holds w L) (hb : Below w.heap.size w w1) : Holds w1 L := fun p hp => keep_cell (h p hp) hb
theorem Holds.cons {w : World} {a : Addr} {v : Value} {L : List (Addr × Value)} : Holds w ((a, v) :: L) ↔ w.cell? a = some v ∧ Holds w L := by
  simp [Holds]
theorem Holds.nil {w : World} : Holds w [] ↔ True := by simp [Holds]
theorem Holds.append {w : World} {L M : List (Addr × Value)} (h : Holds w L) (h' : Holds w M) : Holds w (L ++ M) := by
  intro p hp
  rcases List.mem_append.1 hp with hp | hp
  · exact h p hp
  · exact h' p hp
def elemL (b o : Nat) : List Value → List (Addr × Value)
  | [] => []
  | v :: cs => (⟨b, o, none⟩, v) :: elemL b (o + 1) cs
theorem elemL_holds {w : World} {b : Nat} : ∀ (cs : List Value) (o : Nat), (∀ j v, cs[j]? = some v → w.cell? ⟨b, o + j, none⟩ = some v) → Holds w (elemL b o cs)
  | [], _, _ => by simp [elemL, Holds]
  | v :: cs, o, h => by
    rw [elemL, Holds.cons]
    refine ⟨by simpa using h 0 v rfl, elemL_holds cs (o + 1) fun j u hu => ?_⟩
    rw [show o + 1 + j = o + (j + 1) from by omega]
    exact h (j + 1) u (by simpa using hu)
end
section
open Go Go.RowKit Go.ChangeShapes Go.WideShapes Go.Deep
section
variable {H : Type} {enc : TypeId × Value → H} {P : Program} {w : World} {base : Nat} {spare : Nat → Bool} {held : Bool} {fuel : Nat} {t : TypeId} {cs : List Value} {x : DataW H × List MemPlace}
theorem trod_len {fs : Array Field} (ht : P.underlying t = some (.struct fs)) (h : DataW.trod enc P w base spare held fuel t cs = some x) : cs.length = P.cellsOf t := by
  obtain ⟨_, _, _, _, hl, _⟩ := DataW.trod_struct ht h
  exact hl
theorem trod_field {fs : Array Field} (ht : P.underlying t = some (.struct fs)) (h : DataW.trod enc P w base spare held fuel t cs = some x) (j : Nat) (f : Field) (hj : fs[j]? = some f) :
    ∃ n y, DataW.trod enc P w base spare held n f.type ((cs.drop f.offset).take (P.cellsOf f.type)) = some y := by
  obtain ⟨xs, n, _, _, _, hlen, hf⟩ := DataW.trod_struct ht h
  have h1 := hf j f hj
  have hjl : j < xs.length := by rw [hlen]; exact (Array.getElem?_eq_some_iff.1 hj).1
  exact ⟨n, xs[j], h1.trans (List.getElem?_eq_getElem hjl)⟩
theorem open_struct {r : Reach} {b0 : Nat} {v : Value} {d : DataW H} {p : List MemPlace} {fs : Array Field} (ht : P.underlying t = some (.struct fs)) (hv : Value.okWide P w r b0 t v) (h : DataW.Trod enc P w base spare held t v d p) :
    ∃ (cs : List Value) (fuel : Nat), v = .agg cs.toArray ∧ DataW.trod enc P w base spare held fuel t cs = some (d, p) := by
  obtain ⟨cs, rfl, _⟩ := okWide_struct ht hv
  obtain ⟨fuel, hf⟩ := h
  exact ⟨cs.toList, fuel, rfl, hf⟩
theorem list_of {α : Type} {Q : Nat → α → Prop} : ∀ (n : Nat), (∀ i, i < n → ∃ r, Q i r) → ∃ l : List α, l.length = n ∧ ∀ (i : Nat) (r : α), l[i]? = some r → Q i r
  | 0, _ => ⟨[], rfl, by simp⟩
  | n + 1, h => by
    obtain ⟨l, hl, hq⟩ := list_of n (fun i hi => h i (by omega))
    obtain ⟨r, hr⟩ := h n (by omega)
    refine ⟨l ++ [r], by simp [hl], fun i r' hi => ?_⟩
    rw [List.getElem?_append] at hi
    split at hi
    · exact hq i r' hi
    · rename_i hge
      obtain rfl : i = n := by
        have := (List.getElem?_eq_some_iff.1 hi).1
        simp at this
        omega
      simp [hl] at hi
      subst hi
      exact hr
theorem open_elems {e : TypeId} {size : Nat} {v : Value} (ht : P.underlying t = some (.slice e)) (hc : P.cellsOf e = size) (hs : 0 < size) (h : DataW.trod enc P w base spare held fuel t [v] = some x) :
    ∃ A len cap, v = .slice A len cap ∧ len ≤ cap ∧ cap ≤ maxLen ∧ (A = none → len = 0 ∧ cap = 0) ∧
      ∀ i, i < len → ∃ b o cs n y, A = some ⟨b, o, none⟩ ∧ cs.length = size ∧ Holds w (elemL b (o + i * size) cs) ∧ DataW.trod enc P w base spare held n e cs = some y := by
  rcases open_slice ht h with ⟨e1, _⟩ | ⟨a, len, cap, m, n, D, Pl, e1, hb, hl, hm, hmm, _, hi⟩
  · cases e1
    exact ⟨none, 0, 0, rfl, by omega, by omega, fun _ => ⟨rfl, rfl⟩, fun i hi => by omega⟩
  · cases e1
    refine ⟨some a, len, cap, rfl, hl, hm, (by intro h; cases h), fun i hil => ?_⟩
    obtain ⟨cs', hcs, ht'⟩ := hi i (by rw [hmm]; split <;> omega)
    rw [hc] at hcs
    obtain ⟨_, hlen, hcell⟩ := World.cells?_some hcs
    have h0 := hcell 0 hs
    have hlt0 : 0 < cs'.length := by omega
    rw [List.getElem?_eq_getElem hlt0] at h0
    have hspot := World.cell?_spot h0
    obtain ⟨b, o, sp⟩ := a
    have hsp : sp = none := by
      by_cases hz : i * size = 0
      · simpa [Addr.add, hz] using hspot
      · rcases Nat.eq_zero_or_pos i with h0' | h0'
        · simp [h0'] at hz
        · obtain ⟨cs0, hcs0, _⟩ := hi 0 (by rw [hmm]; split <;> omega)
          rw [hc] at hcs0
          obtain ⟨_, hlen0, hcell0⟩ := World.cells?_some hcs0
          have h00 := hcell0 0 hs
          rw [List.getElem?_eq_getElem (by omega)] at h00
          simpa [Addr.add] using World.cell?_spot h00
    subst hsp
    refine ⟨b, o, cs', n, _, rfl, hlen, elemL_holds _ _ fun j u hu => ?_, ht'⟩
    have hj : j < size := by have := (List.getElem?_eq_some_iff.1 hu).1; omega
    have := (hcell j hj).trans hu
    have ea : ((⟨b, o, none⟩ : Addr).add (i * size)).add j = ⟨b, o + i * size + j, none⟩ := by
      unfold Addr.add
      by_cases h1 : i * size = 0 <;> by_cases h2 : j = 0 <;> simp [h1, h2]
    rwa [ea] at this
end
structure ArgIn {H : Type} (enc : TypeId × Value → H) (P : Program) (W : World) (base : Nat) (t : TypeId) (v : Value) (d : DataW H) (p : List MemPlace) : Prop where
  wide : Value.okWide P W .any base t v
  trod : DataW.Trod enc P W 0 (fun _ => true) true t v d p
section
variable {H : Type} {enc : TypeId × Value → H} {P : Program} {W : World} {base : Nat} {t : TypeId} {v : Value} {d : DataW H} {p : List MemPlace}
theorem ArgIn.slice {e : TypeId} (h : ArgIn enc P W base t v d p) (ht : P.underlying t = some (.slice e)) :
    ∃ A l c fuel, v = .slice A l c ∧ DataW.trod enc P W 0 (fun _ => true) true fuel t [.slice A l c] = some (d, p) := by
  obtain ⟨A, l, c, rfl⟩ := okWide_slice ht h.wide
  obtain ⟨fuel, hf⟩ := h.trod
  exact ⟨A, l, c, fuel, rfl, hf⟩
theorem ArgIn.struct {fs : Array Field} (h : ArgIn enc P W base t v d p) (ht : P.underlying t = some (.struct fs)) :
    ∃ (cs : List Value) (fuel : Nat), v = .agg cs.toArray ∧ DataW.trod enc P W 0 (fun _ => true) true fuel t cs = some (d, p) :=
  open_struct ht h.wide h.trod
theorem ArgIn.int {k : IntKind} (h : ArgIn enc P W base t v d p) (ht : P.underlying t = some (.int k)) : ∃ n, v = .int k n ∧ (Lit.int k n).wf = true := by
  obtain ⟨n, rfl, _, _, hw⟩ := open_int ht h.wide h.trod
  exact ⟨n, rfl, hw⟩
theorem ArgIn.bool (h : ArgIn enc P W base t v d p) (ht : P.underlying t = some .bool) : ∃ b, v = .bool b := by
  obtain ⟨b, rfl, _⟩ := open_bool ht h.wide h.trod
  exact ⟨b, rfl⟩
theorem ArgIn.string (h : ArgIn enc P W base t v d p) (ht : P.underlying t = some .string) : ∃ s : ByteArray, v = .string s ∧ s.size ≤ maxLen := by
  obtain ⟨s, rfl, _, _, hs⟩ := Go.ChangeMaps.open_string ht h.wide h.trod
  exact ⟨s, rfl, hs⟩
end
end
section
open Go Go.RowKit Go.ChangeShapes Go.WideShapes Go.Deep
theorem elemL_get {w : World} {b : Nat} : ∀ {cs : List Value} {o : Nat} (_ : Holds w (elemL b o cs)) {j : Nat} {v : Value} (_ : cs[j]? = some v), w.cell? ⟨b, o + j, none⟩ = some v
  | [], _, _, _, _, h => by simp at h
  | c :: cs, o, hh, j, v, h => by
    rw [elemL, Holds.cons] at hh
    cases j with
    | zero => simp at h; subst h; exact hh.1
    | succ j => rw [show o + (j + 1) = o + 1 + j by omega]; exact elemL_get hh.2 (by simpa using h)
inductive Sh where
  | int (k : IntKind)
  | bool
  | str
  | sl (s : Sh)
  | st (l : List Sh)
def shFields (P : Program) (g : TypeId → Option Sh) : Nat → List Field → Option (List Sh)
  | _, [] => some []
  | o, f :: fs => if f.offset = o then do
      let s ← g f.type
      let l ← shFields P g (o + P.cellsOf f.type) fs
      pure (s :: l)
    else none
def fieldsEnd (P : Program) : Nat → List Field → Nat
  | o, [] => o
  | o, f :: fs => fieldsEnd P (o + P.cellsOf f.type) fs
def shOf (P : Program) : Nat → TypeId → Option Sh
  | 0, _ => none
  | n + 1, t => match P.underlying t with
    | some (.int k) => if P.cellsOf t = 1 then some (.int k) else none
    | some .bool => if P.cellsOf t = 1 then some .bool else none
    | some .string => if P.cellsOf t = 1 then some .str else none
    | some (.slice e) => if P.cellsOf t = 1 ∧ 0 < P.cellsOf e then (shOf P n e).map .sl else none
    | some (.struct fs) => if fieldsEnd P 0 fs.toList = P.cellsOf t then (shFields P (shOf P n) 0 fs.toList).map .st else none
    | some (.array k e) => if k * P.cellsOf e = P.cellsOf t then (shOf P n e).map fun s => .st (List.replicate k s) else none
    | _ => none
def Sh.pack : Sh → List V → V
  | .st _, ds => .agg ds
  | _, d :: _ => d
  | _, [] => .und
mutual
inductive Sh.Has : Sh → List V → Prop where
  | int (k : IntKind) (n : Int) (h : (Lit.int k n).wf = true) : Sh.Has (.int k) [.sc (.int k n)]
  | bool (b : Bool) : Sh.Has .bool [.sc (.bool b)]
  | str (s : ByteArray) (h : s.size ≤ maxLen) : Sh.Has .str [.sc (.string s)]
  | sl (s : Sh) (l : List V) (h : Sh.Hasl s l) : Sh.Has (.sl s) [.sl .no l]
  | st (l : List Sh) (ds : List V) (h : Sh.Hass l ds) : Sh.Has (.st l) ds
inductive Sh.Hasl : Sh → List V → Prop where
  | nil (s : Sh) : Sh.Hasl s []
  | cons (s : Sh) (ds l : List V) (h : Sh.Has s ds) (k : Sh.Hasl s l) : Sh.Hasl s (s.pack ds :: l)
inductive Sh.Hass : List Sh → List V → Prop where
  | nil : Sh.Hass [] []
  | cons (s : Sh) (l : List Sh) (a b : List V) (h : Sh.Has s a) (k : Sh.Hass l b) : Sh.Hass (s :: l) (a ++ b)
end
theorem hasl_of {s : Sh} : ∀ (l : List V), (∀ d, d ∈ l → ∃ ds, d = s.pack ds ∧ Sh.Has s ds) → Sh.Hasl s l
  | [], _ => .nil s
  | d :: l, h => by
    obtain ⟨ds, rfl, hd⟩ := h d (List.mem_cons_self ..)
    exact .cons s ds l hd (hasl_of l fun e he => h e (List.mem_cons_of_mem _ he))
def ghOf (w : World) : Gh := ⟨fun b o => w.cell? ⟨b, o, none⟩, fun _ => none⟩
def RepR (G : Gh) (ds : List V) (cs : List Value) : Prop := ds.length = cs.length ∧ (∀ v ∈ cs, v.oneCell' = true) ∧ (∀ (i : Nat) (d : V) (v : Value), ds[i]? = some d → cs[i]? = some v → Rep1 G d v) ∧ ∀ d ∈ ds, d.cells = [d]
theorem RepR.one {G : Gh} {d : V} {v : Value} (h : Rep1 G d v) (h1 : v.oneCell' = true) (h2 : d.cells = [d]) : RepR G [d] [v] :=
  ⟨rfl, by simpa using h1, fun i d' v' hd hv => by
    cases i with
    | zero => simp at hd hv; subst hd hv; exact h
    | succ i => simp at hd, by simpa using h2⟩
theorem RepR.append {G : Gh} {a b : List V} {c d : List Value} (h : RepR G a c) (k : RepR G b d) : RepR G (a ++ b) (c ++ d) :=
  ⟨by simp [h.1, k.1], fun v hv => by
    rcases List.mem_append.1 hv with h' | h'
    · exact h.2.1 v h'
    · exact k.2.1 v h', fun i x v hx hv => by
    rw [List.getElem?_append] at hx hv
    rw [← h.1] at hv
    split at hx
    · rename_i hlt
      rw [if_pos hlt] at hv
      exact h.2.2.1 i x v hx hv
    · rename_i hlt
      rw [if_neg hlt] at hv
      exact k.2.2.1 _ x v hx hv, fun x hx => by
    rcases List.mem_append.1 hx with h' | h'
    · exact h.2.2.2 x h'
    · exact k.2.2.2 x h'⟩
theorem pack_cells {s : Sh} {ds : List V} (h : s.Has ds) (hc : ∀ d ∈ ds, d.cells = [d]) : (s.pack ds).cells = ds := by
  cases h with
  | int => rfl
  | bool => rfl
  | str => rfl
  | sl => rfl
  | st => rfl
section
variable {H : Type} {enc : TypeId × Value → H} {P : Program} {w : World} {base : Nat} {spare : Nat → Bool} {held : Bool}
theorem open_sh : ∀ (n : Nat) {t : TypeId} {s : Sh} (_ : shOf P n t = some s) {fuel : Nat} {cs : List Value} {x : DataW H × List MemPlace} (_ : DataW.trod enc P w base spare held fuel t cs = some x),
    ∃ ds, s.Has ds ∧ RepR (ghOf w) ds cs ∧ cs.length = P.cellsOf t
  | 0, _, _, hs, _, _, _, _ => by simp [shOf] at hs
  | n + 1, t, s, hs, fuel, cs, x, h => by
    unfold shOf at hs
    split at hs
    · rename_i k hu
      split at hs
      · rename_i hc
        cases hs
        obtain ⟨m, rfl, _, hw⟩ := DataW.trod_int hu h
        exact ⟨_, .int k m hw, .one (.sc _ rfl) rfl rfl, by rw [hc]; rfl⟩
      · cases hs
    · rename_i hu
      split at hs
      · rename_i hc
        cases hs
        obtain ⟨m, rfl, _⟩ := DataW.trod_bool hu h
        exact ⟨_, .bool m, .one (.sc _ rfl) rfl rfl, by rw [hc]; rfl⟩
      · cases hs
    · rename_i hu
      split at hs
      · rename_i hc
        cases hs
        obtain ⟨m, rfl, _, hm⟩ := DataW.trod_string hu h
        exact ⟨_, .str m hm, .one (.sc _ rfl) rfl rfl, by rw [hc]; rfl⟩
      · cases hs
    · rename_i e hu
      split at hs
      · rename_i hc
        obtain ⟨s', hs', rfl⟩ := Option.map_eq_some_iff.1 hs
        have hlen1 : ∃ v, cs = [v] := by
          rcases DataW.trod_slice hu h with ⟨rfl, _⟩ | ⟨a, len, cap, _, _, _, _, rfl, _⟩
          · exact ⟨_, rfl⟩
          · exact ⟨_, rfl⟩
        obtain ⟨v, rfl⟩ := hlen1
        obtain ⟨A, len, cap, rfl, hle, hm, hA, hel⟩ := open_elems hu rfl hc.2 h
        obtain ⟨l, hl, hq⟩ := list_of (Q := fun i (p : V × List Value) => ∃ b o, A = some ⟨b, o, none⟩ ∧ p.2.length = P.cellsOf e ∧ Holds w (elemL b (o + i * P.cellsOf e) p.2) ∧ ∃ ds, p.1 = s'.pack ds ∧ s'.Has ds ∧ RepR (ghOf w) ds p.2) len (fun i hi => by
          obtain ⟨b, o, cs', n', y, hA', hlen, hh, ht⟩ := hel i hi
          obtain ⟨ds, k1, k2, k3⟩ := open_sh n hs' ht
          exact ⟨(s'.pack ds, cs'), b, o, hA', hlen, hh, ds, rfl, k1, k2⟩)
        refine ⟨[.sl .no (l.map (·.1))], .sl s' _ (hasl_of _ fun d hd => ?_), .one ?_ rfl rfl, by rw [hc.1]; rfl⟩
        · obtain ⟨p, hp, rfl⟩ := List.mem_map.1 hd
          obtain ⟨i, hi, rfl⟩ := List.mem_iff_getElem.1 hp
          obtain ⟨_, _, _, _, _, ds, k1, k2, _⟩ := hq i _ (List.getElem?_eq_getElem hi)
          exact ⟨ds, k1, k2⟩
        · cases A with
          | none =>
            obtain ⟨rfl, rfl⟩ := hA rfl
            obtain rfl := List.eq_nil_of_length_eq_zero hl
            exact .nil .no (fun g k e => by cases e)
          | some a =>
            by_cases h0 : len = 0
            · subst h0
              obtain rfl := List.eq_nil_of_length_eq_zero hl
              exact .emp a cap hm
            · obtain ⟨b, o, _, _, _, hA', _⟩ := hel 0 (by omega)
              cases hA'
              have hlm : len = (l.map (·.1)).length := by simp [hl]
              rw [hlm]
              refine .sl .no _ b o (P.cellsOf e) cap (fun i j => ((l[i]?.map (·.2)).getD []).getD j default) (fun i d hd => ?_) (fun i j hi hj => ?_) (fun i j hi hj => ?_) (fun i d j c hd hc' => ?_) (by simp; omega) hm (by simp) (fun g k e => by cases e)
              · rw [List.getElem?_map] at hd
                obtain ⟨p, hp, rfl⟩ := Option.map_eq_some_iff.1 hd
                obtain ⟨_, _, _, k1, _, ds, k2, k3, k4⟩ := hq i p hp
                rw [k2, pack_cells k3 k4.2.2.2, k4.1, k1]
              · obtain ⟨p, hp⟩ : ∃ p, l[i]? = some p := ⟨_, List.getElem?_eq_getElem (by simpa using hi)⟩
                obtain ⟨b', o', e', k1, k0, ds, k2, k3, k4⟩ := hq i p hp
                cases e'
                have hj' : j < p.2.length := by omega
                simp only [hp, Option.map_some, Option.getD_some, ghOf]
                have := elemL_get k0 (List.getElem?_eq_getElem hj')
                rw [this]
                simp [List.getD, hj']
              · obtain ⟨p, hp⟩ : ∃ p, l[i]? = some p := ⟨_, List.getElem?_eq_getElem (by simpa using hi)⟩
                obtain ⟨b', o', e', k1, k0, ds, k2, k3, k4⟩ := hq i p hp
                have hj' : j < p.2.length := by omega
                simp only [hp, Option.map_some, Option.getD_some]
                simp only [List.getD, List.getElem?_eq_getElem hj', Option.getD_some]
                exact k4.2.1 _ (List.getElem_mem hj')
              · rw [List.getElem?_map] at hd
                obtain ⟨p, hp, rfl⟩ := Option.map_eq_some_iff.1 hd
                obtain ⟨_, _, _, k1, _, ds, k2, k3, k4⟩ := hq i p hp
                rw [k2, pack_cells k3 k4.2.2.2] at hc'
                have hj' : j < p.2.length := by rw [← k4.1]; exact (List.getElem?_eq_some_iff.1 hc').1
                simp only [hp, Option.map_some, Option.getD_some]
                simp only [List.getD, List.getElem?_eq_getElem hj', Option.getD_some]
                exact k4.2.2.1 j c _ hc' (List.getElem?_eq_getElem hj')
      · cases hs
    · rename_i fs hu
      split at hs
      · rename_i hend
        obtain ⟨ss, hss, rfl⟩ := Option.map_eq_some_iff.1 hs
        have hl := trod_len hu h
        have key : ∀ (gs : List Field) (j0 o : Nat) (ss : List Sh), (∀ i f, gs[i]? = some f → fs[j0 + i]? = some f) → shFields P (shOf P n) o gs = some ss → fieldsEnd P o gs = cs.length →
            ∃ ds, Sh.Hass ss ds ∧ RepR (ghOf w) ds (cs.drop o) := by
          intro gs
          induction gs with
          | nil =>
            intro j0 o ss _ hss he
            simp only [shFields, Option.some.injEq] at hss
            subst hss
            simp only [fieldsEnd] at he
            exact ⟨[], .nil, by rw [List.drop_of_length_le (by omega)]; exact ⟨rfl, by simp, by simp, by simp⟩⟩
          | cons f gs ih =>
            intro j0 o ss hg hss he
            simp only [shFields] at hss
            split at hss
            · rename_i hof
              simp only [Option.bind_eq_bind, Option.bind_eq_some_iff] at hss
              obtain ⟨s0, h0, ss', h1, h2⟩ := hss
              cases h2
              simp only [fieldsEnd] at he
              obtain ⟨ds', k1, k2⟩ := ih (j0 + 1) _ ss' (fun i g hi => by rw [show j0 + 1 + i = j0 + (i + 1) by omega]; exact hg (i + 1) g (by simpa using hi)) h1 he
              obtain ⟨m, y, hy⟩ := trod_field hu h j0 f (by simpa using hg 0 f rfl)
              rw [hof] at hy
              obtain ⟨ds0, q1, q2, q3⟩ := open_sh n h0 hy
              refine ⟨ds0 ++ ds', .cons _ _ _ _ q1 k1, ?_⟩
              have := q2.append k2
              rwa [← List.drop_drop, List.take_append_drop] at this
            · cases hss
        obtain ⟨ds, k1, k2⟩ := key fs.toList 0 0 ss (fun i f hf => by simpa using hf) hss (by rw [hend, hl])
        exact ⟨ds, .st _ _ k1, by simpa using k2, hl⟩
      · cases hs
    · rename_i k e hu
      split at hs
      · rename_i hend
        obtain ⟨s', hs', rfl⟩ := Option.map_eq_some_iff.1 hs
        obtain ⟨xs, m, _, _, hl, hxl, hget⟩ := DataW.trod_array hu h
        have key : ∀ (j i : Nat), i + j = k → ∃ ds, Sh.Hass (List.replicate j s') ds ∧ RepR (ghOf w) ds (cs.drop (i * P.cellsOf e)) := by
          intro j
          induction j with
          | zero =>
            intro i hij
            refine ⟨[], .nil, ?_⟩
            have : i = k := by omega
            subst this
            rw [List.drop_of_length_le (by omega)]
            exact ⟨rfl, by simp, by simp, by simp⟩
          | succ j ih =>
            intro i hij
            obtain ⟨ds', k1, k2⟩ := ih (i + 1) (by omega)
            have hlt : i < xs.length := by omega
            have hy := hget i (by omega)
            rw [List.getElem?_eq_getElem hlt] at hy
            obtain ⟨ds0, q1, q2, q3⟩ := open_sh n hs' hy
            refine ⟨ds0 ++ ds', .cons _ _ _ _ q1 k1, ?_⟩
            have := q2.append k2
            rwa [Nat.add_mul, Nat.one_mul, ← List.drop_drop, List.take_append_drop] at this
        obtain ⟨ds, k1, k2⟩ := key k 0 (by omega)
        exact ⟨ds, .st _ _ k1, by simpa using k2, hl⟩
      · cases hs
    · cases hs
theorem RepR.agg {G : Gh} {ds : List V} {cs : List Value} (h : RepR G ds cs) : Rep1 G (.agg ds) (.agg cs.toArray) :=
  .agg ds _ (by simp [h.1]) (fun i v hv => h.2.1 v (List.mem_of_getElem? (by simpa using hv))) (fun i c v hc hv => h.2.2.1 i c v hc (by simpa using hv))
theorem RepR.head {G : Gh} {d : V} {v : Value} (h : RepR G [d] [v]) : Rep1 G d v := h.2.2.1 0 d v rfl rfl
theorem arg_sh {W : World} (n : Nat) {t : TypeId} {s : Sh} {v : Value} {d : DataW H} {p : List MemPlace} (hs : shOf P n t = some s) (h : ArgIn enc P W base t v d p) : ∃ ds, s.Has ds ∧ Rep1 (ghOf W) (s.pack ds) v := by
  cases n with
  | zero => simp [shOf] at hs
  | succ n =>
  have hs0 := hs
  unfold shOf at hs
  split at hs
  · rename_i k hu
    split at hs
    · cases hs
      obtain ⟨m, rfl, hw⟩ := h.int hu
      exact ⟨_, .int k m hw, .sc _ rfl⟩
    · cases hs
  · rename_i hu
    split at hs
    · cases hs
      obtain ⟨b, rfl⟩ := h.bool hu
      exact ⟨_, .bool b, .sc _ rfl⟩
    · cases hs
  · rename_i hu
    split at hs
    · cases hs
      obtain ⟨b, rfl, hm⟩ := h.string hu
      exact ⟨_, .str b hm, .sc _ rfl⟩
    · cases hs
  · rename_i e hu
    split at hs
    · obtain ⟨s', hs', rfl⟩ := Option.map_eq_some_iff.1 hs
      obtain ⟨A, l, c, fuel, rfl, ht⟩ := h.slice hu
      obtain ⟨ds, k1, k2, _⟩ := open_sh _ hs0 ht
      refine ⟨ds, k1, ?_⟩
      cases k1 with
      | sl _ l' h' => exact k2.head
    · cases hs
  · rename_i fs hu
    split at hs
    · obtain ⟨ss, hss, rfl⟩ := Option.map_eq_some_iff.1 hs
      obtain ⟨cs, fuel, rfl, ht⟩ := h.struct hu
      obtain ⟨ds, k1, k2, _⟩ := open_sh _ hs0 ht
      exact ⟨ds, k1, k2.agg⟩
    · cases hs
  · rename_i k e hu
    split at hs
    · obtain ⟨s', hs', rfl⟩ := Option.map_eq_some_iff.1 hs
      have hwd := h.wide
      simp only [Value.okWide, hu] at hwd
      obtain ⟨cs, rfl, _⟩ := hwd
      obtain ⟨fuel, ht⟩ := h.trod
      obtain ⟨ds, k1, k2, _⟩ := open_sh _ hs0 ht
      have ha := k2.agg
      rw [show (Value.agg cs).cells.toList.toArray = cs from by simp [Value.cells]] at ha
      exact ⟨ds, k1, ha⟩
    · cases hs
  · cases hs
end
def st0 (w : World) : St := ⟨fun _ => none, fun _ => none, w.heap.size⟩
theorem repW0 (w : World) : RepW (Fr.of w) (ghOf w) (st0 w) w :=
  ⟨fun _ _ _ h => h, fun _ _ h => (by cases h), fun _ _ h => (by cases h), fun _ _ h => (by cases h), Nat.le_refl _, Below.refl _ _, fun _ _ h => (by cases h)⟩
theorem v_calls {P : Program} {f : FuncId} {args : List V} {us : Array Value} {w : World} (h : VCalls P f args (st0 w) fun r _ => r = .sc (.bool true)) (hl : us.size = args.length)
    (hr : ∀ (i : Nat) (d : V) (u : Value), args[i]? = some d → us[i]? = some u → Rep1 (ghOf w) d u) : Calls P f us w (Pure w (.bool true)) :=
  (h (Fr.of w) (ghOf w) w us (repW0 w) hl hr).mono fun e w' ⟨u, r, st', G', h1, h2, h3, _, h5⟩ => by
    subst h2
    cases h3
    exact ⟨h1, h5.bel⟩
theorem reps3 {G : Gh} {d e f : V} {u q r : Value} (h : Rep1 G d u) (k : Rep1 G e q) (l : Rep1 G f r) : ∀ (i : Nat) (x : V) (v : Value), [d, e, f][i]? = some x → #[u, q, r][i]? = some v → Rep1 G x v := fun i x v hx hv => by
  match i with
  | 0 => simp at hx hv; subst hx hv; exact h
  | 1 => simp at hx hv; subst hx hv; exact k
  | 2 => simp at hx hv; subst hx hv; exact l
  | i + 3 => simp at hx
end
section
open Go Go.RowKit
theorem own : ownKnob Tryz.prog.godebug = none := by kernel_rfl
theorem laidOut : laidOutB Tryz.prog = true := by kernel_rfl
theorem u8_wf {n : Int} (h : (Lit.int .u8 n).wf = true) : 0 ≤ n ∧ n < 256 := by have := bounds_u8 h; omega
theorem hasl_bytes : ∀ {l : List V}, Sh.Hasl (.int .u8) l → ∃ L, IsB L ∧ l = bs L := by
  intro l
  induction l with
  | nil => exact fun _ => ⟨[], by intro x hx; (cases hx), rfl⟩
  | cons d l ih =>
    intro h
    cases h with
    | cons _ ds _ h k =>
      obtain ⟨L, hB, rfl⟩ := ih k
      cases h with
      | int _ n hw => exact ⟨n :: L, by
          intro x hx
          rcases List.mem_cons.1 hx with rfl | hx
          · exact u8_wf hw
          · exact hB x hx, rfl⟩
theorem has_bytes {ds : List V} (h : Sh.Has (.sl (.int .u8)) ds) : ∃ L, IsB L ∧ ds = [.sl .no (bs L)] := by
  cases h with
  | sl _ l h =>
    obtain ⟨L, hB, rfl⟩ := hasl_bytes h
    exact ⟨L, hB, rfl⟩
end
section
open Go Go.RowKit
theorem hass_nil {ds : List V} (h : Sh.Hass [] ds) : ds = [] := by cases h; rfl
theorem hass_int {k : IntKind} {l : List Sh} {ds : List V} (h : Sh.Hass (.int k :: l) ds) : ∃ n b, ds = .sc (.int k n) :: b ∧ (Lit.int k n).wf = true ∧ Sh.Hass l b := by
  cases h with
  | cons _ _ a b h0 h1 =>
    cases h0 with
    | int _ n hw => exact ⟨n, b, rfl, hw, h1⟩
theorem hass_bool {l : List Sh} {ds : List V} (h : Sh.Hass (.bool :: l) ds) : ∃ n b, ds = .sc (.bool n) :: b ∧ Sh.Hass l b := by
  cases h with
  | cons _ _ a b h0 h1 =>
    cases h0 with
    | bool n => exact ⟨n, b, rfl, h1⟩
theorem hass_st {m l : List Sh} {ds : List V} (h : Sh.Hass (.st m :: l) ds) : ∃ a b, ds = a ++ b ∧ Sh.Hass m a ∧ Sh.Hass l b := by
  cases h with
  | cons _ _ a b h0 h1 =>
    cases h0 with
    | st _ _ h => exact ⟨a, b, rfl, h, h1⟩
theorem has_st {l : List Sh} {ds : List V} (h : Sh.Has (.st l) ds) : Sh.Hass l ds := by
  cases h with
  | st _ _ h => exact h
theorem hasl_map {α : Type} {s : Sh} (f : α → V) (ok : α → Prop) (h1 : ∀ ds, Sh.Has s ds → ∃ a, ok a ∧ s.pack ds = f a) : ∀ {l : List V}, Sh.Hasl s l → ∃ L : List α, (∀ a ∈ L, ok a) ∧ l = L.map f := by
  intro l
  induction l with
  | nil => exact fun _ => ⟨[], by intro x hx; (cases hx), rfl⟩
  | cons d l ih =>
    intro h
    cases h with
    | cons _ ds _ h k =>
      obtain ⟨L, hB, rfl⟩ := ih k
      obtain ⟨a, ha, e⟩ := h1 ds h
      exact ⟨a :: L, by
          intro x hx
          rcases List.mem_cons.1 hx with rfl | hx
          · exact ha
          · exact hB x hx, by rw [e]; rfl⟩
theorem has_slmap {α : Type} {s : Sh} {f : α → V} {ok : α → Prop} (h1 : ∀ ds, Sh.Has s ds → ∃ a, ok a ∧ s.pack ds = f a) {ds : List V} (h : Sh.Has (.sl s) ds) : ∃ L : List α, (∀ a ∈ L, ok a) ∧ ds = [.sl .no (L.map f)] := by
  cases h with
  | sl _ l h =>
    obtain ⟨L, hB, rfl⟩ := hasl_map f ok h1 h
    exact ⟨L, hB, rfl⟩
end
end Go.Proofs.YtmmapbojjgpggaaGreat
