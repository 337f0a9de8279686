/- Steps of the proof, joined: VBe, VRef1, V12, V13, VRow, VSumLaw, VSum, VGreh, VGreh2, VIp4Law, VGreh3, VGreh4, VIp4Ref, VIp4B, VIp4, VIp4P, VIp4L, VFragLaw, VRows, VSortLaw, VSortC0, VSortW, VSortC1, VRowC, VSortLaw2, VJoinLaw, VFrag, VFrag2, VFragP, VSortC2. -/
import Derived.Test.YtlngegoamfklgaaZeb
import Derived.Test.YtlngegoamfklgaaVc
import Derived.Laws.BitsAllLaws
namespace Go.Proofs.Ytlngegoamfklgaa
open Go
attribute [local go_sem] run_skip run_reg run_seq run_blk run_exit run_ret run_cond if_true if_false at_code_n at_code_x at_code_r at_blk_n at_blk_x at_blk_r at_rnd_n at_rnd_x at_rnd_r at_fin_n at_fin_r ops_nil ops_grd grd_und grd_tt grd_ff grd_tf grd_ft ops_mv ops_pick ops_bin ops_un ops_binb ops_eqs ops_isnil ops_pnil ops_b2s ops_s2b ops_b2sB ops_s2a ops_slcA ops_aidx vaidx vb2sB vs2a vslcA ops_sidx vs2b vsidx srcX ops_appx apx_mk ops_mks ops_mko mks_int mko_int vbinb veqs visnil vpnil vb2s ops_conv ops_fld ops_ix ops_ixa ops_load ops_nilck ops_ext ops_len ops_slen ops_mn ops_mx ops_bld ops_bsl ops_slc ops_sslc ops_box ops_alc ops_alcX ops_boxX ops_bslo ops_store ops_app ops_call ev_t ev_c put_get put_none opv_mk stb_some sto_ptr over_get rel_mk vnat Bx Stp vbld vbsl put_box_same put_box_ne put_sz put_own use_box use_sz put_put args0 List.getD_cons_zero List.getD_cons_succ List.getD_nil vpick vbin vbinI vbinS vun vconv norm vfld vnil vlen vslen vext vmm vix vixa vload takeV takeB mono_nil mono_two mono_sc mono_any mono_und mono_sl mono_agg mono_ep vmlk vmlen vmnil vent vmfn allSc vslc3 kOk fitsV ops_mlk ops_mlen ops_mnil ops_ent ops_mfn ops_slc3 ops_mkm ops_mup mup_map mub_some ops_mdel mdl_nil mdl_map mdb_some ops_rng rng_none rng_map rgb_some ops_nxt ops_ment met_map meb_some ops_est est_map esb_some ops_clr clr_nil clr_box clb_some ops_calv clv_func vslc vsslc fillV splice V.cells strip strip1 allLen ptrV obsOk shAmt IntKind.bits List.map_cons List.map_nil List.length_cons List.length_nil List.getElem?_cons_zero List.getElem?_cons_succ List.take_succ_cons List.take_zero List.drop_succ_cons List.drop_zero List.cons_append List.nil_append List.append_nil List.take_nil List.drop_nil Option.map_some Option.map_none and_true true_and Int.toNat_natCast Nat.min_def Nat.zero_add Nat.add_zero Nat.zero_mul Nat.mul_one Nat.one_mul vret rvAll rvVal resv_1 resv_2 decide_true decide_false Int.lt_irrefl Bool.not_true Bool.not_false ne_eq not_true_eq_false not_false_eq_true eq_self Bool.true_eq_false Bool.false_eq_true List.contains_cons List.contains_nil Bool.false_or Bool.true_or Bool.or_false Bool.or_true List.mem_cons List.not_mem_nil or_false or_true true_or false_or mono_bs ops_aidxn vaidxn ops_mki vmki ops_inv ops_cpy cpy_box cpb_some
section
open Go

/-- What is read of bytes from a place on: the number, the place behind it, and whether there are too few. -/
def rdNum (L : List Int) (at_ : Nat) (bad : Bool) (size : Int) : Int × Nat × Bool :=
  if size < 1 ∨ 8 < size ∨ bad = true ∨ (L.length : Int) - at_ < size then (0, at_, true) else (numL ((L.drop at_).take size.toNat), at_ + size.toNat, false)
def rdTake (L : List Int) (at_ : Nat) (bad : Bool) (k : Int) : List Int × Nat × Bool :=
  if k < 0 ∨ bad = true ∨ (L.length : Int) - at_ < k then ([], at_, true) else ((L.drop at_).take k.toNat, at_ + k.toNat, false)
theorem rdNum_lt {L : List Int} {at_ : Nat} {bad : Bool} (hB : IsB L) {k : Nat} (hk : 1 ≤ k) : 0 ≤ (rdNum L at_ bad k).1 ∧ (rdNum L at_ bad k).1 < 256 ^ k := by
  have hp := pow256_pos k
  unfold rdNum
  split
  · simp only; omega
  · have := numL_range _ ((L.drop at_).take ((k : Int)).toNat) rfl ((hB.drop _).take _)
    have hl : ((L.drop at_).take ((k : Int)).toNat).length = k := by simp; omega
    rw [hl] at this
    exact this
/-- A reader's cells. -/
def rdr (tk : Tk) (L : List Int) (at_ : Nat) (bad : Bool) : List V := [.sl tk (bs L), .sc (.int .i64 at_), .sc (.bool bad)]
theorem rdr_max {st : St} (h : st.Wf) {b : Nat} {tk : Tk} {L : List Int} {at_ : Nat} {bad : Bool} (hb : st.box b = some (rdr tk L at_ bad)) : L.length ≤ 9223372036854775807 := by
  have := vlen_max (h.ok b _ hb _ (List.mem_cons_self ..))
  rw [bs_len] at this; omega

section
variable {tk : Tk} {L : List Int} {st : St} {b at_ : Nat} {bad : Bool}
theorem Get16_v (hB : IsB L) : VCalls Try.prog 144 [.sl tk (bs L)] st fun r st' => r = .sc (.int .u16 (if L.length < 2 then 0 else numL (L.take 2))) ∧ st = st' := by
  refine vcalls_enter vc144 (Nat.le_of_ble_eq_true rfl) fun hwf hok => ?_
  show Run _ Vc144.body (.fin (finQ Vc144.res _)) _ _
  unfold Vc144
  simp (config := {maxSteps := 3000000}) (disch := ((fail_if_success refine selfNe ?_); omega)) only [go_sem, ↓reduceIte, reduceCtorEq, bs_len]
  refine If.dec (fun h => ?_) (fun h => ?_)
  · simp (config := {maxSteps := 3000000}) (disch := ((fail_if_success refine selfNe ?_); omega)) only [go_sem, ↓reduceIte]
    exact ⟨_, _, Wk.refl _, hwf.weak, by rw [if_pos (by omega)], rfl⟩
  · obtain ⟨a, h0⟩ := get_ex (L := L) (i := 0) (by omega)
    obtain ⟨b, h1⟩ := get_ex (L := L) (i := 1) (by omega)
    have b0 := hB.get h0
    have b1 := hB.get h1
    have hn : numL (L.take 2) = 256 * a + b := by
      match L, h with
      | x :: y :: L, _ => simp at h0 h1; subst h0 h1; simp [numL]
    simp (config := {maxSteps := 3000000}) (disch := ((fail_if_success refine selfNe ?_); omega)) only [go_sem, Nat.reduceEqDiff, Nat.reduceLeDiff, Int.reduceToNat, Int.reduceLE, Int.reducePow, ↓reduceIte, reduceCtorEq, bs_get, h0, h1, emod_small, ibit_or, u16_join]
    exact ⟨_, _, Wk.refl _, hwf.weak, by rw [if_neg (by omega), hn], rfl⟩
theorem New_v : VCalls Try.prog 146 [.sl tk (bs L)] st fun r st' => ∃ b, st.sz ≤ b ∧ r = ptrV b ∧ st' = st.put b (rdr tk L 0 false) := by
  refine vcalls_enter vc146 (Nat.le_of_ble_eq_true rfl) fun hwf hok => ?_
  show Run _ Vc146.body (.fin (finQ Vc146.res _)) _ _
  unfold Vc146
  simp (config := {maxSteps := 3000000}) (disch := ((fail_if_success refine selfNe ?_); omega)) only [go_sem, Nat.reduceAdd, Nat.reduceLT, Nat.reduceLeDiff, ↓reduceIte, reduceCtorEq]
  exact fun b hb => ⟨_, _, Wk.refl _, weak_both hwf.weak, b, hb, rfl, rfl⟩
theorem Left_v (hb : st.box b = some (rdr tk L at_ bad)) (h : at_ ≤ L.length) : VCalls Try.prog 184 [ptrV b] st fun r st' => r = .sc (.int .i64 (L.length - at_)) ∧ st = st' := by
  refine vcalls_enter vc184 (Nat.le_of_ble_eq_true rfl) fun hwf hok => ?_
  show Run _ Vc184.body (.fin (finQ Vc184.res _)) _ _
  unfold Vc184
  have hm := rdr_max hwf hb
  simp (config := {maxSteps := 3000000}) (disch := ((fail_if_success refine selfNe ?_); omega)) only [go_sem, Nat.reduceEqDiff, Int.reduceNeg, ↓reduceIte, reduceCtorEq, hb, rdr, bs_len]
  repeat (apply And.intro; focus (first | omega | (simp; done)))
  exact ⟨_, _, Wk.refl _, hwf.weak, rfl, rfl⟩
theorem Num_v (hb : st.box b = some (rdr tk L at_ bad)) (h : at_ ≤ L.length) (hB : IsB L) (size : Int) : VCalls Try.prog 183 [ptrV b, .sc (.int .i64 size)] st fun r st' =>
    r = .sc (.int .u64 (rdNum L at_ bad size).1) ∧ st' = st.put b (rdr tk L (rdNum L at_ bad size).2.1 (rdNum L at_ bad size).2.2) := by
  refine vcalls_enter vc183 (Nat.le_of_ble_eq_true rfl) fun hwf hok => ?_
  show Run _ Vc183.body (.fin (finQ Vc183.res _)) _ _
  unfold Vc183
  have hm := rdr_max hwf hb
  by_cases h1 : size < 1
  · have e : rdNum L at_ bad size = (0, at_, true) := if_pos (.inl h1)
    simp (config := {maxSteps := 3000000}) (disch := ((fail_if_success refine selfNe ?_); omega)) only [go_sem, Nat.reduceEqDiff, Nat.reduceAdd, Nat.reduceLT, Nat.reduceLeDiff, ↓reduceIte, reduceCtorEq, hb, rdr, e, decide_eq_true h1]
    repeat (apply And.intro; focus (first | omega | (simp; done)))
    exact ⟨_, _, Wk.refl _, weak_both hwf.weak, rfl, rfl⟩
  by_cases h2 : 8 < size
  · have e : rdNum L at_ bad size = (0, at_, true) := if_pos (.inr (.inl h2))
    simp (config := {maxSteps := 3000000}) (disch := ((fail_if_success refine selfNe ?_); omega)) only [go_sem, Nat.reduceEqDiff, Nat.reduceAdd, Nat.reduceLT, Nat.reduceLeDiff, ↓reduceIte, reduceCtorEq, hb, rdr, e, decide_eq_false h1, decide_eq_true h2]
    repeat (apply And.intro; focus (first | omega | (simp; done)))
    exact ⟨_, _, Wk.refl _, weak_both hwf.weak, rfl, rfl⟩
  cases bad with
  | true =>
    have e : rdNum L at_ true size = (0, at_, true) := if_pos (.inr (.inr (.inl rfl)))
    simp (config := {maxSteps := 3000000}) (disch := ((fail_if_success refine selfNe ?_); omega)) only [go_sem, Nat.reduceEqDiff, Nat.reduceAdd, Nat.reduceLT, Nat.reduceLeDiff, ↓reduceIte, reduceCtorEq, hb, rdr, e, decide_eq_false h1, decide_eq_false h2]
    repeat (apply And.intro; focus (first | omega | (simp; done)))
    exact ⟨_, _, Wk.refl _, weak_both hwf.weak, rfl, rfl⟩
  | false =>
  simp (config := {maxSteps := 3000000}) (disch := ((fail_if_success refine selfNe ?_); omega)) only [go_sem, Nat.reduceEqDiff, ↓reduceIte, reduceCtorEq, hb, rdr, decide_eq_false h1, decide_eq_false h2]
  repeat (apply And.intro; focus (first | omega | (simp; done)))
  refine Cal.mk (Left_v hb h) ?_
  rintro _ _ ⟨rfl, rfl⟩ -
  by_cases h3 : (L.length : Int) - at_ < size
  · have e : rdNum L at_ false size = (0, at_, true) := if_pos (.inr (.inr (.inr h3)))
    simp (config := {maxSteps := 3000000}) (disch := ((fail_if_success refine selfNe ?_); omega)) only [go_sem, Nat.reduceEqDiff, Nat.reduceAdd, Nat.reduceLT, Nat.reduceLeDiff, ↓reduceIte, reduceCtorEq, hb, rdr, e, decide_eq_true h3]
    repeat (apply And.intro; focus (first | omega | (simp; done)))
    exact ⟨_, _, Wk.refl _, weak_both hwf.weak, rfl, rfl⟩
  have e : rdNum L at_ false size = (numL ((L.drop at_).take size.toNat), at_ + size.toNat, false) := if_neg (by simp; omega)
  have hM : (L.take ((at_ : Int) + size).toNat).drop at_ = (L.drop at_).take size.toNat := by rw [List.drop_take]; congr 1; omega
  have hMl : ((L.drop at_).take size.toNat).length = size.toNat := by simp; omega
  have hMB : IsB ((L.drop at_).take size.toNat) := (hB.drop _).take _
  generalize (L.drop at_).take size.toNat = M at *
  simp (config := {maxSteps := 3000000}) (disch := ((fail_if_success refine selfNe ?_); omega)) only [go_sem, Nat.reduceEqDiff, Int.reduceNeg, ↓reduceIte, reduceCtorEq, hb, rdr, e, decide_eq_false h3, allSz_bs', bs_len, bs_take, bs_drop, hM]
  repeat (apply And.intro; focus (first | omega | (simp; done)))
  refine run_loop [5, 7, 45, 46, 47, 48, 49, 50, 51, 52, 53, 54] (fun B s => st = s ∧ ∃ i : Nat, i ≤ size.toNat ∧ B 45 = .sc (.int .i64 i) ∧ B 5 = .sc (.int .u64 (numL (M.take i)))) (fun B _ => size.toNat - vnat (B 45)) rfl ?_ ?_
  · simp (config := {maxSteps := 3000000}) (disch := ((fail_if_success refine selfNe ?_); omega)) only [go_sem, Nat.reduceEqDiff, ↓reduceIte]
    exact ⟨0, by omega, by simp, by simp [numL_nil]⟩
  · rintro B s ⟨rfl, i, hi, h45, h5⟩
    by_cases hlt : i < size.toNat
    · obtain ⟨c, hc⟩ := get_ex (L := M) (i := i) (by omega)
      have bc := hMB.get hc
      have hr := numL_range _ (M.take i) rfl (hMB.take i)
      have hpw : (256 : Int) ^ (M.take i).length ≤ 72057594037927936 := by
        have h7 : ∀ k : Nat, k ≤ 7 → (256 : Int) ^ k ≤ 72057594037927936 := by decide
        exact h7 _ (by simp; omega)
      have hsn : numL (M.take (i + 1)) = 256 * numL (M.take i) + c := by rw [List.take_add_one, hc]; exact numL_snoc _ _
      simp (config := {maxSteps := 3000000}) (disch := ((fail_if_success refine selfNe ?_); omega)) only [go_sem, Nat.reduceEqDiff, Nat.reduceLeDiff, Int.reduceToNat, Int.reduceLE, Int.reducePow, Int.reduceNeg, ↓reduceIte, Nat.reduceBEq, h45, h5, decide_eq_true (show (i : Int) < (M.length : Int) by omega), bs_get, hc, emod_small, ibit_or, u64_join]
      repeat (apply And.intro; focus (first | omega | (simp; done)))
      exact ⟨⟨i + 1, by omega, by simp, by rw [hsn]⟩, by omega⟩
    · obtain rfl : i = size.toNat := by omega
      have ht : M.take size.toNat = M := List.take_of_length_le (by omega)
      rw [ht] at h5
      simp (config := {maxSteps := 3000000}) (disch := ((fail_if_success refine selfNe ?_); omega)) only [go_sem, Nat.reduceEqDiff, Nat.reduceAdd, Nat.reduceLT, Nat.reduceLeDiff, Int.reduceNeg, ↓reduceIte, reduceCtorEq, Nat.reduceBEq, h45, h5, decide_eq_false (show ¬ (size.toNat : Int) < (M.length : Int) by omega), hb, rdr]
      repeat (apply And.intro; focus (first | omega | (simp; done)))
      exact ⟨_, _, Wk.refl _, weak_both hwf.weak, rfl, by rw [show ((at_ + size.toNat : Nat) : Int) = at_ + size by omega]⟩
theorem Own.nil {size : Nat} {st : St} : Own size st (.sl .nil []) [] := .inl ⟨rfl, rfl⟩
theorem Own.sl {size : Nat} {st : St} {v : V} {l : List V} (h : Own size st v l) : ∃ tk, v = .sl tk l := by
  rcases h with ⟨rfl, rfl⟩ | ⟨g, rfl, _⟩
  · exact ⟨_, rfl⟩
  · exact ⟨_, rfl⟩
theorem u8_mod {n : Int} : norm .u8 n = (True, .sc (.int .u8 (n % 256))) := rfl
theorem Put16_v {x : V} {n : Int} (hown : Own 1 st x (bs L)) (hl : L.length ≤ 1000000000000) (h0 : 0 ≤ n) (h1 : n < 65536) : VCalls Try.prog 152 [x, .sc (.int .u16 n)] st fun r st' => Own 1 st' r (bs (L ++ beL n 2)) ∧ AppSt st x st' r := by
  refine vcalls_enter vc152 (Nat.le_of_ble_eq_true rfl) fun hwf hok => ?_
  show Run _ Vc152.body (.fin (finQ Vc152.res _)) _ _
  unfold Vc152
  simp (config := {maxSteps := 3000000}) (disch := ((fail_if_success refine selfNe ?_); omega)) only [go_sem, Nat.reduceEqDiff, Nat.reduceLeDiff, Int.reduceToNat, Int.reduceLE, Int.reducePow, ↓reduceIte, reduceCtorEq]
  refine App.mk hown (by simp [allSz, V.cells]) (by rw [bs_len]; unfold maxLen; simp; omega) (by rw [bs_len]; simp; omega) ?_
  intro r st' k1 k2
  simp (config := {maxSteps := 3000000}) (disch := ((fail_if_success refine selfNe ?_); omega)) only [go_sem, ↓reduceIte]
  refine ⟨_, _, Wk.refl _, k2.weak hwf, ?_, k2⟩
  rw [← bs_append]
  have e : beL n 2 = [n / 256 % 256, n % 256] := by simp [beL]
  rw [e]; exact k1
theorem Put32_v {x : V} {n : Int} (hown : Own 1 st x (bs L)) (hl : L.length ≤ 1000000000000) (h0 : 0 ≤ n) (h1 : n < 4294967296) : VCalls Try.prog 153 [x, .sc (.int .u32 n)] st fun r st' => Own 1 st' r (bs (L ++ beL n 4)) ∧ AppSt st x st' r := by
  refine vcalls_enter vc153 (Nat.le_of_ble_eq_true rfl) fun hwf hok => ?_
  show Run _ Vc153.body (.fin (finQ Vc153.res _)) _ _
  unfold Vc153
  simp (config := {maxSteps := 3000000}) (disch := ((fail_if_success refine selfNe ?_); omega)) only [go_sem, Nat.reduceEqDiff, Nat.reduceLeDiff, Int.reduceToNat, Int.reduceLE, Int.reducePow, ↓reduceIte, reduceCtorEq]
  refine App.mk hown (by simp [allSz, V.cells]) (by rw [bs_len]; unfold maxLen; simp; omega) (by rw [bs_len]; simp; omega) ?_
  intro r st' k1 k2
  simp (config := {maxSteps := 3000000}) (disch := ((fail_if_success refine selfNe ?_); omega)) only [go_sem, ↓reduceIte]
  refine ⟨_, _, Wk.refl _, k2.weak hwf, ?_, k2⟩
  rw [← bs_append]
  have e : beL n 4 = [n / 16777216 % 256, n / 65536 % 256, n / 256 % 256, n % 256] := by simp [beL]
  rw [e]; exact k1
theorem U8_v (hb : st.box b = some (rdr tk L at_ bad)) (h : at_ ≤ L.length) (hB : IsB L) : VCalls Try.prog 147 [ptrV b] st fun r st' =>
    r = .sc (.int .u8 (rdNum L at_ bad 1).1) ∧ st' = st.put b (rdr tk L (rdNum L at_ bad 1).2.1 (rdNum L at_ bad 1).2.2) := by
  have hr : 0 ≤ (rdNum L at_ bad 1).1 ∧ (rdNum L at_ bad 1).1 < 256 := by simpa using rdNum_lt (L := L) (at_ := at_) (bad := bad) hB (k := 1) (by omega)
  refine vcalls_enter vc147 (Nat.le_of_ble_eq_true rfl) fun hwf hok => ?_
  show Run _ Vc147.body (.fin (finQ Vc147.res _)) _ _
  unfold Vc147
  simp (config := {maxSteps := 3000000}) (disch := ((fail_if_success refine selfNe ?_); omega)) only [go_sem, ↓reduceIte, reduceCtorEq]
  refine Cal.mk (Num_v hb h hB 1) ?_
  rintro _ _ ⟨rfl, rfl⟩ -
  simp (config := {maxSteps := 3000000}) (disch := ((fail_if_success refine selfNe ?_); omega)) only [go_sem, ↓reduceIte, emod_small]
  exact ⟨_, _, Wk.refl _, weak_both hwf.weak, rfl, rfl⟩
theorem U16_v (hb : st.box b = some (rdr tk L at_ bad)) (h : at_ ≤ L.length) (hB : IsB L) : VCalls Try.prog 148 [ptrV b] st fun r st' =>
    r = .sc (.int .u16 (rdNum L at_ bad 2).1) ∧ st' = st.put b (rdr tk L (rdNum L at_ bad 2).2.1 (rdNum L at_ bad 2).2.2) := by
  have hr : 0 ≤ (rdNum L at_ bad 2).1 ∧ (rdNum L at_ bad 2).1 < 65536 := by simpa using rdNum_lt (L := L) (at_ := at_) (bad := bad) hB (k := 2) (by omega)
  refine vcalls_enter vc148 (Nat.le_of_ble_eq_true rfl) fun hwf hok => ?_
  show Run _ Vc148.body (.fin (finQ Vc148.res _)) _ _
  unfold Vc148
  simp (config := {maxSteps := 3000000}) (disch := ((fail_if_success refine selfNe ?_); omega)) only [go_sem, ↓reduceIte, reduceCtorEq]
  refine Cal.mk (Num_v hb h hB 2) ?_
  rintro _ _ ⟨rfl, rfl⟩ -
  simp (config := {maxSteps := 3000000}) (disch := ((fail_if_success refine selfNe ?_); omega)) only [go_sem, ↓reduceIte, emod_small]
  exact ⟨_, _, Wk.refl _, weak_both hwf.weak, rfl, rfl⟩
theorem U32_v (hb : st.box b = some (rdr tk L at_ bad)) (h : at_ ≤ L.length) (hB : IsB L) : VCalls Try.prog 149 [ptrV b] st fun r st' =>
    r = .sc (.int .u32 (rdNum L at_ bad 4).1) ∧ st' = st.put b (rdr tk L (rdNum L at_ bad 4).2.1 (rdNum L at_ bad 4).2.2) := by
  have hr : 0 ≤ (rdNum L at_ bad 4).1 ∧ (rdNum L at_ bad 4).1 < 4294967296 := by simpa using rdNum_lt (L := L) (at_ := at_) (bad := bad) hB (k := 4) (by omega)
  refine vcalls_enter vc149 (Nat.le_of_ble_eq_true rfl) fun hwf hok => ?_
  show Run _ Vc149.body (.fin (finQ Vc149.res _)) _ _
  unfold Vc149
  simp (config := {maxSteps := 3000000}) (disch := ((fail_if_success refine selfNe ?_); omega)) only [go_sem, ↓reduceIte, reduceCtorEq]
  refine Cal.mk (Num_v hb h hB 4) ?_
  rintro _ _ ⟨rfl, rfl⟩ -
  simp (config := {maxSteps := 3000000}) (disch := ((fail_if_success refine selfNe ?_); omega)) only [go_sem, ↓reduceIte, emod_small]
  exact ⟨_, _, Wk.refl _, weak_both hwf.weak, rfl, rfl⟩
theorem Take_v (hb : st.box b = some (rdr tk L at_ bad)) (h : at_ ≤ L.length) (hL : L.length ≤ 1000000000000) (n : Int) : VCalls Try.prog 150 [ptrV b, .sc (.int .i64 n)] st fun r st' =>
    r = .sl .no (bs (rdTake L at_ bad n).1) ∧ st' = st.put b (rdr tk L (rdTake L at_ bad n).2.1 (rdTake L at_ bad n).2.2) := by
  refine vcalls_enter vc150 (Nat.le_of_ble_eq_true rfl) fun hwf hok => ?_
  show Run _ Vc150.body (.fin (finQ Vc150.res _)) _ _
  unfold Vc150
  by_cases h1 : n < 0
  · have e : rdTake L at_ bad n = ([], at_, true) := if_pos (.inl h1)
    simp (config := {maxSteps := 3000000}) (disch := ((fail_if_success refine selfNe ?_); omega)) only [go_sem, Nat.reduceEqDiff, Nat.reduceAdd, Nat.reduceLT, Nat.reduceLeDiff, ↓reduceIte, reduceCtorEq, hb, rdr, e, decide_eq_true h1]
    repeat (apply And.intro; focus (first | omega | (simp; done)))
    exact ⟨_, _, Wk.no, weak_both hwf.weak, rfl, rfl⟩
  cases bad with
  | true =>
    have e : rdTake L at_ true n = ([], at_, true) := if_pos (.inr (.inl rfl))
    simp (config := {maxSteps := 3000000}) (disch := ((fail_if_success refine selfNe ?_); omega)) only [go_sem, Nat.reduceEqDiff, Nat.reduceAdd, Nat.reduceLT, Nat.reduceLeDiff, ↓reduceIte, reduceCtorEq, hb, rdr, e, decide_eq_false h1]
    repeat (apply And.intro; focus (first | omega | (simp; done)))
    exact ⟨_, _, Wk.no, weak_both hwf.weak, rfl, rfl⟩
  | false =>
  simp (config := {maxSteps := 3000000}) (disch := ((fail_if_success refine selfNe ?_); omega)) only [go_sem, Nat.reduceEqDiff, ↓reduceIte, reduceCtorEq, hb, rdr, decide_eq_false h1]
  repeat (apply And.intro; focus (first | omega | (simp; done)))
  refine Cal.mk (Left_v hb h) ?_
  rintro _ _ ⟨rfl, rfl⟩ -
  by_cases h3 : (L.length : Int) - at_ < n
  · have e : rdTake L at_ false n = ([], at_, true) := if_pos (.inr (.inr h3))
    simp (config := {maxSteps := 3000000}) (disch := ((fail_if_success refine selfNe ?_); omega)) only [go_sem, Nat.reduceEqDiff, Nat.reduceAdd, Nat.reduceLT, Nat.reduceLeDiff, ↓reduceIte, reduceCtorEq, hb, rdr, e, decide_eq_true h3]
    repeat (apply And.intro; focus (first | omega | (simp; done)))
    exact ⟨_, _, Wk.no, weak_both hwf.weak, rfl, rfl⟩
  have e : rdTake L at_ false n = ((L.drop at_).take n.toNat, at_ + n.toNat, false) := if_neg (by simp; omega)
  have hM : (L.take ((at_ : Int) + n).toNat).drop at_ = (L.drop at_).take n.toNat := by rw [List.drop_take]; congr 1; omega
  have hMl : ((L.drop at_).take n.toNat).length = n.toNat := by simp; omega
  generalize (L.drop at_).take n.toNat = M at *
  have ht : ((at_ : Int) + n - n).toNat = at_ := by omega
  simp (config := {maxSteps := 3000000}) (disch := ((fail_if_success refine selfNe ?_); omega)) only [go_sem, Nat.reduceEqDiff, Nat.reduceAdd, Nat.reduceLT, Nat.reduceLeDiff, Int.reduceNeg, ↓reduceIte, reduceCtorEq, hb, rdr, e, decide_eq_false h3, allSz_bs', bs_len, bs_take, bs_drop, ht, hM]
  repeat (apply And.intro; focus (first | omega | (simp; done)))
  refine App.mk Own.nil (allSz_bs _) (by simp [bs_len, maxLen]; omega) (by simp [bs_len]; omega) ?_
  intro r s' k1 k2
  simp (config := {maxSteps := 3000000}) (disch := ((fail_if_success refine selfNe ?_); omega)) only [go_sem, ↓reduceIte]
  obtain ⟨tk', rfl⟩ := k1.sl
  exact ⟨_, _, Wk.no, (by have := k2.over hwf.lt.put; rwa [show (at_ : Int) + n = ((at_ + n.toNat : Nat) : Int) by omega] at this), rfl, rfl⟩
theorem Rest_v (hb : st.box b = some (rdr tk L at_ bad)) (h : at_ ≤ L.length) (hL : L.length ≤ 1000000000000) : VCalls Try.prog 151 [ptrV b] st fun r st' =>
    r = .sl .no (bs (rdTake L at_ bad (L.length - at_)).1) ∧ st' = st.put b (rdr tk L (rdTake L at_ bad (L.length - at_)).2.1 (rdTake L at_ bad (L.length - at_)).2.2) := by
  refine vcalls_enter vc151 (Nat.le_of_ble_eq_true rfl) fun hwf hok => ?_
  show Run _ Vc151.body (.fin (finQ Vc151.res _)) _ _
  unfold Vc151
  simp (config := {maxSteps := 3000000}) (disch := ((fail_if_success refine selfNe ?_); omega)) only [go_sem, ↓reduceIte, reduceCtorEq]
  refine Cal.mk (Left_v hb h) ?_
  rintro _ _ ⟨rfl, rfl⟩ -
  simp (config := {maxSteps := 3000000}) (disch := ((fail_if_success refine selfNe ?_); omega)) only [go_sem, Nat.reduceEqDiff, ↓reduceIte]
  refine Cal.mk (Take_v hb h hL _) ?_
  rintro _ _ ⟨rfl, rfl⟩ -
  simp (config := {maxSteps := 3000000}) (disch := ((fail_if_success refine selfNe ?_); omega)) only [go_sem, ↓reduceIte]
  exact ⟨_, _, Wk.refl _, weak_both hwf.weak, rfl, rfl⟩
end
end
section
open Go

section
variable {tk tk' : Tk} {L M : List Int} {st : St}
theorem pow256_le {k : Nat} (h : k ≤ 7) : (256 : Int) ^ k ≤ 72057594037927936 := by
  have h7 : ∀ k : Nat, k ≤ 7 → (256 : Int) ^ k ≤ 72057594037927936 := by decide
  exact h7 _ h
theorem eqB_v : VCalls Try.prog 66 [.sl tk (bs L), .sl tk' (bs M)] st fun r st' => r = .sc (.bool (decide (L = M))) ∧ st = st' := by
  refine vcalls_enter vc66 (Nat.le_of_ble_eq_true rfl) fun hwf hok => ?_
  show Run _ Vc66.body (.fin (finQ Vc66.res _)) _ _
  unfold Vc66
  have hL := vlen_max (hok _ (List.mem_cons_self ..))
  rw [bs_len] at hL
  by_cases hl : L.length = M.length
  · simp (config := {maxSteps := 3000000}) (disch := ((fail_if_success refine selfNe ?_); omega)) only [go_sem, Nat.reduceEqDiff, ↓reduceIte, reduceCtorEq, bs_len, decide_eq_false (show ¬ ¬ (L.length : Int) = (M.length : Int) by omega)]
    refine run_loop [4, 5, 13, 14, 15, 16, 17, 18, 19, 20, 21, 22, 23, 24, 25] (fun B s => st = s ∧ ∃ i : Nat, i ≤ L.length ∧ B 13 = .sc (.int .i64 i) ∧ L.take i = M.take i) (fun B _ => L.length - vnat (B 13)) rfl ?_ ?_
    · simp (config := {maxSteps := 3000000}) (disch := ((fail_if_success refine selfNe ?_); omega)) only [go_sem, ↓reduceIte]
      exact ⟨0, by omega, by simp, by simp⟩
    · rintro B s ⟨rfl, i, hi, h13, he⟩
      by_cases hlt : i < L.length
      · obtain ⟨c, hc⟩ := get_ex hlt
        obtain ⟨d, hd⟩ := get_ex (L := M) (i := i) (by omega)
        simp (config := {maxSteps := 3000000}) (disch := ((fail_if_success refine selfNe ?_); omega)) only [go_sem, Nat.reduceEqDiff, ↓reduceIte, reduceCtorEq, Nat.reduceBEq, h13, decide_eq_true (show (i : Int) < (L.length : Int) by omega), bs_get, hc, hd]
        repeat (apply And.intro; focus (first | omega | (simp; done)))
        refine If.dec (fun h => ?_) (fun h => ?_)
        · simp (config := {maxSteps := 3000000}) (disch := ((fail_if_success refine selfNe ?_); omega)) only [go_sem, ↓reduceIte]
          exact ⟨_, _, Wk.refl _, hwf.weak, by rw [decide_eq_false]; rintro rfl; rw [hc] at hd; cases hd; exact h rfl, rfl⟩
        · obtain rfl : c = d := by omega
          simp (config := {maxSteps := 3000000}) (disch := ((fail_if_success refine selfNe ?_); omega)) only [go_sem, Nat.reduceEqDiff, Int.reduceNeg, ↓reduceIte, Nat.reduceBEq, h13]
          repeat (apply And.intro; focus (first | omega | (simp; done)))
          exact ⟨⟨i + 1, by omega, by simp, by rw [List.take_add_one, List.take_add_one, hc, hd, he]⟩, by omega⟩
      · obtain rfl : i = L.length := by omega
        simp (config := {maxSteps := 3000000}) (disch := ((fail_if_success refine selfNe ?_); omega)) only [go_sem, Nat.reduceEqDiff, ↓reduceIte, Nat.reduceBEq, h13]
        rw [List.take_of_length_le (Nat.le_refl _), List.take_of_length_le (by omega)] at he
        exact ⟨_, _, Wk.refl _, hwf.weak, by rw [decide_eq_true he], rfl⟩
  · simp (config := {maxSteps := 3000000}) (disch := ((fail_if_success refine selfNe ?_); omega)) only [go_sem, Nat.reduceEqDiff, ↓reduceIte, reduceCtorEq, bs_len, decide_eq_true (show ¬ (L.length : Int) = (M.length : Int) by omega)]
    exact ⟨_, _, Wk.refl _, hwf.weak, by rw [decide_eq_false]; rintro rfl; exact hl rfl, rfl⟩
theorem Own.put {size : Nat} {st : St} {v : V} {l : List V} (h : Own size st v l) {b : Nat} {cs : List V} : Own size (st.put b cs) v l := by
  rcases h with h | ⟨g, h1, h2, h3⟩
  · exact .inl h
  · exact .inr ⟨g, h1, h2, by simp only [put_sz]; omega⟩
theorem bs_zeros (k : Nat) : (List.replicate k [V.sc (.int .u8 0)]).flatten = bs (List.replicate k 0) := by
  induction k with
  | zero => rfl
  | succ k ih => rw [List.replicate_succ, List.flatten_cons, ih, List.replicate_succ, bs_cons]; rfl
theorem splice_bs {m : Nat} {T : List Int} {x : Int} : splice (bs (List.replicate (m + 1) 0 ++ T)) m [.sc (.int .u8 x)] = bs (List.replicate m 0 ++ x :: T) := by
  unfold splice
  have e : List.replicate (m + 1) (0 : Int) ++ T = List.replicate m 0 ++ (0 :: T) := by rw [List.replicate_succ', List.append_assoc]; rfl
  have hl : (bs (List.replicate m 0)).length = m := by simp [bs_len]
  rw [e, ← bs_append, ← bs_append, List.take_append_of_le_length (by omega), List.take_of_length_le (by omega), List.drop_append, hl]
  rw [List.drop_of_length_le (by simp; omega), show m + [V.sc (.int .u8 x)].length - m = 1 by simp]
  simp [bs_cons]
theorem bs_flat (L : List Int) : (bs L).flatMap V.cells = bs L := by
  induction L with
  | nil => rfl
  | cons x L ih => rw [bs_cons, List.flatMap_cons, ih]; rfl
theorem St.weak.trans {a b c : St} (h : a.weak b) (k : b.weak c) : a.weak c :=
  ⟨fun x cs hx => ⟨(k.box x cs (h.box x cs hx).1).1, (h.box x cs hx).2⟩, fun g m hg => ⟨(k.own g m (h.own g m hg).1).1, (h.own g m hg).2⟩, Nat.le_trans h.sz k.sz⟩
/-- All that was is there as it was; r is a new row. -/
structure New (st st' : St) (r : V) : Prop where
  weak : st.weak st'
  lt : st'.Lt
  tok : ∀ g k l, r = .sl (.own g k) l → st.sz ≤ g
theorem AppSt.keeps {s s' : St} {x r : V} (h : AppSt s x s' r) {t : St} (hw : t.weak s) (hx : ∀ g k l, x = .sl (.own g k) l → t.sz ≤ g) : t.weak s' :=
  ⟨fun b cs hb => ⟨by rw [h.box]; exact (hw.box b cs hb).1, (hw.box b cs hb).2⟩, fun g m hg => ⟨h.own g m (hw.own g m hg).1 (fun l k e => by have := hx g k l e; have := (hw.own g m hg).2; omega), (hw.own g m hg).2⟩, Nat.le_trans hw.sz h.sz⟩
theorem AppSt.fresh {s s' : St} {x r : V} (h : AppSt s x s' r) {t : St} (hs : t.sz ≤ s.sz) (hx : ∀ g k l, x = .sl (.own g k) l → t.sz ≤ g) : ∀ g k l, r = .sl (.own g k) l → t.sz ≤ g := fun g k l e => by
  rcases h.tok g k l e with ⟨l', e'⟩ | h2
  · exact hx g k l' e'
  · omega
theorem rPut_v {n size : Int} (hB : IsB L) (hl : L.length ≤ 1000000000000) (h0 : 0 ≤ n) (h1 : n ≤ 18446744073709551615) : VCalls Try.prog 103 [.sl tk (bs L), .sc (.int .u64 n), .sc (.int .i64 size)] st fun r st' =>
    Own 1 st' r (bs (if size < 1 ∨ 8 < size then L else L ++ beL n size.toNat)) ∧ New st st' r := by
  refine vcalls_enter vc103 (Nat.le_of_ble_eq_true rfl) fun hwf hok => ?_
  show Run _ Vc103.body (.fin (finQ Vc103.res _)) _ _
  unfold Vc103
  simp (config := {maxSteps := 3000000}) (disch := ((fail_if_success refine selfNe ?_); omega)) only [go_sem]
  refine Bo.own (by simp [allLen]) ?_
  intro g hg
  simp (config := {maxSteps := 3000000}) (disch := ((fail_if_success refine selfNe ?_); omega)) only [go_sem, Nat.reduceEqDiff, ↓reduceIte, reduceCtorEq]
  refine App.mk (l := []) (.inr ⟨g, rfl, by simp [St.use], by simp only [St.use]; omega⟩) (allSz_bs _) (by simp [bs_len, maxLen]; omega) (by simp [bs_len]; omega) ?_
  intro r1 s1 k1 k2
  rw [List.nil_append] at k1
  have hx0 : ∀ g' k l, V.sl (.own g 1) [] = .sl (.own g' k) l → st.sz ≤ g' := fun g' k l e => by cases e; exact hg
  have w1 : st.weak s1 := k2.keeps (weak_use hwf.weak hg) hx0
  have l1 : s1.Lt := hwf.lt.use.app k2
  have f1 := k2.fresh (t := st) (by simp only [use_sz]; omega) hx0
  by_cases c1 : size < 1
  · simp (config := {maxSteps := 3000000}) (disch := ((fail_if_success refine selfNe ?_); omega)) only [go_sem, Nat.reduceEqDiff, ↓reduceIte, c1]
    exact ⟨_, _, Wk.refl _, l1.weak, k1, w1, l1, f1⟩
  by_cases c2 : 8 < size
  · simp (config := {maxSteps := 3000000}) (disch := ((fail_if_success refine selfNe ?_); omega)) only [go_sem, Nat.reduceEqDiff, ↓reduceIte, c1, c2]
    exact ⟨_, _, Wk.refl _, l1.weak, k1, w1, l1, f1⟩
  rw [if_neg (by omega)]
  simp (config := {maxSteps := 3000000}) (disch := ((fail_if_success refine selfNe ?_); omega)) only [go_sem, Nat.reduceEqDiff, ↓reduceIte, decide_eq_false c1, decide_eq_false c2]
  repeat (apply And.intro; focus (first | omega | (simp; done)))
  intro b hb
  rw [bs_zeros]
  obtain ⟨sz, hsz⟩ : ∃ k : Nat, size = k := ⟨size.toNat, by omega⟩
  subst hsz
  rw [Int.toNat_natCast]
  have hsz8 : sz ≤ 8 := by omega
  refine run_loop [1, 9, 22, 23, 24, 25, 26, 27, 28, 29, 30, 31, 32, 33, 34, 35, 36, 37] (fun B s => ∃ i : Nat, i ≤ sz ∧ B 9 = .sc (.int .i64 i) ∧ B 1 = .sc (.int .u64 (n / 256 ^ i)) ∧ s = s1.put b (bs (List.replicate (sz - i) 0 ++ beL n i))) (fun B _ => sz - vnat (B 9)) rfl ?_ ?_
  · simp (config := {maxSteps := 3000000}) (disch := ((fail_if_success refine selfNe ?_); omega)) only [go_sem, Nat.reduceEqDiff, ↓reduceIte]
    exact ⟨0, by omega, by simp, by simp, by simp [beL]⟩
  · rintro B s ⟨i, hi, h9, h1', rfl⟩
    have hdiv : 0 ≤ n / 256 ^ i := Int.ediv_nonneg h0 (by have := pow256_pos i; omega)
    by_cases hlt : i < sz
    · have hdd : n / 256 ^ i / 256 = n / 256 ^ (i + 1) := by rw [Int.pow_succ, Int.ediv_ediv_of_nonneg (by have := pow256_pos i; omega)]
      have hle : n / 256 ^ i ≤ n := Int.ediv_le_self _ h0
      obtain ⟨m, hm⟩ : ∃ m, sz - i = m + 1 := ⟨sz - i - 1, by omega⟩
      have hm2 : ((sz : Int) - 1 - i).toNat = m := by omega
      rw [hm]
      simp (config := {maxSteps := 3000000}) (disch := ((fail_if_success refine selfNe ?_); omega)) only [go_sem, Nat.reduceEqDiff, Nat.reduceLT, Int.reduceLT, Int.reduceNeg, ↓reduceIte, Nat.reduceBEq, h9, h1', decide_eq_true (show (i : Int) < (sz : Int) by omega), hm2, bs_len, List.length_append, List.length_replicate, beL_len, emod_small]
      repeat (apply And.intro; focus (first | omega | (simp; done)))
      have hsp := splice_bs (m := m) (T := beL n i) (x := n / 256 ^ i % 256)
      simp only [splice, List.length_cons, List.length_nil, Nat.zero_add] at hsp
      exact ⟨⟨i + 1, by omega, by simp, by rw [hdd], by rw [hsp, show sz - (i + 1) = m by omega]; rfl⟩, by omega⟩
    · obtain rfl : i = sz := by omega
      simp (config := {maxSteps := 3000000}) (disch := ((fail_if_success refine selfNe ?_); omega)) only [go_sem, Nat.reduceEqDiff, ↓reduceIte, Nat.reduceBEq, h9, Nat.sub_self, List.replicate_zero]
      obtain ⟨tk1, rfl⟩ := k1.sl
      refine App.box (b := b) (cs := bs (beL n i)) (ys := bs (beL n i)) k1.put put_box_same (by simp [bs_len, beL_len]) (by simp [bs_len, beL_len]) (by rw [bs_flat, List.drop_zero, Nat.mul_one]; exact List.take_of_length_le (by simp [bs_len, beL_len])) (of_eq_true mono_bs) (allSz_bs _) (by simp [bs_len, maxLen]; omega) (by simp [bs_len]; omega) ?_
      intro r2 s2 k3 k4
      simp (config := {maxSteps := 3000000}) (disch := ((fail_if_success refine selfNe ?_); omega)) only [go_sem, ↓reduceIte]
      have hx1 : ∀ g' k l, V.sl tk1 (bs L) = .sl (.own g' k) l → st.sz ≤ g' := f1
      exact ⟨_, _, Wk.refl _, (l1.put.app k4).weak, by rw [← bs_append]; exact k3, k4.keeps (weak_put w1 (by have := w1.sz; omega)) hx1, l1.put.app k4, k4.fresh (by have := w1.sz; simp only [put_sz]; omega) hx1⟩
end
end
section
open Go Go.RowKit

/-- More memory, the old as it was. -/
theorem RepW.below {w0 : Fr} {G : Gh} {s : St} {w w' : World} (h : RepW w0 G s w) (hb : Below w.heap.size w w') : RepW w0 G s w' where
  F b o v hf := by
    have := h.F b o v hf
    rw [hb.cell (p := ⟨b, o, none⟩) (World.block_lt_of_cell? _ _ this)]; exact this
  O g x hx := by have := h.O g x hx; have := hb.size; omega
  box b cs hx := by
    obtain ⟨h1, h2, h3, h4, h5⟩ := h.box b cs hx
    exact ⟨h1, h2, h3, h4, by rw [hb.block b (by have := h.sz; omega)]; exact h5⟩
  own g m hg := by
    obtain ⟨h1, h2, e, size, cap, cur, h3, h4, h5⟩ := h.own g m hg
    exact ⟨h1, h2, e, size, cap, cur, h3, by rw [hb.block g (by have := h.sz; omega)]; exact h4, h5⟩
  sz := by have := h.sz; have := hb.size; omega
  bel := ⟨hb.os.trans h.bel.os, hb.tape.trans h.bel.tape, hb.output.trans h.bel.output, Nat.le_trans h.bel.size hb.size, fun i hi => (hb.block i (by have := h.bel.size; omega)).trans (h.bel.block i hi)⟩
  fr b x hx := ⟨by rw [hb.block b (h.frLt hx)]; exact (h.fr b x hx).1, (h.fr b x hx).2⟩
/-- What an argument reads as. -/
inductive Frz (st : St) : V → V → Prop where
  | same (d : V) : Frz st d d
  | box (b o c size : Nat) (cs l : List V) (hb : st.box b = some cs) (hl : ∀ (i : Nat) (d : V), l[i]? = some d → d.cells.length = size)
      (h : ∀ (i : Nat) (d : V) (j : Nat) (x : V), l[i]? = some d → d.cells[j]? = some x → cs[o + i * size + j]? = some x) (hc : l.length ≤ c) (hm : c ≤ maxLen) (hmo : mono cs) : Frz st (.sc (.slice (some ⟨b, o, none⟩) l.length c)) (.sl .no l)
def ghAll (G : Gh) (w : World) : Gh := ⟨fun b o => w.cell? ⟨b, o, none⟩, G.O⟩
theorem Frz.rep {st : St} {d d' : V} (hf : Frz st d d') {w0 : Fr} {G : Gh} {w : World} (hw : RepW w0 G st w) {v : Value} (h : Rep1 G d v) : Rep1 (ghAll G w) d' v := by
  have hle : G.le (ghAll G w) := ⟨hw.F, fun g x h => h⟩
  cases hf with
  | same d => exact h.mono hle
  | box b o c size cs l hb hl hx hc hm hmo =>
    cases h with
    | sc _ h1 =>
    obtain ⟨vs, e, hh, hsz, hone, hrep⟩ := (hw.box b cs hb).2.2.2.2.row hmo
    have hcell : ∀ k, w.cell? ⟨b, k, none⟩ = vs[k]? := fun k => by simp [World.cell?, hh]
    have get : ∀ i j, i < l.length → j < size → ∃ v x, vs[o + i * size + j]? = some v ∧ cs[o + i * size + j]? = some x ∧ (∃ d, l[i]? = some d ∧ d.cells[j]? = some x) := fun i j hi hj => by
      have hd := List.getElem?_eq_getElem hi
      have hlen := hl i _ hd
      have hjx := List.getElem?_eq_getElem (show j < (l[i]).cells.length by omega)
      have hcs := hx i _ j _ hd hjx
      have hlt : o + i * size + j < vs.size := by rw [hsz]; exact (List.getElem?_eq_some_iff.1 hcs).1
      exact ⟨_, _, Array.getElem?_eq_getElem hlt, hcs, _, hd, hjx⟩
    refine .sl .no l b o size c (fun i j => (vs[o + i * size + j]?).getD default) hl (fun i j hi hj => ?_) (fun i j hi hj => ?_) (fun i d j x hd hj => ?_) hc hm (by simp) (fun g k e => by cases e)
    · obtain ⟨v, x, h1, _⟩ := get i j hi hj
      simp only [ghAll, hcell, h1, Option.getD_some]
    · obtain ⟨v, x, h1, _⟩ := get i j hi hj
      simp only [h1, Option.getD_some]
      exact hone _ _ h1
    · have hi := (List.getElem?_eq_some_iff.1 hd).1
      have hjl : j < size := by rw [← hl i d hd]; exact (List.getElem?_eq_some_iff.1 hj).1
      obtain ⟨v, x', h1, h2, _⟩ := get i j hi hjl
      have hcs := hx i d j x hd hj
      simp only [h1, Option.getD_some]
      exact (hrep _ _ _ hcs h1).mono hle
/-- A callee that needs none of the caller's boxes, and hands back a plain value: the state stays. -/
theorem VCalls.frz {P : Program} {f : FuncId} {args args' : List V} {x : Value} {st : St} (h : ∀ n, VCalls P f args' ⟨fun _ => none, fun _ => none, n⟩ fun r _ => r = .sc x) (hl : args.length = args'.length)
    (hfr : ∀ (i : Nat) (d d' : V), args[i]? = some d → args'[i]? = some d' → Frz st d d') : VCalls P f args st fun r st' => r = .sc x ∧ st = st' := by
  intro w0 G w us hw hus hr
  have hw2 : RepW (Fr.of w) (ghAll G w) ⟨fun _ => none, fun _ => none, w.heap.size⟩ w :=
    ⟨fun _ _ _ h => h, hw.O, fun _ _ h => (by cases h), fun _ _ h => (by cases h), Nat.le_refl _, Below.refl _ _, fun _ _ h => (by cases h)⟩
  refine (h w.heap.size (Fr.of w) (ghAll G w) w us hw2 (by omega) (fun i d' u hd' hu => ?_)).mono fun e w' ⟨u, r, st', G', h1, h2, h3, _, h5⟩ => ?_
  · have hi : i < args.length := by rw [hl]; exact (List.getElem?_eq_some_iff.1 hd').1
    have hd := List.getElem?_eq_getElem hi
    exact (hfr i _ _ hd hd').rep hw (hr i _ u hd hu)
  · subst h2
    cases h3 with
    | sc _ h1' => exact ⟨x, .sc x, st, G, h1, ⟨rfl, rfl⟩, .sc _ h1', .refl G, hw.below h5.bel⟩
end
section
open Go Go.RowKit

section
variable {P : Program} {w0 : Fr} {G : Gh} {st : St} {w : World}
def St.drop (s : St) (b : Nat) : St := { s with box := fun x => if x = b then none else s.box x }
/-- A box is sealed: from now on its cells never turn, and slices of it read as data. -/
theorem RepW.seal (hw : RepW w0 G st w) {b : Nat} {cs : List V} (hb : st.box b = some cs) (hmo : mono cs) : ∃ G', G.le G' ∧ RepW w0 G' (st.drop b) w ∧ ∀ (o c size : Nat) (l : List V), (∀ (i : Nat) (d : V), l[i]? = some d → d.cells.length = size) →
    (∀ (i : Nat) (d : V) (j : Nat) (x : V), l[i]? = some d → d.cells[j]? = some x → cs[o + i * size + j]? = some x) → l.length ≤ c → c ≤ maxLen → Rep1 G' (.sl .no l) (.slice (some ⟨b, o, none⟩) l.length c) := by
  obtain ⟨hlt, hge0, hF, hO, hrb⟩ := hw.box b cs hb
  obtain ⟨cur, te, hh, hcl, hc1, hcr⟩ := hrb.row hmo
  have hle : G.le (G.addF b cur) := ⟨fun b' o v hf => by
    simp only [Gh.addF]
    split
    · rename_i e; subst e; rw [hF] at hf; cases hf
    · exact hf, fun _ _ h => h⟩
  refine ⟨G.addF b cur, hle, ⟨fun b' o v hf => ?_, hw.O, fun b' cs' hx => ?_, fun g m hg => ?_, hw.sz, hw.bel, fun c x hx => ?_⟩, fun o c size l hl hx hc hm => ?_⟩
  · simp only [Gh.addF] at hf
    split at hf
    · rename_i e; subst e; rw [cell_of_row w b' o cur te _ hh]; exact hf
    · exact hw.F b' o v hf
  · simp only [St.drop] at hx ⊢
    split at hx
    · cases hx
    · rename_i hne
      obtain ⟨k1, k2, k3, k4, k5⟩ := hw.box b' cs' hx
      exact ⟨k1, k2, fun o => by simp only [Gh.addF]; rw [if_neg hne]; exact k3 o, k4, k5.mono hle⟩
  · obtain ⟨k1, k2, e, size, cap, cur', k3, k4, k5, k6, k7, k8⟩ := hw.own g m hg
    have hne : g ≠ b := fun e => by subst e; rw [hO] at k3; cases k3
    exact ⟨k1, k2, e, size, cap, cur', k3, k4, k5, k6, k7, fun o ho => by simp only [Gh.addF]; rw [if_neg hne]; exact k8 o ho⟩
  · have hne : c ≠ b := fun e => by subst e; rw [hge0.2] at hx; cases hx
    exact ⟨(hw.fr c x hx).1, fun o => by simp only [Gh.addF]; rw [if_neg hne]; exact (hw.fr c x hx).2.1 o, (hw.fr c x hx).2.2⟩
  · have get : ∀ i j, i < l.length → j < size → ∃ v, cur[o + i * size + j]? = some v := fun i j hi hj => by
      have hd := List.getElem?_eq_getElem hi
      have hlen := hl i _ hd
      have hcs := hx i _ j _ hd (List.getElem?_eq_getElem (show j < (l[i]).cells.length by omega))
      exact ⟨_, Array.getElem?_eq_getElem (by rw [hcl]; exact (List.getElem?_eq_some_iff.1 hcs).1)⟩
    refine .sl .no l b o size c (fun i j => (cur[o + i * size + j]?).getD default) hl (fun i j hi hj => ?_) (fun i j hi hj => ?_) (fun i d j x hd hj => ?_) hc hm (by simp) (fun g k e => by cases e)
    · obtain ⟨v, h1⟩ := get i j hi hj
      simp only [Gh.addF, ↓reduceIte, h1, Option.getD_some]
    · obtain ⟨v, h1⟩ := get i j hi hj
      simp only [h1, Option.getD_some]
      exact hc1 _ _ h1
    · have hi := (List.getElem?_eq_some_iff.1 hd).1
      have hjl : j < size := by rw [← hl i d hd]; exact (List.getElem?_eq_some_iff.1 hj).1
      obtain ⟨v, h1⟩ := get i j hi hjl
      simp only [h1, Option.getD_some]
      exact (hcr _ _ _ (hx i d j x hd hj) h1).mono hle
/-- An argument where a box is read as data. -/
inductive Sld (b : Nat) (cs : List V) : V → V → Prop where
  | same (d : V) : Sld b cs d d
  | box (o c size : Nat) (l : List V) (hl : ∀ (i : Nat) (d : V), l[i]? = some d → d.cells.length = size) (hx : ∀ (i : Nat) (d : V) (j : Nat) (x : V), l[i]? = some d → d.cells[j]? = some x → cs[o + i * size + j]? = some x) (hc : l.length ≤ c) (hm : c ≤ maxLen) :
      Sld b cs (.sc (.slice (some ⟨b, o, none⟩) l.length c)) (.sl .no l)
  | agg (xs ys : List V) (hl : xs.length = ys.length) (h : ∀ (i : Nat) (x y : V), xs[i]? = some x → ys[i]? = some y → Sld b cs x y) : Sld b cs (.agg xs) (.agg ys)
theorem Sld.rep {b : Nat} {cs : List V} {x y : V} (h : Sld b cs x y) {G' : Gh} (hle : G.le G') (hb : ∀ (o c size : Nat) (l : List V), (∀ (i : Nat) (d : V), l[i]? = some d → d.cells.length = size) →
    (∀ (i : Nat) (d : V) (j : Nat) (x : V), l[i]? = some d → d.cells[j]? = some x → cs[o + i * size + j]? = some x) → l.length ≤ c → c ≤ maxLen → Rep1 G' (.sl .no l) (.slice (some ⟨b, o, none⟩) l.length c)) : ∀ {v : Value}, Rep1 G x v → Rep1 G' y v := by
  induction h with
  | same d => exact fun h => h.mono hle
  | box o c size l hl hx hc hm =>
    intro v h
    cases h with
    | sc _ _ => exact hb o c size l hl hx hc hm
  | agg xs ys hl h ih =>
    intro v hv
    cases hv with
    | agg _ vs hvl h1 hr =>
    refine .agg _ vs (by rw [hvl, hl]) h1 fun i y u hy hu => ?_
    have hi : i < xs.length := by rw [hl]; exact (List.getElem?_eq_some_iff.1 hy).1
    have hx := List.getElem?_eq_getElem hi
    exact ih i _ y hx hy (hr i _ u hx hu)
/-- A call ahead of which a box is sealed. -/
theorem VCalls.seal {f : FuncId} {args args' : List V} {Q : V → St → Prop} {b : Nat} {cs : List V} (hb : st.box b = some cs) (hmo : _root_.Go.Proofs.Ytlngegoamfklgaa.mono cs) (h : VCalls P f args' (st.drop b) Q) (hl : args.length = args'.length) (hs : ∀ (i : Nat) (d d' : V), args[i]? = some d → args'[i]? = some d' → Sld b cs d d') : VCalls P f args st Q := by
  intro w0 G w us hw hus hr
  obtain ⟨G', k1, k2, k3⟩ := hw.seal hb hmo
  refine (h w0 G' w us k2 (by omega) (fun i d' u hd' hu => ?_)).mono fun e w' ⟨u, r, st', G2, h1, h2, h3, h4, h5⟩ => ⟨u, r, st', G2, h1, h2, h3, k1.trans h4, h5⟩
  have hi : i < args.length := by rw [hl]; exact (List.getElem?_eq_some_iff.1 hd').1
  have hd := List.getElem?_eq_getElem hi
  exact (hs i _ _ hd hd').rep k1 k3 (hr i _ u hd hu)
end
end
section
open Go

/-! ### The ghost may grow at a call's end -/
/-- What is known of a result and a state may be told otherwise. -/
def Tell (r : V) (s : St) (r' : V) (s' : St) : Prop := ∀ (w0 : Fr) (G : Gh) (w : World) (u : Value), RepW w0 G s w → Rep1 G r u → ∃ G', G.le G' ∧ RepW w0 G' s' w ∧ Rep1 G' r' u
theorem VCalls.tell {P : Program} {f : FuncId} {args : List V} {st : St} {Q Q' : V → St → Prop} (h : VCalls P f args st Q) (hk : ∀ r s, Q r s → ∃ r' s', Tell r s r' s' ∧ Q' r' s') : VCalls P f args st Q' :=
  fun w0 G w us hw hl hr => (h w0 G w us hw hl hr).mono fun _ _ ⟨u, r, s, G', h1, h2, h3, h4, h5⟩ => by
    obtain ⟨r', s', t, q⟩ := hk r s h2
    obtain ⟨G2, k1, k2, k3⟩ := t _ _ _ _ h5 h3
    exact ⟨u, r', s', G2, h1, q, k3, h4.trans k1, k2⟩
/-- A box below which the caller speaks of nothing. -/
theorem weak_drop {base s : St} {b : Nat} (h : base.weak s) (hb : base.sz ≤ b) : base.weak (s.drop b) :=
  ⟨fun c cs hc => ⟨by simp only [St.drop]; rw [if_neg (by have := (h.box c cs hc).2; omega)]; exact (h.box c cs hc).1, (h.box c cs hc).2⟩, h.own, h.sz⟩

/-! ### Rows of bytes -/
/-- A row of bytes that may turn: its box is none of base's. -/
structure MRow (base s : St) (r : V) (L : List Int) : Prop where
  weak : base.weak s
  lt : s.Lt
  row : ∃ b cap spare, r = .sc (.slice (some ⟨b, 0, none⟩) L.length cap) ∧ base.sz ≤ b ∧ s.box b = some (bs L ++ spare) ∧ L.length + spare.length = cap ∧ cap ≤ maxLen ∧ _root_.Go.Proofs.Ytlngegoamfklgaa.mono (bs L ++ spare)
theorem mono_bsp {L M : List Int} {spare : List V} (h : mono (bs L ++ spare)) (hl : M.length = L.length) : mono (bs M ++ spare) := by
  cases M with
  | nil =>
    have : L = [] := List.eq_nil_of_length_eq_zero (by simpa using hl.symm)
    subst this; exact h
  | cons x M => exact of_eq_true (mono_sc (v := .int .u8 x) (l := bs M ++ spare))
theorem MRow.put {base s : St} (hw : base.weak s) (hl : s.Lt) {b cap : Nat} {L : List Int} {spare : List V} (hb : base.sz ≤ b) (h : L.length + spare.length = cap) (hm : cap ≤ maxLen) (hmo : _root_.Go.Proofs.Ytlngegoamfklgaa.mono (bs L ++ spare)) : MRow base (s.put b (bs L ++ spare)) (.sc (.slice (some ⟨b, 0, none⟩) L.length cap)) L :=
  ⟨weak_put hw hb, hl.put, b, cap, spare, rfl, hb, put_box_same, h, hm, hmo⟩
theorem bs_flat1 (L : List Int) : (bs L).flatMap V.cells = bs L := bs_flat L
/-- The row reads as bytes. -/
theorem MRow.frz {base s : St} {r : V} {L : List Int} (h : MRow base s r L) : Frz s r (.sl .no (bs L)) := by
  obtain ⟨b, cap, spare, rfl, h1, h2, h3, h4, hmo⟩ := h.row
  have := Frz.box (st := s) b 0 cap 1 (bs L ++ spare) (bs L) h2 (fun i d hd => allSz_bs L d (List.mem_of_getElem? hd)) (fun i d j x hd hj => by
    have hi := (List.getElem?_eq_some_iff.1 hd).1
    have : d.cells = [d] := by
      obtain ⟨n, _, rfl⟩ := List.mem_map.1 (List.mem_of_getElem? hd); rfl
    rw [this] at hj
    have hj0 : j = 0 := by
      rcases Nat.eq_zero_or_pos j with h | h
      · exact h
      · rw [List.getElem?_eq_none (by simp; omega)] at hj; cases hj
    subst hj0
    simp at hj; subst hj
    rw [List.getElem?_append, if_pos (by omega)]
    simpa using hd) (by rw [bs_len]; omega) h4 hmo
  rwa [bs_len] at this
/-- The row is sealed at a call's end. -/
theorem MRow.tell {base s : St} {r : V} {L : List Int} (h : MRow base s r L) : Tell r s (.sl .no (bs L)) base := by
  obtain ⟨b, cap, spare, rfl, h1, h2, h3, h4, hmo⟩ := h.row
  intro w0 G w u hw hr
  obtain ⟨G', k1, k2, k3⟩ := hw.seal h2 hmo
  refine ⟨G', k1, k2.weak (weak_drop h.weak h1), ?_⟩
  rw [hr.sc_inv]
  have := k3 0 cap 1 (bs L) (fun i d hd => allSz_bs L d (List.mem_of_getElem? hd)) (fun i d j x hd hj => by
    have hi := (List.getElem?_eq_some_iff.1 hd).1
    have : d.cells = [d] := by
      obtain ⟨n, _, rfl⟩ := List.mem_map.1 (List.mem_of_getElem? hd); rfl
    rw [this] at hj
    have hj0 : j = 0 := by
      rcases Nat.eq_zero_or_pos j with h | h
      · exact h
      · rw [List.getElem?_eq_none (by simp; omega)] at hj; cases hj
    subst hj0
    simp at hj; subst hj
    rw [List.getElem?_append, if_pos (by omega)]
    simpa using hd) (by rw [bs_len]; omega) h4
  rwa [bs_len] at this
theorem Tell.tup2 {r r' : V} {s s' : St} {x : Value} (h : Tell r s r' s') : Tell (.tup [r, .sc x]) s (.tup [r', .sc x]) s' := by
  intro w0 G w u hw hr
  cases hr with
  | tup _ vs hl hg =>
    have hs : vs.size = 2 := hl
    have e0 : vs[0]? = some vs[0] := Array.getElem?_eq_getElem (by omega)
    have e1 : vs[1]? = some vs[1] := Array.getElem?_eq_getElem (by omega)
    obtain ⟨G', k1, k2, k3⟩ := h w0 G w _ hw (hg 0 r _ rfl e0)
    refine ⟨G', k1, k2, .tup _ vs hl fun i c v hc hv => ?_⟩
    match i, hc with
    | 0, hc => simp at hc; subst hc; rw [e0] at hv; cases hv; exact k3
    | 1, hc => simp at hc; subst hc; exact (hg 1 _ v rfl hv).mono k1
theorem Tell.weak {r : V} {s s' : St} (h : s'.weak s) : Tell r s r s' := fun _ G _ _ hw hr => ⟨G, .refl G, hw.weak h, hr⟩

section
variable {P : Program} {k : Kt} {A : Nat → V} {base st : St} {d : Option Nat} {obs : List (Option Nat × X × Nat)} {rest : List VO} {x y : V} {L M : List Int} {tk : Tk}
/-- What is appended. -/
def BSrc (st : St) (y : V) (M : List Int) : Prop := srcV 1 st y (bs M)
theorem BSrc.sl : BSrc st (.sl tk (bs M)) M := .inl ⟨tk, rfl⟩
theorem MRow.src (h : MRow base st y M) : BSrc st y M := by
  obtain ⟨b, cap, spare, rfl, h1, h2, h3, h4, hmo⟩ := h.row
  refine .inr ⟨b, 0, cap, bs M ++ spare, by rw [bs_len], h2, by simp [bs_len], ?_, hmo⟩
  rw [bs_flat, bs_len, List.drop_zero, Nat.mul_one, List.take_append_of_le_length (by rw [bs_len]; exact Nat.le_refl _), List.take_of_length_le (by rw [bs_len]; exact Nat.le_refl _)]
theorem App.rowG (h : MRow base st x L) (hs : BSrc st y M) (hl : L.length + M.length ≤ 100000000000000) (hk : ∀ r s, MRow base s r (L ++ M) → (∀ b cs, base.box b = some cs → s.box b = some cs) → obsOk s A obs ∧ Ops P rest k (putV A d r) s) : App P 1 1 x y d obs rest k A st := by
  obtain ⟨b, cap, spare, rfl, h1, h2, h3, h4, hmo⟩ := h.row
  refine .inr (.inl ⟨b, L.length, cap, bs L ++ spare, bs M, rfl, h2, by rw [List.length_append, bs_len]; omega, hmo, by omega, h4, hs, allSz_bs _, by rw [bs_len]; unfold maxLen; omega, by rw [bs_len]; omega, fun b' cap' spare' k1 k2 k3 k4 k5 k6 => ?_⟩)
  rw [bs_len] at k2 k4
  have e : (bs L ++ spare).take (L.length * 1) = bs L := by rw [Nat.mul_one, List.take_append_of_le_length (by rw [bs_len]; exact Nat.le_refl _), List.take_of_length_le (by rw [bs_len]; exact Nat.le_refl _)]
  rw [e, bs_flat, bs_append] at k6
  rw [e, bs_flat, bs_append, bs_len, show L.length + M.length = (L ++ M).length by simp]
  have hb' : base.sz ≤ b' := by have := h.weak.sz; omega
  have hm := MRow.put (L := L ++ M) (spare := spare') (cap := cap') h.weak h.lt hb' (by simp; omega) k3 k6
  exact hk _ _ hm fun c cs hc => (hm.weak.box c cs hc).1
theorem App.row (h : MRow base st x L) (hl : L.length + M.length ≤ 100000000000000) (hk : ∀ r s, MRow base s r (L ++ M) → (∀ b cs, base.box b = some cs → s.box b = some cs) → obsOk s A obs ∧ Ops P rest k (putV A d r) s) : App P 1 1 x (.sl tk (bs M)) d obs rest k A st := App.rowG h .sl hl hk
theorem App.rowN (hw : base.weak st) (hl : st.Lt) (hs : BSrc st y M) (h0 : 0 < M.length) (hM : M.length ≤ 100000000000000) (hk : ∀ r s, MRow base s r M → (∀ b cs, base.box b = some cs → s.box b = some cs) → obsOk s A obs ∧ Ops P rest k (putV A d r) s) : App P 1 1 (.sl .nil []) y d obs rest k A st := by
  refine .inr (.inr (.inl ⟨bs M, rfl, hs, allSz_bs _, by rw [bs_len]; exact h0, by rw [bs_len]; unfold maxLen; omega, by rw [bs_len]; omega, fun b' cap' spare' k1 k2 k3 k4 k5 => ?_⟩))
  rw [bs_len] at k2 k4 ⊢
  rw [bs_flat] at k5 ⊢
  have hm := MRow.put (L := M) (spare := spare') (cap := cap') hw hl (b := b') (by have := hw.sz; omega) (by omega) k3 k5
  exact hk _ _ hm fun c cs hc => (hm.weak.box c cs hc).1
theorem Bo.row (hw : base.weak st) (hl : st.Lt) (hM : M.length ≤ 100000000000000) (hk : ∀ r s, MRow base s r M → (∀ b cs, base.box b = some cs → s.box b = some cs) → obsOk s A obs ∧ Ops P rest k (putV A d r) s) : Bo P 1 (bs M) d obs rest k A st := by
  refine Bo.mut (allLen_of (allSz_bs _)) fun b hb => ?_
  have hm := MRow.put (L := M) (spare := []) (cap := M.length) hw hl (b := b) (by have := hw.sz; omega) rfl (by unfold maxLen; omega) (by rw [List.append_nil]; exact of_eq_true mono_bs)
  rw [List.append_nil] at hm
  rw [bs_flat, bs_len]
  exact hk _ _ hm fun c cs hc => (hm.weak.box c cs hc).1
/-- A cell of the row is set. -/
theorem splice_set {i : Nat} {z : Int} {spare : List V} (h : i < L.length) : splice (bs L ++ spare) i [.sc (.int .u8 z)] = bs (L.set i z) ++ spare := by
  unfold splice
  apply List.ext_getElem?
  intro j
  have hl : (bs L ++ spare).length = L.length + spare.length := by simp [bs_len]
  have hgs : (bs (L.set i z))[j]? = if j = i then some (.sc (.int .u8 z)) else (bs L)[j]? := by
    rw [bs_get, bs_get, List.getElem?_set]
    by_cases e : i = j
    · subst e; simp [h]
    · rw [if_neg e, if_neg (fun e' => e e'.symm)]
  have hbs : (bs (L.set i z)).length = L.length := by simp [bs_len]
  have htl : ((bs L ++ spare).take i).length = i := by rw [List.length_take, hl]; omega
  rw [List.append_assoc, List.getElem?_append, htl]
  by_cases c1 : j < i
  · rw [if_pos c1, List.getElem?_take, if_pos c1, List.getElem?_append, if_pos (by rw [bs_len]; omega), List.getElem?_append, if_pos (by omega), hgs, if_neg (by omega)]
  · rw [if_neg c1]
    by_cases c2 : j = i
    · subst c2
      rw [List.getElem?_append (l₁ := bs (L.set j z)), if_pos (by omega), hgs, if_pos rfl]
      simp
    · rw [List.getElem?_append, if_neg (by simp; omega), List.getElem?_drop]
      simp only [List.length_cons, List.length_nil, Nat.zero_add]
      rw [show i + 1 + (j - i - 1) = j by omega, List.getElem?_append, List.getElem?_append, hbs, bs_len]
      split
      · rw [hgs, if_neg c2]
      · rfl
theorem MRow.set {b i : Nat} {n cap : Nat} {z : Int} (h : MRow base st (.sc (.slice (some ⟨b, 0, none⟩) n cap)) L) (hi : i < L.length) : ∃ spare, st.box b = some (bs L ++ spare) ∧ n = L.length ∧ base.sz ≤ b ∧ splice (bs L ++ spare) i [.sc (.int .u8 z)] = bs (L.set i z) ++ spare ∧
    MRow base (st.put b (bs (L.set i z) ++ spare)) (.sc (.slice (some ⟨b, 0, none⟩) n cap)) (L.set i z) := by
  obtain ⟨b', cap', spare, e, h1, h2, h3, h4, hmo⟩ := h.row
  cases e
  refine ⟨spare, h2, rfl, h1, splice_set hi, ?_⟩
  have := MRow.put (L := L.set i z) (spare := spare) (cap := cap) h.weak h.lt h1 (by simpa using h3) h4 (mono_bsp hmo (by simp))
  simpa using this
/-- A cell of the row is set, as a step. -/
theorem Stb.row {z : Int} {i : Nat} {n cap b : Nat} (h : MRow base st (.sc (.slice (some ⟨b, 0, none⟩) n cap)) L) (hi : i < L.length) (hk : ∀ s, MRow base s (.sc (.slice (some ⟨b, 0, none⟩) n cap)) (L.set i z) → (∀ b cs, base.box b = some cs → s.box b = some cs) → obsOk s A obs ∧ Ops P rest k (putV A d .und) s) :
    Stb P (st.box b) 1 b i [.sc (.int .u8 z)] obs d rest k A st := by
  obtain ⟨spare, h1, rfl, h2, h3, h4⟩ := h.set (z := z) hi
  have hmo : mono (bs L ++ spare) := by
    obtain ⟨b', cap', spare', e, _, q2, _, _, q5⟩ := h.row
    cases e
    rw [h1] at q2
    simp only [Option.some.injEq] at q2
    rw [q2]; exact q5
  rw [h1]
  unfold Stb
  simp only
  refine ⟨rfl, by omega, by simp [bs_len]; omega, hmo, ?_⟩
  unfold Stp
  simp only [h3]
  exact hk _ h4 fun c cs hc => (h4.weak.box c cs hc).1
/-- What a cell of the row holds. -/
theorem MRow.get {b i : Nat} {n cap : Nat} {z : Int} (h : MRow base st (.sc (.slice (some ⟨b, 0, none⟩) n cap)) L) (hi : L[i]? = some z) : vload st none (.sc (.pointer (some ⟨b, i, none⟩))) = (True, .sc (.int .u8 z)) := by
  obtain ⟨b', cap', spare, e, h1, h2, h3, h4, hmo⟩ := h.row
  cases e
  have hlt := (List.getElem?_eq_some_iff.1 hi).1
  simp only [vload, h2, takeB, takeV]
  rw [List.getElem?_append, if_pos (by rw [bs_len]; exact hlt), bs_get, hi]
  simp [V.cells]
theorem MRow.is (h : MRow base st x L) : ∃ b cap, x = .sc (.slice (some ⟨b, 0, none⟩) L.length cap) ∧ L.length ≤ cap ∧ cap ≤ maxLen := by
  obtain ⟨b', cap', spare, e, h1, h2, h3, h4, hmo⟩ := h.row
  exact ⟨b', cap', e, by omega, h4⟩
/-- A call that only reads the row. -/
theorem MRow.reads {f : FuncId} {v : Value} (h : MRow base st x L) (hc : ∀ n, VCalls P f [.sl .no (bs L)] ⟨fun _ => none, fun _ => none, n⟩ fun r _ => r = .sc v) : VCalls P f [x] st fun r st' => r = .sc v ∧ st = st' :=
  VCalls.frz hc rfl fun i d d' h1 h2 => by
    cases i with
    | zero => simp at h1 h2; subst h1 h2; exact h.frz
    | succ i => simp at h1
end

section
variable {base st : St} {x : V} {L : List Int} {tk : Tk}
abbrev Same (base : St) (s : St) : Prop := ∀ b cs, base.box b = some cs → s.box b = some cs
theorem beL2 (n : Int) : beL n 2 = [n / 256 % 256, n % 256] := by simp [beL]
theorem beL4 (n : Int) : beL n 4 = [n / 16777216 % 256, n / 65536 % 256, n / 256 % 256, n % 256] := by simp [beL]
theorem Put16_b (h : MRow base st x L) (hl : L.length ≤ 1000000000000) {n : Int} (h0 : 0 ≤ n) (h1 : n < 65536) : VCalls Try.prog 152 [x, .sc (.int .u16 n)] st fun r s => MRow base s r (L ++ beL n 2) := by
  rw [beL2]
  obtain ⟨b, cap, rfl, _⟩ := h.is
  refine vcalls_enter vc152 (Nat.le_of_ble_eq_true rfl) fun hwf hok => ?_
  show Run _ Vc152.body (.fin (finQ Vc152.res _)) _ _
  unfold Vc152
  simp (config := {maxSteps := 3000000}) (disch := ((fail_if_success refine selfNe ?_); omega)) only [go_sem, Nat.reduceEqDiff, Nat.reduceLeDiff, Int.reduceToNat, Int.reduceLE, Int.reducePow, ↓reduceIte, reduceCtorEq]
  refine App.row (M := [n / 256 % 256, n % 256]) h (by simp; omega) ?_
  intro r s k _
  simp (config := {maxSteps := 3000000}) (disch := ((fail_if_success refine selfNe ?_); omega)) only [go_sem, ↓reduceIte]
  exact ⟨_, _, Wk.refl _, k.lt.weak, k⟩
theorem Put32_b (h : MRow base st x L) (hl : L.length ≤ 1000000000000) {n : Int} (h0 : 0 ≤ n) (h1 : n < 4294967296) : VCalls Try.prog 153 [x, .sc (.int .u32 n)] st fun r s => MRow base s r (L ++ beL n 4) := by
  rw [beL4]
  obtain ⟨b, cap, rfl, _⟩ := h.is
  refine vcalls_enter vc153 (Nat.le_of_ble_eq_true rfl) fun hwf hok => ?_
  show Run _ Vc153.body (.fin (finQ Vc153.res _)) _ _
  unfold Vc153
  simp (config := {maxSteps := 3000000}) (disch := ((fail_if_success refine selfNe ?_); omega)) only [go_sem, Nat.reduceEqDiff, Nat.reduceLeDiff, Int.reduceToNat, Int.reduceLE, Int.reducePow, ↓reduceIte, reduceCtorEq]
  refine App.row (M := [n / 16777216 % 256, n / 65536 % 256, n / 256 % 256, n % 256]) h (by simp; omega) ?_
  intro r s k _
  simp (config := {maxSteps := 3000000}) (disch := ((fail_if_success refine selfNe ?_); omega)) only [go_sem, ↓reduceIte]
  exact ⟨_, _, Wk.refl _, k.lt.weak, k⟩
theorem MRow.keep {s : St} {r : V} {c : Nat} {cs : List V} (h : MRow base s r L) (hc : s.sz ≤ c) : MRow base (s.put c cs) r L := by
  obtain ⟨b, cap, spare, rfl, h1, h2, h3, h4, hmo⟩ := h.row
  have := h.lt.box _ _ h2
  exact ⟨weak_put h.weak (by have := h.weak.sz; omega), h.lt.put, b, cap, spare, rfl, h1, by rw [put_box_ne (by omega)]; exact h2, h3, h4, hmo⟩
theorem MRow.rebase {s : St} {r : V} (h : MRow st s r L) (hw : base.weak st) : MRow base s r L := by
  obtain ⟨b, cap, spare, rfl, h1, h2⟩ := h.row
  exact ⟨hw.trans h.weak, h.lt, b, cap, spare, rfl, by have := hw.sz; omega, h2⟩
theorem BSrc.same {s : St} {y : V} {M : List Int} (h : BSrc st y M) (hs : Same st s) : BSrc s y M := by
  rcases h with h | ⟨b, o, c, cs, h1, h2, h3⟩
  · exact .inl h
  · exact .inr ⟨b, o, c, cs, h1, hs b cs h2, h3⟩
/-- The document's Put, as a row that may turn. -/
theorem rPut_b {n size : Int} (hx : BSrc st x L) (hl : L.length ≤ 1000000000000) (h0 : 0 ≤ n) (h1 : n ≤ 18446744073709551615) : VCalls Try.prog 103 [x, .sc (.int .u64 n), .sc (.int .i64 size)] st fun r st' =>
    MRow st st' r (if size < 1 ∨ 8 < size then L else L ++ beL n size.toNat) := by
  refine vcalls_enter vc103 (Nat.le_of_ble_eq_true rfl) fun hwf hok => ?_
  show Run _ Vc103.body (.fin (finQ Vc103.res _)) _ _
  unfold Vc103
  simp (config := {maxSteps := 3000000}) (disch := ((fail_if_success refine selfNe ?_); omega)) only [go_sem]
  refine Bo.row (M := []) hwf.weak hwf.lt (by simp) ?_
  intro r0 s0 k0 k0'
  simp (config := {maxSteps := 3000000}) (disch := ((fail_if_success refine selfNe ?_); omega)) only [go_sem, Nat.reduceEqDiff, ↓reduceIte, reduceCtorEq]
  refine App.rowG k0 (hx.same k0') (by simp; omega) ?_
  intro r1 s1 k1 k1'
  rw [List.nil_append] at k1
  by_cases c1 : size < 1
  · simp (config := {maxSteps := 3000000}) (disch := ((fail_if_success refine selfNe ?_); omega)) only [go_sem, Nat.reduceEqDiff, ↓reduceIte, c1]
    exact ⟨_, _, Wk.refl _, k1.lt.weak, k1⟩
  by_cases c2 : 8 < size
  · simp (config := {maxSteps := 3000000}) (disch := ((fail_if_success refine selfNe ?_); omega)) only [go_sem, Nat.reduceEqDiff, ↓reduceIte, c1, c2]
    exact ⟨_, _, Wk.refl _, k1.lt.weak, k1⟩
  rw [if_neg (by omega)]
  simp (config := {maxSteps := 3000000}) (disch := ((fail_if_success refine selfNe ?_); omega)) only [go_sem, Nat.reduceEqDiff, ↓reduceIte, decide_eq_false c1, decide_eq_false c2]
  repeat (apply And.intro; focus (first | omega | (simp; done)))
  intro b hb
  rw [bs_zeros]
  obtain ⟨sz, hsz⟩ : ∃ k : Nat, size = k := ⟨size.toNat, by omega⟩
  subst hsz
  rw [Int.toNat_natCast]
  have hsz8 : sz ≤ 8 := by omega
  refine run_loop [1, 9, 22, 23, 24, 25, 26, 27, 28, 29, 30, 31, 32, 33, 34, 35, 36, 37] (fun B s => ∃ i : Nat, i ≤ sz ∧ B 9 = .sc (.int .i64 i) ∧ B 1 = .sc (.int .u64 (n / 256 ^ i)) ∧ s = s1.put b (bs (List.replicate (sz - i) 0 ++ beL n i))) (fun B _ => sz - vnat (B 9)) rfl ?_ ?_
  · simp (config := {maxSteps := 3000000}) (disch := ((fail_if_success refine selfNe ?_); omega)) only [go_sem, Nat.reduceEqDiff, ↓reduceIte]
    exact ⟨0, by omega, by simp, by simp, by simp [beL]⟩
  · rintro B s ⟨i, hi, h9, h1', rfl⟩
    have hdiv : 0 ≤ n / 256 ^ i := Int.ediv_nonneg h0 (by have := pow256_pos i; omega)
    by_cases hlt : i < sz
    · have hdd : n / 256 ^ i / 256 = n / 256 ^ (i + 1) := by rw [Int.pow_succ, Int.ediv_ediv_of_nonneg (by have := pow256_pos i; omega)]
      have hle : n / 256 ^ i ≤ n := Int.ediv_le_self _ h0
      obtain ⟨m, hm⟩ : ∃ m, sz - i = m + 1 := ⟨sz - i - 1, by omega⟩
      have hm2 : ((sz : Int) - 1 - i).toNat = m := by omega
      rw [hm]
      simp (config := {maxSteps := 3000000}) (disch := ((fail_if_success refine selfNe ?_); omega)) only [go_sem, Nat.reduceEqDiff, Nat.reduceLT, Int.reduceLT, Int.reduceNeg, ↓reduceIte, Nat.reduceBEq, h9, h1', decide_eq_true (show (i : Int) < (sz : Int) by omega), hm2, bs_len, List.length_append, List.length_replicate, beL_len, emod_small]
      repeat (apply And.intro; focus (first | omega | (simp; done)))
      have hsp := splice_bs (m := m) (T := beL n i) (x := n / 256 ^ i % 256)
      simp only [splice, List.length_cons, List.length_nil, Nat.zero_add] at hsp
      exact ⟨⟨i + 1, by omega, by simp, by rw [hdd], by rw [hsp, show sz - (i + 1) = m by omega]; rfl⟩, by omega⟩
    · obtain rfl : i = sz := by omega
      simp (config := {maxSteps := 3000000}) (disch := ((fail_if_success refine selfNe ?_); omega)) only [go_sem, Nat.reduceEqDiff, ↓reduceIte, Nat.reduceBEq, h9, Nat.sub_self, List.replicate_zero]
      have k2 := k1.keep (cs := bs (beL n i)) hb
      refine App.rowG (M := beL n i) k2 (.inr ⟨b, 0, i, bs (beL n i), by rw [bs_len, beL_len], put_box_same, by simp [bs_len, beL_len], by rw [bs_flat, List.drop_zero, Nat.mul_one]; exact List.take_of_length_le (by simp [bs_len, beL_len]), of_eq_true mono_bs⟩) (by rw [beL_len]; omega) ?_
      intro r2 s2 k3 k4
      simp (config := {maxSteps := 3000000}) (disch := ((fail_if_success refine selfNe ?_); omega)) only [go_sem, ↓reduceIte]
      exact ⟨_, _, Wk.refl _, k3.lt.weak, k3⟩
theorem rPut2_b {n : Int} (h : MRow base st x L) (hl : L.length ≤ 1000000000000) (h0 : 0 ≤ n) (h1 : n ≤ 18446744073709551615) : VCalls Try.prog 103 [x, .sc (.int .u64 n), .sc (.int .i64 2)] st fun r st' => MRow base st' r (L ++ beL n 2) :=
  (rPut_b h.src hl h0 h1).mono fun _ _ k => by
    rw [if_neg (by omega)] at k
    exact k.rebase h.weak
theorem rPut4_b {n : Int} (h : MRow base st x L) (hl : L.length ≤ 1000000000000) (h0 : 0 ≤ n) (h1 : n ≤ 18446744073709551615) : VCalls Try.prog 103 [x, .sc (.int .u64 n), .sc (.int .i64 4)] st fun r st' => MRow base st' r (L ++ beL n 4) :=
  (rPut_b h.src hl h0 h1).mono fun _ _ k => by
    rw [if_neg (by omega)] at k
    exact k.rebase h.weak
end
end
section
open Go Go.RowKit

/-- What folding leaves of a sum of words. -/
def nrm (S : Int) : Int := if S = 0 then 0 else (S - 1) % 65535 + 1
theorem nrm_step {S x : Int} (h : 0 ≤ S) (h0 : 0 ≤ x) (h1 : x ≤ 65535) : (nrm S + x) / 65536 + (nrm S + x) % 65536 = nrm (S + x) := by
  unfold nrm
  split <;> split <;> omega
theorem nrm_fold {n : Int} (h : 0 ≤ n) : nrm (n / 65536 + n % 65536) = nrm n := by
  unfold nrm
  split <;> split <;> omega
theorem nrm_small {n : Int} (h : 0 ≤ n) (h1 : n ≤ 65535) : nrm n = n := by
  unfold nrm
  split <;> omega
theorem nrm_range {n : Int} (h : 0 ≤ n) : 0 ≤ nrm n ∧ nrm n ≤ 65535 := by
  unfold nrm
  split <;> omega
/-- The sum of the first i bytes as words. -/
def sumP (L : List Int) : Nat → Int
  | 0 => 0
  | i + 1 => sumP L i + (if i % 2 = 1 then L.getD i 0 else 256 * L.getD i 0)
def ckS (L : List Int) : Int := 65535 - nrm (sumP L L.length)
theorem isB_at {L : List Int} (h : IsB L) (i : Nat) : 0 ≤ L.getD i 0 ∧ L.getD i 0 < 256 := by
  rw [List.getD_eq_getElem?_getD]
  rcases hx : L[i]? with _ | x
  · exact ⟨Int.le_refl _, by decide⟩
  · have := h x (List.mem_of_getElem? hx)
    simp only [Option.getD_some]
    omega
theorem sumP_range {L : List Int} (h : IsB L) : ∀ i, 0 ≤ sumP L i ∧ sumP L i ≤ 65280 * (i : Int)
  | 0 => by simp [sumP]
  | i + 1 => by
    have := sumP_range h i
    have := isB_at h i
    unfold sumP
    split <;> omega
theorem ckS_range {L : List Int} (h : IsB L) : 0 ≤ ckS L ∧ ckS L ≤ 65535 := by
  have := nrm_range (sumP_range h L.length).1
  unfold ckS
  omega
end
section
open Go

theorem u32_low {x : Int} (h₀ : 0 ≤ x) (h₁ : x < 4294967296) : ibit .and .u32 x 65535 = x % 65536 := bits_mask .u32 32 (by decide) (fun n q0 q1 => IntWalk.u32_in _ (by omega)) 16 (by decide) x h₀ h₁
theorem u16_not {x : Int} (h₀ : 0 ≤ x) (h₁ : x ≤ 65535) : ibit .xor .u16 IntKind.u16.max x = 65535 - x := by
  obtain ⟨k, rfl⟩ : ∃ k : Nat, x = k := ⟨x.toNat, by omega⟩
  have h2 : (BitVec.ofInt 16 IntKind.u16.max ^^^ BitVec.ofInt 16 (k : Int)).toNat = 65535 - k := by
    have h1 : BitVec.ofInt 16 IntKind.u16.max = BitVec.allOnes 16 := by decide
    rw [h1, BitVec.allOnes_xor, BitVec.toNat_not]
    simp
    omega
  show IntKind.wrap .u16 (((BitVec.ofInt 16 IntKind.u16.max ^^^ BitVec.ofInt 16 (k : Int)).toNat : Nat) : Int) = _
  rw [h2]
  show ((65535 - k : Nat) : Int) % 65536 = _
  omega

theorem put_swap {st : St} {b c : Nat} {x y z : List V} (h : b ≠ c) : ((st.put b x).put c y).put b z = (st.put b z).put c y := by
  simp only [St.put, St.mk.injEq, true_and]
  refine ⟨funext fun q => ?_, by omega⟩
  by_cases h1 : q = b
  · subst h1; simp [h]
  · by_cases h2 : q = c
    · subst h2; simp [h1]
    · simp [h1, h2]
section
variable {tk tk' : Tk} {st : St} {L : List Int}
def sumV (n : Int) (odd : Bool) : V := .agg [.sc (.int .u32 n), .sc (.bool odd)]
theorem sumAdd_v (hB : IsB L) : VCalls Try.prog 185 [sumV 0 false, .sl tk (bs L)] st fun r st' => (∃ odd, r = sumV (nrm (sumP L L.length)) odd) ∧ st = st' := by
  refine vcalls_enter vc185 (Nat.le_of_ble_eq_true rfl) fun hwf hok => ?_
  show Run _ Vc185.body (.fin (finQ Vc185.res _)) _ _
  unfold Vc185
  have hm := vlen_max (hok _ (List.mem_cons_of_mem _ (List.mem_cons_self ..)))
  rw [bs_len] at hm
  simp (config := {maxSteps := 3000000}) only [go_sem, Nat.reduceEqDiff, Nat.reduceAdd, ↓reduceIte, reduceCtorEq, sumV, bs_len]
  intro b hb c hc
  obtain ⟨hc1, hbc⟩ : st.sz ≤ c ∧ b < c := by omega
  clear hc
  refine run_loop [6, 9, 10, 11, 12, 13, 14, 15, 16, 17, 18, 19, 20, 21, 22, 23, 24, 25, 26, 27, 28, 29, 30, 31, 32, 33, 34, 35, 36, 37, 38, 39, 40] (fun B s => ∃ i : Nat, i ≤ L.length ∧ B 9 = .sc (.int .i64 i) ∧ s = (st.put b [.sc (.int .u32 (nrm (sumP L i))), .sc (.bool (decide (i % 2 = 1)))]).put c [.sc (.int .u32 0), .sc (.bool false)]) (fun B _ => L.length - vnat (B 9)) rfl ?_ ?_
  · simp (config := {maxSteps := 3000000}) only [go_sem, ↓reduceIte]
    exact ⟨0, by omega, by simp, by simp [sumP, nrm]⟩
  · rintro B s ⟨i, hi, h9, rfl⟩
    obtain ⟨n0, n1⟩ := nrm_range (sumP_range hB i).1
    by_cases hlt : i < L.length
    · obtain ⟨x, hx⟩ := get_ex hlt
      obtain ⟨x0, x1⟩ := hB.get hx
      have hgd : L.getD i 0 = x := by simp [List.getD, hx]
      have hs : sumP L (i + 1) = sumP L i + (if i % 2 = 1 then x else 256 * x) := by simp only [sumP, hgd]
      have hst := nrm_step (S := sumP L i) (x := if i % 2 = 1 then x else 256 * x) (sumP_range hB i).1 (by split <;> omega) (by split <;> omega)
      by_cases ho : i % 2 = 1
      · rw [if_pos ho] at hs hst
        rw [decide_eq_true ho]
        have e1 : 0 ≤ nrm (sumP L i) + x ∧ nrm (sumP L i) + x < 4294967296 := by omega
        have e2 : 0 ≤ nrm (sumP L (i + 1)) ∧ nrm (sumP L (i + 1)) < 4294967296 := by have := nrm_range (sumP_range hB (i + 1)).1; omega
        rw [← hs] at hst
        simp (config := {maxSteps := 3000000}) only [go_sem, Nat.reduceEqDiff, Nat.reduceAdd, Nat.reduceLT, Nat.reduceLeDiff, Int.reduceToNat, Int.reduceLE, Int.reducePow, Int.reduceNeg, ↓reduceIte, Nat.reduceBEq, h9, put_box_ne (Nat.ne_of_lt hbc), decide_eq_true (show (i : Int) < (L.length : Int) by omega), bs_get, hx, emod_small (show 0 ≤ x by omega) (show x < 4294967296 by omega), emod_small e1.1 e1.2, u32_low e1.1 e1.2, hst, emod_small e2.1 e2.2, put_swap (Nat.ne_of_lt hbc), Int.reducePow]
        repeat (apply And.intro; focus (first | omega | (simp; done)))
        exact ⟨⟨i + 1, by omega, by simp, by rw [decide_eq_false (by omega)]⟩, by omega⟩
      · rw [if_neg ho] at hs hst
        rw [decide_eq_false ho]
        have e1 : 0 ≤ nrm (sumP L i) + 256 * x ∧ nrm (sumP L i) + 256 * x < 4294967296 := by omega
        have e2 : 0 ≤ nrm (sumP L (i + 1)) ∧ nrm (sumP L (i + 1)) < 4294967296 := by have := nrm_range (sumP_range hB (i + 1)).1; omega
        rw [← hs] at hst
        simp (config := {maxSteps := 3000000}) only [go_sem, Nat.reduceEqDiff, Nat.reduceAdd, Nat.reduceLT, Nat.reduceLeDiff, Int.reduceToNat, Int.reduceLE, Int.reducePow, Int.reduceNeg, ↓reduceIte, Nat.reduceBEq, h9, put_box_ne (Nat.ne_of_lt hbc), decide_eq_true (show (i : Int) < (L.length : Int) by omega), bs_get, hx, emod_small (show 0 ≤ x by omega) (show x < 4294967296 by omega), Int.mul_comm x 256, emod_small (show 0 ≤ 256 * x by omega) (show 256 * x < 4294967296 by omega), emod_small e1.1 e1.2, u32_low e1.1 e1.2, hst, emod_small e2.1 e2.2, put_swap (Nat.ne_of_lt hbc), Int.reducePow]
        repeat (apply And.intro; focus (first | omega | (simp; done)))
        exact ⟨⟨i + 1, by omega, by simp, by rw [decide_eq_true (by omega)]⟩, by omega⟩
    · obtain rfl : i = L.length := by omega
      simp (config := {maxSteps := 3000000}) only [go_sem, Nat.reduceEqDiff, Nat.reduceAdd, Nat.reduceLT, Nat.reduceLeDiff, ↓reduceIte, Nat.reduceBEq, h9, put_box_ne (Nat.ne_of_lt hbc), Int.lt_irrefl]
      exact ⟨_, _, Wk.refl _, weak_put (weak_put hwf.weak hb) hc1, ⟨_, rfl⟩, rfl⟩
theorem sumValue_v {n : Int} {odd : Bool} (h0 : 0 ≤ n) (h1 : n ≤ 65535) : VCalls Try.prog 186 [sumV n odd] st fun r st' => r = .sc (.int .u16 (65535 - n)) ∧ st = st' := by
  refine vcalls_enter vc186 (Nat.le_of_ble_eq_true rfl) fun hwf hok => ?_
  show Run _ Vc186.body (.fin (finQ Vc186.res _)) _ _
  unfold Vc186
  have e1 : n / 65536 = 0 := by omega
  have e2 : n % 65536 = n := by omega
  have e3 : n % 4294967296 = n := by omega
  have e4 : ibit .xor .u16 (if IntKind.u16.signed = true then -1 else IntKind.u16.max) n = 65535 - n := u16_not h0 h1
  simp (config := {maxSteps := 3000000}) only [go_sem, Nat.reduceEqDiff, Nat.reduceAdd, Nat.reduceLeDiff, Int.reduceToNat, Int.reduceLE, Int.reducePow, Int.reduceNeg, ↓reduceIte, reduceCtorEq, sumV, u32_low (show 0 ≤ n by omega) (show n < 4294967296 by omega), e1, Int.zero_add, e2, e3, e4]
  intro b hb
  exact ⟨_, _, Wk.refl _, weak_put hwf.weak hb, rfl, rfl⟩
theorem sumOf_v (hB : IsB L) : VCalls Try.prog 154 [.sl tk (bs L)] st fun r st' => r = .sc (.int .u16 (ckS L)) ∧ st = st' := by
  refine vcalls_enter vc154 (Nat.le_of_ble_eq_true rfl) fun hwf hok => ?_
  show Run _ Vc154.body (.fin (finQ Vc154.res _)) _ _
  unfold Vc154
  obtain ⟨n0, n1⟩ := nrm_range (sumP_range hB L.length).1
  simp (config := {maxSteps := 3000000}) only [go_sem, Nat.reduceEqDiff, ↓reduceIte, reduceCtorEq]
  refine Cal.mk (sumAdd_v hB) ?_
  rintro _ _ ⟨⟨odd, rfl⟩, rfl⟩ -
  simp (config := {maxSteps := 3000000}) only [go_sem, ↓reduceIte]
  refine Cal.mk (sumValue_v n0 n1) ?_
  rintro _ _ ⟨rfl, rfl⟩ -
  simp (config := {maxSteps := 3000000}) only [go_sem, ↓reduceIte]
  exact ⟨_, _, Wk.refl _, hwf.weak, rfl, rfl⟩
theorem sumRight_v (hB : IsB L) : VCalls Try.prog 145 [.sl tk (bs L)] st fun r st' => r = .sc (.bool (decide (ckS L = 0))) ∧ st = st' := by
  refine vcalls_enter vc145 (Nat.le_of_ble_eq_true rfl) fun hwf hok => ?_
  show Run _ Vc145.body (.fin (finQ Vc145.res _)) _ _
  unfold Vc145
  simp (config := {maxSteps := 3000000}) only [go_sem, ↓reduceIte, reduceCtorEq]
  refine Cal.mk (sumOf_v hB) ?_
  rintro _ _ ⟨rfl, rfl⟩ -
  simp (config := {maxSteps := 3000000}) only [go_sem, ↓reduceIte]
  exact ⟨_, _, Wk.refl _, hwf.weak, rfl, rfl⟩
/-- Words. -/
def ws (W : List Int) : List V := W.map fun n => .sc (.int .i64 n)
theorem ws_len (W : List Int) : (ws W).length = W.length := by simp [ws]
theorem ws_get (W : List Int) (i : Nat) : (ws W)[i]? = (W[i]?).map fun n => .sc (.int .i64 n) := by simp [ws]
theorem ws_append (W X : List Int) : ws W ++ ws X = ws (W ++ X) := by simp [ws]
/-- The words of bytes. -/
def wordsOf : List Int → List Int
  | [] => []
  | [a] => [256 * a]
  | a :: b :: L => (256 * a + b) :: wordsOf L
def wd (L : List Int) (i : Nat) : Int := 256 * L.getD i 0 + (if i + 1 < L.length then L.getD (i + 1) 0 else 0)
def wordsTo (L : List Int) : Nat → List Int
  | 0 => []
  | j + 1 => wordsTo L j ++ [wd L (2 * j)]
theorem wordsTo_len (L : List Int) : ∀ j, (wordsTo L j).length = j
  | 0 => rfl
  | j + 1 => by simp [wordsTo, wordsTo_len L j]
theorem words_v (hB : IsB L) (hL : L.length ≤ 1000000000000) : VCalls Try.prog 143 [.sl tk (bs L)] st fun r st' => r = .sl .no (ws (wordsTo L ((L.length + 1) / 2))) ∧ st = st' := by
  refine vcalls_enter vc143 (Nat.le_of_ble_eq_true rfl) fun hwf hok => ?_
  show Run _ Vc143.body (.fin (finQ Vc143.res _)) _ _
  unfold Vc143
  simp (config := {maxSteps := 3000000}) only [go_sem]
  refine run_loop [3, 4, 5, 6, 7, 8, 9, 10, 11, 12, 13, 14, 15, 16, 17, 18, 19, 20, 21, 22, 23, 24, 25, 26, 27, 28, 29, 30, 31, 32, 33, 34] (fun B s => ∃ j : Nat, j ≤ (L.length + 1) / 2 ∧ B 4 = .sc (.int .i64 (2 * (j : Int))) ∧ Own 1 s (B 3) (ws (wordsTo L j)) ∧ st.weak s ∧ s.Lt ∧ ∀ g k l, B 3 = .sl (.own g k) l → st.sz ≤ g) (fun B _ => L.length + 1 - vnat (B 4)) rfl ?_ ?_
  · simp (config := {maxSteps := 3000000}) only [go_sem, Nat.reduceEqDiff, ↓reduceIte]
    exact ⟨0, by omega, by simp, .inl ⟨rfl, rfl⟩, hwf.weak, hwf.lt, fun g k l e => by cases e⟩
  · rintro B s ⟨j, hj, h4, h3, hw, hlt, htk⟩
    by_cases hi : 2 * j < L.length
    · obtain ⟨x, hx⟩ := get_ex hi
      obtain ⟨x0, x1⟩ := hB.get hx
      have hgd : L.getD (2 * j) 0 = x := by simp [List.getD, hx]
      have hn : (2 * (j : Int)).toNat = 2 * j := by omega
      have hn1 : (2 * (j : Int) + 1).toNat = 2 * j + 1 := by omega
      by_cases hi1 : 2 * j + 1 < L.length
      · obtain ⟨y, hy⟩ := get_ex hi1
        obtain ⟨y0, y1⟩ := hB.get hy
        have hgd1 : L.getD (2 * j + 1) 0 = y := by simp [List.getD, hy]
        have hwd : wd L (2 * j) = 256 * x + y := by simp only [wd, hgd, hgd1, if_pos hi1]
        simp (config := {maxSteps := 3000000}) only [go_sem, Nat.reduceEqDiff, Int.reduceNeg, ↓reduceIte, reduceCtorEq, Nat.reduceBEq, h4, bs_len, decide_eq_true (show 2 * (j : Int) < (L.length : Int) by omega), decide_eq_true (show 2 * (j : Int) + 1 < (L.length : Int) by omega), bs_get, hn, hn1, hx, hy]
        repeat (apply And.intro; focus (first | omega | (simp; done)))
        refine App.mk h3 (by simp [allSz, V.cells]) (by simp [ws_len, wordsTo_len, maxLen]; omega) (by simp [ws_len, wordsTo_len]; omega) ?_
        intro r s2 k1 k2
        rw [show [V.sc (.int .i64 (256 * x + y))] = ws [(256 * x + y)] from rfl, ws_append] at k1
        simp (config := {maxSteps := 3000000}) only [go_sem, Nat.reduceEqDiff, Int.reduceNeg, ↓reduceIte, Nat.reduceBEq, h4]
        repeat (apply And.intro; focus (first | omega | (simp; done)))
        exact ⟨⟨j + 1, by omega, by simp only [V.sc.injEq, Value.int.injEq, true_and]; omega, by simpa only [wordsTo, hwd] using k1, k2.keeps hw htk, hlt.app k2, k2.fresh hw.sz htk⟩, by omega⟩
      · have hwd : wd L (2 * j) = 256 * x := by simp only [wd, hgd, if_neg hi1, Int.add_zero]
        simp (config := {maxSteps := 3000000}) only [go_sem, Nat.reduceEqDiff, Int.reduceNeg, ↓reduceIte, reduceCtorEq, Nat.reduceBEq, h4, bs_len, decide_eq_true (show 2 * (j : Int) < (L.length : Int) by omega), decide_eq_false (show ¬ 2 * (j : Int) + 1 < (L.length : Int) by omega), bs_get, hn, hx]
        repeat (apply And.intro; focus (first | omega | (simp; done)))
        refine App.mk h3 (by simp [allSz, V.cells]) (by simp [ws_len, wordsTo_len, maxLen]; omega) (by simp [ws_len, wordsTo_len]; omega) ?_
        intro r s2 k1 k2
        rw [show [V.sc (.int .i64 (256 * x))] = ws [(256 * x)] from rfl, ws_append] at k1
        simp (config := {maxSteps := 3000000}) only [go_sem, Nat.reduceEqDiff, Int.reduceNeg, ↓reduceIte, Nat.reduceBEq, h4]
        repeat (apply And.intro; focus (first | omega | (simp; done)))
        exact ⟨⟨j + 1, by omega, by simp only [V.sc.injEq, Value.int.injEq, true_and]; omega, by simpa only [wordsTo, hwd] using k1, k2.keeps hw htk, hlt.app k2, k2.fresh hw.sz htk⟩, by omega⟩
    · obtain rfl : j = (L.length + 1) / 2 := by omega
      simp (config := {maxSteps := 3000000}) only [go_sem, Nat.reduceEqDiff, ↓reduceIte, reduceCtorEq, Nat.reduceBEq, h4, bs_len, decide_eq_false (show ¬ 2 * (((L.length + 1) / 2 : Nat) : Int) < (L.length : Int) by omega)]
      obtain ⟨tk', h3'⟩ := h3.sl
      rw [h3']
      exact ⟨_, _, Wk.no, hw, rfl, rfl⟩
theorem wordsTo_get (L : List Int) {i : Nat} : ∀ {m : Nat}, i < m → (wordsTo L m)[i]? = some (wd L (2 * i))
  | 0, h => by omega
  | m + 1, h => by
    rw [wordsTo, List.getElem?_append, wordsTo_len]
    split
    · rename_i h2; exact wordsTo_get L h2
    · have : i = m := by omega
      subst this
      simp
/-- The sum of the first j words. -/
def wsum (L : List Int) : Nat → Int
  | 0 => 0
  | j + 1 => wsum L j + wd L (2 * j)
theorem wsum_eq (L : List Int) : ∀ j, j ≤ (L.length + 1) / 2 → wsum L j = sumP L (min (2 * j) L.length)
  | 0, _ => by simp [wsum, sumP]
  | j + 1, h => by
    have ih := wsum_eq L j (by omega)
    rw [wsum, ih, Nat.min_eq_left (by omega)]
    have a1 : ¬ (2 * j) % 2 = 1 := by omega
    have a2 : (2 * j + 1) % 2 = 1 := by omega
    by_cases h1 : 2 * j + 1 < L.length
    · rw [Nat.min_eq_left (by omega), show 2 * (j + 1) = 2 * j + 1 + 1 by omega]
      simp only [sumP, if_pos a2, if_neg a1, wd, if_pos h1]
      omega
    · have e : min (2 * (j + 1)) L.length = 2 * j + 1 := by omega
      rw [e]
      simp only [sumP, if_neg a1, wd, if_neg h1]
      omega
theorem ref05Of_v (hB : IsB L) (hL : L.length ≤ 1000000000) : VCalls Try.prog 104 [.sl tk (bs L)] st fun r st' => r = .sc (.int .i64 (ckS L)) ∧ st = st' := by
  refine vcalls_enter vc104 (Nat.le_of_ble_eq_true rfl) fun hwf hok => ?_
  show Run _ Vc104.body (.fin (finQ Vc104.res _)) _ _
  unfold Vc104
  simp (config := {maxSteps := 3000000}) only [go_sem, ↓reduceIte, reduceCtorEq]
  refine Cal.mk (words_v hB (by omega)) ?_
  rintro _ _ ⟨rfl, rfl⟩ -
  generalize hm : (L.length + 1) / 2 = m
  have hfin : wsum L m = sumP L L.length := by rw [wsum_eq L m (by omega), Nat.min_eq_right (by omega)]
  simp (config := {maxSteps := 3000000}) only [go_sem, ↓reduceIte]
  refine run_loop [3, 5, 8, 9, 10, 11, 12, 13, 14, 15, 16, 17, 18, 19] (fun B s => st = s ∧ ∃ j : Nat, j ≤ m ∧ B 5 = .sc (.int .i64 j) ∧ B 3 = .sc (.int .i64 (wsum L j))) (fun B _ => m - vnat (B 5)) rfl ?_ ?_
  · simp (config := {maxSteps := 3000000}) only [go_sem, Nat.reduceEqDiff, ↓reduceIte]
    exact ⟨0, by omega, by simp, by simp [wsum]⟩
  · rintro B s ⟨rfl, j, hj, h5, h3⟩
    by_cases hlt : j < m
    · have hr1 := sumP_range hB (min (2 * j) L.length)
      have hr2 := sumP_range hB (min (2 * (j + 1)) L.length)
      rw [← wsum_eq L j (by omega)] at hr1
      rw [← wsum_eq L (j + 1) (by omega)] at hr2
      have hs : wsum L (j + 1) = wsum L j + wd L (2 * j) := rfl
      simp (config := {maxSteps := 3000000}) only [go_sem, Nat.reduceEqDiff, Int.reduceNeg, ↓reduceIte, Nat.reduceBEq, h5, h3, ws_len, wordsTo_len, decide_eq_true (show (j : Int) < (m : Int) by omega), ws_get, wordsTo_get L hlt, ← hs]
      repeat (apply And.intro; focus (first | omega | (simp; done)))
      exact ⟨⟨j + 1, by omega, by simp, rfl⟩, by omega⟩
    · obtain rfl : j = m := by omega
      simp (config := {maxSteps := 3000000}) only [go_sem, Nat.reduceEqDiff, ↓reduceIte, Nat.reduceBEq, h5, ws_len, wordsTo_len]
      rw [hfin] at h3
      have h0 := sumP_range hB L.length
      refine run_loop [3, 20, 21, 22, 23, 24, 25, 26] (fun B s => st = s ∧ ∃ n : Int, 0 ≤ n ∧ n ≤ 65280 * (L.length : Int) ∧ nrm n = nrm (sumP L L.length) ∧ B 3 = .sc (.int .i64 n)) (fun B _ => vnat (B 3)) rfl ?_ ?_
      · simp (config := {maxSteps := 3000000}) only [go_sem, Nat.reduceEqDiff, ↓reduceIte, Nat.reduceBEq, h3]
        exact ⟨_, h0.1, h0.2, rfl, by simp⟩
      · rintro B s ⟨rfl, n, n0, n1, hn, h3'⟩
        by_cases hb : 65535 < n
        · have := nrm_fold n0
          simp (config := {maxSteps := 3000000}) only [go_sem, Nat.reduceEqDiff, Int.reduceLT, Int.reduceNeg, ↓reduceIte, Nat.reduceBEq, h3', decide_eq_true hb]
          repeat (apply And.intro; focus (first | omega | (simp; done)))
          exact ⟨⟨n / 65536 + n % 65536, by omega, by omega, by rw [this, hn], rfl⟩, by omega⟩
        · rw [nrm_small n0 (by omega)] at hn
          simp (config := {maxSteps := 3000000}) only [go_sem, Nat.reduceEqDiff, Int.reduceNeg, ↓reduceIte, Nat.reduceBEq, h3', decide_eq_false hb]
          repeat (apply And.intro; focus (first | omega | (simp; done)))
          exact ⟨_, _, Wk.refl _, hwf.weak, by rw [hn]; rfl, rfl⟩
end
end
section
open Go

/-- A packet. -/
structure TD where
  c : Int
  s : Bool
  q : Int
  a : Bool
  k : Int
  L : List Int
def TD.v (t : TD) (tk : Tk) : V := .agg [.sc (.int .u16 t.c), .sc (.bool t.s), .sc (.int .u32 t.q), .sc (.bool t.a), .sc (.int .u32 t.k), .sl tk (bs t.L)]
structure TD.Ok (t : TD) : Prop where
  c0 : 0 ≤ t.c
  c1 : t.c < 65536
  q0 : 0 ≤ t.q
  q1 : t.q < 4294967296
  k0 : 0 ≤ t.k
  k1 : t.k < 4294967296
  L : IsB t.L
def TD.right (t : TD) : Bool := (t.s == decide (0 < t.L.length)) && decide (t.L.length ≤ 1600) && (t.s || decide (t.q = 0)) && (t.a || decide (t.k = 0))

section
variable {tk tk' : Tk} {st : St}
/-- A chain of appends, beside a box. -/
structure Bd (st s : St) (b : Nat) (cs : List V) (r : V) (L : List Int) : Prop where
  box : s.box b = some cs
  own : Own 1 s r (bs L)
  weak : st.weak s
  lt : s.Lt
  tok : ∀ g k l, r = .sl (.own g k) l → st.sz ≤ g
theorem Bd.start (h : st.Wf) {b : Nat} {cs : List V} (hb : st.sz ≤ b) : Bd st (st.put b cs) b cs (.sl .nil []) [] :=
  ⟨put_box_same, Own.nil, weak_put h.weak hb, h.lt.put, fun g k l e => by cases e⟩
theorem Bd.app {s s' : St} {b : Nat} {cs : List V} {r r' : V} {L L' : List Int} (h : Bd st s b cs r L) (ho : Own 1 s' r' (bs L')) (k : AppSt s r s' r') : Bd st s' b cs r' L' :=
  ⟨by rw [k.box]; exact h.box, ho, k.keeps h.weak h.tok, h.lt.app k, k.fresh h.weak.sz h.tok⟩
theorem Bd.new {s s' : St} {b : Nat} {cs : List V} {r r' : V} {L L' : List Int} (h : Bd st s b cs r L) (ho : Own 1 s' r' (bs L')) (k : New s s' r') : Bd st s' b cs r' L' :=
  ⟨(k.weak.box b cs h.box).1, ho, h.weak.trans k.weak, k.lt, fun g x l e => by have := k.tok g x l e; have := h.weak.sz; omega⟩

def TD.bits (t : TD) : Int := 8193 + (if t.s then 4096 else 0) + (if t.a then 128 else 0)
def TD.bytes (t : TD) : List Int := beL t.bits 2 ++ beL 34827 2 ++ beL t.L.length 2 ++ beL t.c 2 ++ (if t.s then beL t.q 4 else []) ++ (if t.a then beL t.k 4 else []) ++ t.L
theorem or_1 : ibit .or .u16 8193 4096 = 12289 := by decide
theorem or_2 : ibit .or .u16 8193 128 = 8321 := by decide
theorem or_3 : ibit .or .u16 12289 128 = 12417 := by decide
end
end
section
open Go

theorem gre_all : ((List.range 256).all fun a => (List.range 256).all fun b => (!(Nat.land (256 * a + b) 61311).beq 8193) || (256 * a + b).beq 8193 || (256 * a + b).beq 8321 || (256 * a + b).beq 12289 || (256 * a + b).beq 12417) = true := by decide +kernel
theorem gre_bits {n : Int} (h0 : 0 ≤ n) (h1 : n < 65536) : ibit .andNot .u16 n 4224 = 8193 ↔ n = 8193 ∨ n = 8321 ∨ n = 12289 ∨ n = 12417 := by
  constructor
  · intro h
    obtain ⟨m, rfl⟩ : ∃ m : Nat, n = m := ⟨n.toNat, by omega⟩
    have e : ibit .andNot .u16 (m : Int) 4224 = (Nat.land m 61311 : Nat) := by
      have hm : m < 2 ^ 16 := by omega
      have : (BitVec.ofInt 16 (m : Int) &&& ~~~BitVec.ofInt 16 4224).toNat = m &&& 61311 := by
        rw [BitVec.toNat_and, BitVec.toNat_not]
        simp
        rw [Nat.mod_eq_of_lt (by omega)]
      show IntKind.wrap .u16 (((BitVec.ofInt 16 (m : Int) &&& ~~~BitVec.ofInt 16 4224).toNat : Nat) : Int) = _
      rw [this]
      have := Nat.and_lt_two_pow m (y := 61311) (n := 16) (by omega)
      show (((m &&& 61311 : Nat) : Int) % 65536) = ((m &&& 61311 : Nat) : Int)
      omega
    rw [e] at h
    have h2 : Nat.land m 61311 = 8193 := by omega
    have h3 := List.all_eq_true.1 (List.all_eq_true.1 gre_all (m / 256) (List.mem_range.2 (by omega))) (m % 256) (List.mem_range.2 (by omega))
    rw [show 256 * (m / 256) + m % 256 = m by omega, h2] at h3
    simp at h3
    omega
  · rintro (rfl | rfl | rfl | rfl) <;> decide
/-! ### What the bytes say -/
def gN (L : List Int) : Int := numL (L.take 2)
def gS (L : List Int) : Bool := decide (gN L = 12289 ∨ gN L = 12417)
def gA (L : List Int) : Bool := decide (gN L = 8321 ∨ gN L = 12417)
def gP (L : List Int) : Int := numL ((L.drop 2).take 2)
def gZ (L : List Int) : Int := numL ((L.drop 4).take 2)
def gC (L : List Int) : Int := numL ((L.drop 6).take 2)
def gHead (L : List Int) : Bool := decide ((gN L = 8193 ∨ gN L = 8321 ∨ gN L = 12289 ∨ gN L = 12417) ∧ gP L = 34827)
def gAt1 (L : List Int) : Nat := if gS L then 12 else 8
def gAt2 (L : List Int) : Nat := if gA L then gAt1 L + 4 else gAt1 L
def grehE (L : List Int) : Int :=
  if L.length < 8 then 10 else if gHead L = false then 11 else if (L.length : Int) < gAt2 L + gZ L then 10
  else if (gAt2 L + gZ L : Int) < L.length ∨ gS L ≠ decide (0 < gZ L) then 11 else 0
def grehT (L : List Int) : TD := ⟨gC L, gS L, if gS L then numL ((L.drop 8).take 4) else 0, gA L, if gA L then numL ((L.drop (gAt1 L)).take 4) else 0, L.drop (gAt2 L)⟩
def grehD (L : List Int) : TD := if grehE L = 0 then grehT L else ⟨0, false, 0, false, 0, []⟩

theorem num2 {L : List Int} (hB : IsB L) (k : Nat) : 0 ≤ numL ((L.drop k).take 2) ∧ numL ((L.drop k).take 2) < 65536 := by
  have := numL_range _ ((L.drop k).take 2) rfl ((hB.drop _).take _)
  have hl : ((L.drop k).take 2).length ≤ 2 := by simp; omega
  have : (256 : Int) ^ ((L.drop k).take 2).length ≤ 65536 := by
    have h7 : ∀ k : Nat, k ≤ 2 → (256 : Int) ^ k ≤ 65536 := by decide
    exact h7 _ hl
  omega
theorem num4 {L : List Int} (hB : IsB L) (k : Nat) : 0 ≤ numL ((L.drop k).take 4) ∧ numL ((L.drop k).take 4) < 4294967296 := by
  have := numL_range _ ((L.drop k).take 4) rfl ((hB.drop _).take _)
  have hl : ((L.drop k).take 4).length ≤ 4 := by simp; omega
  have : (256 : Int) ^ ((L.drop k).take 4).length ≤ 4294967296 := by
    have h7 : ∀ k : Nat, k ≤ 4 → (256 : Int) ^ k ≤ 4294967296 := by decide
    exact h7 _ hl
  omega
theorem grehT_ok {L : List Int} (hB : IsB L) : (grehT L).Ok := by
  have h6 := num2 hB 6
  have h8 := num4 hB 8
  have h9 := num4 hB (gAt1 L)
  unfold grehT
  refine ⟨h6.1, h6.2, ?_, ?_, ?_, ?_, hB.drop _⟩ <;> dsimp only <;> split <;> omega

theorem beqT (b : Bool) : (b == true) = b := by cases b <;> rfl
theorem beqF (b : Bool) : (b == false) = !b := by cases b <;> rfl
theorem nc8 : ((8 : Nat) : Int) = 8 := rfl
theorem nc12 : ((12 : Nat) : Int) = 12 := rfl
theorem nc16 : ((16 : Nat) : Int) = 16 := rfl
theorem rest_eq {L : List Int} {at_ : Nat} (h : at_ ≤ L.length) : rdTake L at_ false ((L.length : Int) - at_) = (L.drop at_, L.length, false) := by
  unfold rdTake
  rw [if_neg (by simp; exact h)]
  simp only [Prod.mk.injEq, and_true]
  exact ⟨List.take_of_length_le (by simp), by omega⟩
/-- A read of k bytes (hidden from omega). -/
structure Rdk (L : List Int) (at_ : Nat) (bad : Bool) (k : Nat) (x : Int) (at' : Nat) (bad' : Bool) : Prop where
  sbad : bad = true → bad' = true
  sshort : bad = false → L.length < at_ + k → bad' = true
  sat : bad = false → at_ + k ≤ L.length → at' = at_ + k
  sok : bad = false → at_ + k ≤ L.length → bad' = false
  sval : bad = false → at_ + k ≤ L.length → x = numL ((L.drop at_).take k)
theorem rdk {L : List Int} (hB : IsB L) {at_ : Nat} (bad : Bool) (h : at_ ≤ L.length) {k : Nat} (hk : 1 ≤ k) (hk2 : k ≤ 8) : ∃ x at' bad', rdNum L at_ bad k = (x, at', bad') ∧ 0 ≤ x ∧ x < 256 ^ k ∧ at' ≤ L.length ∧ Rdk L at_ bad k x at' bad' := by
  have hr := rdNum_lt (L := L) (at_ := at_) (bad := bad) hB hk
  obtain ⟨⟨x, a', b'⟩, e⟩ : ∃ r, rdNum L at_ bad k = r := ⟨_, rfl⟩
  rw [e] at hr
  refine ⟨x, a', b', e, hr.1, hr.2, ?_⟩
  unfold rdNum at e
  split at e
  · rename_i hc
    simp only [Prod.mk.injEq] at e
    obtain ⟨rfl, rfl, rfl⟩ := e
    have hx : bad = false → at_ + k ≤ L.length → False := fun h1 h2 => by simp [h1] at hc; omega
    exact ⟨h, fun _ => rfl, fun _ _ => rfl, fun h1 h2 => (hx h1 h2).elim, fun h1 h2 => (hx h1 h2).elim, fun h1 h2 => (hx h1 h2).elim⟩
  · rename_i hc
    simp only [Prod.mk.injEq] at e
    obtain ⟨rfl, rfl, rfl⟩ := e
    simp at hc
    refine ⟨by simp; omega, fun hb => by simp [hb] at hc, fun _ _ => by omega, fun _ _ => by simp, fun _ _ => rfl, fun _ _ => by simp⟩
theorem rd2 {L : List Int} (hB : IsB L) {at_ : Nat} (bad : Bool) (h : at_ ≤ L.length) : ∃ x at' bad', rdNum L at_ bad 2 = (x, at', bad') ∧ 0 ≤ x ∧ x < 65536 ∧ at' ≤ L.length ∧ Rdk L at_ bad 2 x at' bad' := rdk hB bad h (k := 2) (by omega) (by omega)
theorem rd4 {L : List Int} (hB : IsB L) {at_ : Nat} (bad : Bool) (h : at_ ≤ L.length) : ∃ x at' bad', rdNum L at_ bad 4 = (x, at', bad') ∧ 0 ≤ x ∧ x < 4294967296 ∧ at' ≤ L.length ∧ Rdk L at_ bad 4 x at' bad' := rdk hB bad h (k := 4) (by omega) (by omega)

section
variable {tk tk' : Tk} {st : St} {L : List Int}
def tdz : V := .agg [.sc (.int .u16 0), .sc (.bool false), .sc (.int .u32 0), .sc (.bool false), .sc (.int .u32 0), .sl .nil []]
end
end
section
open Go

/-- A datagram. -/
structure DG where
  tos : Int
  ttl : Int
  proto : Int
  id : Int
  frag : Int
  src : Int
  dst : Int
  O : List Int
  D : List Int
def DG.v (d : DG) (tk tk' : Tk) : V := .agg [.sc (.int .u8 d.tos), .sc (.int .u8 d.ttl), .sc (.int .u8 d.proto), .sc (.int .u16 d.id), .sc (.int .u16 d.frag), .sc (.int .u32 d.src), .sc (.int .u32 d.dst), .sl tk (bs d.O), .sl tk' (bs d.D)]
def dg0 : DG := ⟨0, 0, 0, 0, 0, 0, 0, [], []⟩
def ipN (L : List Int) (k n : Nat) : Int := numL ((L.drop k).take n)
def ipH (L : List Int) : Int := 4 * (ipN L 0 1 % 16)
def ipT (L : List Int) : Int := ipN L 2 2
def ipE (L : List Int) : Int :=
  if L.length < 20 then 10
  else if ipN L 0 1 / 16 ≠ 4 ∨ ipH L < 20 ∨ ipT L < ipH L then 11
  else if (L.length : Int) < ipT L then 10
  else if ckS (L.take (ipH L).toNat) ≠ 0 then 50
  else 0
def ipX (L : List Int) : DG := ⟨ipN L 1 1, ipN L 8 1, ipN L 9 1, ipN L 4 2, ipN L 6 2, ipN L 12 4, ipN L 16 4, (L.drop 20).take ((ipH L).toNat - 20), (L.drop (ipH L).toNat).take ((ipT L).toNat - (ipH L).toNat)⟩
def ipD (L : List Int) : DG := if ipE L = 0 then ipX L else dg0

theorem ipN_byte {L : List Int} {k : Nat} {x : Int} (h : L[k]? = some x) : ipN L k 1 = x := by
  have hlt := (List.getElem?_eq_some_iff.1 h).1
  have e : (L.drop k).take 1 = [x] := by
    rw [List.drop_eq_getElem_cons hlt, (List.getElem?_eq_some_iff.1 h).2]
    rfl
  simp [ipN, e, numL]
theorem num1 {L : List Int} (hB : IsB L) (k : Nat) : 0 ≤ ipN L k 1 ∧ ipN L k 1 < 256 := by
  have := numL_range _ ((L.drop k).take 1) rfl ((hB.drop _).take _)
  have hl : ((L.drop k).take 1).length ≤ 1 := by simp; omega
  have : (256 : Int) ^ ((L.drop k).take 1).length ≤ 256 := by
    have h7 : ∀ k : Nat, k ≤ 1 → (256 : Int) ^ k ≤ 256 := by decide
    exact h7 _ hl
  unfold ipN
  omega
theorem ipT_range {L : List Int} (hB : IsB L) : 0 ≤ ipT L ∧ ipT L < 65536 := num2 hB 2
theorem u8_low {x : Int} (h₀ : 0 ≤ x) (h₁ : x < 256) : ibit .and .u8 x 15 = x % 16 := bits_mask .u8 8 (by decide) wraps_u8 4 (by decide) x h₀ h₁
/-- A read that the bytes have, of the first T bytes. -/
theorem rdGood {L : List Int} {T at_ k : Nat} (hT : T ≤ L.length) (hk : 1 ≤ k) (hk2 : k ≤ 8) (h : at_ + k ≤ T) : rdNum (L.take T) at_ false k = (ipN L at_ k, at_ + k, false) := by
  have hl : (L.take T).length = T := by simp; omega
  unfold rdNum
  rw [if_neg (by simp only [hl]; simp; omega), Int.toNat_natCast]
  have e : ((L.take T).drop at_).take k = (L.drop at_).take k := by rw [List.drop_take, List.take_take, Nat.min_eq_left (by omega)]
  rw [e]
  rfl
theorem rdGood1 {L : List Int} {T at_ : Nat} (hT : T ≤ L.length) (h : at_ + 1 ≤ T) : rdNum (L.take T) at_ false 1 = (ipN L at_ 1, at_ + 1, false) := rdGood (k := 1) hT (by omega) (by omega) h
theorem rdGood2 {L : List Int} {T at_ : Nat} (hT : T ≤ L.length) (h : at_ + 2 ≤ T) : rdNum (L.take T) at_ false 2 = (ipN L at_ 2, at_ + 2, false) := rdGood (k := 2) hT (by omega) (by omega) h
theorem rdGood4 {L : List Int} {T at_ : Nat} (hT : T ≤ L.length) (h : at_ + 4 ≤ T) : rdNum (L.take T) at_ false 4 = (ipN L at_ 4, at_ + 4, false) := rdGood (k := 4) hT (by omega) (by omega) h
theorem tkGood {L : List Int} {T at_ : Nat} {k : Int} (hT : T ≤ L.length) (h0 : 0 ≤ k) (h : at_ + k.toNat ≤ T) : rdTake (L.take T) at_ false k = ((L.drop at_).take k.toNat, at_ + k.toNat, false) := by
  have hl : (L.take T).length = T := by simp; omega
  unfold rdTake
  rw [if_neg (by simp only [hl]; simp; omega)]
  have e : ((L.take T).drop at_).take k.toNat = (L.drop at_).take k.toNat := by rw [List.drop_take, List.take_take, Nat.min_eq_left (by omega)]
  rw [e]
end
section
open Go

section
variable {tk tk' : Tk} {st : St} {L : List Int}
theorem drop_take1 : (L.take 4).drop 2 = (L.drop 2).take 2 := by rw [List.drop_take]
theorem drop_take2 : (L.take 6).drop 4 = (L.drop 4).take 2 := by rw [List.drop_take]
theorem drop_take3 : (L.take 8).drop 6 = (L.drop 6).take 2 := by rw [List.drop_take]
end
end
section
open Go

/-! ### Plain -/
theorem take_step (L : List Int) (a k : Nat) : (L.drop a).take k ++ L.drop (a + k) = L.drop a := by
  rw [← List.drop_drop, List.take_append_drop]
theorem beL_at {L : List Int} (hB : IsB L) {a k : Nat} (h : a + k ≤ L.length) : beL (numL ((L.drop a).take k)) k = (L.drop a).take k :=
  numL_eq_beL k _ (by simp; omega) ((hB.drop _).take _)
structure GrehOk (L : List Int) : Prop where
  len : 8 ≤ L.length
  n : gN L = 8193 ∨ gN L = 8321 ∨ gN L = 12289 ∨ gN L = 12417
  p : gP L = 34827
  z : (L.length : Int) = gAt2 L + gZ L
  s : gS L = decide (0 < gZ L)
theorem grehE_zero {L : List Int} (h : grehE L = 0) : GrehOk L := by
  unfold grehE at h
  split at h
  · cases h
  split at h
  · cases h
  split at h
  · cases h
  split at h
  · cases h
  rename_i h1 h2 h3 h4
  simp only [Bool.not_eq_false] at h2
  simp only [gHead, decide_eq_true_eq] at h2
  simp only [not_or, Decidable.not_not] at h4
  exact ⟨by omega, h2.1, h2.2, by omega, h4.2⟩
theorem greh_back {L : List Int} (hB : IsB L) (h : grehE L = 0) (hs : (L.drop (gAt2 L)).length ≤ 1600) : (grehT L).right = true ∧ (grehT L).bytes = L := by
  obtain ⟨h8, hn, hp, hz, hS⟩ := grehE_zero h
  have hzz : 0 ≤ gZ L := (num2 hB 4).1
  have hl : ((L.drop (gAt2 L)).length : Int) = gZ L := by simp; omega
  have hS2 : gS L = decide (0 < (L.drop (gAt2 L)).length) := by rw [hS, decide_eq_decide]; omega
  constructor
  · show ((gS L == decide (0 < (L.drop (gAt2 L)).length)) && decide ((L.drop (gAt2 L)).length ≤ 1600) && (gS L || decide ((if gS L = true then numL ((L.drop 8).take 4) else 0) = 0)) && (gA L || decide ((if gA L = true then numL ((L.drop (gAt1 L)).take 4) else 0) = 0))) = true
    rw [← hS2]
    simp only [beq_self_eq_true, Bool.true_and, Bool.and_eq_true, Bool.or_eq_true, decide_eq_true_eq]
    refine ⟨⟨hs, ?_⟩, ?_⟩
    · cases gS L <;> simp
    · cases gA L <;> simp
  · have e0 : beL (gN L) 2 = (L.drop 0).take 2 := beL_at hB (a := 0) (by omega)
    have e2 : beL 34827 2 = (L.drop 2).take 2 := by rw [← hp]; exact beL_at hB (by omega)
    have e4 : beL (L.drop (gAt2 L)).length 2 = (L.drop 4).take 2 := by rw [hl]; exact beL_at hB (by omega)
    have e6 : beL (gC L) 2 = (L.drop 6).take 2 := beL_at hB (by omega)
    have f : ∀ R, R = L.drop 8 → (L.drop 0).take 2 ++ ((L.drop 2).take 2 ++ ((L.drop 4).take 2 ++ ((L.drop 6).take 2 ++ R))) = L := by
      rintro _ rfl
      rw [take_step L 6 2, take_step L 4 2, take_step L 2 2, take_step L 0 2, List.drop_zero]
    have t8 := take_step L 8 4
    have t12 := take_step L 12 4
    rcases hn with hn | hn | hn | hn
    · have hs : gS L = false := by simp [gS, hn]
      have ha : gA L = false := by simp [gA, hn]
      have hb : (grehT L).bits = gN L := by simp [TD.bits, grehT, hs, ha, hn]
      simp only [TD.bytes, hb]
      simp only [grehT, gAt2, gAt1, hs, ha, Bool.false_eq_true, ↓reduceIte, List.append_assoc] at e4 ⊢
      rw [e0, e2, e4, e6]
      exact f _ rfl
    · have hs : gS L = false := by simp [gS, hn]
      have ha : gA L = true := by simp [gA, hn]
      have hb : (grehT L).bits = gN L := by simp [TD.bits, grehT, hs, ha, hn]
      have e8 : beL (numL ((L.drop 8).take 4)) 4 = (L.drop 8).take 4 := beL_at hB (by simp [gAt2, gAt1, hs, ha] at hz; omega)
      simp only [TD.bytes, hb]
      simp only [grehT, gAt2, gAt1, hs, ha, Bool.false_eq_true, ↓reduceIte, List.append_assoc] at e4 ⊢
      rw [e0, e2, e4, e6, e8]
      exact f _ t8
    · have hs : gS L = true := by simp [gS, hn]
      have ha : gA L = false := by simp [gA, hn]
      have hb : (grehT L).bits = gN L := by simp [TD.bits, grehT, hs, ha, hn]
      have e8 : beL (numL ((L.drop 8).take 4)) 4 = (L.drop 8).take 4 := beL_at hB (by simp [gAt2, gAt1, hs, ha] at hz; omega)
      simp only [TD.bytes, hb]
      simp only [grehT, gAt2, gAt1, hs, ha, Bool.false_eq_true, ↓reduceIte, List.append_assoc] at e4 ⊢
      rw [e0, e2, e4, e6, e8]
      exact f _ t8
    · have hs : gS L = true := by simp [gS, hn]
      have ha : gA L = true := by simp [gA, hn]
      have hb : (grehT L).bits = gN L := by simp [TD.bits, grehT, hs, ha, hn]
      have e8 : beL (numL ((L.drop 8).take 4)) 4 = (L.drop 8).take 4 := beL_at hB (by simp [gAt2, gAt1, hs, ha] at hz; omega)
      have e12 : beL (numL ((L.drop 12).take 4)) 4 = (L.drop 12).take 4 := beL_at hB (by simp [gAt2, gAt1, hs, ha] at hz; omega)
      simp only [TD.bytes, hb]
      simp only [grehT, gAt2, gAt1, hs, ha, ↓reduceIte, List.append_assoc] at e4 ⊢
      rw [e0, e2, e4, e6, e8, e12]
      exact f _ ((congrArg (_ ++ ·) t12).trans t8)

theorem u8sOf_bs : ∀ L : List Int, u8sOf (bs L) = some L
  | [] => rfl
  | x :: L => by rw [bs_cons]; simp only [u8sOf, u8sOf_bs L, Option.map_some]
theorem vb2s_bs {tk : Tk} {L : List Int} : vb2s (.sl tk (bs L)) = (True, .sc (.string (strOf L))) := by simp only [vb2s, u8sOf_bs]

section
variable {tk tk' : Tk} {st : St} {L : List Int}
def alT : TD := ⟨7, false, 0, true, 5, []⟩
theorem alT_ok : alT.Ok := ⟨by decide, by decide, by decide, by decide, by decide, by decide, by intro x hx; cases hx⟩
theorem alT_bytes : (if alT.right then alT.bytes else []) = [32, 129, 136, 11, 0, 0, 0, 7, 0, 0, 0, 5] := by decide
theorem grehE_bad {L : List Int} (h : ¬ grehE L = 0) : grehD L = ⟨0, false, 0, false, 0, []⟩ := if_neg h
end
end
section
open Go

section
variable {tk tk' : Tk} {st : St} {L : List Int}
theorem dt1 : (L.take 4).drop 2 = (L.drop 2).take 2 := by rw [List.drop_take]
theorem dt2 : (L.take 6).drop 4 = (L.drop 4).take 2 := by rw [List.drop_take]
theorem dt3 : (L.take 8).drop 6 = (L.drop 6).take 2 := by rw [List.drop_take]
theorem dt4 : (L.take 16).drop 12 = (L.drop 12).take 4 := by rw [List.drop_take]
theorem dt5 : (L.take 20).drop 16 = (L.drop 16).take 4 := by rw [List.drop_take]
end
end
section
open Go

/-- The head of a datagram's bytes with its options, with c as the checksum. -/
def ipPre (d : DG) (c : Int) : List Int :=
  [64 + (5 + (d.O.length : Int) / 4), d.tos] ++ beL (20 + d.O.length + d.D.length) 2 ++ beL d.id 2 ++ beL d.frag 2 ++ [d.ttl, d.proto, c / 256, c % 256] ++ beL d.src 4 ++ beL d.dst 4 ++ d.O
def ipB (d : DG) : List Int := ipPre d (ckS (ipPre d 0)) ++ d.D
def ipFits (d : DG) : Prop := d.O.length ≤ 40 ∧ d.O.length % 4 = 0 ∧ d.O.length + d.D.length ≤ 65515
instance (d : DG) : Decidable (ipFits d) := by unfold ipFits; infer_instance
structure DG.Ok (d : DG) : Prop where
  tos : 0 ≤ d.tos ∧ d.tos < 256
  ttl : 0 ≤ d.ttl ∧ d.ttl < 256
  proto : 0 ≤ d.proto ∧ d.proto < 256
  id : 0 ≤ d.id ∧ d.id < 65536
  frag : 0 ≤ d.frag ∧ d.frag < 65536
  src : 0 ≤ d.src ∧ d.src < 4294967296
  dst : 0 ≤ d.dst ∧ d.dst < 4294967296
  O : IsB d.O
  D : IsB d.D
theorem ipPre_set (d : DG) (c : Int) : ((ipPre d 0).set 10 (c / 256)).set 11 (c % 256) = ipPre d c := by simp [ipPre, beL2, beL4]
theorem ipPre_len (d : DG) (c : Int) : (ipPre d c).length = 20 + d.O.length := by simp [ipPre, beL_len]; omega
theorem or64 {q : Int} (h0 : 0 ≤ q) (h1 : q < 16) : ibit .or .i64 64 q = 64 + q := by
  obtain ⟨k, rfl⟩ : ∃ k : Nat, q = k := ⟨q.toNat, by omega⟩
  have : ∀ k : Nat, k < 16 → ibit .or .i64 64 k = 64 + k := by decide
  exact this k (by omega)
theorem ipPre_isB {d : DG} (hd : d.Ok) {c : Int} (h0 : 0 ≤ c) (h1 : c < 65536) (hf : ipFits d) : IsB (ipPre d c) := by
  have k1 : d.O.length ≤ 40 := hf.1
  have a2 : ∀ {x y : Int}, 0 ≤ x ∧ x < 256 → 0 ≤ y ∧ y < 256 → IsB [x, y] := fun hx hy z hz => by
    simp only [List.mem_cons, List.not_mem_nil, or_false] at hz
    rcases hz with rfl | rfl
    · exact hx
    · exact hy
  have e4 : [d.ttl, d.proto, c / 256, c % 256] = [d.ttl, d.proto] ++ [c / 256, c % 256] := rfl
  unfold ipPre
  rw [e4]
  exact ((((((a2 (by omega) hd.tos).append (beL_isB _ _)).append (beL_isB _ _)).append (beL_isB _ _)).append ((a2 hd.ttl hd.proto).append (a2 (by omega) (by omega)))).append (beL_isB _ _)).append (beL_isB _ _) |>.append hd.O
section
variable {tk tk' : Tk} {st : St}
theorem ipBuild_v (d : DG) (hd : d.Ok) (hdO : d.O.length ≤ 1000000000000) (hdD : d.D.length ≤ 1000000000000) : VCalls Try.prog 106 [d.v tk tk'] st fun r st' => r = (if ipFits d then .tup [.sl .no (bs (ipB d)), .sc (.int .i64 0)] else .tup [.sl .nil [], .sc (.int .i64 12)]) ∧ st = st' := by
  refine VCalls.tell (Q := fun r s => (¬ ipFits d ∧ r = .tup [.sl .nil [], .sc (.int .i64 12)] ∧ st = s) ∨ (ipFits d ∧ ∃ x, MRow st s x (ipB d) ∧ r = .tup [x, .sc (.int .i64 0)])) ?_ ?_
  rotate_left
  · rintro r s (⟨h, rfl, rfl⟩ | ⟨h, x, hx, rfl⟩)
    · exact ⟨_, _, fun _ G _ _ hw hr => ⟨G, .refl G, hw, hr⟩, by rw [if_neg h], rfl⟩
    · exact ⟨_, _, hx.tell.tup2, by rw [if_pos h], rfl⟩
  obtain ⟨tos, ttl, proto, id, frag, src, dst, O, D⟩ := d
  have h1 := hd.tos; have h2 := hd.ttl; have h3 := hd.proto; have h4 := hd.id; have h5 := hd.frag; have h6 := hd.src; have h7 := hd.dst
  simp only at h1 h2 h3 h4 h5 h6 h7
  refine vcalls_enter vc106 (Nat.le_of_ble_eq_true rfl) fun hwf hok => ?_
  show Run _ Vc106.body (.fin (finQ Vc106.res _)) _ _
  unfold Vc106
  simp only at hdO hdD
  simp (config := {maxSteps := 3000000}) only [go_sem, Nat.reduceEqDiff, Nat.reduceAdd, Int.reduceNeg, ↓reduceIte, reduceCtorEq, DG.v]
  repeat (apply And.intro; focus (first | omega | (simp; done)))
  intro b hb
  have g0 : ∀ s : St, st.weak s → ¬ ipFits ⟨tos, ttl, proto, id, frag, src, dst, O, D⟩ → ∃ r' st'', Wk (V.tup [.sl .nil [], .sc (.int .i64 12)]) r' ∧ st''.weak s ∧ ((¬ ipFits ⟨tos, ttl, proto, id, frag, src, dst, O, D⟩ ∧ r' = .tup [.sl .nil [], .sc (.int .i64 12)] ∧ st = st'') ∨ (ipFits ⟨tos, ttl, proto, id, frag, src, dst, O, D⟩ ∧ ∃ x, MRow st st'' x (ipB ⟨tos, ttl, proto, id, frag, src, dst, O, D⟩) ∧ r' = .tup [x, .sc (.int .i64 0)])) :=
    fun s hw h => ⟨_, _, Wk.refl _, hw, .inl ⟨h, rfl, rfl⟩⟩
  by_cases c1 : 40 < O.length
  · simp (config := {maxSteps := 3000000}) only [go_sem, Nat.reduceEqDiff, Int.reduceNeg, ↓reduceIte, bs_len, decide_eq_true (show (40 : Int) < (O.length : Int) by omega)]
    exact ⟨by omega, g0 _ (weak_put hwf.weak hb) fun h => by have := h.1; simp only at this; omega⟩
  have d1 := decide_eq_false (show ¬ (40 : Int) < (O.length : Int) by omega)
  by_cases c2 : O.length % 4 = 0
  rotate_left
  · have d2 := decide_eq_true (show ¬ (O.length : Int) % 4 = 0 by omega)
    simp (config := {maxSteps := 3000000}) only [go_sem, Nat.reduceEqDiff, Int.reduceLT, Int.reduceNeg, ↓reduceIte, bs_len, d1, d2]
    repeat (apply And.intro; focus (first | omega | (simp; done)))
    exact g0 _ (weak_put hwf.weak hb) fun h => by have := h.2.1; simp only at this; omega
  have d2 := decide_eq_false (show ¬ ¬ (O.length : Int) % 4 = 0 by omega)
  by_cases c3 : O.length + D.length ≤ 65515
  rotate_left
  · have d3 := decide_eq_true (show 65535 - (20 + (O.length : Int)) < (D.length : Int) by omega)
    simp (config := {maxSteps := 3000000}) only [go_sem, Nat.reduceEqDiff, Int.reduceLT, Int.reduceNeg, ↓reduceIte, bs_len, d1, d2, d3]
    repeat (apply And.intro; focus (first | omega | (simp; done)))
    exact g0 _ (weak_put hwf.weak hb) fun h => by have := h.2.2; simp only at this; omega
  have d3 := decide_eq_false (show ¬ 65535 - (20 + (O.length : Int)) < (D.length : Int) by omega)
  have fits : ipFits ⟨tos, ttl, proto, id, frag, src, dst, O, D⟩ := ⟨by simp only; omega, c2, c3⟩
  have q5 : (20 + (O.length : Int)) / 4 = 5 + (O.length : Int) / 4 := by omega
  have ho := or64 (q := 5 + (O.length : Int) / 4) (by omega) (by omega)
  have q6 : (64 + (5 + (O.length : Int) / 4)) % 256 = 64 + (5 + (O.length : Int) / 4) := by omega
  simp (config := {maxSteps := 3000000}) only [go_sem, Nat.reduceEqDiff, Int.reduceLT, Int.reduceNeg, ↓reduceIte, bs_len, d1, d2, d3, q5, ho, q6]
  repeat (apply And.intro; focus (first | omega | (simp; done)))
  refine Bo.row (M := [64 + (5 + (O.length : Int) / 4), tos]) (base := st.put b _) hwf.lt.put.weak hwf.lt.put (by simp) ?_
  intro r s k f
  have hb1 := f b _ put_box_same
  have q7 : (20 + (O.length : Int) + (D.length : Int)) % 65536 = 20 + (O.length : Int) + (D.length : Int) := by omega
  simp (config := {maxSteps := 3000000}) only [go_sem, Nat.reduceEqDiff, Int.reduceNeg, ↓reduceIte, bs_len, hb1, q7]
  repeat (apply And.intro; focus (first | omega | (simp; done)))
  refine Cal.mk (Put16_b k (by simp) (by omega) (by omega)) ?_
  clear hb1 f
  rintro r s k -
  have hb1 := (k.weak.box b _ put_box_same).1
  simp (config := {maxSteps := 3000000}) only [go_sem, Nat.reduceEqDiff, ↓reduceIte, hb1]
  refine Cal.mk (Put16_b k (by simp [beL2]) (by omega) (by omega)) ?_
  clear hb1
  rintro r s k -
  have hb1 := (k.weak.box b _ put_box_same).1
  simp (config := {maxSteps := 3000000}) only [go_sem, Nat.reduceEqDiff, ↓reduceIte, hb1]
  refine Cal.mk (Put16_b k (by simp [beL2]) (by omega) (by omega)) ?_
  clear hb1
  rintro r s k -
  have hb1 := (k.weak.box b _ put_box_same).1
  simp (config := {maxSteps := 3000000}) only [go_sem, Nat.reduceEqDiff, ↓reduceIte, hb1]
  refine App.row (M := [ttl, proto, 0, 0]) k (by simp [beL2]) ?_
  clear hb1
  intro r s k f
  have hb1 := (k.weak.box b _ put_box_same).1
  simp (config := {maxSteps := 3000000}) only [go_sem, Nat.reduceEqDiff, ↓reduceIte, hb1]
  refine Cal.mk (Put32_b k (by simp [beL2]) (by omega) (by omega)) ?_
  clear hb1 f
  rintro r s k -
  have hb1 := (k.weak.box b _ put_box_same).1
  simp (config := {maxSteps := 3000000}) only [go_sem, Nat.reduceEqDiff, ↓reduceIte, hb1]
  refine Cal.mk (Put32_b k (by simp [beL2, beL4]) (by omega) (by omega)) ?_
  clear hb1
  rintro r s k -
  have hb1 := (k.weak.box b _ put_box_same).1
  simp (config := {maxSteps := 3000000}) only [go_sem, Nat.reduceEqDiff, ↓reduceIte, hb1]
  refine App.row (M := O) k (by simp [beL2, beL4]; omega) ?_
  clear hb1
  intro r s k f
  clear f
  have hb1 := (k.weak.box b _ put_box_same).1
  simp (config := {maxSteps := 3000000}) only [go_sem, ↓reduceIte]
  have eL : [64 + (5 + (O.length : Int) / 4), tos] ++ beL (20 + (O.length : Int) + D.length) 2 ++ beL id 2 ++ beL frag 2 ++ [ttl, proto, 0, 0] ++ beL src 4 ++ beL dst 4 ++ O = ipPre ⟨tos, ttl, proto, id, frag, src, dst, O, D⟩ 0 := by simp [ipPre]
  rw [eL] at k
  have hlen := ipPre_len ⟨tos, ttl, proto, id, frag, src, dst, O, D⟩ 0
  simp only at hlen
  have hset := ipPre_set ⟨tos, ttl, proto, id, frag, src, dst, O, D⟩ (ckS (ipPre ⟨tos, ttl, proto, id, frag, src, dst, O, D⟩ 0))
  have hIs : ipB ⟨tos, ttl, proto, id, frag, src, dst, O, D⟩ = ipPre ⟨tos, ttl, proto, id, frag, src, dst, O, D⟩ (ckS (ipPre ⟨tos, ttl, proto, id, frag, src, dst, O, D⟩ 0)) ++ D := rfl
  have hB := ipPre_isB hd (c := 0) (by omega) (by omega) fits
  generalize ipPre ⟨tos, ttl, proto, id, frag, src, dst, O, D⟩ 0 = L at *
  have hck := ckS_range hB
  refine Cal.mk (k.reads fun n => (sumOf_v hB).mono fun _ _ h => h.1) ?_
  rintro _ _ ⟨rfl, rfl⟩ -
  obtain ⟨bb, cap, rfl, hc1, hc2⟩ := k.is
  have c256 : ckS L / 256 % 256 = ckS L / 256 := by omega
  simp (config := {maxSteps := 3000000}) only [go_sem, Nat.reduceEqDiff, Nat.reduceLeDiff, Int.reduceToNat, Int.reduceLE, Int.reducePow, ↓reduceIte, c256]
  refine ⟨by omega, Stb.row k (by omega) ?_⟩
  clear hb1
  intro s k _
  have hb1 := (k.weak.box b _ put_box_same).1
  simp (config := {maxSteps := 3000000}) only [go_sem, Nat.reduceEqDiff, Int.reduceToNat, Int.reduceLE, ↓reduceIte]
  refine ⟨by omega, Stb.row k (by rw [List.length_set]; omega) ?_⟩
  clear hb1
  intro s k _
  have hb1 := (k.weak.box b _ put_box_same).1
  rw [hset] at k
  simp (config := {maxSteps := 3000000}) only [go_sem, Nat.reduceEqDiff, ↓reduceIte, hb1]
  refine App.row (M := D) k (by have := congrArg List.length hset; simp at this; omega) ?_
  clear hb1
  intro r s k _
  rw [← hIs] at k
  simp (config := {maxSteps := 3000000}) only [go_sem, Nat.reduceEqDiff, ↓reduceIte]
  exact ⟨_, _, Wk.refl _, k.lt.weak, .inr ⟨fits, r, k.rebase (weak_put hwf.weak hb), rfl⟩⟩
theorem refBuild13_v (d : DG) (hd : d.Ok) (hdO : d.O.length ≤ 1000000000000) (hdD : d.D.length ≤ 1000000000000) : VCalls Try.prog 61 [d.v tk tk'] st fun r st' => r = (if ipFits d then .sl .no (bs (ipB d)) else .sl .nil []) ∧ st = st' := by
  refine VCalls.tell (Q := fun r s => (¬ ipFits d ∧ r = .sl .nil [] ∧ st = s) ∨ (ipFits d ∧ ∃ x, MRow st s x (ipB d) ∧ r = x)) ?_ ?_
  rotate_left
  · rintro r s (⟨h, rfl, rfl⟩ | ⟨h, x, hx, rfl⟩)
    · exact ⟨_, _, fun _ G _ _ hw hr => ⟨G, .refl G, hw, hr⟩, by rw [if_neg h], rfl⟩
    · exact ⟨_, _, hx.tell, by rw [if_pos h], rfl⟩
  obtain ⟨tos, ttl, proto, id, frag, src, dst, O, D⟩ := d
  have h1 := hd.tos; have h2 := hd.ttl; have h3 := hd.proto; have h4 := hd.id; have h5 := hd.frag; have h6 := hd.src; have h7 := hd.dst
  simp only at h1 h2 h3 h4 h5 h6 h7
  refine vcalls_enter vc61 (Nat.le_of_ble_eq_true rfl) fun hwf hok => ?_
  show Run _ Vc61.body (.fin (finQ Vc61.res _)) _ _
  unfold Vc61
  simp only at hdO hdD
  simp (config := {maxSteps := 3000000}) only [go_sem, Nat.reduceEqDiff, Nat.reduceAdd, Int.reduceNeg, ↓reduceIte, reduceCtorEq, DG.v]
  repeat (apply And.intro; focus (first | omega | (simp; done)))
  intro b hb
  have g0 : ∀ s : St, st.weak s → ¬ ipFits ⟨tos, ttl, proto, id, frag, src, dst, O, D⟩ → ∃ r' st'', Wk (V.sl .nil []) r' ∧ st''.weak s ∧ ((¬ ipFits ⟨tos, ttl, proto, id, frag, src, dst, O, D⟩ ∧ r' = .sl .nil [] ∧ st = st'') ∨ (ipFits ⟨tos, ttl, proto, id, frag, src, dst, O, D⟩ ∧ ∃ x, MRow st st'' x (ipB ⟨tos, ttl, proto, id, frag, src, dst, O, D⟩) ∧ r' = x)) :=
    fun s hw h => ⟨_, _, Wk.refl _, hw, .inl ⟨h, rfl, rfl⟩⟩
  by_cases c1 : 40 < O.length
  · simp (config := {maxSteps := 3000000}) only [go_sem, Nat.reduceEqDiff, Int.reduceNeg, ↓reduceIte, bs_len, decide_eq_true (show (60 : Int) < 20 + (O.length : Int) by omega)]
    exact ⟨by omega, g0 _ (weak_put hwf.weak hb) fun h => by have := h.1; simp only at this; omega⟩
  have d1 := decide_eq_false (show ¬ (60 : Int) < 20 + (O.length : Int) by omega)
  by_cases c2 : O.length % 4 = 0
  rotate_left
  · have d2 := decide_eq_true (show ¬ (20 + (O.length : Int)) % 4 = 0 by omega)
    simp (config := {maxSteps := 3000000}) only [go_sem, Nat.reduceEqDiff, Int.reduceLT, Int.reduceNeg, ↓reduceIte, bs_len, d1, d2]
    repeat (apply And.intro; focus (first | omega | (simp; done)))
    exact g0 _ (weak_put hwf.weak hb) fun h => by have := h.2.1; simp only at this; omega
  have d2 := decide_eq_false (show ¬ ¬ (20 + (O.length : Int)) % 4 = 0 by omega)
  by_cases c3 : O.length + D.length ≤ 65515
  rotate_left
  · have d3 := decide_eq_true (show 65535 - (20 + (O.length : Int)) < (D.length : Int) by omega)
    simp (config := {maxSteps := 3000000}) only [go_sem, Nat.reduceEqDiff, Int.reduceLT, Int.reduceNeg, ↓reduceIte, bs_len, d1, d2, d3]
    repeat (apply And.intro; focus (first | omega | (simp; done)))
    exact g0 _ (weak_put hwf.weak hb) fun h => by have := h.2.2; simp only at this; omega
  have d3 := decide_eq_false (show ¬ 65535 - (20 + (O.length : Int)) < (D.length : Int) by omega)
  have fits : ipFits ⟨tos, ttl, proto, id, frag, src, dst, O, D⟩ := ⟨by simp only; omega, c2, c3⟩
  have q5 : (20 + (O.length : Int)) / 4 = 5 + (O.length : Int) / 4 := by omega
  have q6 : (64 + (5 + (O.length : Int) / 4)) % 256 = 64 + (5 + (O.length : Int) / 4) := by omega
  simp (config := {maxSteps := 3000000}) only [go_sem, Nat.reduceEqDiff, Int.reduceLT, Int.reduceNeg, ↓reduceIte, bs_len, d1, d2, d3, q5, q6]
  repeat (apply And.intro; focus (first | omega | (simp; done)))
  have e4 : id % 18446744073709551616 = id := by omega
  have e5 : frag % 18446744073709551616 = frag := by omega
  have e6 : src % 18446744073709551616 = src := by omega
  have e7 : dst % 18446744073709551616 = dst := by omega
  refine Bo.row (M := [64 + (5 + (O.length : Int) / 4), tos]) (base := st.put b _) hwf.lt.put.weak hwf.lt.put (by simp) ?_
  intro r s k f
  have hb1 := f b _ put_box_same
  have q7 : (20 + (O.length : Int) + (D.length : Int)) % 18446744073709551616 = 20 + (O.length : Int) + (D.length : Int) := by omega
  simp (config := {maxSteps := 3000000}) only [go_sem, Nat.reduceEqDiff, Int.reduceNeg, ↓reduceIte, bs_len, hb1, q7]
  repeat (apply And.intro; focus (first | omega | (simp; done)))
  refine Cal.mk (rPut2_b k (by simp) (by omega) (by omega)) ?_
  clear hb1 f
  rintro r s k -
  have hb1 := (k.weak.box b _ put_box_same).1
  simp (config := {maxSteps := 3000000}) only [go_sem, Nat.reduceEqDiff, ↓reduceIte, hb1, e4]
  refine Cal.mk (rPut2_b k (by simp [beL2]) (by omega) (by omega)) ?_
  clear hb1
  rintro r s k -
  have hb1 := (k.weak.box b _ put_box_same).1
  simp (config := {maxSteps := 3000000}) only [go_sem, Nat.reduceEqDiff, ↓reduceIte, hb1, e5]
  refine Cal.mk (rPut2_b k (by simp [beL2]) (by omega) (by omega)) ?_
  clear hb1
  rintro r s k -
  have hb1 := (k.weak.box b _ put_box_same).1
  simp (config := {maxSteps := 3000000}) only [go_sem, Nat.reduceEqDiff, ↓reduceIte, hb1]
  refine App.row (M := [ttl, proto, 0, 0]) k (by simp [beL2]) ?_
  clear hb1
  intro r s k f
  have hb1 := (k.weak.box b _ put_box_same).1
  simp (config := {maxSteps := 3000000}) only [go_sem, Nat.reduceEqDiff, ↓reduceIte, hb1, e6]
  refine Cal.mk (rPut4_b k (by simp [beL2]) (by omega) (by omega)) ?_
  clear hb1 f
  rintro r s k -
  have hb1 := (k.weak.box b _ put_box_same).1
  simp (config := {maxSteps := 3000000}) only [go_sem, Nat.reduceEqDiff, ↓reduceIte, hb1, e7]
  refine Cal.mk (rPut4_b k (by simp [beL2, beL4]) (by omega) (by omega)) ?_
  clear hb1
  rintro r s k -
  have hb1 := (k.weak.box b _ put_box_same).1
  simp (config := {maxSteps := 3000000}) only [go_sem, Nat.reduceEqDiff, ↓reduceIte, hb1]
  refine App.row (M := O) k (by simp [beL2, beL4]; omega) ?_
  clear hb1
  intro r s k f
  clear f
  have hb1 := (k.weak.box b _ put_box_same).1
  simp (config := {maxSteps := 3000000}) only [go_sem, ↓reduceIte]
  have eL : [64 + (5 + (O.length : Int) / 4), tos] ++ beL (20 + (O.length : Int) + D.length) 2 ++ beL id 2 ++ beL frag 2 ++ [ttl, proto, 0, 0] ++ beL src 4 ++ beL dst 4 ++ O = ipPre ⟨tos, ttl, proto, id, frag, src, dst, O, D⟩ 0 := by simp [ipPre]
  rw [eL] at k
  have hlen := ipPre_len ⟨tos, ttl, proto, id, frag, src, dst, O, D⟩ 0
  simp only at hlen
  have hset := ipPre_set ⟨tos, ttl, proto, id, frag, src, dst, O, D⟩ (ckS (ipPre ⟨tos, ttl, proto, id, frag, src, dst, O, D⟩ 0))
  have hIs : ipB ⟨tos, ttl, proto, id, frag, src, dst, O, D⟩ = ipPre ⟨tos, ttl, proto, id, frag, src, dst, O, D⟩ (ckS (ipPre ⟨tos, ttl, proto, id, frag, src, dst, O, D⟩ 0)) ++ D := rfl
  have hB := ipPre_isB hd (c := 0) (by omega) (by omega) fits
  generalize ipPre ⟨tos, ttl, proto, id, frag, src, dst, O, D⟩ 0 = L at *
  have hck := ckS_range hB
  refine Cal.mk (k.reads fun n => (ref05Of_v hB (by omega)).mono fun _ _ h => h.1) ?_
  rintro _ _ ⟨rfl, rfl⟩ -
  obtain ⟨bb, cap, rfl, hc1, hc2⟩ := k.is
  have c256 : ckS L / 256 % 256 = ckS L / 256 := by omega
  simp (config := {maxSteps := 3000000}) only [go_sem, Nat.reduceEqDiff, Int.reduceToNat, Int.reduceLE, Int.reduceLT, Int.reduceNeg, ↓reduceIte, c256]
  repeat (refine ⟨by omega, ?_⟩)
  refine Stb.row k (by omega) ?_
  clear hb1
  intro s k _
  have hb1 := (k.weak.box b _ put_box_same).1
  simp (config := {maxSteps := 3000000}) only [go_sem, Nat.reduceEqDiff, Int.reduceToNat, Int.reduceLE, Int.reduceLT, ↓reduceIte]
  repeat (refine ⟨by first | omega | (rw [List.length_set]; omega), ?_⟩)
  refine Stb.row k (by rw [List.length_set]; omega) ?_
  clear hb1
  intro s k _
  have hb1 := (k.weak.box b _ put_box_same).1
  rw [show ckS L % 256 % 256 = ckS L % 256 by omega, hset] at k
  simp (config := {maxSteps := 3000000}) only [go_sem, Nat.reduceEqDiff, ↓reduceIte, hb1]
  refine App.row (M := D) k (by have := congrArg List.length hset; simp at this; omega) ?_
  clear hb1
  intro r s k _
  rw [← hIs] at k
  simp (config := {maxSteps := 3000000}) only [go_sem, ↓reduceIte]
  exact ⟨_, _, Wk.refl _, k.lt.weak, .inr ⟨fits, r, k.rebase (weak_put hwf.weak hb), rfl⟩⟩
end
end
section
open Go

section
variable {tk tk' : Tk} {st : St} {L : List Int}
theorem ip4Parse_v (hB : IsB L) (hL : L.length ≤ 1000000000) : VCalls Try.prog 105 [.sl tk (bs L)] st fun r st' => (∃ tk1 tk2, r = .tup [(ipD L).v tk1 tk2, .sc (.int .i64 (ipE L))]) ∧ st = st' := by
  refine vcalls_enter vc105 (Nat.le_of_ble_eq_true rfl) fun hwf hok => ?_
  show Run _ Vc105.body (.fin (finQ Vc105.res _)) _ _
  unfold Vc105
  have bad : ∀ k : Int, ipE L = k → k ≠ 0 → ipD L = dg0 := fun k h1 h2 => if_neg (by rw [h1]; exact h2)
  by_cases h20 : L.length < 20
  · have hE : ipE L = 10 := if_pos h20
    have hD := bad _ hE (by decide)
    simp (config := {maxSteps := 3000000}) only [go_sem, Nat.reduceEqDiff, Nat.reduceAdd, Nat.reduceLT, Nat.reduceLeDiff, ↓reduceIte, reduceCtorEq, bs_len, decide_eq_true (show (L.length : Int) < 20 by omega)]
    intro c hc
    exact ⟨_, _, Wk.refl _, (by repeat (first | exact hwf.weak | refine weak_put ?_ (by assumption))), ⟨.nil, .nil, by rw [hE, hD]; rfl⟩, rfl⟩
  obtain ⟨x, hx⟩ := get_ex (L := L) (i := 0) (by omega)
  obtain ⟨x0, x1⟩ := hB.get hx
  have hx' := ipN_byte hx
  have hH : ipH L = 4 * (x % 16) := by rw [ipH, hx']
  obtain ⟨t0, t1⟩ := ipT_range hB
  simp (config := {maxSteps := 3000000}) only [go_sem, Int.reduceToNat, Int.reduceLE, Int.reduceNeg, ↓reduceIte, reduceCtorEq, bs_len, decide_eq_false (show ¬ (L.length : Int) < 20 by omega), bs_get, hx, u8_low x0 x1]
  intro c hc
  repeat (apply And.intro; focus (first | omega | (simp; done)))
  simp (config := {maxSteps := 3000000}) only [go_sem, bs_drop, allSz_bs']
  repeat (apply And.intro; focus (first | omega | (simp; done)))
  refine Cal.mk (Get16_v (hB.drop _)) ?_
  rw [if_neg (by simp; omega), show numL ((L.drop 2).take 2) = ipT L from rfl, ← hH]
  rintro _ _ ⟨rfl, rfl⟩ -
  have hE1 := show ipE L = _ from if_neg h20
  rw [hx'] at hE1
  generalize hHH : ipH L = H at *
  generalize hTT : ipT L = T at *
  simp (config := {maxSteps := 3000000}) only [go_sem, Nat.reduceLeDiff, Int.reduceToNat, Int.reduceLE, Int.reducePow, Int.reduceNeg, ↓reduceIte, reduceCtorEq, bs_get, hx]
  repeat (apply And.intro; focus (first | omega | (simp; done)))
  by_cases a1 : x / 16 = 4
  case neg =>
    have hE : ipE L = 11 := by rw [hE1, if_pos (.inl a1)]
    have hD := bad _ hE (by decide)
    simp (config := {maxSteps := 3000000}) only [go_sem, Nat.reduceEqDiff, Nat.reduceAdd, Nat.reduceLT, Nat.reduceLeDiff, ↓reduceIte, decide_eq_true a1]
    exact ⟨_, _, Wk.refl _, (by repeat (first | exact hwf.weak | refine weak_put ?_ (by assumption))), ⟨.nil, .nil, by rw [hE, hD]; rfl⟩, rfl⟩
  by_cases a2 : H < 20
  · have hE : ipE L = 11 := by rw [hE1, if_pos (.inr (.inl a2))]
    have hD := bad _ hE (by decide)
    simp (config := {maxSteps := 3000000}) only [go_sem, Nat.reduceEqDiff, Nat.reduceAdd, Nat.reduceLT, Nat.reduceLeDiff, ↓reduceIte, a1, decide_eq_true a2]
    exact ⟨_, _, Wk.refl _, (by repeat (first | exact hwf.weak | refine weak_put ?_ (by assumption))), ⟨.nil, .nil, by rw [hE, hD]; rfl⟩, rfl⟩
  by_cases a3 : T < H
  · have hE : ipE L = 11 := by rw [hE1, if_pos (.inr (.inr a3))]
    have hD := bad _ hE (by decide)
    simp (config := {maxSteps := 3000000}) only [go_sem, Nat.reduceEqDiff, Nat.reduceAdd, Nat.reduceLT, Nat.reduceLeDiff, ↓reduceIte, a1, decide_eq_false a2, decide_eq_true a3]
    exact ⟨_, _, Wk.refl _, (by repeat (first | exact hwf.weak | refine weak_put ?_ (by assumption))), ⟨.nil, .nil, by rw [hE, hD]; rfl⟩, rfl⟩
  rw [if_neg (by exact fun h => h.elim (fun h => h a1) (fun h => h.elim a2 a3))] at hE1
  by_cases a4 : (L.length : Int) < T
  · have hE : ipE L = 10 := by rw [hE1, if_pos a4]
    have hD := bad _ hE (by decide)
    simp (config := {maxSteps := 3000000}) only [go_sem, Nat.reduceEqDiff, Nat.reduceAdd, Nat.reduceLT, Nat.reduceLeDiff, ↓reduceIte, reduceCtorEq, a1, decide_eq_false a2, decide_eq_false a3, bs_len, decide_eq_true a4]
    exact ⟨_, _, Wk.refl _, (by repeat (first | exact hwf.weak | refine weak_put ?_ (by assumption))), ⟨.nil, .nil, by rw [hE, hD]; rfl⟩, rfl⟩
  rw [if_neg a4] at hE1
  simp (config := {maxSteps := 3000000}) only [go_sem, Nat.reduceEqDiff, ↓reduceIte, reduceCtorEq, a1, decide_eq_false a2, decide_eq_false a3, bs_len, decide_eq_false a4, bs_take, allSz_bs']
  repeat (apply And.intro; focus (first | omega | (simp; done)))
  refine Cal.mk (sumRight_v (hB.take _)) ?_
  rintro _ _ ⟨rfl, rfl⟩ -
  by_cases a5 : ckS (L.take H.toNat) = 0
  case neg =>
    have hE : ipE L = 50 := by rw [hE1, if_pos a5]
    have hD := bad _ hE (by decide)
    simp (config := {maxSteps := 3000000}) only [go_sem, Nat.reduceEqDiff, Nat.reduceAdd, Nat.reduceLT, Nat.reduceLeDiff, ↓reduceIte, decide_eq_false a5]
    exact ⟨_, _, Wk.refl _, (by repeat (first | exact hwf.weak | refine weak_put ?_ (by assumption))), ⟨.nil, .nil, by rw [hE, hD]; rfl⟩, rfl⟩
  have hE : ipE L = 0 := by rw [hE1, if_neg (by simp [a5])]
  have hD : ipD L = ipX L := if_pos hE
  simp (config := {maxSteps := 3000000}) only [go_sem, Nat.reduceEqDiff, ↓reduceIte, reduceCtorEq, decide_eq_true a5, bs_len, bs_take, allSz_bs']
  repeat (apply And.intro; focus (first | omega | (simp; done)))
  obtain ⟨T', rfl⟩ : ∃ n : Nat, T = n := ⟨T.toNat, by omega⟩
  rw [Int.toNat_natCast]
  have hT : T' ≤ L.length := by omega
  have hT20 : 20 ≤ T' := by omega
  have hlT : (L.take T').length = T' := by simp; omega
  refine Cal.mk New_v ?_
  rintro _ _ ⟨b, hb, rfl, rfl⟩ -
  obtain ⟨hb1, hcb⟩ : st.sz ≤ b ∧ c < b := by simp only [put_sz] at hb; omega
  clear hb
  simp (config := {maxSteps := 3000000}) only [go_sem, ↓reduceIte]
  refine Cal.mk (U8_v (by repeat (first | exact put_box_same | rw [put_box_ne (by omega)])) (by rw [hlT]; omega) (hB.take _)) ?_
  rw [rdGood1 hT (by omega)]
  rintro _ _ ⟨rfl, rfl⟩ -
  simp (config := {maxSteps := 3000000}) only [go_sem, Nat.reduceEqDiff, ↓reduceIte]
  refine Cal.mk (U8_v (by repeat (first | exact put_box_same | rw [put_box_ne (by omega)])) (by rw [hlT]; omega) (hB.take _)) ?_
  rw [rdGood1 hT (by omega)]
  rintro _ _ ⟨rfl, rfl⟩ -
  simp (config := {maxSteps := 3000000}) only [go_sem, Nat.reduceEqDiff, Nat.reduceAdd, Nat.reduceLT, Nat.reduceLeDiff, ↓reduceIte]
  intro d hd
  obtain ⟨hd1, hcd, hbd⟩ : st.sz ≤ d ∧ c < d ∧ b < d := by omega
  clear hd
  refine Cal.mk (U16_v (by repeat (first | exact put_box_same | rw [put_box_ne (by omega)])) (by rw [hlT]; omega) (hB.take _)) ?_
  rw [rdGood2 hT (by omega)]
  rintro _ _ ⟨rfl, rfl⟩ -
  simp (config := {maxSteps := 3000000}) only [go_sem, Nat.reduceEqDiff, Nat.reduceAdd, ↓reduceIte]
  refine Cal.mk (U16_v (by repeat (first | exact put_box_same | rw [put_box_ne (by omega)])) (by rw [hlT]; omega) (hB.take _)) ?_
  rw [rdGood2 hT (by omega)]
  rintro _ _ ⟨rfl, rfl⟩ -
  simp (config := {maxSteps := 3000000}) only [go_sem, Nat.reduceEqDiff, Nat.reduceAdd, ↓reduceIte]
  refine Cal.mk (U16_v (by repeat (first | exact put_box_same | rw [put_box_ne (by omega)])) (by rw [hlT]; omega) (hB.take _)) ?_
  rw [rdGood2 hT (by omega)]
  rintro _ _ ⟨rfl, rfl⟩ -
  simp (config := {maxSteps := 3000000}) only [go_sem, Nat.reduceEqDiff, Nat.reduceAdd, Nat.reduceLT, Nat.reduceLeDiff, ↓reduceIte, put_box_ne (Nat.ne_of_gt hbd)]
  refine Cal.mk (U8_v (by repeat (first | exact put_box_same | rw [put_box_ne (by omega)])) (by rw [hlT]; omega) (hB.take _)) ?_
  rw [rdGood1 hT (by omega)]
  rintro _ _ ⟨rfl, rfl⟩ -
  simp (config := {maxSteps := 3000000}) only [go_sem, Nat.reduceEqDiff, Nat.reduceAdd, ↓reduceIte]
  refine Cal.mk (U8_v (by repeat (first | exact put_box_same | rw [put_box_ne (by omega)])) (by rw [hlT]; omega) (hB.take _)) ?_
  rw [rdGood1 hT (by omega)]
  rintro _ _ ⟨rfl, rfl⟩ -
  simp (config := {maxSteps := 3000000}) only [go_sem, Nat.reduceEqDiff, Nat.reduceAdd, Nat.reduceLT, Nat.reduceLeDiff, ↓reduceIte, put_box_ne (Nat.ne_of_gt hbd)]
  refine Cal.mk (U16_v (by repeat (first | exact put_box_same | rw [put_box_ne (by omega)])) (by rw [hlT]; omega) (hB.take _)) ?_
  rw [rdGood2 hT (by omega)]
  rintro _ _ ⟨rfl, rfl⟩ -
  simp (config := {maxSteps := 3000000}) only [go_sem, Nat.reduceEqDiff, Nat.reduceAdd, ↓reduceIte]
  refine Cal.mk (U32_v (by repeat (first | exact put_box_same | rw [put_box_ne (by omega)])) (by rw [hlT]; omega) (hB.take _)) ?_
  rw [rdGood4 hT (by omega)]
  rintro _ _ ⟨rfl, rfl⟩ -
  simp (config := {maxSteps := 3000000}) only [go_sem, Nat.reduceEqDiff, Nat.reduceAdd, ↓reduceIte]
  refine Cal.mk (U32_v (by repeat (first | exact put_box_same | rw [put_box_ne (by omega)])) (by rw [hlT]; omega) (hB.take _)) ?_
  rw [rdGood4 hT (by omega)]
  rintro _ _ ⟨rfl, rfl⟩ -
  simp (config := {maxSteps := 3000000}) only [go_sem, Nat.reduceEqDiff, Nat.reduceAdd, Nat.reduceLT, Nat.reduceLeDiff, Int.reduceNeg, ↓reduceIte, put_box_ne (Nat.ne_of_gt hbd)]
  repeat (apply And.intro; focus (first | omega | (simp; done)))
  refine Cal.mk (Take_v (by repeat (first | exact put_box_same | rw [put_box_ne (by omega)])) (by rw [hlT]; omega) (by rw [hlT]; omega) _) ?_
  rw [tkGood hT (by omega) (by omega)]
  rintro _ _ ⟨rfl, rfl⟩ -
  rw [show (20 + (H - 20).toNat : Nat) = H.toNat by omega]
  simp (config := {maxSteps := 3000000}) only [go_sem, Nat.reduceEqDiff, Nat.reduceAdd, Nat.reduceLT, Nat.reduceLeDiff, ↓reduceIte, put_box_ne (Nat.ne_of_gt hbd)]
  refine Cal.mk (Rest_v (by repeat (first | exact put_box_same | rw [put_box_ne (by omega)])) (by rw [hlT]; omega) (by rw [hlT]; omega)) ?_
  rw [hlT, tkGood hT (by omega) (by omega)]
  rintro _ _ ⟨rfl, rfl⟩ -
  simp (config := {maxSteps := 3000000}) only [go_sem, Nat.reduceEqDiff, Nat.reduceAdd, Nat.reduceLT, Nat.reduceLeDiff, ↓reduceIte, put_box_ne (Nat.ne_of_lt hcb), put_box_ne (Nat.ne_of_lt hcd), put_box_ne (Nat.ne_of_gt hbd)]
  have f1 : (H - 20).toNat = H.toNat - 20 := by omega
  have f2 : ((T' : Int) - (H.toNat : Int)).toNat = T' - H.toNat := by omega
  exact ⟨_, _, Wk.refl _, (by repeat (first | exact hwf.weak | refine weak_put ?_ (by assumption))), ⟨.no, .no, by rw [hE, hD]; simp only [ipX, DG.v, hHH, hTT, Int.toNat_natCast, f1, f2]⟩, rfl⟩
end
end
section
open Go

section
variable {tk tk' : Tk} {st : St} {L : List Int}
theorem dg0_ok : dg0.Ok := ⟨by decide, by decide, by decide, by decide, by decide, by decide, by decide, (fun _ hx => nomatch hx), (fun _ hx => nomatch hx)⟩
theorem ipB_dg0 : ipB dg0 = [69, 0, 0, 20, 0, 0, 0, 0, 0, 0, 186, 235, 0, 0, 0, 0, 0, 0, 0, 0] := by decide
end
end
section
open Go

theorem nrm_back {S : Int} (h : 0 ≤ S) : nrm (S + (65535 - nrm S)) = 65535 := by
  unfold nrm
  split <;> split <;> omega
theorem sumP_set {L : List Int} {i : Nat} (hi : i < L.length) (z : Int) : ∀ n, sumP (L.set i z) n = sumP L n + (if i < n then (if i % 2 = 1 then z - L.getD i 0 else 256 * (z - L.getD i 0)) else 0)
  | 0 => by simp [sumP]
  | n + 1 => by
    have ih := sumP_set hi z n
    have hg : (L.set i z).getD n 0 = if i = n then z else L.getD n 0 := by
      rw [List.getD_eq_getElem?_getD, List.getElem?_set]
      split
      · rename_i e; subst e; simp []
      · rw [List.getD_eq_getElem?_getD]
    unfold sumP
    rw [ih, hg]
    by_cases e : i = n
    · subst e
      rw [if_pos rfl]
      repeat' split
      all_goals omega
    · rw [if_neg e]
      repeat' split
      all_goals omega
/-- Where two bytes are set that make a word. -/
theorem sumP_set2 {L : List Int} {i : Nat} (hi : i + 1 < L.length) (he : i % 2 = 0) {c : Int} : sumP ((L.set i (c / 256)).set (i + 1) (c % 256)) L.length = sumP L L.length + c - (256 * L.getD i 0 + L.getD (i + 1) 0) := by
  have : (L.set i (c / 256)).getD (i + 1) 0 = L.getD (i + 1) 0 := by
    rw [List.getD_eq_getElem?_getD, List.getElem?_set, if_neg (by omega), List.getD_eq_getElem?_getD]
  rw [sumP_set (by simpa using hi), sumP_set (by omega), this]
  repeat' split
  all_goals omega
theorem ckS_pre {d : DG} (hd : d.Ok) (hf : ipFits d) : ckS (ipPre d (ckS (ipPre d 0))) = 0 := by
  have hB := ipPre_isB hd (c := 0) (by omega) (by omega) hf
  have h0 := (sumP_range hB (ipPre d 0).length).1
  have hc : ckS (ipPre d 0) = 65535 - nrm (sumP (ipPre d 0) (ipPre d 0).length) := rfl
  have hl := ipPre_len d 0
  have hs := sumP_set2 (L := ipPre d 0) (i := 10) (c := ckS (ipPre d 0)) (by omega) (by omega)
  have g10 : (ipPre d 0).getD 10 0 = 0 := by simp [ipPre, beL2, beL4]
  have g11 : (ipPre d 0).getD 11 0 = 0 := by simp [ipPre, beL2, beL4]
  rw [g10, g11, ipPre_set] at hs
  generalize ckS (ipPre d 0) = c at *
  unfold ckS
  rw [ipPre_len, ← hl, hs, hc, show sumP (ipPre d 0) (ipPre d 0).length + (65535 - nrm (sumP (ipPre d 0) (ipPre d 0).length)) - (256 * 0 + 0) = sumP (ipPre d 0) (ipPre d 0).length + (65535 - nrm (sumP (ipPre d 0) (ipPre d 0).length)) by omega, nrm_back h0]
  rfl
theorem ip_back {d : DG} (hd : d.Ok) (hf : ipFits d) (E : List Int) : ipE (ipB d ++ E) = 0 ∧ ipD (ipB d ++ E) = d := by
  have hck := ckS_pre hd hf
  have hcr := ckS_range (ipPre_isB hd (c := 0) (by omega) (by omega) hf)
  obtain ⟨f1, f2, f3⟩ := hf
  have hL : ipB d ++ E = ipPre d (ckS (ipPre d 0)) ++ (d.D ++ E) := by simp [ipB]
  have hlen : (ipB d ++ E).length = 20 + d.O.length + (d.D.length + E.length) := by rw [hL, List.length_append, ipPre_len, List.length_append]
  rw [hL] at hlen ⊢
  generalize ckS (ipPre d 0) = c at *
  have htk : (ipPre d c ++ (d.D ++ E)).take (20 + d.O.length) = ipPre d c := by
    rw [List.take_append_of_le_length (by rw [ipPre_len]; omega), List.take_of_length_le (by rw [ipPre_len]; omega)]
  have hdr : (ipPre d c ++ (d.D ++ E)).drop (20 + d.O.length) = d.D ++ E := by
    have := ipPre_len d c
    rw [← this, List.drop_left]
  have hO : (ipPre d c ++ (d.D ++ E)).drop 20 = d.O ++ (d.D ++ E) := by simp [ipPre, beL2, beL4]
  have n0 : ipN (ipPre d c ++ (d.D ++ E)) 0 1 = 64 + (5 + (d.O.length : Int) / 4) := by simp [ipN, ipPre, numL]
  have n1 : ipN (ipPre d c ++ (d.D ++ E)) 1 1 = d.tos := by simp [ipN, ipPre, numL]
  have n8 : ipN (ipPre d c ++ (d.D ++ E)) 8 1 = d.ttl := by simp [ipN, ipPre, beL2, numL]
  have n9 : ipN (ipPre d c ++ (d.D ++ E)) 9 1 = d.proto := by simp [ipN, ipPre, beL2, numL]
  have k1 := hd.id; have k2 := hd.frag; have k3 := hd.src; have k4 := hd.dst
  have n2 : ipN (ipPre d c ++ (d.D ++ E)) 2 2 = 20 + d.O.length + d.D.length := by
    simp [ipN, ipPre, beL2, numL]; omega
  have n4 : ipN (ipPre d c ++ (d.D ++ E)) 4 2 = d.id := by simp [ipN, ipPre, beL2, numL]; omega
  have n6 : ipN (ipPre d c ++ (d.D ++ E)) 6 2 = d.frag := by simp [ipN, ipPre, beL2, numL]; omega
  have n12 : ipN (ipPre d c ++ (d.D ++ E)) 12 4 = d.src := by simp [ipN, ipPre, beL2, beL4, numL]; omega
  have n16 : ipN (ipPre d c ++ (d.D ++ E)) 16 4 = d.dst := by simp [ipN, ipPre, beL2, beL4, numL]; omega
  have hH : ipH (ipPre d c ++ (d.D ++ E)) = 20 + d.O.length := by unfold ipH; rw [n0]; omega
  have hT : ipT (ipPre d c ++ (d.D ++ E)) = 20 + d.O.length + d.D.length := n2
  have hHn : (ipH (ipPre d c ++ (d.D ++ E))).toNat = 20 + d.O.length := by rw [hH]; omega
  have hE : ipE (ipPre d c ++ (d.D ++ E)) = 0 := by
    unfold ipE
    rw [if_neg (by omega), if_neg (by rw [n0, hH, hT]; omega), if_neg (by rw [hT, hlen]; omega), hHn, htk, if_neg (by rw [hck]; simp)]
  refine ⟨hE, ?_⟩
  unfold ipD
  rw [if_pos hE]
  unfold ipX
  rw [n1, n8, n9, n4, n6, n12, n16, hHn, hT, hO, hdr]
  obtain ⟨tos, ttl, proto, id, frag, src, dst, O, D⟩ := d
  simp only [DG.mk.injEq, true_and]
  constructor
  · rw [show 20 + O.length - 20 = O.length by omega, List.take_left]
  · rw [show (20 + (O.length : Int) + D.length).toNat - (20 + O.length) = D.length by omega, List.take_left]
end
section
open Go

/-- Rows of bytes. -/
def rws (R : List (List Int)) : List V := R.map fun L => .sl .no (bs L)
theorem rws_len (R : List (List Int)) : (rws R).length = R.length := by simp [rws]
theorem rws_get (R : List (List Int)) (i : Nat) : (rws R)[i]? = (R[i]?).map fun L => .sl .no (bs L) := by simp [rws]
theorem rws_append (R Q : List (List Int)) : rws R ++ rws Q = rws (R ++ Q) := by simp [rws]
theorem allSz_rws (R : List (List Int)) : allSz 1 (rws R) := fun d hd => by
  obtain ⟨x, _, rfl⟩ := List.mem_map.1 hd; rfl
/-- The piece that begins at a place. -/
def pieceD (d : DG) (step at_ : Nat) : DG := { d with frag := d.frag + at_ / 8 + (if at_ + step < d.D.length then 8192 else 0), D := (d.D.drop at_).take step }
def stepOf (d : DG) (most : Int) : Nat := ((most - 20 - d.O.length) / 8 * 8).toNat
def piecesTo (d : DG) (step n : Nat) : List (List Int) := (List.range n).map fun j => ipB (pieceD d step (j * step))
def nPieces (d : DG) (step : Nat) : Nat := (d.D.length + step - 1) / step
def fragE (L : List Int) (most : Int) : Int :=
  if ipE L ≠ 0 ∨ (ipD L).frag % 16384 ≠ 0 then 11
  else if 20 + ((ipD L).O.length : Int) + (ipD L).D.length ≤ most then 0
  else if 16384 ≤ (ipD L).frag % 32768 then 73
  else if most < 28 + ((ipD L).O.length : Int) then 12
  else 0
def fragR (L : List Int) (most : Int) : List (List Int) :=
  if ipE L ≠ 0 ∨ (ipD L).frag % 16384 ≠ 0 then []
  else if 20 + ((ipD L).O.length : Int) + (ipD L).D.length ≤ most then [L.take (20 + (ipD L).O.length + (ipD L).D.length)]
  else if 16384 ≤ (ipD L).frag % 32768 then []
  else if most < 28 + ((ipD L).O.length : Int) then []
  else piecesTo (ipD L) (stepOf (ipD L) most) (nPieces (ipD L) (stepOf (ipD L) most))
theorem piecesTo_succ (d : DG) (step n : Nat) : piecesTo d step (n + 1) = piecesTo d step n ++ [ipB (pieceD d step (n * step))] := by
  simp [piecesTo, List.range_succ]
theorem ipX_ok {L : List Int} (hB : IsB L) : (ipX L).Ok := by
  have h1 := fun k => num1 hB k
  have h2 := fun k => num2 hB k
  have h4 := fun k => num4 hB k
  exact ⟨h1 1, h1 8, h1 9, h2 4, h2 6, h4 12, h4 16, (hB.drop _).take _, (hB.drop _).take _⟩
/-- What a datagram that bytes are keeps. -/
structure DG.Lim (d : DG) (n : Nat) : Prop where
  ok : d.Ok
  O40 : d.O.length ≤ 40
  O4 : d.O.length % 4 = 0
  len : 20 + d.O.length + d.D.length ≤ n
theorem ipD_lim {L : List Int} (hB : IsB L) (h : ipE L = 0) : (ipD L).Lim L.length := by
  have hh := h
  unfold ipE at hh
  have hb := num1 hB 0
  split at hh
  · cases hh
  split at hh
  · cases hh
  split at hh
  · cases hh
  rename_i c1 c2 c3
  have hH : ipH L = 4 * (ipN L 0 1 % 16) := rfl
  unfold ipD
  rw [if_pos h]
  refine ⟨ipX_ok hB, ?_, ?_, ?_⟩
  · simp only [ipX, List.length_take, List.length_drop]; omega
  · simp only [ipX, List.length_take, List.length_drop]; omega
  · simp only [ipX, List.length_take, List.length_drop]; omega
theorem piece_ok {d : DG} {n step at_ : Nat} (h : d.Lim n) (hn : n ≤ 2000) (hf : d.frag % 32768 = 0) (ha : at_ < d.D.length) : (pieceD d step at_).Ok ∧ ipFits (pieceD d step at_) := by
  have k := h.ok
  have := h.len
  have := k.frag
  refine ⟨⟨k.tos, k.ttl, k.proto, k.id, ?_, k.src, k.dst, k.O, (k.D.drop _).take _⟩, h.O40, h.O4, ?_⟩
  · simp only [pieceD]; split <;> omega
  · simp only [pieceD, List.length_take, List.length_drop]; omega
theorem nPieces_at {d : DG} {step j : Nat} (hs : 0 < step) : j * step < d.D.length ↔ j < nPieces d step := by
  unfold nPieces
  rw [Nat.lt_div_iff_mul_lt hs]
  omega
end
section
open Go

theorem own_nil {size : Nat} {st : St} : Own size st (.sl .nil []) [] := .inl ⟨rfl, rfl⟩
theorem own_sl {size : Nat} {st : St} {v : V} {l : List V} (h : Own size st v l) : ∃ tk, v = .sl tk l := by
  rcases h with ⟨rfl, rfl⟩ | ⟨g, rfl, _⟩
  · exact ⟨_, rfl⟩
  · exact ⟨_, rfl⟩
theorem own_put {size : Nat} {st : St} {v : V} {l : List V} (h : Own size st v l) {b : Nat} {cs : List V} : Own size (st.put b cs) v l := by
  rcases h with h | ⟨g, h1, h2, h3⟩
  · exact .inl h
  · exact .inr ⟨g, h1, h2, by simp only [put_sz]; omega⟩
theorem weak_tr {a b c : St} (h : a.weak b) (k : b.weak c) : a.weak c :=
  ⟨fun b cs hb => ⟨(k.box b cs (h.box b cs hb).1).1, (h.box b cs hb).2⟩, fun g m hg => ⟨(k.own g m (h.own g m hg).1).1, (h.own g m hg).2⟩, Nat.le_trans h.sz k.sz⟩
theorem app_keeps {s s' : St} {x r : V} (h : AppSt s x s' r) {t : St} (hw : t.weak s) (hx : ∀ g k l, x = .sl (.own g k) l → t.sz ≤ g) : t.weak s' :=
  ⟨fun b cs hb => ⟨by rw [h.box]; exact (hw.box b cs hb).1, (hw.box b cs hb).2⟩, fun g m hg => ⟨h.own g m (hw.own g m hg).1 (fun l k e => by have := hx g k l e; have := (hw.own g m hg).2; omega), (hw.own g m hg).2⟩, Nat.le_trans hw.sz h.sz⟩
theorem app_fresh {s s' : St} {x r : V} (h : AppSt s x s' r) {t : St} (hs : t.sz ≤ s.sz) (hx : ∀ g k l, x = .sl (.own g k) l → t.sz ≤ g) : ∀ g k l, r = .sl (.own g k) l → t.sz ≤ g := fun g k l e => by
  rcases h.tok g k l e with ⟨l', h1⟩ | h1
  · exact hx g k l' h1
  · omega
/-- A row of the call's own. -/
structure RO (size : Nat) (base s : St) (r : V) (l : List V) : Prop where
  own : Own size s r l
  weak : base.weak s
  lt : s.Lt
  tok : ∀ g k l', r = .sl (.own g k) l' → base.sz ≤ g
variable {size : Nat} {base s s' : St} {r x : V} {l l' : List V}
theorem RO.nil (hw : base.weak s) (hl : s.Lt) : RO size base s (.sl .nil []) [] := ⟨own_nil, hw, hl, fun g k l e => by cases e⟩
theorem RO.put (h : RO size base s r l) {c : Nat} {cs : List V} (hc : base.sz ≤ c) : RO size base (s.put c cs) r l :=
  ⟨own_put h.own, weak_put h.weak hc, h.lt.put, h.tok⟩
theorem RO.app (h : RO size base s x l) (ho : Own size s' r l') (k : AppSt s x s' r) : RO size base s' r l' :=
  ⟨ho, app_keeps k h.weak h.tok, h.lt.app k, app_fresh k h.weak.sz h.tok⟩
theorem RO.use (hw : base.weak s) (hl : s.Lt) {g : Nat} (hg : s.sz ≤ g) (cs : List V) : RO size base (s.use g cs.length) (.sl (.own g size) cs) cs :=
  ⟨.inr ⟨g, rfl, by simp [St.use], by simp only [use_sz]; omega⟩, weak_use hw (by have := hw.sz; omega), hl.use, fun g' k l e => by cases e; have := hw.sz; omega⟩
theorem RO.sl (h : RO size base s r l) : ∃ tk, r = .sl tk l := own_sl h.own
theorem RO.use0' {size : Nat} {st s : St} (hw : st.weak s) (hl : s.Lt) {g : Nat} (hg : s.sz ≤ g) : RO size st (s.use g 0) (.sl (.own g size) []) [] := RO.use (cs := []) hw hl hg
theorem Wk.tupT {a a' : V} {x : Value} (h : Wk a a') : Wk (.tup [a, .sc x]) (.tup [a', .sc x]) := fun G v hv => by
  cases hv with
  | tup _ vs hl hg =>
    refine .tup _ vs hl fun i c u hc hu => ?_
    match i, hc with
    | 0, hc => simp at hc; subst hc; exact h G u (hg 0 a u rfl hu)
    | 1, hc => exact hg 1 c u hc hu
def ival (x : Int) : V := .sc (.int .i64 x)
end
section

section
variable {α : Type}
theorem set_perm_cons {x y : α} : ∀ {L : List α} {j : Nat}, L[j]? = some y → (y :: L.set j x).Perm (x :: L)
  | [], j, h => by simp at h
  | z :: L, 0, h => by
    simp at h
    subst h
    exact List.Perm.swap _ _ _
  | z :: L, j + 1, h => by
    have ih := set_perm_cons (x := x) (L := L) (j := j) (by simpa using h)
    simp only [List.set_cons_succ]
    exact (List.Perm.swap _ _ _).trans ((ih.cons z).trans (List.Perm.swap _ _ _))
theorem set2_perm {L : List α} {i j : Nat} {x y : α} (hi : L[i]? = some x) (hj : L[j]? = some y) : ((L.set i y).set j x).Perm L := by
  induction L generalizing i j with
  | nil => simp at hi
  | cons z L ih =>
    cases i with
    | zero =>
      simp at hi
      subst hi
      cases j with
      | zero => simp at hj; subst hj; simp
      | succ j =>
        simp only [List.set_cons_zero, List.set_cons_succ]
        exact set_perm_cons (by simpa using hj)
    | succ i =>
      cases j with
      | zero =>
        simp at hj
        subst hj
        simp only [List.set_cons_zero, List.set_cons_succ]
        exact set_perm_cons (by simpa using hi)
      | succ j =>
        simp only [List.set_cons_succ]
        exact (ih (by simpa using hi) (by simpa using hj)).cons z
/-- An order, by 'less'. -/
structure Ord' (lt : α → α → Bool) : Prop where
  asymm : ∀ {x y}, lt x y = true → lt y x = false
  trans : ∀ {x y z}, lt y x = false → lt z y = false → lt z x = false
theorem Ord'.irr {lt : α → α → Bool} (h : Ord' lt) (x : α) : lt x x = false := by
  cases e : lt x x with
  | false => rfl
  | true => have := h.asymm e; rw [e] at this; cases this
/-- Two lists of the same elements in order are one, where no two can't be told apart. -/
theorem srt_eq {lt : α → α → Bool} (O : Ord' lt) (hT : ∀ x y, lt x y = false → lt y x = false → x = y) : ∀ {L M : List α}, L.Perm M → L.Pairwise (fun x y => lt y x = false) → M.Pairwise (fun x y => lt y x = false) → L = M
  | [], M, hp, _, _ => by rw [hp.nil_eq]
  | x :: L, [], hp, _, _ => by have := hp.length_eq; simp at this
  | x :: L, y :: M, hp, h1, h2 => by
    rw [List.pairwise_cons] at h1 h2
    have exy : x = y := by
      have hx := hp.mem_iff.1 (List.mem_cons_self (a := x) (l := L))
      have hy := hp.mem_iff.2 (List.mem_cons_self (a := y) (l := M))
      rcases List.mem_cons.1 hx with e | hx
      · exact e
      · rcases List.mem_cons.1 hy with e | hy
        · exact e.symm
        · exact hT x y (h2.1 x hx) (h1.1 y hy)
    subst exy
    rw [srt_eq O hT (List.Perm.cons_inv hp) h1.2 h2.2]
end
section
variable {α : Type} [Inhabited α]
theorem bang_get {L : List α} {i : Nat} (h : i < L.length) : L[i]? = some L[i]! := by
  rw [List.getElem?_eq_getElem h, getElem!_pos L i h]
theorem bang_eq {L : List α} {i : Nat} {x : α} (h : L[i]? = some x) : L[i]! = x := by
  obtain ⟨h1, h2⟩ := List.getElem?_eq_some_iff.1 h
  rw [getElem!_pos L i h1]; exact h2
theorem ext_bang {L M : List α} (h : L.length = M.length) (he : ∀ i, i < L.length → L[i]! = M[i]!) : L = M := by
  refine List.ext_getElem h fun i h1 h2 => ?_
  have := he i h1
  rwa [getElem!_pos L i h1, getElem!_pos M i h2] at this
/-- Two elements exchanged. -/
def exch (L : List α) (i j : Nat) : List α := (L.set i L[j]!).set j L[i]!
theorem exch_len {L : List α} {i j : Nat} : (exch L i j).length = L.length := by simp [exch]
theorem exch_get {L : List α} {i j : Nat} (hi : i < L.length) (hj : j < L.length) (k : Nat) : (exch L i j)[k]! = if k = j then L[i]! else if k = i then L[j]! else L[k]! := by
  by_cases hk : k < L.length
  · rw [getElem!_pos (exch L i j) k (by rw [exch_len]; exact hk)]
    have e : (exch L i j)[k]'(by rw [exch_len]; exact hk) = if j = k then L[i]! else if i = k then L[j]! else L[k] := by
      unfold exch
      rw [List.getElem_set, List.getElem_set]
    rw [e, getElem!_pos L k hk]
    by_cases e1 : j = k
    · rw [if_pos e1, if_pos e1.symm]
    · rw [if_neg e1]
      by_cases e2 : i = k
      · rw [if_pos e2, if_neg (show ¬ k = j from fun h => e1 h.symm), if_pos e2.symm]
      · rw [if_neg e2, if_neg (show ¬ k = j from fun h => e1 h.symm), if_neg (show ¬ k = i from fun h => e2 h.symm)]
  · rw [if_neg (by omega), if_neg (by omega), getElem!_neg (exch L i j) k (by rw [exch_len]; exact hk), getElem!_neg L k hk]
theorem exch_perm {L : List α} {i j : Nat} (hi : i < L.length) (hj : j < L.length) : (exch L i j).Perm L := set2_perm (bang_get hi) (bang_get hj)
/-- The same elements, turned about from a to b alone. -/
structure Mix (a b : Nat) (L M : List α) : Prop where
  perm : M.Perm L
  out : ∀ k, k < a ∨ b ≤ k → M[k]! = L[k]!
theorem Mix.len {a b : Nat} {L M : List α} (h : Mix a b L M) : M.length = L.length := h.perm.length_eq
theorem Mix.refl {a b : Nat} {L : List α} : Mix a b L L := ⟨.refl _, fun _ _ => rfl⟩
theorem Mix.trans {a b : Nat} {L M N : List α} (h : Mix a b L M) (k : Mix a b M N) : Mix a b L N := ⟨k.perm.trans h.perm, fun i hi => (k.out i hi).trans (h.out i hi)⟩
theorem Mix.wide {a b a' b' : Nat} {L M : List α} (h : Mix a b L M) (h1 : a' ≤ a) (h2 : b ≤ b') : Mix a' b' L M := ⟨h.perm, fun k hk => h.out k (by omega)⟩
theorem Mix.exch {a b i j : Nat} {L M : List α} (h : Mix a b L M) (h1 : a ≤ i) (h2 : i < b) (h3 : a ≤ j) (h4 : j < b) (hb : b ≤ L.length) : Mix a b L (exch M i j) := by
  have hl := h.len
  refine ⟨(exch_perm (by omega) (by omega)).trans h.perm, fun k hk => ?_⟩
  rw [exch_get (by omega) (by omega), if_neg (by omega), if_neg (by omega)]
  exact h.out k hk
theorem Mix.mid {a b : Nat} {L M : List α} (h : Mix a b L M) (hab : a ≤ b) (hb : b ≤ L.length) : ((M.drop a).take (b - a)).Perm ((L.drop a).take (b - a)) := by
  have hl := h.len
  have split : ∀ X : List α, X = X.take a ++ ((X.drop a).take (b - a) ++ X.drop b) := fun X => by
    have h1 : (X.drop a).take (b - a) ++ X.drop b = X.drop a := by
      have : X.drop b = (X.drop a).drop (b - a) := by rw [List.drop_drop]; congr 1; omega
      rw [this, List.take_append_drop]
    rw [h1, List.take_append_drop]
  have h1 : M.take a = L.take a := by
    refine ext_bang (by simp [hl]) fun i hi => ?_
    simp at hi
    have := h.out i (by omega)
    rw [getElem!_pos (M.take a) i (by simp; omega), getElem!_pos (L.take a) i (by simp; omega)]
    rw [getElem!_pos M i (by omega), getElem!_pos L i (by omega)] at this
    simpa using this
  have h2 : M.drop b = L.drop b := by
    refine ext_bang (by simp [hl]) fun i hi => ?_
    simp at hi
    have := h.out (b + i) (by omega)
    rw [getElem!_pos (M.drop b) i (by simp; omega), getElem!_pos (L.drop b) i (by simp; omega)]
    rw [getElem!_pos M (b + i) (by omega), getElem!_pos L (b + i) (by omega)] at this
    simpa using this
  have hp := h.perm
  rw [split M, split L, h1, h2] at hp
  exact (List.perm_append_right_iff _).1 ((List.perm_append_left_iff _).1 hp)
theorem Mix.all {a b : Nat} {L M : List α} (h : Mix a b L M) (hb : b ≤ L.length) {Q : α → Prop} (hq : ∀ k, a ≤ k → k < b → Q L[k]!) : ∀ k, a ≤ k → k < b → Q M[k]! := fun k h1 h2 => by
  have hl := h.len
  have hp := h.mid (by omega) hb
  have hm : M[k]! ∈ (M.drop a).take (b - a) := by
    rw [getElem!_pos M k (by omega)]
    refine List.mem_iff_getElem.2 ⟨k - a, by simp; omega, ?_⟩
    simp only [List.getElem_take, List.getElem_drop]
    congr 1; omega
  have := hp.mem_iff.1 hm
  obtain ⟨i, hi, he⟩ := List.mem_iff_getElem.1 this
  simp at hi
  simp only [List.getElem_take, List.getElem_drop] at he
  rw [← he, ← getElem!_pos L (a + i) (by omega)]
  exact hq (a + i) (by omega) (by omega)
/-- In order from a to b. -/
def Srt (lt : α → α → Bool) (a b : Nat) (L : List α) : Prop := ∀ i j, a ≤ i → i < j → j < b → lt L[j]! L[i]! = false
variable {lt : α → α → Bool}
theorem Srt.one {a b : Nat} {L : List α} (h : b ≤ a + 1) : Srt lt a b L := fun i j h1 h2 h3 => by omega
/-- All but the element at j in order; what stands behind j is not less. -/
structure Ins (lt : α → α → Bool) (a i j : Nat) (L : List α) : Prop where
  ord : ∀ p q, a ≤ p → p < q → q ≤ i → p ≠ j → q ≠ j → lt L[q]! L[p]! = false
  up : ∀ q, j < q → q ≤ i → lt L[q]! L[j]! = false
theorem Ins.start {a i : Nat} {L : List α} (h : Srt lt a i L) : Ins lt a i i L := ⟨fun p q h1 h2 h3 h4 h5 => h p q h1 h2 (by omega), fun q h1 h2 => by omega⟩
theorem Ins.done (O : Ord' lt) {a i j : Nat} {L : List α} (h : Ins lt a i j L) (hj : j ≤ i) (hs : j = a ∨ (a < j ∧ lt L[j]! L[j - 1]! = false)) : Srt lt a (i + 1) L := fun p q h1 h2 h3 => by
  by_cases e1 : q = j
  · subst e1
    rcases hs with e | ⟨h4, h5⟩
    · omega
    · by_cases e2 : p = q - 1
      · subst e2; exact h5
      · exact O.trans (h.ord p (q - 1) h1 (by omega) (by omega) (by omega) (by omega)) h5
  · by_cases e2 : p = j
    · subst e2; exact h.up q h2 (by omega)
    · exact h.ord p q h1 h2 (by omega) e2 e1
theorem Ins.step (O : Ord' lt) {a i j : Nat} {L : List α} (h : Ins lt a i j L) (hj : a < j) (hji : j ≤ i) (hi : i < L.length) (hl : lt L[j]! L[j - 1]! = true) : Ins lt a i (j - 1) (exch L j (j - 1)) := by
  have g := fun k => exch_get (L := L) (i := j) (j := j - 1) (by omega) (by omega) k
  refine ⟨fun p q h1 h2 h3 h4 h5 => ?_, fun q h1 h2 => ?_⟩
  · rw [g q, g p, if_neg h5, if_neg h4]
    by_cases e1 : q = j
    · rw [if_pos e1, if_neg (by omega)]
      exact h.ord p (j - 1) h1 (by omega) (by omega) (by omega) (by omega)
    · rw [if_neg e1]
      by_cases e2 : p = j
      · rw [if_pos e2]; exact h.ord (j - 1) q (by omega) (by omega) h3 (by omega) e1
      · rw [if_neg e2]; exact h.ord p q h1 h2 h3 e2 e1
  · rw [g q, g (j - 1), if_neg (by omega), if_pos rfl]
    by_cases e1 : q = j
    · rw [if_pos e1]; exact O.asymm hl
    · rw [if_neg e1]; exact h.up q (by omega) h2
/-! ### Heaps -/
def kid (r c : Nat) : Prop := c = 2 * r + 1 ∨ c = 2 * r + 2
def Heap (lt : α → α → Bool) (f lo hi : Nat) (L : List α) : Prop := ∀ r c, lo ≤ r → kid r c → c < hi → lt L[f + r]! L[f + c]! = false
structure Sift (lt : α → α → Bool) (f lo hi root : Nat) (L : List α) : Prop where
  own : ∀ r c, lo ≤ r → r ≠ root → kid r c → c < hi → lt L[f + r]! L[f + c]! = false
  up : ∀ p c, lo ≤ p → kid p root → kid root c → c < hi → lt L[f + p]! L[f + c]! = false
theorem Sift.start {f lo hi : Nat} {L : List α} (h : Heap lt f (lo + 1) hi L) : Sift lt f lo hi lo L :=
  ⟨fun r c h1 h2 h3 h4 => h r c (by omega) h3 h4, fun p c h1 h2 h3 h4 => by rcases h2 with h2 | h2 <;> omega⟩
theorem Sift.done {f lo hi root : Nat} {L : List α} (h : Sift lt f lo hi root L) (hr : ∀ c, kid root c → c < hi → lt L[f + root]! L[f + c]! = false) : Heap lt f lo hi L := fun r c h1 h2 h3 => by
  by_cases e : r = root
  · subst e; exact hr c h2 h3
  · exact h.own r c h1 e h2 h3
theorem Sift.step (O : Ord' lt) {f lo hi root ch : Nat} {L : List α} (h : Sift lt f lo hi root L) (hk : kid root ch) (hc : ch < hi) (hlo : lo ≤ root) (hL : f + hi ≤ L.length) (hbig : ∀ c, kid root c → c < hi → lt L[f + ch]! L[f + c]! = false) (hl : lt L[f + root]! L[f + ch]! = true) :
    Sift lt f lo hi ch (exch L (f + root) (f + ch)) := by
  have hrc : root < ch := by rcases hk with h | h <;> omega
  have g := fun k => exch_get (L := L) (i := f + root) (j := f + ch) (by omega) (by omega) k
  refine ⟨fun r c h1 h2 h3 h4 => ?_, fun p c h1 h2 h3 h4 => ?_⟩
  · have hrc' : r < c := by rcases h3 with h | h <;> omega
    rw [g (f + r), g (f + c), if_neg (by omega)]
    by_cases e1 : r = root
    · subst e1
      rw [if_pos rfl]
      by_cases e2 : c = ch
      · subst e2; rw [if_pos rfl]; exact O.asymm hl
      · rw [if_neg (by omega), if_neg (by omega)]; exact hbig c h3 h4
    · rw [if_neg (by omega)]
      have e2 : c ≠ ch := fun e => by subst e; rcases hk with h | h <;> rcases h3 with h' | h' <;> omega
      rw [if_neg (by omega)]
      by_cases e3 : c = root
      · subst e3
        rw [if_pos rfl]
        exact h.up r ch h1 h3 hk hc
      · rw [if_neg (by omega)]; exact h.own r c h1 e1 h3 h4
  · have e : p = root := by rcases hk with h | h <;> rcases h2 with h' | h' <;> omega
    have h5 : ch < c := by rcases h3 with h | h <;> omega
    subst e
    rw [g (f + p), g (f + c), if_neg (by omega), if_pos rfl, if_neg (by omega), if_neg (by omega)]
    exact h.own ch c (by omega) (by omega) h3 h4
theorem Heap.top (O : Ord' lt) {f hi : Nat} {L : List α} (h : Heap lt f 0 hi L) : ∀ k, k < hi → lt L[f]! L[f + k]! = false := by
  intro k
  induction k using Nat.strongRecOn with
  | _ k ih =>
    intro hk
    by_cases e : k = 0
    · subst e; exact O.irr _
    · have hp : kid ((k - 1) / 2) k := by unfold kid; omega
      have h1 := ih ((k - 1) / 2) (by omega) (by omega)
      exact O.trans (h _ _ (by omega) hp hk) h1
/-! ### Fences: what lies outside the range that is left is where it belongs -/
structure Fence (lt : α → α → Bool) (a b x y : Nat) (L : List α) : Prop where
  lo : ∀ i j, a ≤ i → i < x → i < j → j < b → lt L[j]! L[i]! = false
  hi : ∀ i j, a ≤ j → j < i → y ≤ i → i < b → lt L[i]! L[j]! = false
theorem Fence.nil {a b : Nat} {L : List α} : Fence lt a b a b L := ⟨fun i j h1 h2 => by omega, fun i j h1 h2 h3 h4 => by omega⟩
theorem Fence.mix {a b x y : Nat} {L M : List α} (h : Fence lt a b x y L) (hm : Mix x y L M) (hax : a ≤ x) (hyb : y ≤ b) (hb : b ≤ L.length) : Fence lt a b x y M := by
  refine ⟨fun i j h1 h2 h3 h4 => ?_, fun i j h1 h2 h3 h4 => ?_⟩
  · rw [hm.out i (by omega)]
    by_cases hj : j < x ∨ y ≤ j
    · rw [hm.out j hj]; exact h.lo i j h1 h2 h3 h4
    · exact hm.all (by omega) (Q := fun v => lt v L[i]! = false) (fun k k1 k2 => h.lo i k h1 h2 (by omega) (by omega)) j (by omega) (by omega)
  · rw [hm.out i (by omega)]
    by_cases hj : j < x ∨ y ≤ j
    · rw [hm.out j hj]; exact h.hi i j h1 h2 h3 h4
    · exact hm.all (by omega) (Q := fun v => lt L[i]! v = false) (fun k k1 k2 => h.hi i k (by omega) (by omega) h3 h4) j (by omega) (by omega)
theorem Fence.done {a b x y : Nat} {L : List α} (h : Fence lt a b x y L) (hs : Srt lt x y L) : Srt lt a b L := fun i j h1 h2 h3 => by
  by_cases e1 : i < x
  · exact h.lo i j h1 e1 h2 h3
  · by_cases e2 : y ≤ j
    · exact h.hi j i h1 h2 e2 h3
    · exact hs i j (by omega) h2 (by omega)
/-- The pivot in its place, what lies left of it in order: go on behind it. -/
theorem Fence.left (O : Ord' lt) {a b x y m : Nat} {L : List α} (h : Fence lt a b x y L) (hax : a ≤ x) (hyb : y ≤ b) (hxm : x ≤ m) (hmy : m < y) (h1 : ∀ k, x ≤ k → k < m → lt L[m]! L[k]! = false) (h2 : ∀ k, m < k → k < y → lt L[k]! L[m]! = false) (hs : Srt lt x m L) : Fence lt a b (m + 1) y L := by
  refine ⟨fun i j k1 k2 k3 k4 => ?_, h.hi⟩
  by_cases e1 : i < x
  · exact h.lo i j k1 e1 k3 k4
  · by_cases e2 : y ≤ j
    · exact h.hi j i k1 k3 e2 k4
    · by_cases e3 : i = m
      · subst e3; exact h2 j k3 (by omega)
      · by_cases e4 : j < m
        · exact hs i j (by omega) k3 e4
        · by_cases e5 : j = m
          · subst e5; exact h1 i (by omega) k3
          · exact O.trans (h1 i (by omega) (by omega)) (h2 j (by omega) (by omega))
theorem Fence.right (O : Ord' lt) {a b x y m : Nat} {L : List α} (h : Fence lt a b x y L) (hax : a ≤ x) (hyb : y ≤ b) (hxm : x ≤ m) (hmy : m < y) (h1 : ∀ k, x ≤ k → k < m → lt L[m]! L[k]! = false) (h2 : ∀ k, m < k → k < y → lt L[k]! L[m]! = false) (hs : Srt lt (m + 1) y L) : Fence lt a b x m L := by
  refine ⟨h.lo, fun i j k1 k2 k3 k4 => ?_⟩
  by_cases e1 : y ≤ i
  · exact h.hi i j k1 k2 e1 k4
  · by_cases e2 : j < x
    · exact h.lo j i k1 e2 k2 k4
    · by_cases e3 : i = m
      · subst e3; exact h1 j (by omega) k2
      · by_cases e4 : m < j
        · exact hs j i (by omega) k2 (by omega)
        · by_cases e5 : j = m
          · subst e5; exact h2 i (by omega) (by omega)
          · exact O.trans (h1 j (by omega) (by omega)) (h2 i (by omega) (by omega))
/-- The least ones in front: go on behind them. -/
theorem Fence.least {a b x y m : Nat} {L : List α} (h : Fence lt a b x y L) (hax : a ≤ x) (hyb : y ≤ b) (hxm : x ≤ m) (hmy : m ≤ y) (h1 : ∀ k j, x ≤ k → k < m → x ≤ j → j < y → lt L[j]! L[k]! = false) : Fence lt a b m y L := by
  refine ⟨fun i j k1 k2 k3 k4 => ?_, h.hi⟩
  by_cases e1 : i < x
  · exact h.lo i j k1 e1 k3 k4
  · by_cases e2 : y ≤ j
    · exact h.hi j i k1 k3 e2 k4
    · exact h1 i j (by omega) k2 (by omega) (by omega)
/-- No element from a to b is less than the one ahead of a. -/
def LB (lt : α → α → Bool) (a b : Nat) (L : List α) : Prop := 0 < a → ∀ k, a ≤ k → k < b → lt L[k]! L[a - 1]! = false
theorem LB.mix {a b : Nat} {L M : List α} (h : LB lt a b L) (hm : Mix a b L M) (hb : b ≤ L.length) : LB lt a b M := fun h0 => by
  rw [hm.out (a - 1) (by omega)]
  exact hm.all hb (Q := fun v => lt v L[a - 1]! = false) (h h0)
theorem Fence.lb {a b x y : Nat} {L : List α} (h : Fence lt a b x y L) (hl : LB lt a b L) (hax : a ≤ x) (hyb : y ≤ b) : LB lt x y L := fun h0 k h1 h2 => by
  by_cases e : x = a
  · subst e; exact hl h0 k h1 (by omega)
  · exact h.lo (x - 1) k (by omega) (by omega) (by omega) (by omega)
theorem Srt.pw {L : List α} (h : Srt lt 0 L.length L) : L.Pairwise (fun x y => lt y x = false) := by
  rw [List.pairwise_iff_getElem]
  intro i j hi hj hij
  have := h i j (by omega) hij hj
  rwa [getElem!_pos L j hj, getElem!_pos L i hi] at this
end
end
section
open Go

def CIns : FC := ⟨53, .seq (.reg [⟨some 10, .mv (.t 1), none, []⟩, ⟨some 11, .bin .add (.t 10) (.c (.sc (.int .i64 1))), none, []⟩, ⟨some 8, .mv (.t 11), none, []⟩]) (.blk 0 (.loop (.seq (.seq (.reg [⟨some 12, .mv (.t 8), none, []⟩, ⟨some 13, .mv (.t 2), none, []⟩, ⟨some 14, .bin .lss (.t 12) (.t 13), none, []⟩]) (.cond (.t 14) .skip (.exit 0))) (.seq (.blk 1 (.seq (.reg [⟨some 17, .mv (.t 8), none, []⟩, ⟨some 9, .mv (.t 17), none, []⟩]) (.blk 2 (.loop (.seq (.seq (.reg [⟨some 18, .mv (.t 9), none, []⟩, ⟨some 19, .mv (.t 1), none, []⟩, ⟨some 20, .bin .gtr (.t 18) (.t 19), none, []⟩, ⟨some 21, .mv (.t 20), none, []⟩, ⟨some 22, .mv (.t 3), some (21, true), []⟩, ⟨some 23, .mv (.t 0), some (21, true), []⟩, ⟨some 24, .mv (.t 9), some (21, true), []⟩, ⟨some 25, .ix 2 (.t 23) (.t 24), some (21, true), []⟩, ⟨some 26, .load (some 2) (.t 25), some (21, true), []⟩, ⟨some 27, .mv (.t 0), some (21, true), []⟩, ⟨some 28, .mv (.t 9), some (21, true), []⟩, ⟨some 29, .bin .sub (.t 28) (.c (.sc (.int .i64 1))), some (21, true), []⟩, ⟨some 30, .ix 2 (.t 27) (.t 29), some (21, true), []⟩, ⟨some 31, .load (some 2) (.t 30), some (21, true), []⟩, ⟨some 32, .calv (.t 22) [.t 26, .t 31], some (21, true), []⟩, ⟨some 33, .bin .lss (.t 32) (.c (.sc (.int .i64 0))), some (21, true), []⟩, ⟨some 34, .pick (.t 21) (.t 33) (.c (.sc (.bool false))), none, []⟩]) (.cond (.t 34) .skip (.exit 2))) (.seq (.blk 3 (.reg [⟨some 37, .mv (.t 0), none, []⟩, ⟨some 38, .mv (.t 9), none, []⟩, ⟨some 39, .mv (.t 0), none, []⟩, ⟨some 40, .mv (.t 9), none, []⟩, ⟨some 41, .bin .sub (.t 40) (.c (.sc (.int .i64 1))), none, []⟩, ⟨some 42, .mv (.t 0), none, []⟩, ⟨some 43, .mv (.t 9), none, []⟩, ⟨some 44, .bin .sub (.t 43) (.c (.sc (.int .i64 1))), none, []⟩, ⟨some 45, .ix 2 (.t 42) (.t 44), none, []⟩, ⟨some 46, .load (some 2) (.t 45), none, []⟩, ⟨some 47, .mv (.t 0), none, []⟩, ⟨some 48, .mv (.t 9), none, []⟩, ⟨some 49, .ix 2 (.t 47) (.t 48), none, []⟩, ⟨some 50, .load (some 2) (.t 49), none, []⟩, ⟨some 51, .ix 2 (.t 37) (.t 38), none, []⟩, ⟨none, .store 2 (.t 51) (.t 46), none, []⟩, ⟨some 52, .ix 2 (.t 39) (.t 41), none, []⟩, ⟨none, .store 2 (.t 52) (.t 50), none, []⟩])) (.reg [⟨some 35, .mv (.t 9), none, []⟩, ⟨some 36, .bin .sub (.t 35) (.c (.sc (.int .i64 1))), none, []⟩, ⟨some 9, .mv (.t 36), none, []⟩]))))))) (.reg [⟨some 15, .mv (.t 8), none, []⟩, ⟨some 16, .bin .add (.t 15) (.c (.sc (.int .i64 1))), none, []⟩, ⟨some 8, .mv (.t 16), none, []⟩]))))), []⟩
def CSift : FC := ⟨82, .seq (.reg [⟨some 12, .mv (.t 1), none, []⟩, ⟨some 10, .mv (.t 12), none, []⟩]) (.blk 0 (.loop (.blk 1 (.seq (.reg [⟨some 13, .mv (.t 10), none, []⟩, ⟨some 14, .bin .mul (.c (.sc (.int .i64 2))) (.t 13), none, []⟩, ⟨some 15, .bin .add (.t 14) (.c (.sc (.int .i64 1))), none, []⟩, ⟨some 11, .mv (.t 15), none, []⟩]) (.seq (.seq (.reg [⟨some 16, .mv (.t 11), none, []⟩, ⟨some 17, .mv (.t 2), none, []⟩, ⟨some 18, .bin .geq (.t 16) (.t 17), none, []⟩]) (.cond (.t 18) (.exit 0) .skip)) (.seq (.seq (.reg [⟨some 19, .mv (.t 11), none, []⟩, ⟨some 20, .bin .add (.t 19) (.c (.sc (.int .i64 1))), none, []⟩, ⟨some 21, .mv (.t 2), none, []⟩, ⟨some 22, .bin .lss (.t 20) (.t 21), none, []⟩, ⟨some 23, .mv (.t 22), none, []⟩, ⟨some 24, .mv (.t 4), some (23, true), []⟩, ⟨some 25, .mv (.t 0), some (23, true), []⟩, ⟨some 26, .mv (.t 3), some (23, true), []⟩, ⟨some 27, .mv (.t 11), some (23, true), []⟩, ⟨some 28, .bin .add (.t 26) (.t 27), some (23, true), []⟩, ⟨some 29, .ix 2 (.t 25) (.t 28), some (23, true), []⟩, ⟨some 30, .load (some 2) (.t 29), some (23, true), []⟩, ⟨some 31, .mv (.t 0), some (23, true), []⟩, ⟨some 32, .mv (.t 3), some (23, true), []⟩, ⟨some 33, .mv (.t 11), some (23, true), []⟩, ⟨some 34, .bin .add (.t 32) (.t 33), some (23, true), []⟩, ⟨some 35, .bin .add (.t 34) (.c (.sc (.int .i64 1))), some (23, true), []⟩, ⟨some 36, .ix 2 (.t 31) (.t 35), some (23, true), []⟩, ⟨some 37, .load (some 2) (.t 36), some (23, true), []⟩, ⟨some 38, .calv (.t 24) [.t 30, .t 37], some (23, true), []⟩, ⟨some 39, .bin .lss (.t 38) (.c (.sc (.int .i64 0))), some (23, true), []⟩, ⟨some 40, .pick (.t 23) (.t 39) (.c (.sc (.bool false))), none, []⟩]) (.cond (.t 40) (.reg [⟨some 41, .mv (.t 11), none, []⟩, ⟨some 42, .bin .add (.t 41) (.c (.sc (.int .i64 1))), none, []⟩, ⟨some 11, .mv (.t 42), none, []⟩]) .skip)) (.seq (.seq (.reg [⟨some 43, .mv (.t 4), none, []⟩, ⟨some 44, .mv (.t 0), none, []⟩, ⟨some 45, .mv (.t 3), none, []⟩, ⟨some 46, .mv (.t 10), none, []⟩, ⟨some 47, .bin .add (.t 45) (.t 46), none, []⟩, ⟨some 48, .ix 2 (.t 44) (.t 47), none, []⟩, ⟨some 49, .load (some 2) (.t 48), none, []⟩, ⟨some 50, .mv (.t 0), none, []⟩, ⟨some 51, .mv (.t 3), none, []⟩, ⟨some 52, .mv (.t 11), none, []⟩, ⟨some 53, .bin .add (.t 51) (.t 52), none, []⟩, ⟨some 54, .ix 2 (.t 50) (.t 53), none, []⟩, ⟨some 55, .load (some 2) (.t 54), none, []⟩, ⟨some 56, .calv (.t 43) [.t 49, .t 55], none, []⟩, ⟨some 57, .bin .lss (.t 56) (.c (.sc (.int .i64 0))), none, []⟩, ⟨some 58, .un .not (.t 57), none, []⟩]) (.cond (.t 58) .ret .skip)) (.seq (.reg [⟨some 59, .mv (.t 0), none, []⟩, ⟨some 60, .mv (.t 3), none, []⟩, ⟨some 61, .mv (.t 10), none, []⟩, ⟨some 62, .bin .add (.t 60) (.t 61), none, []⟩, ⟨some 63, .mv (.t 0), none, []⟩, ⟨some 64, .mv (.t 3), none, []⟩, ⟨some 65, .mv (.t 11), none, []⟩, ⟨some 66, .bin .add (.t 64) (.t 65), none, []⟩, ⟨some 67, .mv (.t 0), none, []⟩, ⟨some 68, .mv (.t 3), none, []⟩, ⟨some 69, .mv (.t 11), none, []⟩, ⟨some 70, .bin .add (.t 68) (.t 69), none, []⟩, ⟨some 71, .ix 2 (.t 67) (.t 70), none, []⟩, ⟨some 72, .load (some 2) (.t 71), none, []⟩, ⟨some 73, .mv (.t 0), none, []⟩, ⟨some 74, .mv (.t 3), none, []⟩, ⟨some 75, .mv (.t 10), none, []⟩, ⟨some 76, .bin .add (.t 74) (.t 75), none, []⟩, ⟨some 77, .ix 2 (.t 73) (.t 76), none, []⟩, ⟨some 78, .load (some 2) (.t 77), none, []⟩, ⟨some 79, .ix 2 (.t 59) (.t 62), none, []⟩, ⟨none, .store 2 (.t 79) (.t 72), none, []⟩, ⟨some 80, .ix 2 (.t 63) (.t 66), none, []⟩, ⟨none, .store 2 (.t 80) (.t 78), none, []⟩]) (.reg [⟨some 81, .mv (.t 11), none, []⟩, ⟨some 10, .mv (.t 81), none, []⟩]))))))))), []⟩
def CHeap (fsift : FuncId) : FC := ⟨60, .seq (.reg [⟨some 13, .mv (.t 1), none, []⟩, ⟨some 8, .mv (.t 13), none, []⟩]) (.seq (.reg [⟨some 9, .mv (.c (.sc (.int .i64 0))), none, []⟩]) (.seq (.reg [⟨some 14, .mv (.t 2), none, []⟩, ⟨some 15, .mv (.t 1), none, []⟩, ⟨some 16, .bin .sub (.t 14) (.t 15), none, []⟩, ⟨some 10, .mv (.t 16), none, []⟩]) (.seq (.seq (.reg [⟨some 17, .mv (.t 10), none, []⟩, ⟨some 18, .bin .sub (.t 17) (.c (.sc (.int .i64 1))), none, []⟩, ⟨some 19, .bin .quo (.t 18) (.c (.sc (.int .i64 2))), none, []⟩, ⟨some 11, .mv (.t 19), none, []⟩]) (.blk 0 (.loop (.seq (.seq (.reg [⟨some 20, .mv (.t 11), none, []⟩, ⟨some 21, .bin .geq (.t 20) (.c (.sc (.int .i64 0))), none, []⟩]) (.cond (.t 21) .skip (.exit 0))) (.seq (.blk 1 (.reg [⟨some 24, .mv (.t 0), none, []⟩, ⟨some 25, .mv (.t 11), none, []⟩, ⟨some 26, .mv (.t 10), none, []⟩, ⟨some 27, .mv (.t 8), none, []⟩, ⟨some 28, .mv (.t 3), none, []⟩, ⟨some 29, .call fsift [.t 24, .t 25, .t 26, .t 27, .t 28], none, []⟩])) (.reg [⟨some 22, .mv (.t 11), none, []⟩, ⟨some 23, .bin .sub (.t 22) (.c (.sc (.int .i64 1))), none, []⟩, ⟨some 11, .mv (.t 23), none, []⟩])))))) (.seq (.reg [⟨some 30, .mv (.t 10), none, []⟩, ⟨some 31, .bin .sub (.t 30) (.c (.sc (.int .i64 1))), none, []⟩, ⟨some 12, .mv (.t 31), none, []⟩]) (.blk 2 (.loop (.seq (.seq (.reg [⟨some 32, .mv (.t 12), none, []⟩, ⟨some 33, .bin .geq (.t 32) (.c (.sc (.int .i64 0))), none, []⟩]) (.cond (.t 33) .skip (.exit 2))) (.seq (.blk 3 (.seq (.reg [⟨some 36, .mv (.t 0), none, []⟩, ⟨some 37, .mv (.t 8), none, []⟩, ⟨some 38, .mv (.t 0), none, []⟩, ⟨some 39, .mv (.t 8), none, []⟩, ⟨some 40, .mv (.t 12), none, []⟩, ⟨some 41, .bin .add (.t 39) (.t 40), none, []⟩, ⟨some 42, .mv (.t 0), none, []⟩, ⟨some 43, .mv (.t 8), none, []⟩, ⟨some 44, .mv (.t 12), none, []⟩, ⟨some 45, .bin .add (.t 43) (.t 44), none, []⟩, ⟨some 46, .ix 2 (.t 42) (.t 45), none, []⟩, ⟨some 47, .load (some 2) (.t 46), none, []⟩, ⟨some 48, .mv (.t 0), none, []⟩, ⟨some 49, .mv (.t 8), none, []⟩, ⟨some 50, .ix 2 (.t 48) (.t 49), none, []⟩, ⟨some 51, .load (some 2) (.t 50), none, []⟩, ⟨some 52, .ix 2 (.t 36) (.t 37), none, []⟩, ⟨none, .store 2 (.t 52) (.t 47), none, []⟩, ⟨some 53, .ix 2 (.t 38) (.t 41), none, []⟩, ⟨none, .store 2 (.t 53) (.t 51), none, []⟩]) (.reg [⟨some 54, .mv (.t 0), none, []⟩, ⟨some 55, .mv (.t 9), none, []⟩, ⟨some 56, .mv (.t 12), none, []⟩, ⟨some 57, .mv (.t 8), none, []⟩, ⟨some 58, .mv (.t 3), none, []⟩, ⟨some 59, .call fsift [.t 54, .t 55, .t 56, .t 57, .t 58], none, []⟩]))) (.reg [⟨some 34, .mv (.t 12), none, []⟩, ⟨some 35, .bin .sub (.t 34) (.c (.sc (.int .i64 1))), none, []⟩, ⟨some 12, .mv (.t 35), none, []⟩]))))))))), []⟩
def CBreak (fpow fnext : FuncId) : FC := ⟨67, .seq (.reg [⟨some 13, .mv (.t 2), none, []⟩, ⟨some 14, .mv (.t 1), none, []⟩, ⟨some 15, .bin .sub (.t 13) (.t 14), none, []⟩, ⟨some 8, .mv (.t 15), none, []⟩]) (.seq (.reg [⟨some 16, .mv (.t 8), none, []⟩, ⟨some 17, .bin .geq (.t 16) (.c (.sc (.int .i64 8))), none, []⟩]) (.cond (.t 17) (.seq (.reg [⟨some 18, .mv (.t 8), none, []⟩, ⟨some 19, .conv .u64 (.t 18), none, []⟩, ⟨some 9, .alc [.sc (.int .u64 0)], none, []⟩, ⟨none, .store 1 (.t 9) (.t 19), none, []⟩]) (.seq (.reg [⟨some 20, .mv (.t 8), none, []⟩, ⟨some 21, .call fpow [.t 20], none, []⟩, ⟨some 10, .mv (.t 21), none, []⟩]) (.seq (.reg [⟨some 22, .mv (.t 1), none, []⟩, ⟨some 23, .mv (.t 8), none, []⟩, ⟨some 24, .bin .quo (.t 23) (.c (.sc (.int .i64 4))), none, []⟩, ⟨some 25, .bin .mul (.t 24) (.c (.sc (.int .i64 2))), none, []⟩, ⟨some 26, .bin .add (.t 22) (.t 25), none, []⟩, ⟨some 27, .bin .sub (.t 26) (.c (.sc (.int .i64 1))), none, []⟩, ⟨some 11, .mv (.t 27), none, []⟩]) (.blk 0 (.loop (.seq (.seq (.reg [⟨some 28, .mv (.t 11), none, []⟩, ⟨some 29, .mv (.t 1), none, []⟩, ⟨some 30, .mv (.t 8), none, []⟩, ⟨some 31, .bin .quo (.t 30) (.c (.sc (.int .i64 4))), none, []⟩, ⟨some 32, .bin .mul (.t 31) (.c (.sc (.int .i64 2))), none, []⟩, ⟨some 33, .bin .add (.t 29) (.t 32), none, []⟩, ⟨some 34, .bin .add (.t 33) (.c (.sc (.int .i64 1))), none, []⟩, ⟨some 35, .bin .leq (.t 28) (.t 34), none, []⟩]) (.cond (.t 35) .skip (.exit 0))) (.seq (.blk 1 (.seq (.reg [⟨some 38, .call fnext [.t 9], none, []⟩, ⟨some 39, .mv (.t 10), none, []⟩, ⟨some 40, .bin .sub (.t 39) (.c (.sc (.int .u64 1))), none, []⟩, ⟨some 41, .bin .and (.t 38) (.t 40), none, []⟩, ⟨some 42, .conv .i64 (.t 41), none, []⟩, ⟨some 12, .mv (.t 42), none, []⟩]) (.seq (.seq (.reg [⟨some 43, .mv (.t 12), none, []⟩, ⟨some 44, .mv (.t 8), none, []⟩, ⟨some 45, .bin .geq (.t 43) (.t 44), none, []⟩]) (.cond (.t 45) (.reg [⟨some 46, .mv (.t 12), none, []⟩, ⟨some 47, .mv (.t 8), none, []⟩, ⟨some 48, .bin .sub (.t 46) (.t 47), none, []⟩, ⟨some 12, .mv (.t 48), none, []⟩]) .skip)) (.reg [⟨some 49, .mv (.t 0), none, []⟩, ⟨some 50, .mv (.t 11), none, []⟩, ⟨some 51, .mv (.t 0), none, []⟩, ⟨some 52, .mv (.t 1), none, []⟩, ⟨some 53, .mv (.t 12), none, []⟩, ⟨some 54, .bin .add (.t 52) (.t 53), none, []⟩, ⟨some 55, .mv (.t 0), none, []⟩, ⟨some 56, .mv (.t 1), none, []⟩, ⟨some 57, .mv (.t 12), none, []⟩, ⟨some 58, .bin .add (.t 56) (.t 57), none, []⟩, ⟨some 59, .ix 2 (.t 55) (.t 58), none, []⟩, ⟨some 60, .load (some 2) (.t 59), none, []⟩, ⟨some 61, .mv (.t 0), none, []⟩, ⟨some 62, .mv (.t 11), none, []⟩, ⟨some 63, .ix 2 (.t 61) (.t 62), none, []⟩, ⟨some 64, .load (some 2) (.t 63), none, []⟩, ⟨some 65, .ix 2 (.t 49) (.t 50), none, []⟩, ⟨none, .store 2 (.t 65) (.t 60), none, []⟩, ⟨some 66, .ix 2 (.t 51) (.t 54), none, []⟩, ⟨none, .store 2 (.t 66) (.t 64), none, []⟩])))) (.reg [⟨some 36, .mv (.t 11), none, []⟩, ⟨some 37, .bin .add (.t 36) (.c (.sc (.int .i64 1))), none, []⟩, ⟨some 11, .mv (.t 37), none, []⟩])))))))) .skip)), []⟩
def CPivot (fmeda fmed : FuncId) : FC := ⟨63, .seq (.reg [⟨some 8, .mv (.c (.sc (.int .i64 0))), none, []⟩, ⟨some 9, .mv (.c (.sc (.int .i64 0))), none, []⟩]) (.seq (.reg [⟨some 15, .mv (.t 2), none, []⟩, ⟨some 16, .mv (.t 1), none, []⟩, ⟨some 17, .bin .sub (.t 15) (.t 16), none, []⟩, ⟨some 10, .mv (.t 17), none, []⟩]) (.seq (.reg [⟨some 11, .alc [.sc (.int .i64 0)], none, []⟩]) (.seq (.reg [⟨some 18, .mv (.t 1), none, []⟩, ⟨some 19, .mv (.t 10), none, []⟩, ⟨some 20, .bin .quo (.t 19) (.c (.sc (.int .i64 4))), none, []⟩, ⟨some 21, .bin .mul (.t 20) (.c (.sc (.int .i64 1))), none, []⟩, ⟨some 22, .bin .add (.t 18) (.t 21), none, []⟩, ⟨some 12, .mv (.t 22), none, []⟩]) (.seq (.reg [⟨some 23, .mv (.t 1), none, []⟩, ⟨some 24, .mv (.t 10), none, []⟩, ⟨some 25, .bin .quo (.t 24) (.c (.sc (.int .i64 4))), none, []⟩, ⟨some 26, .bin .mul (.t 25) (.c (.sc (.int .i64 2))), none, []⟩, ⟨some 27, .bin .add (.t 23) (.t 26), none, []⟩, ⟨some 13, .mv (.t 27), none, []⟩]) (.seq (.reg [⟨some 28, .mv (.t 1), none, []⟩, ⟨some 29, .mv (.t 10), none, []⟩, ⟨some 30, .bin .quo (.t 29) (.c (.sc (.int .i64 4))), none, []⟩, ⟨some 31, .bin .mul (.t 30) (.c (.sc (.int .i64 3))), none, []⟩, ⟨some 32, .bin .add (.t 28) (.t 31), none, []⟩, ⟨some 14, .mv (.t 32), none, []⟩]) (.seq (.seq (.reg [⟨some 33, .mv (.t 10), none, []⟩, ⟨some 34, .bin .geq (.t 33) (.c (.sc (.int .i64 8))), none, []⟩]) (.cond (.t 34) (.seq (.seq (.reg [⟨some 35, .mv (.t 10), none, []⟩, ⟨some 36, .bin .geq (.t 35) (.c (.sc (.int .i64 50))), none, []⟩]) (.cond (.t 36) (.seq (.reg [⟨some 37, .mv (.t 0), none, []⟩, ⟨some 38, .mv (.t 12), none, []⟩, ⟨some 39, .mv (.t 3), none, []⟩, ⟨some 40, .call fmeda [.t 37, .t 38, .t 11, .t 39], none, []⟩, ⟨some 12, .mv (.t 40), none, []⟩]) (.seq (.reg [⟨some 41, .mv (.t 0), none, []⟩, ⟨some 42, .mv (.t 13), none, []⟩, ⟨some 43, .mv (.t 3), none, []⟩, ⟨some 44, .call fmeda [.t 41, .t 42, .t 11, .t 43], none, []⟩, ⟨some 13, .mv (.t 44), none, []⟩]) (.reg [⟨some 45, .mv (.t 0), none, []⟩, ⟨some 46, .mv (.t 14), none, []⟩, ⟨some 47, .mv (.t 3), none, []⟩, ⟨some 48, .call fmeda [.t 45, .t 46, .t 11, .t 47], none, []⟩, ⟨some 14, .mv (.t 48), none, []⟩]))) .skip)) (.reg [⟨some 49, .mv (.t 0), none, []⟩, ⟨some 50, .mv (.t 12), none, []⟩, ⟨some 51, .mv (.t 13), none, []⟩, ⟨some 52, .mv (.t 14), none, []⟩, ⟨some 53, .mv (.t 3), none, []⟩, ⟨some 54, .call fmed [.t 49, .t 50, .t 51, .t 52, .t 11, .t 53], none, []⟩, ⟨some 13, .mv (.t 54), none, []⟩])) .skip)) (.seq (.reg [⟨some 55, .load none (.t 11), none, []⟩]) (.blk 0 (.seq (.reg [⟨some 58, .bin .eql (.t 55) (.c (.sc (.int .i64 0))), none, []⟩, ⟨some 57, .mv (.t 58), none, []⟩]) (.cond (.t 57) (.seq (.reg [⟨some 59, .mv (.t 13), none, []⟩, ⟨some 8, .mv (.t 59), none, []⟩, ⟨some 9, .mv (.c (.sc (.int .i64 1))), none, []⟩]) .ret) (.seq (.reg [⟨some 61, .bin .eql (.t 55) (.c (.sc (.int .i64 12))), none, []⟩, ⟨some 60, .mv (.t 61), none, []⟩]) (.cond (.t 60) (.seq (.reg [⟨some 62, .mv (.t 13), none, []⟩, ⟨some 8, .mv (.t 62), none, []⟩, ⟨some 9, .mv (.c (.sc (.int .i64 2))), none, []⟩]) .ret) (.seq (.reg [⟨some 56, .mv (.t 13), none, []⟩, ⟨some 8, .mv (.t 56), none, []⟩, ⟨some 9, .mv (.c (.sc (.int .i64 0))), none, []⟩]) .ret))))))))))))), [.tmp 8, .tmp 9]⟩
def CRev : FC := ⟨34, .seq (.reg [⟨some 10, .mv (.t 1), none, []⟩, ⟨some 8, .mv (.t 10), none, []⟩]) (.seq (.reg [⟨some 11, .mv (.t 2), none, []⟩, ⟨some 12, .bin .sub (.t 11) (.c (.sc (.int .i64 1))), none, []⟩, ⟨some 9, .mv (.t 12), none, []⟩]) (.blk 0 (.loop (.seq (.seq (.reg [⟨some 13, .mv (.t 8), none, []⟩, ⟨some 14, .mv (.t 9), none, []⟩, ⟨some 15, .bin .lss (.t 13) (.t 14), none, []⟩]) (.cond (.t 15) .skip (.exit 0))) (.blk 1 (.seq (.reg [⟨some 16, .mv (.t 0), none, []⟩, ⟨some 17, .mv (.t 8), none, []⟩, ⟨some 18, .mv (.t 0), none, []⟩, ⟨some 19, .mv (.t 9), none, []⟩, ⟨some 20, .mv (.t 0), none, []⟩, ⟨some 21, .mv (.t 9), none, []⟩, ⟨some 22, .ix 2 (.t 20) (.t 21), none, []⟩, ⟨some 23, .load (some 2) (.t 22), none, []⟩, ⟨some 24, .mv (.t 0), none, []⟩, ⟨some 25, .mv (.t 8), none, []⟩, ⟨some 26, .ix 2 (.t 24) (.t 25), none, []⟩, ⟨some 27, .load (some 2) (.t 26), none, []⟩, ⟨some 28, .ix 2 (.t 16) (.t 17), none, []⟩, ⟨none, .store 2 (.t 28) (.t 23), none, []⟩, ⟨some 29, .ix 2 (.t 18) (.t 19), none, []⟩, ⟨none, .store 2 (.t 29) (.t 27), none, []⟩]) (.seq (.reg [⟨some 30, .mv (.t 8), none, []⟩, ⟨some 31, .bin .add (.t 30) (.c (.sc (.int .i64 1))), none, []⟩, ⟨some 8, .mv (.t 31), none, []⟩]) (.reg [⟨some 32, .mv (.t 9), none, []⟩, ⟨some 33, .bin .sub (.t 32) (.c (.sc (.int .i64 1))), none, []⟩, ⟨some 9, .mv (.t 33), none, []⟩])))))))), []⟩
def CPart : FC := ⟨141, .seq (.reg [⟨some 8, .mv (.c (.sc (.bool false))), none, []⟩]) (.seq (.reg [⟨some 13, .mv (.t 1), none, []⟩, ⟨some 14, .bin .add (.t 13) (.c (.sc (.int .i64 1))), none, []⟩, ⟨some 9, .mv (.t 14), none, []⟩]) (.seq (.seq (.reg [⟨some 10, .mv (.c (.sc (.int .i64 0))), none, []⟩]) (.blk 0 (.loop (.seq (.seq (.reg [⟨some 15, .mv (.t 10), none, []⟩, ⟨some 16, .bin .lss (.t 15) (.c (.sc (.int .i64 5))), none, []⟩]) (.cond (.t 16) .skip (.exit 0))) (.seq (.blk 1 (.seq (.blk 2 (.loop (.seq (.seq (.reg [⟨some 19, .mv (.t 9), none, []⟩, ⟨some 20, .mv (.t 2), none, []⟩, ⟨some 21, .bin .lss (.t 19) (.t 20), none, []⟩, ⟨some 22, .mv (.t 21), none, []⟩, ⟨some 23, .mv (.t 3), some (22, true), []⟩, ⟨some 24, .mv (.t 0), some (22, true), []⟩, ⟨some 25, .mv (.t 9), some (22, true), []⟩, ⟨some 26, .ix 2 (.t 24) (.t 25), some (22, true), []⟩, ⟨some 27, .load (some 2) (.t 26), some (22, true), []⟩, ⟨some 28, .mv (.t 0), some (22, true), []⟩, ⟨some 29, .mv (.t 9), some (22, true), []⟩, ⟨some 30, .bin .sub (.t 29) (.c (.sc (.int .i64 1))), some (22, true), []⟩, ⟨some 31, .ix 2 (.t 28) (.t 30), some (22, true), []⟩, ⟨some 32, .load (some 2) (.t 31), some (22, true), []⟩, ⟨some 33, .calv (.t 23) [.t 27, .t 32], some (22, true), []⟩, ⟨some 34, .bin .lss (.t 33) (.c (.sc (.int .i64 0))), some (22, true), []⟩, ⟨some 35, .un .not (.t 34), some (22, true), []⟩, ⟨some 36, .pick (.t 22) (.t 35) (.c (.sc (.bool false))), none, []⟩]) (.cond (.t 36) .skip (.exit 2))) (.blk 3 (.reg [⟨some 37, .mv (.t 9), none, []⟩, ⟨some 38, .bin .add (.t 37) (.c (.sc (.int .i64 1))), none, []⟩, ⟨some 9, .mv (.t 38), none, []⟩]))))) (.seq (.seq (.reg [⟨some 39, .mv (.t 9), none, []⟩, ⟨some 40, .mv (.t 2), none, []⟩, ⟨some 41, .bin .eql (.t 39) (.t 40), none, []⟩]) (.cond (.t 41) (.seq (.reg [⟨some 8, .mv (.c (.sc (.bool true))), none, []⟩]) .ret) .skip)) (.seq (.seq (.reg [⟨some 42, .mv (.t 2), none, []⟩, ⟨some 43, .mv (.t 1), none, []⟩, ⟨some 44, .bin .sub (.t 42) (.t 43), none, []⟩, ⟨some 45, .bin .lss (.t 44) (.c (.sc (.int .i64 50))), none, []⟩]) (.cond (.t 45) (.seq (.reg [⟨some 8, .mv (.c (.sc (.bool false))), none, []⟩]) .ret) .skip)) (.seq (.reg [⟨some 46, .mv (.t 0), none, []⟩, ⟨some 47, .mv (.t 9), none, []⟩, ⟨some 48, .mv (.t 0), none, []⟩, ⟨some 49, .mv (.t 9), none, []⟩, ⟨some 50, .bin .sub (.t 49) (.c (.sc (.int .i64 1))), none, []⟩, ⟨some 51, .mv (.t 0), none, []⟩, ⟨some 52, .mv (.t 9), none, []⟩, ⟨some 53, .bin .sub (.t 52) (.c (.sc (.int .i64 1))), none, []⟩, ⟨some 54, .ix 2 (.t 51) (.t 53), none, []⟩, ⟨some 55, .load (some 2) (.t 54), none, []⟩, ⟨some 56, .mv (.t 0), none, []⟩, ⟨some 57, .mv (.t 9), none, []⟩, ⟨some 58, .ix 2 (.t 56) (.t 57), none, []⟩, ⟨some 59, .load (some 2) (.t 58), none, []⟩, ⟨some 60, .ix 2 (.t 46) (.t 47), none, []⟩, ⟨none, .store 2 (.t 60) (.t 55), none, []⟩, ⟨some 61, .ix 2 (.t 48) (.t 50), none, []⟩, ⟨none, .store 2 (.t 61) (.t 59), none, []⟩]) (.seq (.seq (.reg [⟨some 62, .mv (.t 9), none, []⟩, ⟨some 63, .mv (.t 1), none, []⟩, ⟨some 64, .bin .sub (.t 62) (.t 63), none, []⟩, ⟨some 65, .bin .geq (.t 64) (.c (.sc (.int .i64 2))), none, []⟩]) (.cond (.t 65) (.seq (.reg [⟨some 66, .mv (.t 9), none, []⟩, ⟨some 67, .bin .sub (.t 66) (.c (.sc (.int .i64 1))), none, []⟩, ⟨some 11, .mv (.t 67), none, []⟩]) (.blk 4 (.loop (.seq (.seq (.reg [⟨some 68, .mv (.t 11), none, []⟩, ⟨some 69, .bin .geq (.t 68) (.c (.sc (.int .i64 1))), none, []⟩]) (.cond (.t 69) .skip (.exit 4))) (.seq (.blk 5 (.seq (.seq (.reg [⟨some 72, .mv (.t 3), none, []⟩, ⟨some 73, .mv (.t 0), none, []⟩, ⟨some 74, .mv (.t 11), none, []⟩, ⟨some 75, .ix 2 (.t 73) (.t 74), none, []⟩, ⟨some 76, .load (some 2) (.t 75), none, []⟩, ⟨some 77, .mv (.t 0), none, []⟩, ⟨some 78, .mv (.t 11), none, []⟩, ⟨some 79, .bin .sub (.t 78) (.c (.sc (.int .i64 1))), none, []⟩, ⟨some 80, .ix 2 (.t 77) (.t 79), none, []⟩, ⟨some 81, .load (some 2) (.t 80), none, []⟩, ⟨some 82, .calv (.t 72) [.t 76, .t 81], none, []⟩, ⟨some 83, .bin .lss (.t 82) (.c (.sc (.int .i64 0))), none, []⟩, ⟨some 84, .un .not (.t 83), none, []⟩]) (.cond (.t 84) (.exit 4) .skip)) (.reg [⟨some 85, .mv (.t 0), none, []⟩, ⟨some 86, .mv (.t 11), none, []⟩, ⟨some 87, .mv (.t 0), none, []⟩, ⟨some 88, .mv (.t 11), none, []⟩, ⟨some 89, .bin .sub (.t 88) (.c (.sc (.int .i64 1))), none, []⟩, ⟨some 90, .mv (.t 0), none, []⟩, ⟨some 91, .mv (.t 11), none, []⟩, ⟨some 92, .bin .sub (.t 91) (.c (.sc (.int .i64 1))), none, []⟩, ⟨some 93, .ix 2 (.t 90) (.t 92), none, []⟩, ⟨some 94, .load (some 2) (.t 93), none, []⟩, ⟨some 95, .mv (.t 0), none, []⟩, ⟨some 96, .mv (.t 11), none, []⟩, ⟨some 97, .ix 2 (.t 95) (.t 96), none, []⟩, ⟨some 98, .load (some 2) (.t 97), none, []⟩, ⟨some 99, .ix 2 (.t 85) (.t 86), none, []⟩, ⟨none, .store 2 (.t 99) (.t 94), none, []⟩, ⟨some 100, .ix 2 (.t 87) (.t 89), none, []⟩, ⟨none, .store 2 (.t 100) (.t 98), none, []⟩]))) (.reg [⟨some 70, .mv (.t 11), none, []⟩, ⟨some 71, .bin .sub (.t 70) (.c (.sc (.int .i64 1))), none, []⟩, ⟨some 11, .mv (.t 71), none, []⟩])))))) .skip)) (.seq (.reg [⟨some 101, .mv (.t 2), none, []⟩, ⟨some 102, .mv (.t 9), none, []⟩, ⟨some 103, .bin .sub (.t 101) (.t 102), none, []⟩, ⟨some 104, .bin .geq (.t 103) (.c (.sc (.int .i64 2))), none, []⟩]) (.cond (.t 104) (.seq (.reg [⟨some 105, .mv (.t 9), none, []⟩, ⟨some 106, .bin .add (.t 105) (.c (.sc (.int .i64 1))), none, []⟩, ⟨some 12, .mv (.t 106), none, []⟩]) (.blk 6 (.loop (.seq (.seq (.reg [⟨some 107, .mv (.t 12), none, []⟩, ⟨some 108, .mv (.t 2), none, []⟩, ⟨some 109, .bin .lss (.t 107) (.t 108), none, []⟩]) (.cond (.t 109) .skip (.exit 6))) (.seq (.blk 7 (.seq (.seq (.reg [⟨some 112, .mv (.t 3), none, []⟩, ⟨some 113, .mv (.t 0), none, []⟩, ⟨some 114, .mv (.t 12), none, []⟩, ⟨some 115, .ix 2 (.t 113) (.t 114), none, []⟩, ⟨some 116, .load (some 2) (.t 115), none, []⟩, ⟨some 117, .mv (.t 0), none, []⟩, ⟨some 118, .mv (.t 12), none, []⟩, ⟨some 119, .bin .sub (.t 118) (.c (.sc (.int .i64 1))), none, []⟩, ⟨some 120, .ix 2 (.t 117) (.t 119), none, []⟩, ⟨some 121, .load (some 2) (.t 120), none, []⟩, ⟨some 122, .calv (.t 112) [.t 116, .t 121], none, []⟩, ⟨some 123, .bin .lss (.t 122) (.c (.sc (.int .i64 0))), none, []⟩, ⟨some 124, .un .not (.t 123), none, []⟩]) (.cond (.t 124) (.exit 6) .skip)) (.reg [⟨some 125, .mv (.t 0), none, []⟩, ⟨some 126, .mv (.t 12), none, []⟩, ⟨some 127, .mv (.t 0), none, []⟩, ⟨some 128, .mv (.t 12), none, []⟩, ⟨some 129, .bin .sub (.t 128) (.c (.sc (.int .i64 1))), none, []⟩, ⟨some 130, .mv (.t 0), none, []⟩, ⟨some 131, .mv (.t 12), none, []⟩, ⟨some 132, .bin .sub (.t 131) (.c (.sc (.int .i64 1))), none, []⟩, ⟨some 133, .ix 2 (.t 130) (.t 132), none, []⟩, ⟨some 134, .load (some 2) (.t 133), none, []⟩, ⟨some 135, .mv (.t 0), none, []⟩, ⟨some 136, .mv (.t 12), none, []⟩, ⟨some 137, .ix 2 (.t 135) (.t 136), none, []⟩, ⟨some 138, .load (some 2) (.t 137), none, []⟩, ⟨some 139, .ix 2 (.t 125) (.t 126), none, []⟩, ⟨none, .store 2 (.t 139) (.t 134), none, []⟩, ⟨some 140, .ix 2 (.t 127) (.t 129), none, []⟩, ⟨none, .store 2 (.t 140) (.t 138), none, []⟩]))) (.reg [⟨some 110, .mv (.t 12), none, []⟩, ⟨some 111, .bin .add (.t 110) (.c (.sc (.int .i64 1))), none, []⟩, ⟨some 12, .mv (.t 111), none, []⟩])))))) .skip)))))))) (.reg [⟨some 17, .mv (.t 10), none, []⟩, ⟨some 18, .bin .add (.t 17) (.c (.sc (.int .i64 1))), none, []⟩, ⟨some 10, .mv (.t 18), none, []⟩])))))) (.seq (.reg [⟨some 8, .mv (.c (.sc (.bool false))), none, []⟩]) .ret))), [.tmp 8]⟩
def CEqual : FC := ⟨90, .seq (.reg [⟨some 10, .mv (.c (.sc (.int .i64 0))), none, []⟩]) (.seq (.reg [⟨some 13, .mv (.t 0), none, []⟩, ⟨some 14, .mv (.t 1), none, []⟩, ⟨some 15, .mv (.t 0), none, []⟩, ⟨some 16, .mv (.t 3), none, []⟩, ⟨some 17, .mv (.t 0), none, []⟩, ⟨some 18, .mv (.t 3), none, []⟩, ⟨some 19, .ix 2 (.t 17) (.t 18), none, []⟩, ⟨some 20, .load (some 2) (.t 19), none, []⟩, ⟨some 21, .mv (.t 0), none, []⟩, ⟨some 22, .mv (.t 1), none, []⟩, ⟨some 23, .ix 2 (.t 21) (.t 22), none, []⟩, ⟨some 24, .load (some 2) (.t 23), none, []⟩, ⟨some 25, .ix 2 (.t 13) (.t 14), none, []⟩, ⟨none, .store 2 (.t 25) (.t 20), none, []⟩, ⟨some 26, .ix 2 (.t 15) (.t 16), none, []⟩, ⟨none, .store 2 (.t 26) (.t 24), none, []⟩]) (.seq (.reg [⟨some 27, .mv (.t 1), none, []⟩, ⟨some 28, .bin .add (.t 27) (.c (.sc (.int .i64 1))), none, []⟩, ⟨some 29, .mv (.t 2), none, []⟩, ⟨some 30, .bin .sub (.t 29) (.c (.sc (.int .i64 1))), none, []⟩, ⟨some 11, .mv (.t 28), none, []⟩, ⟨some 12, .mv (.t 30), none, []⟩]) (.seq (.blk 0 (.loop (.blk 1 (.seq (.blk 2 (.loop (.seq (.seq (.reg [⟨some 31, .mv (.t 11), none, []⟩, ⟨some 32, .mv (.t 12), none, []⟩, ⟨some 33, .bin .leq (.t 31) (.t 32), none, []⟩, ⟨some 34, .mv (.t 33), none, []⟩, ⟨some 35, .mv (.t 4), some (34, true), []⟩, ⟨some 36, .mv (.t 0), some (34, true), []⟩, ⟨some 37, .mv (.t 1), some (34, true), []⟩, ⟨some 38, .ix 2 (.t 36) (.t 37), some (34, true), []⟩, ⟨some 39, .load (some 2) (.t 38), some (34, true), []⟩, ⟨some 40, .mv (.t 0), some (34, true), []⟩, ⟨some 41, .mv (.t 11), some (34, true), []⟩, ⟨some 42, .ix 2 (.t 40) (.t 41), some (34, true), []⟩, ⟨some 43, .load (some 2) (.t 42), some (34, true), []⟩, ⟨some 44, .calv (.t 35) [.t 39, .t 43], some (34, true), []⟩, ⟨some 45, .bin .lss (.t 44) (.c (.sc (.int .i64 0))), some (34, true), []⟩, ⟨some 46, .un .not (.t 45), some (34, true), []⟩, ⟨some 47, .pick (.t 34) (.t 46) (.c (.sc (.bool false))), none, []⟩]) (.cond (.t 47) .skip (.exit 2))) (.blk 3 (.reg [⟨some 48, .mv (.t 11), none, []⟩, ⟨some 49, .bin .add (.t 48) (.c (.sc (.int .i64 1))), none, []⟩, ⟨some 11, .mv (.t 49), none, []⟩]))))) (.seq (.blk 4 (.loop (.seq (.seq (.reg [⟨some 50, .mv (.t 11), none, []⟩, ⟨some 51, .mv (.t 12), none, []⟩, ⟨some 52, .bin .leq (.t 50) (.t 51), none, []⟩, ⟨some 53, .mv (.t 52), none, []⟩, ⟨some 54, .mv (.t 4), some (53, true), []⟩, ⟨some 55, .mv (.t 0), some (53, true), []⟩, ⟨some 56, .mv (.t 1), some (53, true), []⟩, ⟨some 57, .ix 2 (.t 55) (.t 56), some (53, true), []⟩, ⟨some 58, .load (some 2) (.t 57), some (53, true), []⟩, ⟨some 59, .mv (.t 0), some (53, true), []⟩, ⟨some 60, .mv (.t 12), some (53, true), []⟩, ⟨some 61, .ix 2 (.t 59) (.t 60), some (53, true), []⟩, ⟨some 62, .load (some 2) (.t 61), some (53, true), []⟩, ⟨some 63, .calv (.t 54) [.t 58, .t 62], some (53, true), []⟩, ⟨some 64, .bin .lss (.t 63) (.c (.sc (.int .i64 0))), some (53, true), []⟩, ⟨some 65, .pick (.t 53) (.t 64) (.c (.sc (.bool false))), none, []⟩]) (.cond (.t 65) .skip (.exit 4))) (.blk 5 (.reg [⟨some 66, .mv (.t 12), none, []⟩, ⟨some 67, .bin .sub (.t 66) (.c (.sc (.int .i64 1))), none, []⟩, ⟨some 12, .mv (.t 67), none, []⟩]))))) (.seq (.seq (.reg [⟨some 68, .mv (.t 11), none, []⟩, ⟨some 69, .mv (.t 12), none, []⟩, ⟨some 70, .bin .gtr (.t 68) (.t 69), none, []⟩]) (.cond (.t 70) (.exit 0) .skip)) (.seq (.reg [⟨some 71, .mv (.t 0), none, []⟩, ⟨some 72, .mv (.t 11), none, []⟩, ⟨some 73, .mv (.t 0), none, []⟩, ⟨some 74, .mv (.t 12), none, []⟩, ⟨some 75, .mv (.t 0), none, []⟩, ⟨some 76, .mv (.t 12), none, []⟩, ⟨some 77, .ix 2 (.t 75) (.t 76), none, []⟩, ⟨some 78, .load (some 2) (.t 77), none, []⟩, ⟨some 79, .mv (.t 0), none, []⟩, ⟨some 80, .mv (.t 11), none, []⟩, ⟨some 81, .ix 2 (.t 79) (.t 80), none, []⟩, ⟨some 82, .load (some 2) (.t 81), none, []⟩, ⟨some 83, .ix 2 (.t 71) (.t 72), none, []⟩, ⟨none, .store 2 (.t 83) (.t 78), none, []⟩, ⟨some 84, .ix 2 (.t 73) (.t 74), none, []⟩, ⟨none, .store 2 (.t 84) (.t 82), none, []⟩]) (.seq (.reg [⟨some 85, .mv (.t 11), none, []⟩, ⟨some 86, .bin .add (.t 85) (.c (.sc (.int .i64 1))), none, []⟩, ⟨some 11, .mv (.t 86), none, []⟩]) (.reg [⟨some 87, .mv (.t 12), none, []⟩, ⟨some 88, .bin .sub (.t 87) (.c (.sc (.int .i64 1))), none, []⟩, ⟨some 12, .mv (.t 88), none, []⟩]))))))))) (.seq (.reg [⟨some 89, .mv (.t 11), none, []⟩, ⟨some 10, .mv (.t 89), none, []⟩]) .ret)))), [.tmp 10]⟩
def CSplit : FC := ⟨178, .seq (.reg [⟨some 10, .mv (.c (.sc (.int .i64 0))), none, []⟩, ⟨some 11, .mv (.c (.sc (.bool false))), none, []⟩]) (.seq (.reg [⟨some 14, .mv (.t 0), none, []⟩, ⟨some 15, .mv (.t 1), none, []⟩, ⟨some 16, .mv (.t 0), none, []⟩, ⟨some 17, .mv (.t 3), none, []⟩, ⟨some 18, .mv (.t 0), none, []⟩, ⟨some 19, .mv (.t 3), none, []⟩, ⟨some 20, .ix 2 (.t 18) (.t 19), none, []⟩, ⟨some 21, .load (some 2) (.t 20), none, []⟩, ⟨some 22, .mv (.t 0), none, []⟩, ⟨some 23, .mv (.t 1), none, []⟩, ⟨some 24, .ix 2 (.t 22) (.t 23), none, []⟩, ⟨some 25, .load (some 2) (.t 24), none, []⟩, ⟨some 26, .ix 2 (.t 14) (.t 15), none, []⟩, ⟨none, .store 2 (.t 26) (.t 21), none, []⟩, ⟨some 27, .ix 2 (.t 16) (.t 17), none, []⟩, ⟨none, .store 2 (.t 27) (.t 25), none, []⟩]) (.seq (.reg [⟨some 28, .mv (.t 1), none, []⟩, ⟨some 29, .bin .add (.t 28) (.c (.sc (.int .i64 1))), none, []⟩, ⟨some 30, .mv (.t 2), none, []⟩, ⟨some 31, .bin .sub (.t 30) (.c (.sc (.int .i64 1))), none, []⟩, ⟨some 12, .mv (.t 29), none, []⟩, ⟨some 13, .mv (.t 31), none, []⟩]) (.seq (.blk 0 (.loop (.seq (.seq (.reg [⟨some 32, .mv (.t 12), none, []⟩, ⟨some 33, .mv (.t 13), none, []⟩, ⟨some 34, .bin .leq (.t 32) (.t 33), none, []⟩, ⟨some 35, .mv (.t 34), none, []⟩, ⟨some 36, .mv (.t 4), some (35, true), []⟩, ⟨some 37, .mv (.t 0), some (35, true), []⟩, ⟨some 38, .mv (.t 12), some (35, true), []⟩, ⟨some 39, .ix 2 (.t 37) (.t 38), some (35, true), []⟩, ⟨some 40, .load (some 2) (.t 39), some (35, true), []⟩, ⟨some 41, .mv (.t 0), some (35, true), []⟩, ⟨some 42, .mv (.t 1), some (35, true), []⟩, ⟨some 43, .ix 2 (.t 41) (.t 42), some (35, true), []⟩, ⟨some 44, .load (some 2) (.t 43), some (35, true), []⟩, ⟨some 45, .calv (.t 36) [.t 40, .t 44], some (35, true), []⟩, ⟨some 46, .bin .lss (.t 45) (.c (.sc (.int .i64 0))), some (35, true), []⟩, ⟨some 47, .pick (.t 35) (.t 46) (.c (.sc (.bool false))), none, []⟩]) (.cond (.t 47) .skip (.exit 0))) (.blk 1 (.reg [⟨some 48, .mv (.t 12), none, []⟩, ⟨some 49, .bin .add (.t 48) (.c (.sc (.int .i64 1))), none, []⟩, ⟨some 12, .mv (.t 49), none, []⟩]))))) (.seq (.blk 2 (.loop (.seq (.seq (.reg [⟨some 50, .mv (.t 12), none, []⟩, ⟨some 51, .mv (.t 13), none, []⟩, ⟨some 52, .bin .leq (.t 50) (.t 51), none, []⟩, ⟨some 53, .mv (.t 52), none, []⟩, ⟨some 54, .mv (.t 4), some (53, true), []⟩, ⟨some 55, .mv (.t 0), some (53, true), []⟩, ⟨some 56, .mv (.t 13), some (53, true), []⟩, ⟨some 57, .ix 2 (.t 55) (.t 56), some (53, true), []⟩, ⟨some 58, .load (some 2) (.t 57), some (53, true), []⟩, ⟨some 59, .mv (.t 0), some (53, true), []⟩, ⟨some 60, .mv (.t 1), some (53, true), []⟩, ⟨some 61, .ix 2 (.t 59) (.t 60), some (53, true), []⟩, ⟨some 62, .load (some 2) (.t 61), some (53, true), []⟩, ⟨some 63, .calv (.t 54) [.t 58, .t 62], some (53, true), []⟩, ⟨some 64, .bin .lss (.t 63) (.c (.sc (.int .i64 0))), some (53, true), []⟩, ⟨some 65, .un .not (.t 64), some (53, true), []⟩, ⟨some 66, .pick (.t 53) (.t 65) (.c (.sc (.bool false))), none, []⟩]) (.cond (.t 66) .skip (.exit 2))) (.blk 3 (.reg [⟨some 67, .mv (.t 13), none, []⟩, ⟨some 68, .bin .sub (.t 67) (.c (.sc (.int .i64 1))), none, []⟩, ⟨some 13, .mv (.t 68), none, []⟩]))))) (.seq (.seq (.reg [⟨some 69, .mv (.t 12), none, []⟩, ⟨some 70, .mv (.t 13), none, []⟩, ⟨some 71, .bin .gtr (.t 69) (.t 70), none, []⟩]) (.cond (.t 71) (.seq (.reg [⟨some 72, .mv (.t 0), none, []⟩, ⟨some 73, .mv (.t 13), none, []⟩, ⟨some 74, .mv (.t 0), none, []⟩, ⟨some 75, .mv (.t 1), none, []⟩, ⟨some 76, .mv (.t 0), none, []⟩, ⟨some 77, .mv (.t 1), none, []⟩, ⟨some 78, .ix 2 (.t 76) (.t 77), none, []⟩, ⟨some 79, .load (some 2) (.t 78), none, []⟩, ⟨some 80, .mv (.t 0), none, []⟩, ⟨some 81, .mv (.t 13), none, []⟩, ⟨some 82, .ix 2 (.t 80) (.t 81), none, []⟩, ⟨some 83, .load (some 2) (.t 82), none, []⟩, ⟨some 84, .ix 2 (.t 72) (.t 73), none, []⟩, ⟨none, .store 2 (.t 84) (.t 79), none, []⟩, ⟨some 85, .ix 2 (.t 74) (.t 75), none, []⟩, ⟨none, .store 2 (.t 85) (.t 83), none, []⟩]) (.seq (.reg [⟨some 86, .mv (.t 13), none, []⟩, ⟨some 10, .mv (.t 86), none, []⟩, ⟨some 11, .mv (.c (.sc (.bool true))), none, []⟩]) .ret)) .skip)) (.seq (.reg [⟨some 87, .mv (.t 0), none, []⟩, ⟨some 88, .mv (.t 12), none, []⟩, ⟨some 89, .mv (.t 0), none, []⟩, ⟨some 90, .mv (.t 13), none, []⟩, ⟨some 91, .mv (.t 0), none, []⟩, ⟨some 92, .mv (.t 13), none, []⟩, ⟨some 93, .ix 2 (.t 91) (.t 92), none, []⟩, ⟨some 94, .load (some 2) (.t 93), none, []⟩, ⟨some 95, .mv (.t 0), none, []⟩, ⟨some 96, .mv (.t 12), none, []⟩, ⟨some 97, .ix 2 (.t 95) (.t 96), none, []⟩, ⟨some 98, .load (some 2) (.t 97), none, []⟩, ⟨some 99, .ix 2 (.t 87) (.t 88), none, []⟩, ⟨none, .store 2 (.t 99) (.t 94), none, []⟩, ⟨some 100, .ix 2 (.t 89) (.t 90), none, []⟩, ⟨none, .store 2 (.t 100) (.t 98), none, []⟩]) (.seq (.reg [⟨some 101, .mv (.t 12), none, []⟩, ⟨some 102, .bin .add (.t 101) (.c (.sc (.int .i64 1))), none, []⟩, ⟨some 12, .mv (.t 102), none, []⟩]) (.seq (.reg [⟨some 103, .mv (.t 13), none, []⟩, ⟨some 104, .bin .sub (.t 103) (.c (.sc (.int .i64 1))), none, []⟩, ⟨some 13, .mv (.t 104), none, []⟩]) (.seq (.blk 4 (.loop (.blk 5 (.seq (.blk 6 (.loop (.seq (.seq (.reg [⟨some 105, .mv (.t 12), none, []⟩, ⟨some 106, .mv (.t 13), none, []⟩, ⟨some 107, .bin .leq (.t 105) (.t 106), none, []⟩, ⟨some 108, .mv (.t 107), none, []⟩, ⟨some 109, .mv (.t 4), some (108, true), []⟩, ⟨some 110, .mv (.t 0), some (108, true), []⟩, ⟨some 111, .mv (.t 12), some (108, true), []⟩, ⟨some 112, .ix 2 (.t 110) (.t 111), some (108, true), []⟩, ⟨some 113, .load (some 2) (.t 112), some (108, true), []⟩, ⟨some 114, .mv (.t 0), some (108, true), []⟩, ⟨some 115, .mv (.t 1), some (108, true), []⟩, ⟨some 116, .ix 2 (.t 114) (.t 115), some (108, true), []⟩, ⟨some 117, .load (some 2) (.t 116), some (108, true), []⟩, ⟨some 118, .calv (.t 109) [.t 113, .t 117], some (108, true), []⟩, ⟨some 119, .bin .lss (.t 118) (.c (.sc (.int .i64 0))), some (108, true), []⟩, ⟨some 120, .pick (.t 108) (.t 119) (.c (.sc (.bool false))), none, []⟩]) (.cond (.t 120) .skip (.exit 6))) (.blk 7 (.reg [⟨some 121, .mv (.t 12), none, []⟩, ⟨some 122, .bin .add (.t 121) (.c (.sc (.int .i64 1))), none, []⟩, ⟨some 12, .mv (.t 122), none, []⟩]))))) (.seq (.blk 8 (.loop (.seq (.seq (.reg [⟨some 123, .mv (.t 12), none, []⟩, ⟨some 124, .mv (.t 13), none, []⟩, ⟨some 125, .bin .leq (.t 123) (.t 124), none, []⟩, ⟨some 126, .mv (.t 125), none, []⟩, ⟨some 127, .mv (.t 4), some (126, true), []⟩, ⟨some 128, .mv (.t 0), some (126, true), []⟩, ⟨some 129, .mv (.t 13), some (126, true), []⟩, ⟨some 130, .ix 2 (.t 128) (.t 129), some (126, true), []⟩, ⟨some 131, .load (some 2) (.t 130), some (126, true), []⟩, ⟨some 132, .mv (.t 0), some (126, true), []⟩, ⟨some 133, .mv (.t 1), some (126, true), []⟩, ⟨some 134, .ix 2 (.t 132) (.t 133), some (126, true), []⟩, ⟨some 135, .load (some 2) (.t 134), some (126, true), []⟩, ⟨some 136, .calv (.t 127) [.t 131, .t 135], some (126, true), []⟩, ⟨some 137, .bin .lss (.t 136) (.c (.sc (.int .i64 0))), some (126, true), []⟩, ⟨some 138, .un .not (.t 137), some (126, true), []⟩, ⟨some 139, .pick (.t 126) (.t 138) (.c (.sc (.bool false))), none, []⟩]) (.cond (.t 139) .skip (.exit 8))) (.blk 9 (.reg [⟨some 140, .mv (.t 13), none, []⟩, ⟨some 141, .bin .sub (.t 140) (.c (.sc (.int .i64 1))), none, []⟩, ⟨some 13, .mv (.t 141), none, []⟩]))))) (.seq (.seq (.reg [⟨some 142, .mv (.t 12), none, []⟩, ⟨some 143, .mv (.t 13), none, []⟩, ⟨some 144, .bin .gtr (.t 142) (.t 143), none, []⟩]) (.cond (.t 144) (.exit 4) .skip)) (.seq (.reg [⟨some 145, .mv (.t 0), none, []⟩, ⟨some 146, .mv (.t 12), none, []⟩, ⟨some 147, .mv (.t 0), none, []⟩, ⟨some 148, .mv (.t 13), none, []⟩, ⟨some 149, .mv (.t 0), none, []⟩, ⟨some 150, .mv (.t 13), none, []⟩, ⟨some 151, .ix 2 (.t 149) (.t 150), none, []⟩, ⟨some 152, .load (some 2) (.t 151), none, []⟩, ⟨some 153, .mv (.t 0), none, []⟩, ⟨some 154, .mv (.t 12), none, []⟩, ⟨some 155, .ix 2 (.t 153) (.t 154), none, []⟩, ⟨some 156, .load (some 2) (.t 155), none, []⟩, ⟨some 157, .ix 2 (.t 145) (.t 146), none, []⟩, ⟨none, .store 2 (.t 157) (.t 152), none, []⟩, ⟨some 158, .ix 2 (.t 147) (.t 148), none, []⟩, ⟨none, .store 2 (.t 158) (.t 156), none, []⟩]) (.seq (.reg [⟨some 159, .mv (.t 12), none, []⟩, ⟨some 160, .bin .add (.t 159) (.c (.sc (.int .i64 1))), none, []⟩, ⟨some 12, .mv (.t 160), none, []⟩]) (.reg [⟨some 161, .mv (.t 13), none, []⟩, ⟨some 162, .bin .sub (.t 161) (.c (.sc (.int .i64 1))), none, []⟩, ⟨some 13, .mv (.t 162), none, []⟩]))))))))) (.seq (.reg [⟨some 163, .mv (.t 0), none, []⟩, ⟨some 164, .mv (.t 13), none, []⟩, ⟨some 165, .mv (.t 0), none, []⟩, ⟨some 166, .mv (.t 1), none, []⟩, ⟨some 167, .mv (.t 0), none, []⟩, ⟨some 168, .mv (.t 1), none, []⟩, ⟨some 169, .ix 2 (.t 167) (.t 168), none, []⟩, ⟨some 170, .load (some 2) (.t 169), none, []⟩, ⟨some 171, .mv (.t 0), none, []⟩, ⟨some 172, .mv (.t 13), none, []⟩, ⟨some 173, .ix 2 (.t 171) (.t 172), none, []⟩, ⟨some 174, .load (some 2) (.t 173), none, []⟩, ⟨some 175, .ix 2 (.t 163) (.t 164), none, []⟩, ⟨none, .store 2 (.t 175) (.t 170), none, []⟩, ⟨some 176, .ix 2 (.t 165) (.t 166), none, []⟩, ⟨none, .store 2 (.t 176) (.t 174), none, []⟩]) (.seq (.reg [⟨some 177, .mv (.t 13), none, []⟩, ⟨some 10, .mv (.t 177), none, []⟩, ⟨some 11, .mv (.c (.sc (.bool false))), none, []⟩]) .ret))))))))))), [.tmp 10, .tmp 11]⟩
def CMedA (fmed : FuncId) : FC := ⟨18, .seq (.reg [⟨some 8, .mv (.c (.sc (.int .i64 0))), none, []⟩]) (.seq (.reg [⟨some 9, .mv (.t 0), none, []⟩, ⟨some 10, .mv (.t 1), none, []⟩, ⟨some 11, .bin .sub (.t 10) (.c (.sc (.int .i64 1))), none, []⟩, ⟨some 12, .mv (.t 1), none, []⟩, ⟨some 13, .mv (.t 1), none, []⟩, ⟨some 14, .bin .add (.t 13) (.c (.sc (.int .i64 1))), none, []⟩, ⟨some 15, .mv (.t 2), none, []⟩, ⟨some 16, .mv (.t 3), none, []⟩, ⟨some 17, .call fmed [.t 9, .t 11, .t 12, .t 14, .t 15, .t 16], none, []⟩, ⟨some 8, .mv (.t 17), none, []⟩]) .ret), [.tmp 8]⟩
def CMed (ford2 : FuncId) : FC := ⟨41, .seq (.reg [⟨some 12, .mv (.c (.sc (.int .i64 0))), none, []⟩]) (.seq (.reg [⟨some 14, .mv (.t 0), none, []⟩, ⟨some 15, .mv (.t 1), none, []⟩, ⟨some 16, .mv (.t 2), none, []⟩, ⟨some 17, .mv (.t 4), none, []⟩, ⟨some 18, .mv (.t 5), none, []⟩, ⟨some 19, .call ford2 [.t 14, .t 15, .t 16, .t 17, .t 18], none, []⟩, ⟨some 13, .mv (.t 19), none, []⟩, ⟨some 20, .ext (.t 13) 0, none, []⟩, ⟨some 21, .ext (.t 13) 1, none, []⟩, ⟨some 1, .mv (.t 20), none, []⟩, ⟨some 2, .mv (.t 21), none, []⟩]) (.seq (.reg [⟨some 23, .mv (.t 0), none, []⟩, ⟨some 24, .mv (.t 2), none, []⟩, ⟨some 25, .mv (.t 3), none, []⟩, ⟨some 26, .mv (.t 4), none, []⟩, ⟨some 27, .mv (.t 5), none, []⟩, ⟨some 28, .call ford2 [.t 23, .t 24, .t 25, .t 26, .t 27], none, []⟩, ⟨some 22, .mv (.t 28), none, []⟩, ⟨some 29, .ext (.t 22) 0, none, []⟩, ⟨some 30, .ext (.t 22) 1, none, []⟩, ⟨some 2, .mv (.t 29), none, []⟩, ⟨some 3, .mv (.t 30), none, []⟩]) (.seq (.reg [⟨some 32, .mv (.t 0), none, []⟩, ⟨some 33, .mv (.t 1), none, []⟩, ⟨some 34, .mv (.t 2), none, []⟩, ⟨some 35, .mv (.t 4), none, []⟩, ⟨some 36, .mv (.t 5), none, []⟩, ⟨some 37, .call ford2 [.t 32, .t 33, .t 34, .t 35, .t 36], none, []⟩, ⟨some 31, .mv (.t 37), none, []⟩, ⟨some 38, .ext (.t 31) 0, none, []⟩, ⟨some 39, .ext (.t 31) 1, none, []⟩, ⟨some 1, .mv (.t 38), none, []⟩, ⟨some 2, .mv (.t 39), none, []⟩]) (.seq (.reg [⟨some 40, .mv (.t 2), none, []⟩, ⟨some 12, .mv (.t 40), none, []⟩]) .ret)))), [.tmp 12]⟩
def COrd2 : FC := ⟨32, .seq (.reg [⟨some 10, .mv (.c (.sc (.int .i64 0))), none, []⟩, ⟨some 11, .mv (.c (.sc (.int .i64 0))), none, []⟩]) (.seq (.seq (.reg [⟨some 12, .mv (.t 4), none, []⟩, ⟨some 13, .mv (.t 0), none, []⟩, ⟨some 14, .mv (.t 2), none, []⟩, ⟨some 15, .ix 2 (.t 13) (.t 14), none, []⟩, ⟨some 16, .load (some 2) (.t 15), none, []⟩, ⟨some 17, .mv (.t 0), none, []⟩, ⟨some 18, .mv (.t 1), none, []⟩, ⟨some 19, .ix 2 (.t 17) (.t 18), none, []⟩, ⟨some 20, .load (some 2) (.t 19), none, []⟩, ⟨some 21, .calv (.t 12) [.t 16, .t 20], none, []⟩, ⟨some 22, .bin .lss (.t 21) (.c (.sc (.int .i64 0))), none, []⟩]) (.cond (.t 22) (.seq (.reg [⟨some 23, .mv (.t 3), none, []⟩, ⟨some 24, .nilck (.t 23), none, []⟩, ⟨some 25, .load none (.t 24), none, []⟩, ⟨some 26, .bin .add (.t 25) (.c (.sc (.int .i64 1))), none, []⟩, ⟨some 27, .nilck (.t 23), none, []⟩, ⟨none, .store 1 (.t 27) (.t 26), none, []⟩]) (.seq (.reg [⟨some 28, .mv (.t 2), none, []⟩, ⟨some 29, .mv (.t 1), none, []⟩, ⟨some 10, .mv (.t 28), none, []⟩, ⟨some 11, .mv (.t 29), none, []⟩]) .ret)) .skip)) (.seq (.reg [⟨some 30, .mv (.t 1), none, []⟩, ⟨some 31, .mv (.t 2), none, []⟩, ⟨some 10, .mv (.t 30), none, []⟩, ⟨some 11, .mv (.t 31), none, []⟩]) .ret)), [.tmp 10, .tmp 11]⟩
def CPdq (fins fheap fbreak fpivot frev fpart fequal fsplit fpdq : FuncId) : FC := ⟨148, .seq (.reg [⟨some 10, .mv (.c (.sc (.bool true))), none, []⟩]) (.seq (.reg [⟨some 11, .mv (.c (.sc (.bool true))), none, []⟩]) (.blk 0 (.loop (.blk 1 (.seq (.reg [⟨some 21, .mv (.t 2), none, []⟩, ⟨some 22, .mv (.t 1), none, []⟩, ⟨some 23, .bin .sub (.t 21) (.t 22), none, []⟩, ⟨some 12, .mv (.t 23), none, []⟩]) (.seq (.seq (.reg [⟨some 24, .mv (.t 12), none, []⟩, ⟨some 25, .bin .leq (.t 24) (.c (.sc (.int .i64 12))), none, []⟩]) (.cond (.t 25) (.seq (.reg [⟨some 26, .mv (.t 0), none, []⟩, ⟨some 27, .mv (.t 1), none, []⟩, ⟨some 28, .mv (.t 2), none, []⟩, ⟨some 29, .mv (.t 4), none, []⟩, ⟨some 30, .call fins [.t 26, .t 27, .t 28, .t 29], none, []⟩]) .ret) .skip)) (.seq (.seq (.reg [⟨some 31, .mv (.t 3), none, []⟩, ⟨some 32, .bin .eql (.t 31) (.c (.sc (.int .i64 0))), none, []⟩]) (.cond (.t 32) (.seq (.reg [⟨some 33, .mv (.t 0), none, []⟩, ⟨some 34, .mv (.t 1), none, []⟩, ⟨some 35, .mv (.t 2), none, []⟩, ⟨some 36, .mv (.t 4), none, []⟩, ⟨some 37, .call fheap [.t 33, .t 34, .t 35, .t 36], none, []⟩]) .ret) .skip)) (.seq (.seq (.reg [⟨some 38, .mv (.t 10), none, []⟩, ⟨some 39, .un .not (.t 38), none, []⟩]) (.cond (.t 39) (.seq (.reg [⟨some 40, .mv (.t 0), none, []⟩, ⟨some 41, .mv (.t 1), none, []⟩, ⟨some 42, .mv (.t 2), none, []⟩, ⟨some 43, .mv (.t 4), none, []⟩, ⟨some 44, .call fbreak [.t 40, .t 41, .t 42, .t 43], none, []⟩]) (.reg [⟨some 45, .mv (.t 3), none, []⟩, ⟨some 46, .bin .sub (.t 45) (.c (.sc (.int .i64 1))), none, []⟩, ⟨some 3, .mv (.t 46), none, []⟩])) .skip)) (.seq (.reg [⟨some 48, .mv (.t 0), none, []⟩, ⟨some 49, .mv (.t 1), none, []⟩, ⟨some 50, .mv (.t 2), none, []⟩, ⟨some 51, .mv (.t 4), none, []⟩, ⟨some 52, .call fpivot [.t 48, .t 49, .t 50, .t 51], none, []⟩, ⟨some 47, .mv (.t 52), none, []⟩, ⟨some 53, .ext (.t 47) 0, none, []⟩, ⟨some 54, .ext (.t 47) 1, none, []⟩, ⟨some 13, .mv (.t 53), none, []⟩, ⟨some 14, .mv (.t 54), none, []⟩]) (.seq (.seq (.reg [⟨some 55, .mv (.t 14), none, []⟩, ⟨some 56, .bin .eql (.t 55) (.c (.sc (.int .i64 2))), none, []⟩]) (.cond (.t 56) (.seq (.reg [⟨some 57, .mv (.t 0), none, []⟩, ⟨some 58, .mv (.t 1), none, []⟩, ⟨some 59, .mv (.t 2), none, []⟩, ⟨some 60, .mv (.t 4), none, []⟩, ⟨some 61, .call frev [.t 57, .t 58, .t 59, .t 60], none, []⟩]) (.seq (.reg [⟨some 62, .mv (.t 2), none, []⟩, ⟨some 63, .bin .sub (.t 62) (.c (.sc (.int .i64 1))), none, []⟩, ⟨some 64, .mv (.t 13), none, []⟩, ⟨some 65, .mv (.t 1), none, []⟩, ⟨some 66, .bin .sub (.t 64) (.t 65), none, []⟩, ⟨some 67, .bin .sub (.t 63) (.t 66), none, []⟩, ⟨some 13, .mv (.t 67), none, []⟩]) (.reg [⟨some 14, .mv (.c (.sc (.int .i64 1))), none, []⟩]))) .skip)) (.seq (.seq (.reg [⟨some 68, .mv (.t 10), none, []⟩, ⟨some 69, .mv (.t 68), none, []⟩, ⟨some 70, .mv (.t 11), some (69, true), []⟩, ⟨some 71, .pick (.t 69) (.t 70) (.c (.sc (.bool false))), none, []⟩, ⟨some 72, .mv (.t 71), none, []⟩, ⟨some 73, .mv (.t 14), some (72, true), []⟩, ⟨some 74, .bin .eql (.t 73) (.c (.sc (.int .i64 1))), some (72, true), []⟩, ⟨some 75, .pick (.t 72) (.t 74) (.c (.sc (.bool false))), none, []⟩]) (.cond (.t 75) (.seq (.reg [⟨some 76, .mv (.t 0), none, []⟩, ⟨some 77, .mv (.t 1), none, []⟩, ⟨some 78, .mv (.t 2), none, []⟩, ⟨some 79, .mv (.t 4), none, []⟩, ⟨some 80, .call fpart [.t 76, .t 77, .t 78, .t 79], none, []⟩]) (.cond (.t 80) .ret .skip)) .skip)) (.seq (.seq (.reg [⟨some 81, .mv (.t 1), none, []⟩, ⟨some 82, .bin .gtr (.t 81) (.c (.sc (.int .i64 0))), none, []⟩, ⟨some 83, .mv (.t 82), none, []⟩, ⟨some 84, .mv (.t 4), some (83, true), []⟩, ⟨some 85, .mv (.t 0), some (83, true), []⟩, ⟨some 86, .mv (.t 1), some (83, true), []⟩, ⟨some 87, .bin .sub (.t 86) (.c (.sc (.int .i64 1))), some (83, true), []⟩, ⟨some 88, .ix 2 (.t 85) (.t 87), some (83, true), []⟩, ⟨some 89, .load (some 2) (.t 88), some (83, true), []⟩, ⟨some 90, .mv (.t 0), some (83, true), []⟩, ⟨some 91, .mv (.t 13), some (83, true), []⟩, ⟨some 92, .ix 2 (.t 90) (.t 91), some (83, true), []⟩, ⟨some 93, .load (some 2) (.t 92), some (83, true), []⟩, ⟨some 94, .calv (.t 84) [.t 89, .t 93], some (83, true), []⟩, ⟨some 95, .bin .lss (.t 94) (.c (.sc (.int .i64 0))), some (83, true), []⟩, ⟨some 96, .un .not (.t 95), some (83, true), []⟩, ⟨some 97, .pick (.t 83) (.t 96) (.c (.sc (.bool false))), none, []⟩]) (.cond (.t 97) (.seq (.reg [⟨some 98, .mv (.t 0), none, []⟩, ⟨some 99, .mv (.t 1), none, []⟩, ⟨some 100, .mv (.t 2), none, []⟩, ⟨some 101, .mv (.t 13), none, []⟩, ⟨some 102, .mv (.t 4), none, []⟩, ⟨some 103, .call fequal [.t 98, .t 99, .t 100, .t 101, .t 102], none, []⟩, ⟨some 15, .mv (.t 103), none, []⟩]) (.seq (.reg [⟨some 104, .mv (.t 15), none, []⟩, ⟨some 1, .mv (.t 104), none, []⟩]) (.exit 1))) .skip)) (.seq (.reg [⟨some 106, .mv (.t 0), none, []⟩, ⟨some 107, .mv (.t 1), none, []⟩, ⟨some 108, .mv (.t 2), none, []⟩, ⟨some 109, .mv (.t 13), none, []⟩, ⟨some 110, .mv (.t 4), none, []⟩, ⟨some 111, .call fsplit [.t 106, .t 107, .t 108, .t 109, .t 110], none, []⟩, ⟨some 105, .mv (.t 111), none, []⟩, ⟨some 112, .ext (.t 105) 0, none, []⟩, ⟨some 113, .ext (.t 105) 1, none, []⟩, ⟨some 16, .mv (.t 112), none, []⟩, ⟨some 17, .mv (.t 113), none, []⟩]) (.seq (.reg [⟨some 114, .mv (.t 17), none, []⟩, ⟨some 11, .mv (.t 114), none, []⟩]) (.seq (.reg [⟨some 115, .mv (.t 16), none, []⟩, ⟨some 116, .mv (.t 1), none, []⟩, ⟨some 117, .bin .sub (.t 115) (.t 116), none, []⟩, ⟨some 118, .mv (.t 2), none, []⟩, ⟨some 119, .mv (.t 16), none, []⟩, ⟨some 120, .bin .sub (.t 118) (.t 119), none, []⟩, ⟨some 18, .mv (.t 117), none, []⟩, ⟨some 19, .mv (.t 120), none, []⟩]) (.seq (.reg [⟨some 121, .mv (.t 12), none, []⟩, ⟨some 122, .bin .quo (.t 121) (.c (.sc (.int .i64 8))), none, []⟩, ⟨some 20, .mv (.t 122), none, []⟩]) (.seq (.reg [⟨some 123, .mv (.t 18), none, []⟩, ⟨some 124, .mv (.t 19), none, []⟩, ⟨some 125, .bin .lss (.t 123) (.t 124), none, []⟩]) (.cond (.t 125) (.seq (.reg [⟨some 126, .mv (.t 18), none, []⟩, ⟨some 127, .mv (.t 20), none, []⟩, ⟨some 128, .bin .geq (.t 126) (.t 127), none, []⟩, ⟨some 10, .mv (.t 128), none, []⟩]) (.seq (.reg [⟨some 129, .mv (.t 0), none, []⟩, ⟨some 130, .mv (.t 1), none, []⟩, ⟨some 131, .mv (.t 16), none, []⟩, ⟨some 132, .mv (.t 3), none, []⟩, ⟨some 133, .mv (.t 4), none, []⟩, ⟨some 134, .call fpdq [.t 129, .t 130, .t 131, .t 132, .t 133], none, []⟩]) (.reg [⟨some 135, .mv (.t 16), none, []⟩, ⟨some 136, .bin .add (.t 135) (.c (.sc (.int .i64 1))), none, []⟩, ⟨some 1, .mv (.t 136), none, []⟩]))) (.seq (.reg [⟨some 137, .mv (.t 19), none, []⟩, ⟨some 138, .mv (.t 20), none, []⟩, ⟨some 139, .bin .geq (.t 137) (.t 138), none, []⟩, ⟨some 10, .mv (.t 139), none, []⟩]) (.seq (.reg [⟨some 140, .mv (.t 0), none, []⟩, ⟨some 141, .mv (.t 16), none, []⟩, ⟨some 142, .bin .add (.t 141) (.c (.sc (.int .i64 1))), none, []⟩, ⟨some 143, .mv (.t 2), none, []⟩, ⟨some 144, .mv (.t 3), none, []⟩, ⟨some 145, .mv (.t 4), none, []⟩, ⟨some 146, .call fpdq [.t 140, .t 142, .t 143, .t 144, .t 145], none, []⟩]) (.reg [⟨some 147, .mv (.t 16), none, []⟩, ⟨some 2, .mv (.t 147), none, []⟩]))))))))))))))))))))), []⟩
def CSorts (flen fpdq : FuncId) : FC := ⟨14, .seq (.reg [⟨some 5, .mv (.t 0), none, []⟩, ⟨some 6, .len (.t 5), none, []⟩, ⟨some 4, .mv (.t 6), none, []⟩]) (.reg [⟨some 7, .mv (.t 0), none, []⟩, ⟨some 8, .mv (.t 4), none, []⟩, ⟨some 9, .mv (.t 4), none, []⟩, ⟨some 10, .conv .u64 (.t 9), none, []⟩, ⟨some 11, .call flen [.t 10], none, []⟩, ⟨some 12, .mv (.t 1), none, []⟩, ⟨some 13, .call fpdq [.t 7, .c (.sc (.int .i64 0)), .t 8, .t 11, .t 12], none, []⟩]), []⟩
end
section
open Go

theorem put_swp {st : St} {b c : Nat} {x y z : List V} (h : b ≠ c) : ((st.put b x).put c y).put b z = (st.put b z).put c y := by
  simp only [St.put, St.mk.injEq, true_and]
  refine ⟨funext fun q => ?_, by omega⟩
  by_cases h1 : q = b
  · subst h1; simp [h]
  · by_cases h2 : q = c
    · subst h2; simp [h1]
    · simp [h1, h2]
theorem and_u64 (x : Int) {m : Nat} (h : m < 18446744073709551616) : ∃ z : Nat, ibit .and .u64 x (m : Int) = (z : Int) ∧ z ≤ m := by
  refine ⟨(BitVec.ofInt 64 x &&& BitVec.ofInt 64 (m : Int)).toNat, ?_, ?_⟩
  · show IntKind.wrap .u64 (((BitVec.ofInt 64 x &&& BitVec.ofInt 64 (m : Int)).toNat : Nat) : Int) = _
    have := (BitVec.ofInt 64 x &&& BitVec.ofInt 64 (m : Int)).isLt
    show (((BitVec.ofInt 64 x &&& BitVec.ofInt 64 (m : Int)).toNat : Nat) : Int) % 18446744073709551616 = _
    omega
  · rw [BitVec.toNat_and]
    refine Nat.le_trans Nat.and_le_right ?_
    rw [BitVec.toNat_ofInt]
    omega
def dataV (b n cap : Nat) : V := .sc (.slice (some ⟨b, 0, none⟩) n cap)
theorem weak_re {st : St} {b : Nat} {X Y : List V} (h : (st.put b X).Wf) : (st.put b Y).weak (st.put b Y) := by
  have := (h.lt.put (b := b) (cs := Y)).weak
  rwa [put_put] at this
theorem put_selfR {st : St} {b : Nat} {cs : List V} (hb : st.box b = some cs) (h : b < st.sz) : st.put b cs = st := by
  cases st with
  | mk box own sz =>
    simp only [St.put, St.mk.injEq, true_and]
    simp only at hb h
    refine ⟨?_, by omega⟩
    funext i
    by_cases e : i = b
    · subst e; simp [hb]
    · simp [e]
section
variable {α : Type} [Inhabited α] {lt : α → α → Bool}
theorem Srt.all {L M : List α} (h : Mix 0 L.length L M) (k : Srt lt 0 L.length M) : M.Perm L ∧ M.Pairwise (fun x y => lt y x = false) := ⟨h.perm, Srt.pw (by rw [h.len]; exact k)⟩
end
end
section
open Go

section
variable {α : Type}
def two (p : V × V) : List V := [p.1, p.2]
/-- A row of elements of two cells each, and what lies behind it. -/
def rowc (val : α → V × V) (L : List α) (sp : List V) : List V := L.flatMap (fun x => two (val x)) ++ sp
variable {val : α → V × V} {L M : List α} {sp : List V}
theorem rowc_len : (rowc val L sp).length = L.length * 2 + sp.length := by
  induction L with
  | nil => simp [rowc]
  | cons x L ih =>
    simp only [rowc, List.flatMap_cons, List.append_assoc, List.length_append, List.length_cons] at ih ⊢
    rw [ih]; simp only [two, List.length_cons, List.length_nil]; omega
theorem rowc_cons {x : α} : rowc val (x :: L) sp = (val x).1 :: (val x).2 :: rowc val L sp := by simp [rowc, two]
theorem rowc_set : ∀ {L : List α} {i : Nat} {y : α}, i < L.length → List.take (i * 2) (rowc val L sp) ++ [(val y).1, (val y).2] ++ List.drop (i * 2 + 2) (rowc val L sp) = rowc val (L.set i y) sp
  | [], i, y, h => by simp at h
  | x :: L, 0, y, h => by simp [rowc_cons]
  | x :: L, i + 1, y, h => by
    have ih := rowc_set (L := L) (i := i) (y := y) (by simpa using h)
    rw [rowc_cons, List.set_cons_succ, rowc_cons, ← ih, show (i + 1) * 2 = i * 2 + 1 + 1 by omega, show i * 2 + 1 + 1 + 2 = i * 2 + 2 + 1 + 1 by omega]
    simp only [List.take_succ_cons, List.drop_succ_cons, List.cons_append]
theorem rowc_mono (h : mono (rowc val L sp)) (hl : M.length = L.length) : mono (rowc val M sp) := by
  cases M with
  | nil =>
    have : L = [] := List.eq_nil_of_length_eq_zero (by simpa using hl.symm)
    subst this
    exact h
  | cons x M => rw [rowc_cons]; exact mono_two ▸ trivial
theorem rowc_get [Inhabited α] : ∀ {L : List α} {i : Nat}, i < L.length → List.take 2 (List.drop (i * 2) (rowc val L sp)) = [(val L[i]!).1, (val L[i]!).2]
  | [], i, h => by simp at h
  | x :: L, 0, h => by simp [rowc_cons]
  | x :: L, i + 1, h => by
    have ih := rowc_get (L := L) (i := i) (by simpa using h)
    rw [rowc_cons, show (i + 1) * 2 = i * 2 + 1 + 1 by omega]
    simp only [List.drop_succ_cons]
    rw [ih]
    simp
def cmpV (g : FuncId) : V := .sc (.func (.func g) #[] #[])
/-- Elements, and what compares them. -/
structure EltC (P : Program) (g : FuncId) (val : α → V × V) (lt : α → α → Bool) : Prop where
  less : ∀ (st : St) (x y : α), VCalls P g [.agg [(val x).1, (val x).2], .agg [(val y).1, (val y).2]] st fun r st' => ∃ n : Int, decide (n < 0) = lt x y ∧ r = .sc (.int .i64 n) ∧ st = st'
  call : callable P g = true
  ord : Ord' lt
theorem arr0 : (#[] : Array Value).toList = [] := rfl
theorem all0 : (∀ v ∈ ([] : List Value), v.oneCell' = true) = True := by simp
end
section
variable {P : Program} {α : Type} [Inhabited α] {val : α → V × V} {lt : α → α → Bool} {g f fsift : FuncId} {st : St} {b cap a c : Nat} {L : List α} {sp : List V}
set_option maxRecDepth 100000 in
set_option maxHeartbeats 2000000 in
theorem cins_v (hf : cFun P f = some (CIns)) (E : EltC P g val lt) (hmo : mono (rowc val L sp)) (h1 : a ≤ c) (h2 : c ≤ L.length) (hl : L.length < 4611686018427387904) :
    VCalls P f [dataV b L.length cap, .sc (.int .i64 a), .sc (.int .i64 c), cmpV g] (st.put b (rowc val L sp)) fun _ s => ∃ M, Mix a c L M ∧ Srt lt a c M ∧ s = st.put b (rowc val M sp) := by
  refine vcalls_enter hf (Nat.le_of_ble_eq_true rfl) fun hwf hok => ?_
  show Run _ (CIns).body (.fin (finQ (CIns).res _)) _ _
  unfold CIns
  simp (config := {maxSteps := 3000000}) only [go_sem, Int.reduceNeg, ↓reduceIte, dataV, cmpV]
  repeat (apply And.intro; focus (first | omega | (simp; done)))
  refine run_loop [8, 9, 12, 13, 14, 15, 16, 17, 18, 19, 20, 21, 22, 23, 24, 25, 26, 27, 28, 29, 30, 31, 32, 33, 34, 35, 36, 37, 38, 39, 40, 41, 42, 43, 44, 45, 46, 47, 48, 49, 50, 51, 52] (fun B s => ∃ (i : Nat) (M : List α), (a + 1 ≤ i ∧ (i ≤ c ∨ i = a + 1)) ∧ B 8 = .sc (.int .i64 i) ∧ Mix a c L M ∧ Srt lt a i M ∧ s = st.put b (rowc val M sp)) (fun B _ => c - vnat (B 8)) rfl ?_ ?_
  · simp (config := {maxSteps := 3000000}) only [go_sem, ↓reduceIte]
    exact ⟨a + 1, L, by omega, by simp, .refl, Srt.one (by omega), rfl⟩
  · rintro B s ⟨i, M, hi, h6, hM, hS, rfl⟩
    by_cases c1 : i < c
    · have hlen := hM.len
      simp (config := {maxSteps := 3000000}) only [go_sem, Nat.reduceEqDiff, ↓reduceIte, Nat.reduceBEq, h6, decide_eq_true (show (i : Int) < (c : Int) by omega)]
      refine run_loop [9, 18, 19, 20, 21, 22, 23, 24, 25, 26, 27, 28, 29, 30, 31, 32, 33, 34, 35, 36, 37, 38, 39, 40, 41, 42, 43, 44, 45, 46, 47, 48, 49, 50, 51, 52] (fun C s' => ∃ (j : Nat) (M' : List α), (a ≤ j ∧ j ≤ i) ∧ C 9 = .sc (.int .i64 j) ∧ Mix a c L M' ∧ Ins lt a i j M' ∧ s' = st.put b (rowc val M' sp)) (fun C _ => vnat (C 9)) rfl ?_ ?_
      · simp (config := {maxSteps := 3000000}) only [go_sem, ↓reduceIte]
        exact ⟨i, M, by omega, rfl, hM, Ins.start hS, rfl⟩
      · rintro C s' ⟨j, M', hj, h7, hM', hI, rfl⟩
        have hlen' := hM'.len
        have hmo' := rowc_mono hmo hlen'
        by_cases c2 : a < j
        · have e1 : ((j : Int) - 1).toNat = j - 1 := by omega
          simp (config := {maxSteps := 3000000}) only [go_sem, Nat.reduceEqDiff, Int.reduceNeg, ↓reduceIte, reduceCtorEq, Nat.reduceBEq, h7, decide_eq_true (show (a : Int) < (j : Int) by omega), e1, rowc_get (show j < M'.length by omega), rowc_get (show j - 1 < M'.length by omega), rowc_len, rowc_mono hmo hlen', E.call, List.map_nil]
          repeat (apply And.intro; focus (first | omega | (simp; done)))
          refine Cal.mk (E.less _ _ _) ?_
          rintro _ _ ⟨z1, hz1, rfl, rfl⟩ -
          simp (config := {maxSteps := 3000000}) only [go_sem, Nat.reduceEqDiff, ↓reduceIte, hz1]
          cases c3 : lt M'[j]! M'[j - 1]!
          · simp (config := {maxSteps := 3000000}) only [go_sem, Nat.reduceEqDiff, Int.reduceNeg, ↓reduceIte, Nat.reduceBEq, h6]
            repeat (apply And.intro; focus (first | omega | (simp; done)))
            exact ⟨⟨i + 1, M', by omega, by simp, hM', hI.done E.ord (by omega) (.inr ⟨c2, c3⟩), rfl⟩, by omega⟩
          · have hs1 := rowc_set (val := val) (L := M') (sp := sp) (i := j) (y := M'[j - 1]!) (by omega)
            have hs2 := rowc_set (val := val) (L := M'.set j M'[j - 1]!) (sp := sp) (i := j - 1) (y := M'[j]!) (by simp; omega)
            have hmo2 : mono (rowc val (M'.set j M'[j - 1]!) sp) := rowc_mono hmo (by simp [hlen'])
            have hex := hM'.exch (i := j) (j := j - 1) (by omega) (by omega) (by omega) (by omega) h2
            have hst := hI.step E.ord c2 (by omega) (by omega) c3
            simp (config := {maxSteps := 3000000}) only [go_sem, Nat.reduceEqDiff, Nat.reduceAdd, Nat.reduceLT, Int.reduceNeg, ↓reduceIte, reduceCtorEq, Nat.reduceBEq, h7, e1, rowc_get (show j < M'.length by omega), rowc_get (show j - 1 < M'.length by omega), rowc_len, hmo', hmo2, hs1, hs2, List.length_set, rowc_len]
            repeat (apply And.intro; focus (first | omega | (simp; done)))
            exact ⟨⟨j - 1, exch M' j (j - 1), by omega, by rw [show ((j : Int) - 1) = ((j - 1 : Nat) : Int) by omega], hex, hst, rfl⟩, by omega⟩
        · have ej : j = a := by omega
          subst ej
          simp (config := {maxSteps := 3000000}) only [go_sem, Nat.reduceEqDiff, Int.reduceNeg, ↓reduceIte, Nat.reduceBEq, h7, h6]
          repeat (apply And.intro; focus (first | omega | (simp; done)))
          exact ⟨⟨i + 1, M', by omega, by simp, hM', hI.done E.ord (by omega) (.inl rfl), rfl⟩, by omega⟩
    · simp (config := {maxSteps := 3000000}) only [go_sem, Nat.reduceEqDiff, ↓reduceIte, Nat.reduceBEq, h6, decide_eq_false (show ¬ (i : Int) < (c : Int) by omega)]
      exact ⟨_, _, Wk.refl _, weak_re hwf, M, hM, by
        by_cases e : i = c
        · subst e; exact hS
        · exact Srt.one (by omega), rfl⟩
end
end
section
open Go

section
variable {α : Type} {val : α → V × V} {L : List α} {sp : List V} {P : Program} {st : St} {A : Nat → V} {k : Kt} {d : Option Nat} {obs : List (Option Nat × X × Nat)} {rest : List VO}
theorem rowc_push {x : α} {sp' : List V} : (rowc val L sp).take (L.length * 2) ++ [V.agg [(val x).1, (val x).2]].flatMap V.cells ++ sp' = rowc val (L ++ [x]) sp' := by
  have hl : (L.flatMap fun x => two (val x)).length = L.length * 2 := by
    have := rowc_len (val := val) (L := L) (sp := [])
    simpa [rowc] using this
  unfold rowc
  rw [List.take_left' hl]
  simp [V.cells, two]
/-- An append of one element to a row in a box. -/
theorem App.pushC {bytes b cap : Nat} {tk : Tk} {x : α} (hb : st.box b = some (rowc val L sp)) (hl : L.length * 2 + sp.length = cap * 2) (hmo : mono (rowc val L sp)) (hc : cap ≤ maxLen) (h1 : L.length + 1 ≤ maxLen) (h2 : (L.length + 1) * bytes ≤ 140737488355328)
    (hk : ∀ b' cap' sp', (b' = b ∨ st.sz ≤ b') → (L.length < cap → b' = b ∧ cap' = cap) → (L.length + 1) * 2 + sp'.length = cap' * 2 → cap' ≤ maxLen → mono (rowc val (L ++ [x]) sp') → obsOk (st.put b' (rowc val (L ++ [x]) sp')) A obs ∧
      Ops P rest k (putV A d (dataV b' (L ++ [x]).length cap')) (st.put b' (rowc val (L ++ [x]) sp'))) : App P 2 bytes (dataV b L.length cap) (.sl tk [.agg [(val x).1, (val x).2]]) d obs rest k A st := by
  refine App.mut hb (by rw [rowc_len]; omega) hmo (by omega) hc (by intro d hd; simp only [List.mem_singleton] at hd; subst hd; rfl) (by simpa using h1) (by simpa using h2) fun b' cap' spare k1 k2 k3 k4 k5 k6 => ?_
  rw [rowc_push] at k6 ⊢
  have hlen : L.length + [V.agg [(val x).1, (val x).2]].length = (L ++ [x]).length := by simp
  rw [hlen]
  simp only [List.length_cons, List.length_nil] at k2 k4 k5
  exact hk b' cap' spare k1 (fun h => ⟨(k5 (by omega)).1, (k5 (by omega)).2.1⟩) (by omega) k3 k6
theorem App.pushC0 {bytes : Nat} {tk : Tk} {x : α} (h2 : bytes ≤ 140737488355328)
    (hk : ∀ b' cap' sp', st.sz ≤ b' → 2 + sp'.length = cap' * 2 → cap' ≤ maxLen → mono (rowc val [x] sp') → obsOk (st.put b' (rowc val [x] sp')) A obs ∧
      Ops P rest k (putV A d (dataV b' [x].length cap')) (st.put b' (rowc val [x] sp'))) : App P 2 bytes (.sl .nil []) (.sl tk [.agg [(val x).1, (val x).2]]) d obs rest k A st := by
  refine App.new (by intro d hd; simp only [List.mem_singleton] at hd; subst hd; rfl) (by simp) (by simp [maxLen]) (by simpa using h2) fun b' cap' spare k1 k2 k3 k4 k5 => ?_
  have e : [V.agg [(val x).1, (val x).2]].flatMap V.cells ++ spare = rowc val [x] spare := by simp [rowc, two, V.cells]
  rw [e] at k5 ⊢
  simp only [List.length_cons, List.length_nil] at k4
  exact hk b' cap' spare k1 (by omega) k3 k5
/-- A row in a box that the caller's state does not know. -/
structure RBC (val : α → V × V) (base s : St) (b cap : Nat) (L : List α) (sp : List V) : Prop where
  box : s.box b = some (rowc val L sp)
  len : L.length * 2 + sp.length = cap * 2
  mono : mono (rowc val L sp)
  max : cap ≤ maxLen
  weak : base.weak s
  lt : s.Lt
  fresh : base.sz ≤ b
theorem RBC.self {base s : St} {b cap : Nat} (h : RBC val base s b cap L sp) : s.put b (rowc val L sp) = s := put_selfR h.box (h.lt.box b _ h.box)
theorem RBC.mk0 {base s : St} {b cap : Nat} {x : α} (hw : base.weak s) (hl : s.Lt) (k1 : s.sz ≤ b) (k2 : 2 + sp.length = cap * 2) (k3 : cap ≤ maxLen) (k4 : _root_.Go.Proofs.Ytlngegoamfklgaa.mono (rowc val [x] sp)) : RBC val base (s.put b (rowc val [x] sp)) b cap [x] sp :=
  ⟨put_box_same, by simpa using k2, k4, k3, weak_put hw (by have := hw.sz; omega), hl.put, by have := hw.sz; omega⟩
theorem RBC.push {base s : St} {b cap b' cap' : Nat} {x : α} {sp' : List V} (h : RBC val base s b cap L sp) (k1 : b' = b ∨ s.sz ≤ b') (k2 : (L.length + 1) * 2 + sp'.length = cap' * 2) (k3 : cap' ≤ maxLen) (k4 : _root_.Go.Proofs.Ytlngegoamfklgaa.mono (rowc val (L ++ [x]) sp')) :
    RBC val base (s.put b' (rowc val (L ++ [x]) sp')) b' cap' (L ++ [x]) sp' := by
  have hf : base.sz ≤ b' := by
    have := h.fresh; have := h.weak.sz
    rcases k1 with rfl | k1 <;> omega
  exact ⟨put_box_same, by simpa using k2, k4, k3, weak_put h.weak hf, h.lt.put, hf⟩
/-- Another box beside it. -/
theorem RBC.put {base s : St} {b cap c : Nat} {cs : List V} (h : RBC val base s b cap L sp) (hb : b ≠ c) (hc : base.sz ≤ c) : RBC val base (s.put c cs) b cap L sp :=
  ⟨by rw [put_box_ne hb]; exact h.box, h.len, h.mono, h.max, weak_put h.weak hc, h.lt.put, h.fresh⟩
/-- The row turned. -/
theorem RBC.mix {base s : St} {b cap : Nat} {M : List α} (h : RBC val base s b cap L sp) (hM : M.length = L.length) : RBC val base (s.put b (rowc val M sp)) b cap M sp :=
  ⟨put_box_same, by rw [hM]; exact h.len, rowc_mono h.mono hM, h.max, weak_put h.weak h.fresh, h.lt.put, h.fresh⟩
end
end
section

section
variable {α : Type} [Inhabited α]
theorem by_not {x y : Bool} (h : x = y) : (!x) = !y := by rw [h]
theorem not_by {x y : Bool} (h : (!x) = y) : x = !y := by rw [← h, Bool.not_not]
/-- Parted so far: left of i what passes with the element at a, right of j what does not. -/
structure Part (q : α → α → Bool) (a c i j : Nat) (M : List α) : Prop where
  ai : a + 1 ≤ i
  ij : i ≤ j + 1
  jc : j < c
  lo : ∀ k, a < k → k < i → q M[a]! M[k]! = true
  hi : ∀ k, j < k → k < c → q M[a]! M[k]! = false
variable {q : α → α → Bool} {a c i j : Nat} {M : List α}
theorem Part.start (h : a < c) : Part q a c (a + 1) (c - 1) M := ⟨Nat.le_refl _, by omega, by omega, fun k h1 h2 => by omega, fun k h1 h2 => by omega⟩
theorem Part.up (h : Part q a c i j M) (hij : i ≤ j) (hq : q M[a]! M[i]! = true) : Part q a c (i + 1) j M := by
  refine ⟨by have := h.ai; omega, by omega, h.jc, fun k h1 h2 => ?_, h.hi⟩
  by_cases e : k = i
  · rw [e]; exact hq
  · exact h.lo k h1 (by omega)
theorem Part.down (h : Part q a c i j M) (hij : i ≤ j) (hq : q M[a]! M[j]! = false) : Part q a c i (j - 1) M := by
  refine ⟨h.ai, by have := h.ai; omega, by have := h.jc; omega, h.lo, fun k h1 h2 => ?_⟩
  by_cases e : k = j
  · rw [e]; exact hq
  · exact h.hi k (by omega) h2
theorem Part.lt (_ : Part q a c i j M) (hij : i ≤ j) (h1 : q M[a]! M[i]! = false) (h2 : q M[a]! M[j]! = true) : i < j := by
  rcases Nat.lt_or_ge i j with h | h
  · exact h
  · have e : i = j := by omega
    rw [e, h2] at h1; cases h1
theorem Part.swap (h : Part q a c i j M) (hij : i ≤ j) (h1 : q M[a]! M[i]! = false) (h2 : q M[a]! M[j]! = true) (hc : c ≤ M.length) : Part q a c (i + 1) (j - 1) (exch M i j) := by
  have hl := h.lt hij h1 h2
  have h3 := h.ai
  have h4 := h.jc
  have g := fun k => exch_get (L := M) (i := i) (j := j) (by omega) (by omega) k
  refine ⟨by omega, by omega, by omega, fun k k1 k2 => ?_, fun k k1 k2 => ?_⟩
  · rw [g a, g k, if_neg (by omega), if_neg (by omega), if_neg (show ¬ k = j by omega)]
    by_cases e : k = i
    · rw [if_pos e]; exact h2
    · rw [if_neg e]; exact h.lo k k1 (by omega)
  · rw [g a, g k, if_neg (by omega), if_neg (by omega), if_neg (show ¬ k = i by omega)]
    by_cases e : k = j
    · rw [if_pos e]; exact h1
    · rw [if_neg e]; exact h.hi k (by omega) k2
theorem Part.head (h : Part q a c i j M) (hij : i ≤ j) (hc : c ≤ M.length) : (exch M i j)[a]! = M[a]! := by
  have h3 := h.ai
  have h4 := h.jc
  rw [exch_get (by omega) (by omega), if_neg (by omega), if_neg (by omega)]
variable {lt : α → α → Bool}
/-- The pivot in its place. -/
theorem Part.mid (O : Ord' lt) (h : Part (fun p x => lt x p) a c i j M) (hij : ¬ i ≤ j) (hc : c ≤ M.length) :
    (∀ k, a ≤ k → k < j → lt (exch M j a)[j]! (exch M j a)[k]! = false) ∧ (∀ k, j < k → k < c → lt (exch M j a)[k]! (exch M j a)[j]! = false) := by
  have h1 := h.ai
  have h2 := h.ij
  have h3 := h.jc
  have g := fun k => exch_get (L := M) (i := j) (j := a) (by omega) (by omega) k
  have gj : (exch M j a)[j]! = M[a]! := by
    rw [g j]
    by_cases e : j = a
    · rw [if_pos e, e]
    · rw [if_neg e, if_pos rfl]
  refine ⟨fun k k1 k2 => ?_, fun k k1 k2 => ?_⟩
  · rw [gj, g k]
    by_cases e : k = a
    · rw [if_pos e]; exact O.asymm (h.lo j (by omega) (by omega))
    · rw [if_neg e, if_neg (by omega)]; exact O.asymm (h.lo k (by omega) (by omega))
  · rw [gj, g k, if_neg (by omega), if_neg (by omega)]
    exact h.hi k k1 k2
theorem Srt.next {a i : Nat} {M : List α} (O : Ord' lt) (h : Srt lt a i M) (ha : a + 1 ≤ i) (h1 : lt M[i]! M[i - 1]! = false) : Srt lt a (i + 1) M := fun p q h2 h3 h4 => by
  by_cases e : q = i
  · subst e
    by_cases e2 : p = q - 1
    · rw [e2]; exact h1
    · exact O.trans (h p (q - 1) h2 (by omega) (by omega)) h1
  · exact h p q h2 h3 (by omega)
theorem Srt.keep {a i : Nat} {M N : List α} (h : Srt lt a i M) (he : ∀ k, a ≤ k → k < i → N[k]! = M[k]!) : Srt lt a i N := fun p q h2 h3 h4 => by
  rw [he p h2 (by omega), he q (by omega) h4]; exact h p q h2 h3 h4
theorem LB.part {x y m : Nat} {L : List α} (h : LB lt x y L) (hm : m ≤ y) : LB lt x m L := fun h0 k h1 h2 => h h0 k h1 (by omega)
theorem LB.next {y m : Nat} {L : List α} (h2 : ∀ k, m < k → k < y → lt L[k]! L[m]! = false) : LB lt (m + 1) y L := fun _ k h3 h4 => h2 k (by omega) h4
theorem Fence.fin {a c x y : Nat} {L M N : List α} (h : Fence lt a c x y M) (hM : Mix a c L M) (hax : a ≤ x) (hyc : y ≤ c) (hc : c ≤ L.length) (k1 : Mix x y M N) (k2 : Srt lt x y N) : Mix a c L N ∧ Srt lt a c N :=
  ⟨hM.trans (k1.wide hax hyc), (h.mix k1 hax hyc (by rw [hM.len]; exact hc)).done k2⟩
theorem Fence.goL (O : Ord' lt) {a c x y m : Nat} {M N : List α} (h : Fence lt a c x y M) (hax : a ≤ x) (hyc : y ≤ c) (hxm : x ≤ m) (hmy : m < y) (hc : c ≤ M.length) (h1 : ∀ k, x ≤ k → k < m → lt M[m]! M[k]! = false) (h2 : ∀ k, m < k → k < y → lt M[k]! M[m]! = false)
    (k1 : Mix x m M N) (k2 : Srt lt x m N) : Fence lt a c (m + 1) y N := by
  have hF := h.mix (k1.wide (Nat.le_refl _) (by omega)) hax hyc hc
  refine hF.left O hax hyc hxm hmy (fun k q1 q2 => ?_) (fun k q1 q2 => ?_) k2
  · rw [k1.out m (by omega)]
    exact k1.all (by omega) (Q := fun v => lt M[m]! v = false) h1 k q1 q2
  · rw [k1.out m (by omega), k1.out k (by omega)]
    exact h2 k q1 q2
theorem Fence.goR (O : Ord' lt) {a c x y m : Nat} {M N : List α} (h : Fence lt a c x y M) (hax : a ≤ x) (hyc : y ≤ c) (hxm : x ≤ m) (hmy : m < y) (hc : c ≤ M.length) (h1 : ∀ k, x ≤ k → k < m → lt M[m]! M[k]! = false) (h2 : ∀ k, m < k → k < y → lt M[k]! M[m]! = false)
    (k1 : Mix (m + 1) y M N) (k2 : Srt lt (m + 1) y N) : Fence lt a c x m N := by
  have hF := h.mix (k1.wide (by omega) (Nat.le_refl _)) hax hyc hc
  refine hF.right O hax hyc hxm hmy (fun k q1 q2 => ?_) (fun k q1 q2 => ?_) k2
  · rw [k1.out m (by omega), k1.out k (by omega)]
    exact h1 k q1 q2
  · rw [k1.out m (by omega)]
    exact k1.all (by omega) (Q := fun v => lt v M[m]! = false) (fun k q1 q2 => h2 k (by omega) q2) k (by omega) q2
theorem Fence.goE (O : Ord' lt) {a c x y m pv : Nat} {M N : List α} (h : Fence lt a c x y M) (hLB : LB lt x y M) (hx : 0 < x) (hpv : lt M[x - 1]! M[pv]! = false) (hax : a ≤ x) (hyc : y ≤ c) (hxm : x < m) (hmy : m ≤ y) (hc : c ≤ M.length) (k1 : Mix x y M N)
    (h1 : ∀ k, x ≤ k → k < m → lt M[pv]! N[k]! = false) : Fence lt a c m y N := by
  have hF := h.mix k1 hax hyc hc
  have hall : ∀ k, x ≤ k → k < y → lt N[k]! M[pv]! = false := k1.all (by omega) (Q := fun v => lt v M[pv]! = false) fun k q1 q2 => O.trans hpv (hLB hx k q1 q2)
  refine hF.least hax hyc (by omega) hmy fun k j q1 q2 q3 q4 => O.trans (h1 k q1 q2) (hall j q3 q4)
end
end
section
open Go

/-- A datagram that is cut in pieces, n at least two. -/
structure CutD (d : DG) (step n : Nat) : Prop where
  s0 : 0 < step
  s8 : step % 8 = 0
  sl : step < d.D.length
  n : n = nPieces d step
  D : d.D.length ≤ 500
  f : d.frag = 0
  lim : d.Lim 2000
def pDat (d : DG) (step j : Nat) : List Int := (d.D.drop (j * step)).take step
/-- A piece as a row's element. -/
def pcv (d : DG) (step : Nat) (j : Nat) : V × V := (.sc (.int .i64 ((min j 511 * step : Nat) : Int)), .sl .no (bs (pDat d step (min j 511))))
variable {d : DG} {step n : Nat}
theorem CutD.at (h : CutD d step n) {j : Nat} : j * step < d.D.length ↔ j < n := by rw [h.n]; exact nPieces_at h.s0
theorem CutD.n63 (h : CutD d step n) : n ≤ 500 := by
  have h1 := h.at (j := n - 1)
  have h2 := h.s0
  have h3 := h.D
  by_cases c : n = 0
  · omega
  · have := h1.2 (by omega)
    have : n - 1 ≤ (n - 1) * step := Nat.le_mul_of_pos_right _ h2
    omega
theorem CutD.two (h : CutD d step n) : 2 ≤ n := by
  have := (h.at (j := 1)).1 (by rw [Nat.one_mul]; exact h.sl)
  omega
theorem pDat_len (d : DG) (step j : Nat) : (pDat d step j).length = min step (d.D.length - j * step) := by simp [pDat]
theorem CutD.pos (h : CutD d step n) {j : Nat} (hj : j < n) : 0 < (pDat d step j).length := by
  have := h.at.2 hj; have := h.s0; rw [pDat_len]; omega
theorem CutD.le (h : CutD d step n) {j : Nat} (hj : j < n) : j * step + (pDat d step j).length ≤ d.D.length := by
  have := h.at.2 hj; rw [pDat_len]; omega
theorem CutD.apart (_ : CutD d step n) {i j : Nat} (hij : i < j) : i * step + (pDat d step i).length ≤ j * step := by
  rw [pDat_len]
  have : (i + 1) * step ≤ j * step := Nat.mul_le_mul_right _ hij
  rw [Nat.add_mul, Nat.one_mul] at this
  omega
theorem CutD.more (h : CutD d step n) {j : Nat} : j * step + step < d.D.length ↔ j + 1 < n := by
  have := h.at (j := j + 1)
  rw [Nat.add_mul, Nat.one_mul] at this
  exact this
theorem CutD.eight (h : CutD d step n) (j : Nat) : j * step % 8 = 0 := by
  rw [Nat.mul_mod, h.s8, Nat.mul_zero, Nat.zero_mod]
theorem CutD.full (h : CutD d step n) {j : Nat} (hj : j + 1 < n) : (pDat d step j).length % 8 = 0 := by
  have := h.more.2 hj
  rw [pDat_len, Nat.min_eq_left (by omega), h.s8]
/-! ### Which came -/
def sumW (w : Nat → Nat) : List Nat → Nat
  | [] => 0
  | j :: l => w j + sumW w l
theorem sumW_append (w : Nat → Nat) (l m : List Nat) : sumW w (l ++ m) = sumW w l + sumW w m := by
  induction l with
  | nil => simp [sumW]
  | cons x l ih => simp only [List.cons_append, sumW, ih]; omega
theorem sumW_perm {w : Nat → Nat} {l m : List Nat} (h : l.Perm m) : sumW w l = sumW w m := by
  induction h with
  | nil => rfl
  | cons x _ ih => simp only [sumW, ih]
  | swap x y l => simp only [sumW]; omega
  | trans _ _ h1 h2 => rw [h1, h2]
theorem sumW_sub {w : Nat → Nat} {T : List Nat} {n : Nat} (hn : T.Nodup) (hs : ∀ j ∈ T, j < n) : sumW w T ≤ sumW w (List.range n) := by
  have hp : (T ++ (List.range n).filter fun i => !T.contains i).Perm (List.range n) := by
    refine (List.perm_ext_iff_of_nodup ?_ List.nodup_range).2 fun i => ?_
    · rw [List.nodup_append]
      refine ⟨hn, List.nodup_range.sublist List.filter_sublist, fun x hx y hy e => ?_⟩
      subst e
      have := (List.mem_filter.1 hy).2
      simp [hx] at this
    · simp only [List.mem_append, List.mem_filter, List.mem_range, Bool.not_eq_true', List.contains_eq_mem, decide_eq_false_iff_not]
      refine ⟨fun h => h.elim (hs i) (·.1), fun h => ?_⟩
      by_cases c : i ∈ T
      · exact .inl c
      · exact .inr ⟨h, c⟩
  rw [← sumW_perm hp, sumW_append]
  omega
theorem full_perm {S : List Nat} {n : Nat} (hn : S.Nodup) (hs : ∀ j ∈ S, j < n) (hl : S.length = n) : S.Perm (List.range n) := by
  refine (List.perm_ext_iff_of_nodup hn List.nodup_range).2 fun i => ⟨fun h => List.mem_range.2 (hs i h), fun h => ?_⟩
  by_cases c : i ∈ S
  · exact c
  · have := (List.nodup_cons.2 ⟨c, hn⟩).length_le_of_subset (l₂ := List.range n) (fun x hx => by
      rcases List.mem_cons.1 hx with rfl | hx
      · exact h
      · exact List.mem_range.2 (hs x hx))
    simp at this; omega
theorem miss {S : List Nat} {n : Nat} (hl : S.length < n) : ∃ j, j < n ∧ j ∉ S := by
  by_cases c : ∃ j, j < n ∧ j ∉ S
  · exact c
  · exfalso
    have := List.nodup_range.length_le_of_subset (l₁ := List.range n) (l₂ := S) (fun x hx => by
      by_cases h : x ∈ S
      · exact h
      · exact absurd ⟨x, List.mem_range.1 hx, h⟩ c)
    simp at this; omega
def wl (d : DG) (step j : Nat) : Nat := (pDat d step j).length
theorem sum_range (h : CutD d step n) : ∀ k, k ≤ n → sumW (wl d step) (List.range k) = min (k * step) d.D.length
  | 0, _ => by simp [sumW]
  | k + 1, hk => by
    have := h.at.2 (show k < n by omega)
    rw [List.range_succ, sumW_append, sum_range h k (by omega)]
    simp only [sumW, wl, pDat_len, Nat.add_mul, Nat.one_mul]
    omega
theorem sum_all (h : CutD d step n) : sumW (wl d step) (List.range n) = d.D.length := by
  rw [sum_range h n (Nat.le_refl _), Nat.min_eq_right]
  have := h.at (j := n)
  omega
theorem sum_less (h : CutD d step n) {S : List Nat} (hn : S.Nodup) (hs : ∀ j ∈ S, j < n) (hl : S.length < n) : sumW (wl d step) S < d.D.length := by
  obtain ⟨j, hj, hm⟩ := miss hl
  have := sumW_sub (w := wl d step) (T := j :: S) (List.nodup_cons.2 ⟨hm, hn⟩) (fun x hx => by
    rcases List.mem_cons.1 hx with rfl | hx
    · exact hj
    · exact hs x hx)
  rw [sum_all h] at this
  have hp := h.pos hj
  simp only [sumW, wl] at this ⊢
  omega
def endV (d : DG) (n : Nat) (S : List Nat) : Int := if n - 1 ∈ S then (d.D.length : Int) else -1
theorem cat_take (h : CutD d step n) : ∀ k, k ≤ n → (List.range k).flatMap (pDat d step) = d.D.take (k * step)
  | 0, _ => by simp
  | k + 1, hk => by
    rw [List.range_succ, List.flatMap_append, cat_take h k (by omega), Nat.add_mul, Nat.one_mul, List.take_add]
    simp [pDat]
/-! ### Their order -/
def ltc (x y : Nat) : Bool := decide (min x 511 < min y 511)
theorem ltc_ord : Ord' ltc := ⟨fun {x y} h => by simp only [ltc, decide_eq_true_eq, decide_eq_false_iff_not] at h ⊢; omega, fun {x y z} h k => by simp only [ltc, decide_eq_false_iff_not] at h k ⊢; omega⟩
def ltn (x y : Nat) : Bool := decide (x < y)
theorem ltn_ord : Ord' ltn := ⟨fun {x y} h => by simp only [ltn, decide_eq_true_eq, decide_eq_false_iff_not] at h ⊢; omega, fun {x y z} h k => by simp only [ltn, decide_eq_false_iff_not] at h k ⊢; omega⟩
theorem sorted_range {M : List Nat} (hn : n ≤ 512) (h : M.Perm (List.range n)) (hs : M.Pairwise fun x y => ltc y x = false) : M = List.range n := by
  have hm : ∀ x ∈ M, x < n := fun x hx => List.mem_range.1 (h.mem_iff.1 hx)
  refine srt_eq ltn_ord (fun x y h1 h2 => ?_) h ?_ ?_
  · simp only [ltn, decide_eq_false_iff_not] at h1 h2; omega
  · refine hs.imp_of_mem fun {x y} hx hy hxy => ?_
    have := hm x hx
    have := hm y hy
    simp only [ltc, ltn, decide_eq_false_iff_not] at hxy ⊢
    omega
  · exact (List.pairwise_lt_range (n := n)).imp fun {x y} hxy => by
      simp only [ltn, decide_eq_false_iff_not]; omega
/-! ### Numbers -/
theorem frag_bits : ∀ q : Nat, q < 64 → ibit .and .u16 (q : Int) 16383 = q ∧ ibit .and .u16 ((q : Int) + 8192) 16383 = q + 8192 ∧ ibit .and .u16 (q : Int) 8191 = q ∧ ibit .and .u16 ((q : Int) + 8192) 8191 = q ∧
    ibit .and .u16 (q : Int) 8192 = 0 ∧ ibit .and .u16 ((q : Int) + 8192) 8192 = 8192 := by decide
end
section
open Go Go.RowKit

/-- A row of the call's own, beside the caller's boxes. -/
structure RB (base s : St) (r : V) (l : List V) : Prop where
  own : Own 1 s r l
  weak : base.weak s
  lt : s.Lt
  tok : ∀ g k l', r = .sl (.own g k) l' → base.sz ≤ g
theorem RB.put {base s : St} {r : V} {l : List V} (h : RB base s r l) {c : Nat} {cs : List V} (hc : s.sz ≤ c) : RB base (s.put c cs) r l :=
  ⟨h.own.put, weak_put h.weak (by have := h.weak.sz; omega), h.lt.put, h.tok⟩
theorem RB.app {base s s' : St} {x r : V} {l l' : List V} (h : RB base s x l) (ho : Own 1 s' r l') (k : AppSt s x s' r) : RB base s' r l' :=
  ⟨ho, k.keeps h.weak h.tok, h.lt.app k, k.fresh h.weak.sz h.tok⟩
theorem Wk.tup2 {a a' : V} {x : Value} (h : Wk a a') : Wk (.tup [a, .sc x]) (.tup [a', .sc x]) := fun G v hv => by
  cases hv with
  | tup _ vs hl hg =>
    refine .tup _ vs hl fun i c u hc hu => ?_
    match i, hc with
    | 0, hc => simp at hc; subst hc; exact h G u (hg 0 a u rfl hu)
    | 1, hc => exact hg 1 c u hc hu
theorem u16_mask14 {x : Int} (h0 : 0 ≤ x) (h1 : x < 65536) : ibit .and .u16 x 16383 = x % 16384 := by
  have := u16_and x 16383 h0 h1 (by omega) (by omega)
  rw [ibit_and, this, show (16383 : Int).toNat = 2 ^ 14 - 1 from rfl, Nat.and_two_pow_sub_one_eq_mod]
  omega
theorem u16_join13 {x y : Int} (h0 : x = 0 ∨ x = 32768) (h1 : 0 ≤ y) (h2 : y < 8192) : ibit .or .u16 x y = x + y := by
  have := u16_or x y (by omega) (by omega) h1 (by omega)
  rw [ibit_or, this, nat_join 13 _ _ (by rcases h0 with rfl | rfl <;> rfl) (by omega)]
  omega
theorem u16_more {x y : Int} (h0 : x = 0 ∨ x = 32768) (h1 : 0 ≤ y) (h2 : y < 8192) : ibit .or .u16 (x + y) 8192 = x + y + 8192 := by
  have h3 := u16_or (x + y) 8192 (by omega) (by omega) (by omega) (by omega)
  have h4 : (x + y).toNat = x.toNat ||| y.toNat := by rw [nat_join 13 _ _ (by rcases h0 with rfl | rfl <;> rfl) (by omega)]; omega
  rw [ibit_or, h3, h4, Nat.or_assoc, Nat.or_comm y.toNat, show (8192 : Int).toNat = 8192 from rfl, nat_join 13 8192 _ rfl (by omega), nat_join 14 _ _ (by rcases h0 with rfl | rfl <;> rfl) (by omega)]
  omega

section
variable {tk tk' : Tk} {st : St} {L : List Int}
theorem fragCut_v (hB : IsB L) (hL : L.length ≤ 2000) (most : Int) : VCalls Try.prog 62 [.sl tk (bs L), .sc (.int .i64 most)] st fun r st' => r = .tup [.sl .no (rws (fragR L most)), .sc (.int .i64 (fragE L most))] ∧ st = st' := by
  refine vcalls_enter vc62 (Nat.le_of_ble_eq_true rfl) fun hwf hok => ?_
  show Run _ Vc62.body (.fin (finQ Vc62.res _)) _ _
  unfold Vc62
  simp (config := {maxSteps := 3000000}) only [go_sem, ↓reduceIte, reduceCtorEq]
  refine Cal.mk (ip4Parse_v hB (by omega)) ?_
  rintro _ _ ⟨⟨tk1, tk2, rfl⟩, rfl⟩ -
  have hlim := ipD_lim hB
  have hE : fragE L most = if ipE L ≠ 0 ∨ (ipD L).frag % 16384 ≠ 0 then 11 else if 20 + ((ipD L).O.length : Int) + (ipD L).D.length ≤ most then 0 else if 16384 ≤ (ipD L).frag % 32768 then 73 else if most < 28 + ((ipD L).O.length : Int) then 12 else 0 := rfl
  have hR : fragR L most = if ipE L ≠ 0 ∨ (ipD L).frag % 16384 ≠ 0 then [] else if 20 + ((ipD L).O.length : Int) + (ipD L).D.length ≤ most then [L.take (20 + (ipD L).O.length + (ipD L).D.length)] else if 16384 ≤ (ipD L).frag % 32768 then [] else if most < 28 + ((ipD L).O.length : Int) then [] else piecesTo (ipD L) (stepOf (ipD L) most) (nPieces (ipD L) (stepOf (ipD L) most)) := rfl
  generalize fragE L most = E at *
  generalize fragR L most = R at *
  generalize ipE L = e at *
  generalize ipD L = d at *
  have g1 := fun (tk tk' : Tk) (q : DG) (hq : q.Ok) (h1 : q.O.length ≤ 1000000000000) (h2 : q.D.length ≤ 1000000000000) (st : St) => ipBuild_v (tk := tk) (tk' := tk') (st := st) q hq h1 h2
  by_cases he : e = 0
  rotate_left
  · rw [if_pos (.inl he)] at hE hR
    subst hE hR
    obtain ⟨tos, ttl, proto, id, frag, src, dst, O, D⟩ := d
    simp (config := {maxSteps := 3000000}) only [go_sem, Nat.reduceEqDiff, Nat.reduceAdd, Nat.reduceLT, Nat.reduceLeDiff, ↓reduceIte, DG.v]
    intro b hb
    simp (config := {maxSteps := 3000000}) only [go_sem, Nat.reduceEqDiff, ↓reduceIte, decide_eq_true he]
    exact ⟨_, _, Wk.tup2 Wk.no, weak_put hwf.weak hb, rfl, rfl⟩
  subst he
  have hlim := hlim rfl
  have hfr := hlim.ok.frag
  by_cases hf : d.frag % 16384 = 0
  rotate_left
  · rw [if_pos (.inr hf)] at hE hR
    subst hE hR
    obtain ⟨tos, ttl, proto, id, frag, src, dst, O, D⟩ := d
    simp only at hf hfr
    have hm := u16_mask14 hfr.1 hfr.2
    have hd := decide_eq_true (p := ¬ frag % 16384 = 0) hf
    simp (config := {maxSteps := 3000000}) only [go_sem, Nat.reduceEqDiff, Nat.reduceAdd, Nat.reduceLT, Nat.reduceLeDiff, ↓reduceIte, DG.v]
    intro b hb
    simp (config := {maxSteps := 3000000}) only [go_sem, Nat.reduceEqDiff, ↓reduceIte, hm, hd]
    exact ⟨_, _, Wk.tup2 Wk.no, weak_put hwf.weak hb, rfl, rfl⟩
  rw [if_neg (by simp [hf])] at hE hR
  have hlen := hlim.len
  by_cases h1 : 20 + (d.O.length : Int) + d.D.length ≤ most
  · rw [if_pos h1] at hE hR
    subst hE hR
    obtain ⟨tos, ttl, proto, id, frag, src, dst, O, D⟩ := d
    simp only at hf hfr hlen h1
    have hm := u16_mask14 hfr.1 hfr.2
    have hd := decide_eq_false (p := ¬ frag % 16384 = 0) (by omega)
    have hn : (20 + (O.length : Int) + (D.length : Int)).toNat = 20 + O.length + D.length := by omega
    simp (config := {maxSteps := 3000000}) only [go_sem, Nat.reduceEqDiff, Nat.reduceAdd, Nat.reduceLT, Nat.reduceLeDiff, ↓reduceIte, DG.v]
    intro b hb
    simp (config := {maxSteps := 3000000}) only [go_sem, Nat.reduceEqDiff, Int.reduceNeg, ↓reduceIte, reduceCtorEq, hm, hd, bs_len, decide_eq_true h1, bs_take, allSz_bs', hn]
    repeat (apply And.intro; focus (first | omega | (simp; done)))
    refine Bo.own (by simp [allLen, V.cells]) ?_
    intro g hg
    simp (config := {maxSteps := 3000000}) only [go_sem, Nat.reduceEqDiff, ↓reduceIte]
    exact ⟨_, _, Wk.tup2 Wk.no, weak_use (weak_put hwf.weak hb) (by simp only [put_sz] at hg; omega), rfl, rfl⟩
  rw [if_neg h1] at hE hR
  have hm2 : ibit .and .u16 d.frag 16384 = if 16384 ≤ d.frag % 32768 then 16384 else 0 := by
    have : d.frag = 0 ∨ d.frag = 16384 ∨ d.frag = 32768 ∨ d.frag = 49152 := by omega
    rcases this with h | h | h | h <;> rw [h] <;> decide
  by_cases h2 : 16384 ≤ d.frag % 32768
  · rw [if_pos h2] at hE hR hm2
    subst hE hR
    obtain ⟨tos, ttl, proto, id, frag, src, dst, O, D⟩ := d
    simp only at hf hfr hlen h1 hm2
    have hm := u16_mask14 hfr.1 hfr.2
    have hd := decide_eq_false (p := ¬ frag % 16384 = 0) (by omega)
    simp (config := {maxSteps := 3000000}) only [go_sem, Nat.reduceEqDiff, Nat.reduceAdd, Nat.reduceLT, Nat.reduceLeDiff, ↓reduceIte, DG.v]
    intro b hb
    simp (config := {maxSteps := 3000000}) only [go_sem, Nat.reduceEqDiff, Int.reduceNeg, Int.reduceEq, ↓reduceIte, hm, hd, bs_len, decide_eq_false h1, hm2]
    repeat (apply And.intro; focus (first | omega | (simp; done)))
    exact ⟨_, _, Wk.tup2 Wk.no, weak_put hwf.weak hb, rfl, rfl⟩
  rw [if_neg h2] at hE hR hm2
  by_cases h3 : most < 28 + (d.O.length : Int)
  · rw [if_pos h3] at hE hR
    subst hE hR
    obtain ⟨tos, ttl, proto, id, frag, src, dst, O, D⟩ := d
    simp only at hf hfr hlen h1 hm2 h3
    have hm := u16_mask14 hfr.1 hfr.2
    have hd := decide_eq_false (p := ¬ frag % 16384 = 0) (by omega)
    simp (config := {maxSteps := 3000000}) only [go_sem, Nat.reduceEqDiff, Nat.reduceAdd, Nat.reduceLT, Nat.reduceLeDiff, ↓reduceIte, DG.v]
    intro b hb
    simp (config := {maxSteps := 3000000}) only [go_sem, Nat.reduceEqDiff, Int.reduceNeg, ↓reduceIte, hm, hd, bs_len, decide_eq_false h1, hm2, decide_eq_true h3]
    repeat (apply And.intro; focus (first | omega | (simp; done)))
    exact ⟨_, _, Wk.tup2 Wk.no, weak_put hwf.weak hb, rfl, rfl⟩
  rw [if_neg h3] at hE hR
  have g2 := fun (tk tk' : Tk) (step at_ : Nat) (ha : at_ < d.D.length) (st : St) => by
    have hp := piece_ok (step := step) hlim hL (by omega) ha
    have := g1 tk tk' (pieceD d step at_) hp.1 (by have := hp.2.1; omega) (by have := hp.2.2; omega) st
    rw [if_pos hp.2] at this
    exact this
  have hst : (stepOf d most : Int) = (most - 20 - d.O.length) / 8 * 8 := by unfold stepOf; omega
  have hs8 : 8 ≤ stepOf d most := by omega
  have hnp := fun j => nPieces_at (d := d) (step := stepOf d most) (j := j) (by omega)
  have hsu := piecesTo_succ d (stepOf d most)
  have hp0 : piecesTo d (stepOf d most) 0 = [] := rfl
  have hpl : ∀ n, (piecesTo d (stepOf d most) n).length = n := fun n => by simp [piecesTo]
  have h4 : d.frag = 0 ∨ d.frag = 32768 := by omega
  clear g1
  have hlim' := hlim
  generalize stepOf d most = step at *
  generalize nPieces d step = nP at *
  generalize hPT : piecesTo d step = PT at *
  subst hE hR
  obtain ⟨tos, ttl, proto, id, frag, src, dst, O, D⟩ := d
  simp only [pieceD, DG.v] at g2
  simp only at hf hfr hlen h1 hm2 h3 hst hnp h4
  have hm := u16_mask14 hfr.1 hfr.2
  have hd := decide_eq_false (p := ¬ frag % 16384 = 0) (by omega)
  simp (config := {maxSteps := 3000000}) only [go_sem, Nat.reduceEqDiff, Nat.reduceAdd, Nat.reduceLT, Nat.reduceLeDiff, ↓reduceIte, DG.v]
  intro b hb
  simp (config := {maxSteps := 3000000}) only [go_sem, Nat.reduceEqDiff, Int.reduceLT, Int.reduceNeg, ↓reduceIte, hm, hd, bs_len, decide_eq_false h1, hm2, decide_eq_false h3, ← hst]
  repeat (apply And.intro; focus (first | omega | (simp; done)))
  obtain ⟨CS, hCS⟩ : ∃ CS : List V, CS = [.sc (.int .u8 tos), .sc (.int .u8 ttl), .sc (.int .u8 proto), .sc (.int .u16 id), .sc (.int .u16 frag), .sc (.int .u32 src), .sc (.int .u32 dst), .sl tk1 (bs O), .sl tk2 (bs D)] := ⟨_, rfl⟩
  have hb1 : (st.put b CS).box b = some CS := put_box_same
  have R0 : RB (st.put b CS) (st.put b CS) (.sl .nil []) (rws (PT 0)) := ⟨.inl ⟨rfl, by rw [hp0]; rfl⟩, hwf.lt.put.weak, hwf.lt.put, fun g k l e => by cases e⟩
  rw [← hCS]
  refine run_loop [9, 10, 11, 12, 13, 70, 71, 72, 73, 74, 75, 76, 77, 78, 79, 80, 81, 82, 83, 84, 85, 86, 87, 88, 89, 90, 91, 92, 93, 94, 95, 96, 97, 98, 99, 100, 101, 102, 103, 104, 105, 106, 107, 108, 109, 110, 111, 112, 113, 114, 115, 116, 117] (fun B s => ∃ j r, j ≤ nP ∧ B 10 = .sc (.int .i64 ((j * step : Nat) : Int)) ∧ B 9 = r ∧ RB (st.put b CS) s r (rws (PT j))) (fun B _ => D.length + step - vnat (B 10)) rfl ?_ ?_
  · simp (config := {maxSteps := 3000000}) only [go_sem, Nat.reduceEqDiff, ↓reduceIte]
    exact ⟨0, _, by omega, by simp, rfl, R0⟩
  · rintro B s ⟨j, r, hj, h10, rfl, hr⟩
    have hsb := (hr.weak.box b _ hb1).1
    have hbs := (hr.weak.box b _ hb1).2
    have hj2 : j ≤ j * step := Nat.le_mul_of_pos_right j (by omega)
    have hjl := hpl j
    by_cases hlt : j * step < D.length
    · have hjn := (hnp j).1 hlt
      have hlt' := decide_eq_true (show ((j * step : Nat) : Int) < (D.length : Int) by omega)
      generalize hat : j * step = at_ at *
      have e8 : ((at_ : Int) / 8) % 65536 = (at_ : Int) / 8 := by omega
      have hj13 := u16_join13 (x := frag) (y := (at_ : Int) / 8) h4 (by omega) (by omega)
      have hmore := u16_more (x := frag) (y := (at_ : Int) / 8) h4 (by omega) (by omega)
      subst hCS
      simp (config := {maxSteps := 3000000}) only [go_sem, Nat.reduceEqDiff, Nat.reduceAdd, Nat.reduceLT, Nat.reduceLeDiff, ↓reduceIte, Nat.reduceBEq, h10, hsb, bs_len, hlt']
      intro c hc
      have hbc : b < c := by have := hr.weak.sz; simp only [put_sz] at this; omega
      have hT1 : ((at_ : Int) + step).toNat = at_ + step := by omega
      by_cases c1 : at_ + step < D.length
      · have g2 := g2 tk1 .no step at_ hlt (s.put c [.sc (.int .u8 tos), .sc (.int .u8 ttl), .sc (.int .u8 proto), .sc (.int .u16 id), .sc (.int .u16 (frag + at_ / 8 + 8192)), .sc (.int .u32 src), .sc (.int .u32 dst), .sl tk1 (bs O), .sl .no (bs ((D.drop at_).take step))])
        rw [if_pos c1] at g2
        have hmin : min ((at_ : Int) + step) (D.length : Int) = at_ + step := by omega
        have hsl : (D.take (at_ + step)).drop at_ = (D.drop at_).take step := by rw [List.drop_take]; congr 1; omega
        have hlt2 := decide_eq_true (show (at_ : Int) + step < (D.length : Int) by omega)
        simp (config := {maxSteps := 3000000}) only [go_sem, Nat.reduceEqDiff, Nat.reduceAdd, Nat.reduceLT, Nat.reduceLeDiff, Int.reduceLT, Int.reduceNeg, ↓reduceIte, Nat.reduceBEq, h10, put_box_ne (Nat.ne_of_lt hbc), hsb, allSz_bs', bs_len, hmin, hT1, bs_take, bs_drop, hsl, e8, hj13, hlt2, hmore]
        repeat (apply And.intro; focus (first | omega | (simp; done)))
        refine Cal.mk g2 ?_
        rintro _ _ ⟨rfl, rfl⟩ -
        have hpc : ∀ X, X = ipB (pieceD ⟨tos, ttl, proto, id, frag, src, dst, O, D⟩ step at_) → PT (j + 1) = PT j ++ [X] := fun X h => by rw [hsu j, hat, h]
        have hpc := hpc _ (show ipB ⟨tos, ttl, proto, id, frag + (at_ : Int) / 8 + 8192, src, dst, O, (D.drop at_).take step⟩ = _ by simp only [pieceD]; rw [if_pos c1])
        generalize ipB ⟨tos, ttl, proto, id, frag + (at_ : Int) / 8 + 8192, src, dst, O, (D.drop at_).take step⟩ = X at *
        simp (config := {maxSteps := 3000000}) only [go_sem, Nat.reduceEqDiff, ↓reduceIte, Nat.reduceBEq]
        refine App.mk (l := rws (PT j)) (ys := rws [X]) (hr.put hc).own (allSz_rws _) (by simp only [rws_len, List.length_cons, List.length_nil, maxLen]; omega) (by simp only [rws_len, List.length_cons, List.length_nil]; omega) ?_
        intro r2 s2 k1 k2
        rw [rws_append, ← hpc] at k1
        have R2 := (hr.put hc).app k1 k2
        simp (config := {maxSteps := 3000000}) only [go_sem, Nat.reduceEqDiff, Int.reduceNeg, ↓reduceIte, Nat.reduceBEq, h10]
        repeat (apply And.intro; focus (first | omega | (simp; done)))
        exact ⟨⟨j + 1, _, by omega, by rw [Nat.add_mul, hat]; simp, rfl, R2⟩, by omega⟩
      · have g2 := g2 tk1 .no step at_ hlt (s.put c [.sc (.int .u8 tos), .sc (.int .u8 ttl), .sc (.int .u8 proto), .sc (.int .u16 id), .sc (.int .u16 (frag + at_ / 8)), .sc (.int .u32 src), .sc (.int .u32 dst), .sl tk1 (bs O), .sl .no (bs ((D.drop at_).take step))])
        rw [if_neg c1, Int.add_zero] at g2
        have hmin : min ((at_ : Int) + step) (D.length : Int) = D.length := by omega
        have hsl : (D.take D.length).drop at_ = (D.drop at_).take step := by rw [List.take_of_length_le (Nat.le_refl _), List.take_of_length_le (by simp; omega)]
        have hlt2 := decide_eq_false (show ¬ (at_ : Int) + step < (D.length : Int) by omega)
        simp (config := {maxSteps := 3000000}) only [go_sem, Nat.reduceEqDiff, Nat.reduceAdd, Nat.reduceLT, Nat.reduceLeDiff, Int.reduceLT, Int.reduceNeg, ↓reduceIte, Nat.reduceBEq, h10, put_box_ne (Nat.ne_of_lt hbc), hsb, allSz_bs', bs_len, hmin, bs_take, bs_drop, hsl, e8, hj13, hlt2]
        repeat (apply And.intro; focus (first | omega | (simp; done)))
        refine Cal.mk g2 ?_
        rintro _ _ ⟨rfl, rfl⟩ -
        have hpc : ∀ X, X = ipB (pieceD ⟨tos, ttl, proto, id, frag, src, dst, O, D⟩ step at_) → PT (j + 1) = PT j ++ [X] := fun X h => by rw [hsu j, hat, h]
        have hpc := hpc _ (show ipB ⟨tos, ttl, proto, id, frag + (at_ : Int) / 8, src, dst, O, (D.drop at_).take step⟩ = _ by simp only [pieceD]; rw [if_neg c1, Int.add_zero])
        generalize ipB ⟨tos, ttl, proto, id, frag + (at_ : Int) / 8, src, dst, O, (D.drop at_).take step⟩ = X at *
        simp (config := {maxSteps := 3000000}) only [go_sem, Nat.reduceEqDiff, ↓reduceIte, Nat.reduceBEq]
        refine App.mk (l := rws (PT j)) (ys := rws [X]) (hr.put hc).own (allSz_rws _) (by simp only [rws_len, List.length_cons, List.length_nil, maxLen]; omega) (by simp only [rws_len, List.length_cons, List.length_nil]; omega) ?_
        intro r2 s2 k1 k2
        rw [rws_append, ← hpc] at k1
        have R2 := (hr.put hc).app k1 k2
        simp (config := {maxSteps := 3000000}) only [go_sem, Nat.reduceEqDiff, Int.reduceNeg, ↓reduceIte, Nat.reduceBEq, h10]
        repeat (apply And.intro; focus (first | omega | (simp; done)))
        exact ⟨⟨j + 1, _, by omega, by rw [Nat.add_mul, hat]; simp, rfl, R2⟩, by omega⟩
    · obtain rfl : j = nP := by
        rcases Nat.lt_or_ge j nP with h | h
        · exact absurd ((hnp j).2 h) hlt
        · omega
      have hlt' := decide_eq_false (show ¬ ((j * step : Nat) : Int) < (D.length : Int) by omega)
      subst hCS
      simp (config := {maxSteps := 3000000}) only [go_sem, Nat.reduceEqDiff, ↓reduceIte, Nat.reduceBEq, h10, hsb, bs_len, hlt']
      obtain ⟨tk9, h9⟩ := hr.own.sl
      rw [h9]
      exact ⟨_, _, Wk.tup2 Wk.no, (weak_put hwf.weak hb).trans hr.weak, rfl, rfl⟩
end
end
section
open Go Go.RowKit

section
variable {tk tk' : Tk} {st : St} {L : List Int}
end
end
section
open Go Go.RowKit

/-- A datagram of 24 zeros. -/
def dg24 : DG := ⟨0, 0, 0, 0, 0, 0, 0, [], List.replicate 24 0⟩
theorem dg24_ok : dg24.Ok := ⟨by decide, by decide, by decide, by decide, by decide, by decide, by decide, (fun _ hx => nomatch hx), fun x hx => by rw [List.eq_of_mem_replicate hx]; decide⟩
theorem fits24 : ipFits dg24 := by decide
theorem cut24 : (fragR (ipB dg24) 44).length = 1 ∧ fragE (ipB dg24) 44 = 0 ∧ (fragR (ipB dg24) 28).length = 3 ∧ fragE (ipB dg24) 28 = 0 := by decide
theorem Sld.bytes {b : Nat} {L : List Int} {spare : List V} {n cap : Nat} (hn : n = L.length) (hc : L.length ≤ cap) (hm : cap ≤ maxLen) : Sld b (bs L ++ spare) (.sc (.slice (some ⟨b, 0, none⟩) n cap)) (.sl .no (bs L)) := by
  subst hn
  have := Sld.box (b := b) (cs := bs L ++ spare) 0 cap 1 (bs L) (fun i d hd => allSz_bs L d (List.mem_of_getElem? hd)) (fun i d j x hd hj => by
    have hi := (List.getElem?_eq_some_iff.1 hd).1
    have : d.cells = [d] := by
      obtain ⟨n, _, rfl⟩ := List.mem_map.1 (List.mem_of_getElem? hd); rfl
    rw [this] at hj
    have hj0 : j = 0 := by
      rcases Nat.eq_zero_or_pos j with h | h
      · exact h
      · rw [List.getElem?_eq_none (by simp; omega)] at hj; cases hj
    subst hj0
    simp at hj; subst hj
    rw [List.getElem?_append, if_pos (by omega)]
    simpa using hd) (by rw [bs_len]; omega) hm
  rwa [bs_len] at this
/-- Arguments, one by one. -/
def SldL (b : Nat) (cs xs ys : List V) : Prop := xs.length = ys.length ∧ ∀ (i : Nat) (x y : V), xs[i]? = some x → ys[i]? = some y → Sld b cs x y
theorem SldL.nil {b : Nat} {cs : List V} : SldL b cs [] [] := ⟨rfl, fun i x y hx => by simp at hx⟩
theorem SldL.cons {b : Nat} {cs xs ys : List V} {x y : V} (h : Sld b cs x y) (k : SldL b cs xs ys) : SldL b cs (x :: xs) (y :: ys) :=
  ⟨by simp [k.1], fun i u v hu hv => by
    cases i with
    | zero => simp at hu hv; subst hu hv; exact h
    | succ i => exact k.2 i u v (by simpa using hu) (by simpa using hv)⟩
theorem SldL.same {b : Nat} {cs : List V} (xs : List V) : SldL b cs xs xs := ⟨rfl, fun i x y hx hy => by rw [hx] at hy; cases hy; exact .same x⟩
theorem SldL.agg {b : Nat} {cs xs ys : List V} (k : SldL b cs xs ys) : Sld b cs (.agg xs) (.agg ys) := .agg xs ys k.1 k.2
section
variable {tk tk' : Tk} {st : St} {L : List Int}
theorem alive54_v : VCalls Try.prog 63 [] st fun r st' => r = .sc (.bool true) ∧ st = st' := by
  refine vcalls_enter vc63 (Nat.le_of_ble_eq_true rfl) fun hwf hok => ?_
  show Run _ Vc63.body (.fin (finQ Vc63.res _)) _ _
  unfold Vc63
  simp (config := {maxSteps := 3000000}) only [go_sem, Nat.reduceAdd, Nat.reduceLT, Nat.reduceLeDiff, Int.reduceToNat, Int.reduceLE, ↓reduceIte]
  repeat (apply And.intro; focus (first | omega | (simp; done)))
  intro b hb
  rw [show (List.replicate 24 [V.sc (.int .u8 0)]).flatten = bs (List.replicate 24 0) from rfl]
  have h := refBuild13_v (tk := .nil) (tk' := .no) (st := (st.put b (bs (List.replicate 24 0))).drop b) dg24 dg24_ok (by decide) (by decide)
  rw [if_pos fits24] at h
  have hc := VCalls.seal (args := [V.agg [.sc (.int .u8 0), .sc (.int .u8 0), .sc (.int .u8 0), .sc (.int .u16 0), .sc (.int .u16 0), .sc (.int .u32 0), .sc (.int .u32 0), .sl .nil [], .sc (.slice (some ⟨b, 0, none⟩) 24 24)]]) (st := st.put b (bs (List.replicate 24 0))) put_box_same (of_eq_true mono_bs) h rfl
    (SldL.cons (SldL.agg (.cons (.same _) (.cons (.same _) (.cons (.same _) (.cons (.same _) (.cons (.same _) (.cons (.same _) (.cons (.same _) (.cons (.same _) (.cons (by
      have := Sld.bytes (b := b) (L := List.replicate 24 0) (spare := []) (n := 24) (cap := 24) rfl (by decide) (by decide)
      rwa [List.append_nil] at this) .nil)))))))))) .nil).2
  refine Cal.mk hc ?_
  rintro _ _ ⟨rfl, rfl⟩ -
  have hB24 : IsB (ipB dg24) := by
    have hr := ckS_range (ipPre_isB dg24_ok (c := 0) (by omega) (by omega) fits24)
    exact (ipPre_isB dg24_ok hr.1 (by omega) fits24).append dg24_ok.D
  have hl24 : (ipB dg24).length ≤ 2000 := by decide
  have c1 := fun st : St => fragCut_v (tk := .no) (st := st) hB24 hl24 44
  have c2 := fun st : St => fragCut_v (tk := .no) (st := st) hB24 hl24 28
  obtain ⟨q1, q2, q3, q4⟩ := cut24
  rw [q2] at c1
  rw [q4] at c2
  generalize ipB dg24 = B at *
  generalize fragR B 44 = R1 at *
  generalize fragR B 28 = R2 at *
  simp (config := {maxSteps := 3000000}) only [go_sem, ↓reduceIte]
  refine Cal.mk (c1 _) ?_
  rintro _ _ ⟨rfl, rfl⟩ -
  simp (config := {maxSteps := 3000000}) only [go_sem, Nat.reduceEqDiff, ↓reduceIte]
  refine Cal.mk (c2 _) ?_
  rintro _ _ ⟨rfl, rfl⟩ -
  simp (config := {maxSteps := 3000000}) only [go_sem, Nat.reduceEqDiff, ↓reduceIte, rws_len, q1, q3, show decide (((1 : Nat) : Int) = 1) = true from rfl, show decide (((3 : Nat) : Int) = 3) = true from rfl]
  exact ⟨_, _, Wk.refl _, weak_drop (weak_put hwf.weak hb) hb, rfl, rfl⟩
end
end
section
open Go

section
variable {α : Type} [Inhabited α] {val : α → V × V} {L M : List α} {sp : List V}
/-- What an exchange wants to know. -/
theorem swapC (hmo : mono (rowc val L sp)) (hl : M.length = L.length) {i j : Nat} (hi : i < M.length) (hj : j < M.length) :
    List.take 2 (List.drop (i * 2) (rowc val M sp)) = [(val M[i]!).1, (val M[i]!).2] ∧ List.take 2 (List.drop (j * 2) (rowc val M sp)) = [(val M[j]!).1, (val M[j]!).2] ∧ List.take (i * 2) (rowc val M sp) ++ [(val M[j]!).1, (val M[j]!).2] ++ List.drop (i * 2 + 2) (rowc val M sp) = rowc val (M.set i M[j]!) sp ∧
    List.take (j * 2) (rowc val (M.set i M[j]!) sp) ++ [(val M[i]!).1, (val M[i]!).2] ++ List.drop (j * 2 + 2) (rowc val (M.set i M[j]!) sp) = rowc val (exch M i j) sp ∧ mono (rowc val M sp) ∧ mono (rowc val (M.set i M[j]!) sp) :=
  ⟨rowc_get hi, rowc_get hj, rowc_set hi, rowc_set (by simpa using hj), rowc_mono hmo hl, rowc_mono hmo (by simpa using hl)⟩
end
section
variable {P : Program} {α : Type} [Inhabited α] {val : α → V × V} {lt : α → α → Bool} {g f fsift : FuncId} {st : St} {b cap a c : Nat} {L : List α} {sp : List V}
set_option maxRecDepth 100000 in
set_option maxHeartbeats 4000000 in
theorem csift_v (hf : cFun P f = some (CSift)) (E : EltC P g val lt) (hmo : mono (rowc val L sp)) {lo hi fi : Nat} (h1 : fi + hi ≤ L.length) (hl : L.length < 4611686018427387904) (hlo : lo ≤ hi) (hH : Heap lt fi (lo + 1) hi L) :
    VCalls P f [dataV b L.length cap, .sc (.int .i64 lo), .sc (.int .i64 hi), .sc (.int .i64 fi), cmpV g] (st.put b (rowc val L sp)) fun _ s => ∃ M, Mix fi (fi + hi) L M ∧ Heap lt fi lo hi M ∧ s = st.put b (rowc val M sp) := by
  refine vcalls_enter hf (Nat.le_of_ble_eq_true rfl) fun hwf hok => ?_
  show Run _ (CSift).body (.fin (finQ (CSift).res _)) _ _
  unfold CSift
  simp (config := {maxSteps := 3000000}) only [go_sem, ↓reduceIte, dataV, cmpV]
  refine run_loop [10, 11, 13, 14, 15, 16, 17, 18, 19, 20, 21, 22, 23, 24, 25, 26, 27, 28, 29, 30, 31, 32, 33, 34, 35, 36, 37, 38, 39, 40, 41, 42, 43, 44, 45, 46, 47, 48, 49, 50, 51, 52, 53, 54, 55, 56, 57, 58, 59, 60, 61, 62, 63, 64, 65, 66, 67, 68, 69, 70, 71, 72, 73, 74, 75, 76, 77, 78, 79, 80, 81] (fun B s => ∃ (r : Nat) (M : List α), lo ≤ r ∧ r ≤ hi ∧ B 10 = .sc (.int .i64 r) ∧ Mix fi (fi + hi) L M ∧ Sift lt fi lo hi r M ∧ s = st.put b (rowc val M sp)) (fun B _ => hi - vnat (B 10)) rfl ?_ ?_
  · simp (config := {maxSteps := 3000000}) only [go_sem, ↓reduceIte]
    exact ⟨lo, L, by omega, hlo, rfl, .refl, Sift.start hH, rfl⟩
  · rintro B s ⟨r, M, hr, hrh, h8, hM, hS, rfl⟩
    have hlen := hM.len
    by_cases c1 : hi ≤ 2 * r + 1
    · simp (config := {maxSteps := 3000000}) only [go_sem, Nat.reduceEqDiff, Int.reduceNeg, ↓reduceIte, reduceCtorEq, Nat.reduceBEq, h8, decide_eq_true (show (hi : Int) ≤ 2 * (r : Int) + 1 by omega)]
      repeat (apply And.intro; focus (first | omega | (simp; done)))
      exact ⟨_, _, Wk.refl _, weak_re hwf, M, hM, hS.done (fun ch hk hc => by rcases hk with h | h <;> omega), rfl⟩
    have i1 : ((fi : Int) + (2 * (r : Int) + 1)).toNat = fi + (2 * r + 1) := by omega
    have i2 : ((fi : Int) + (2 * (r : Int) + 1) + 1).toNat = fi + (2 * r + 2) := by omega
    have i3 : ((fi : Int) + (r : Int)).toNat = fi + r := by omega
    have i4 : ((fi : Int) + (2 * (r : Int) + 1 + 1)).toNat = fi + (2 * r + 2) := by omega
    by_cases c2 : 2 * r + 1 + 1 < hi
    · simp (config := {maxSteps := 3000000}) only [go_sem, Nat.reduceEqDiff, Int.reduceNeg, ↓reduceIte, reduceCtorEq, Nat.reduceBEq, h8, decide_eq_false (show ¬ (hi : Int) ≤ 2 * (r : Int) + 1 by omega), decide_eq_true (show 2 * (r : Int) + 1 + 1 < (hi : Int) by omega), i1, i2, rowc_get (show fi + (2 * r + 1) < M.length by omega), rowc_get (show fi + (2 * r + 2) < M.length by omega), rowc_len, rowc_mono hmo hlen, E.call, List.map_nil]
      repeat (apply And.intro; focus (first | omega | (simp; done)))
      refine Cal.mk (E.less _ _ _) ?_
      rintro _ _ ⟨z1, hz1, rfl, rfl⟩ -
      simp (config := {maxSteps := 3000000}) only [go_sem, Nat.reduceEqDiff, ↓reduceIte, hz1]
      cases c3 : lt M[fi + (2 * r + 1)]! M[fi + (2 * r + 2)]!
      · have hbig : ∀ k, kid r k → k < hi → lt M[fi + (2 * r + 1)]! M[fi + k]! = false := fun k hk _ => by
          rcases hk with rfl | rfl
          · exact E.ord.irr _
          · exact c3
        simp (config := {maxSteps := 3000000}) only [go_sem, Nat.reduceEqDiff, Int.reduceNeg, ↓reduceIte, reduceCtorEq, Nat.reduceBEq, h8, i1, i3, rowc_get (show fi + (2 * r + 1) < M.length by omega), rowc_get (show fi + r < M.length by omega), rowc_len, rowc_mono hmo hlen, E.call, List.map_nil]
        repeat (apply And.intro; focus (first | omega | (simp; done)))
        refine Cal.mk (E.less _ _ _) ?_
        rintro _ _ ⟨z2, hz2, rfl, rfl⟩ -
        simp (config := {maxSteps := 3000000}) only [go_sem, ↓reduceIte, hz2]
        cases c4 : lt M[fi + r]! M[fi + (2 * r + 1)]!
        · simp (config := {maxSteps := 3000000}) only [go_sem]
          exact ⟨_, _, Wk.refl _, weak_re hwf, M, hM, hS.done (fun k hk hkh => E.ord.trans (hbig k hk hkh) c4), rfl⟩
        · obtain ⟨g1, g2, s1, s2, m1, m2⟩ := swapC hmo hlen (i := fi + r) (j := fi + (2 * r + 1)) (by omega) (by omega)
          have hex := hM.exch (i := fi + r) (j := fi + (2 * r + 1)) (by omega) (by omega) (by omega) (by omega) h1
          have hst := hS.step E.ord (ch := 2 * r + 1) (by unfold kid; omega) (by omega) hr (by omega) hbig c4
          simp (config := {maxSteps := 3000000}) only [go_sem, Nat.reduceEqDiff, Nat.reduceAdd, Nat.reduceLT, Int.reduceNeg, ↓reduceIte, reduceCtorEq, Nat.reduceBEq, h8, i1, i3, g1, g2, s1, s2, m1, m2, rowc_len, List.length_set]
          repeat (apply And.intro; focus (first | omega | (simp; done)))
          exact ⟨⟨2 * r + 1, _, by omega, by omega, by rw [show (2 * (r : Int) + 1) = ((2 * r + 1 : Nat) : Int) by omega], hex, hst, rfl⟩, by omega⟩
      · have hbig : ∀ k, kid r k → k < hi → lt M[fi + (2 * r + 2)]! M[fi + k]! = false := fun k hk _ => by
          rcases hk with rfl | rfl
          · exact E.ord.asymm c3
          · exact E.ord.irr _
        simp (config := {maxSteps := 3000000}) only [go_sem, Nat.reduceEqDiff, Int.reduceNeg, ↓reduceIte, reduceCtorEq, Nat.reduceBEq, h8, i4, i3, rowc_get (show fi + (2 * r + 2) < M.length by omega), rowc_get (show fi + r < M.length by omega), rowc_len, rowc_mono hmo hlen, E.call, List.map_nil]
        repeat (apply And.intro; focus (first | omega | (simp; done)))
        refine Cal.mk (E.less _ _ _) ?_
        rintro _ _ ⟨z3, hz3, rfl, rfl⟩ -
        simp (config := {maxSteps := 3000000}) only [go_sem, ↓reduceIte, hz3]
        cases c4 : lt M[fi + r]! M[fi + (2 * r + 2)]!
        · simp (config := {maxSteps := 3000000}) only [go_sem]
          exact ⟨_, _, Wk.refl _, weak_re hwf, M, hM, hS.done (fun k hk hkh => E.ord.trans (hbig k hk hkh) c4), rfl⟩
        · obtain ⟨g1, g2, s1, s2, m1, m2⟩ := swapC hmo hlen (i := fi + r) (j := fi + (2 * r + 2)) (by omega) (by omega)
          have hex := hM.exch (i := fi + r) (j := fi + (2 * r + 2)) (by omega) (by omega) (by omega) (by omega) h1
          have hst := hS.step E.ord (ch := 2 * r + 2) (by unfold kid; omega) (by omega) hr (by omega) hbig c4
          simp (config := {maxSteps := 3000000}) only [go_sem, Nat.reduceEqDiff, Nat.reduceAdd, Nat.reduceLT, Int.reduceNeg, ↓reduceIte, reduceCtorEq, Nat.reduceBEq, h8, i4, i3, g1, g2, s1, s2, m1, m2, rowc_len, List.length_set]
          repeat (apply And.intro; focus (first | omega | (simp; done)))
          exact ⟨⟨2 * r + 2, _, by omega, by omega, by rw [show (2 * (r : Int) + 1 + 1) = ((2 * r + 2 : Nat) : Int) by omega], hex, hst, rfl⟩, by omega⟩
    · have hbig : ∀ k, kid r k → k < hi → lt M[fi + (2 * r + 1)]! M[fi + k]! = false := fun k hk hkh => by
        rcases hk with rfl | rfl
        · exact E.ord.irr _
        · omega
      simp (config := {maxSteps := 3000000}) only [go_sem, Nat.reduceEqDiff, Int.reduceNeg, ↓reduceIte, reduceCtorEq, Nat.reduceBEq, h8, decide_eq_false (show ¬ (hi : Int) ≤ 2 * (r : Int) + 1 by omega), decide_eq_false (show ¬ 2 * (r : Int) + 1 + 1 < (hi : Int) by omega), i1, i3, rowc_get (show fi + (2 * r + 1) < M.length by omega), rowc_get (show fi + r < M.length by omega), rowc_len, rowc_mono hmo hlen, E.call, List.map_nil]
      repeat (apply And.intro; focus (first | omega | (simp; done)))
      refine Cal.mk (E.less _ _ _) ?_
      rintro _ _ ⟨z4, hz4, rfl, rfl⟩ -
      simp (config := {maxSteps := 3000000}) only [go_sem, ↓reduceIte, hz4]
      cases c4 : lt M[fi + r]! M[fi + (2 * r + 1)]!
      · simp (config := {maxSteps := 3000000}) only [go_sem]
        exact ⟨_, _, Wk.refl _, weak_re hwf, M, hM, hS.done (fun k hk hkh => E.ord.trans (hbig k hk hkh) c4), rfl⟩
      · obtain ⟨g1, g2, s1, s2, m1, m2⟩ := swapC hmo hlen (i := fi + r) (j := fi + (2 * r + 1)) (by omega) (by omega)
        have hex := hM.exch (i := fi + r) (j := fi + (2 * r + 1)) (by omega) (by omega) (by omega) (by omega) h1
        have hst := hS.step E.ord (ch := 2 * r + 1) (by unfold kid; omega) (by omega) hr (by omega) hbig c4
        simp (config := {maxSteps := 3000000}) only [go_sem, Nat.reduceEqDiff, Nat.reduceAdd, Nat.reduceLT, Int.reduceNeg, ↓reduceIte, reduceCtorEq, Nat.reduceBEq, h8, i1, i3, g1, g2, s1, s2, m1, m2, rowc_len, List.length_set]
        repeat (apply And.intro; focus (first | omega | (simp; done)))
        exact ⟨⟨2 * r + 1, _, by omega, by omega, by rw [show (2 * (r : Int) + 1) = ((2 * r + 1 : Nat) : Int) by omega], hex, hst, rfl⟩, by omega⟩
set_option maxRecDepth 100000 in
set_option maxHeartbeats 4000000 in
theorem crev_v (hf : cFun P f = some CRev) (hmo : mono (rowc val L sp)) (h1 : a < c) (h2 : c ≤ L.length) (hl : L.length < 4611686018427387904) :
    VCalls P f [dataV b L.length cap, .sc (.int .i64 a), .sc (.int .i64 c), cmpV g] (st.put b (rowc val L sp)) fun _ s => ∃ M, Mix a c L M ∧ s = st.put b (rowc val M sp) := by
  refine vcalls_enter hf (Nat.le_of_ble_eq_true rfl) fun hwf hok => ?_
  show Run _ (CRev).body (.fin (finQ (CRev).res _)) _ _
  unfold CRev
  simp (config := {maxSteps := 3000000}) only [go_sem, Nat.reduceEqDiff, Int.reduceNeg, ↓reduceIte, dataV, cmpV]
  repeat (apply And.intro; focus (first | omega | (simp; done)))
  refine run_loop [8, 9, 13, 14, 15, 16, 17, 18, 19, 20, 21, 22, 23, 24, 25, 26, 27, 28, 29, 30, 31, 32, 33] (fun B s => ∃ (i j : Nat) (M : List α), a ≤ i ∧ j < c ∧ i ≤ j + 1 ∧ B 8 = .sc (.int .i64 i) ∧ B 9 = .sc (.int .i64 j) ∧ Mix a c L M ∧ s = st.put b (rowc val M sp)) (fun B _ => vnat (B 9)) rfl ?_ ?_
  · simp (config := {maxSteps := 3000000}) only [go_sem, Nat.reduceEqDiff, ↓reduceIte]
    exact ⟨a, c - 1, L, by omega, by omega, by omega, rfl, by rw [show ((c : Int) - 1) = ((c - 1 : Nat) : Int) by omega], .refl, rfl⟩
  · rintro B s ⟨i, j, M, hi, hj, hij, h6, h7, hM, rfl⟩
    have hlen := hM.len
    by_cases c1 : i < j
    · obtain ⟨g1, g2, s1, s2, m1, m2⟩ := swapC hmo hlen (i := i) (j := j) (by omega) (by omega)
      have hex := hM.exch (i := i) (j := j) (by omega) (by omega) (by omega) (by omega) h2
      simp (config := {maxSteps := 3000000}) only [go_sem, Nat.reduceEqDiff, Nat.reduceAdd, Nat.reduceLT, Int.reduceNeg, ↓reduceIte, reduceCtorEq, Nat.reduceBEq, h6, h7, decide_eq_true (show (i : Int) < (j : Int) by omega), g1, g2, s1, s2, m1, m2, rowc_len, List.length_set]
      repeat (apply And.intro; focus (first | omega | (simp; done)))
      exact ⟨⟨i + 1, j - 1, _, by omega, by omega, by omega, by simp, by rw [show ((j : Int) - 1) = ((j - 1 : Nat) : Int) by omega], hex, rfl⟩, by omega⟩
    · simp (config := {maxSteps := 3000000}) only [go_sem, Nat.reduceEqDiff, ↓reduceIte, Nat.reduceBEq, h6, h7, decide_eq_false (show ¬ (i : Int) < (j : Int) by omega)]
      exact ⟨_, _, Wk.refl _, weak_re hwf, M, hM, rfl⟩
set_option maxRecDepth 100000 in
set_option maxHeartbeats 4000000 in
theorem cheap_v (hf : cFun P f = some (CHeap fsift)) (hfs : cFun P fsift = some (CSift)) (E : EltC P g val lt) (hmo : mono (rowc val L sp)) (h1 : a < c) (h2 : c ≤ L.length) (hl : L.length < 4611686018427387904) :
    VCalls P f [dataV b L.length cap, .sc (.int .i64 a), .sc (.int .i64 c), cmpV g] (st.put b (rowc val L sp)) fun _ s => ∃ M, Mix a c L M ∧ Srt lt a c M ∧ s = st.put b (rowc val M sp) := by
  have e0 : (c : Int) - (a : Int) = ((c - a : Nat) : Int) := by omega
  refine vcalls_enter hf (Nat.le_of_ble_eq_true rfl) fun hwf hok => ?_
  show Run _ (CHeap fsift).body (.fin (finQ (CHeap fsift).res _)) _ _
  unfold CHeap
  simp (config := {maxSteps := 3000000}) only [go_sem, Nat.reduceEqDiff, Int.reduceLT, Int.reduceNeg, ↓reduceIte, dataV, cmpV, e0]
  repeat (apply And.intro; focus (first | omega | (simp; done)))
  refine run_loop [11, 20, 21, 22, 23, 24, 25, 26, 27, 28, 29] (fun B s => ∃ (i : Int) (M : List α), -1 ≤ i ∧ i < ((c - a : Nat) : Int) ∧ B 11 = .sc (.int .i64 i) ∧ Mix a c L M ∧ Heap lt a (i + 1).toNat (c - a) M ∧ s = st.put b (rowc val M sp)) (fun B _ => match B 11 with | .sc (.int _ n) => (n + 1).toNat | _ => 0) rfl ?_ ?_
  · simp (config := {maxSteps := 3000000}) only [go_sem, Int.reduceNeg, ↓reduceIte]
    refine ⟨(((c - a : Nat) : Int) - 1) / 2, L, by omega, by omega, rfl, .refl, fun r k hr hk hkh => ?_, rfl⟩
    exfalso
    rcases hk with h | h <;> omega
  · rintro B s ⟨i, M, hi, hi2, h9, hM, hH, rfl⟩
    have hlen := hM.len
    by_cases c1 : 0 ≤ i
    · obtain ⟨n, rfl⟩ : ∃ n : Nat, i = n := ⟨i.toNat, by omega⟩
      simp (config := {maxSteps := 3000000}) only [go_sem, Nat.reduceEqDiff, Int.reduceNeg, ↓reduceIte, reduceCtorEq, Nat.reduceBEq, h9, decide_eq_true c1]
      have e1 : ((n : Int) + 1).toNat = n + 1 := by omega
      rw [e1] at hH
      have hmo' := rowc_mono hmo hlen
      have := csift_v (st := st) (b := b) (cap := cap) (sp := sp) hfs E hmo' (lo := n) (hi := c - a) (fi := a) (by omega) (by omega) (by omega) hH
      rw [hlen, dataV] at this
      refine Cal.mk this ?_
      rintro _ _ ⟨M2, k1, k2, rfl⟩ -
      have hM2 : Mix a c L M2 := hM.trans (k1.wide (Nat.le_refl _) (by omega))
      simp (config := {maxSteps := 3000000}) only [go_sem, Nat.reduceEqDiff, Int.reduceNeg, ↓reduceIte, Nat.reduceBEq, h9]
      repeat (apply And.intro; focus (first | omega | (simp; done)))
      exact ⟨⟨(n : Int) - 1, M2, by omega, by omega, rfl, hM2, by rw [show ((n : Int) - 1 + 1).toNat = n by omega]; exact k2, rfl⟩, by omega⟩
    · have ei : i = -1 := by omega
      subst ei
      have hH0 : Heap lt a 0 (c - a) M := hH
      simp (config := {maxSteps := 3000000}) only [go_sem, Nat.reduceEqDiff, Int.reduceToNat, Int.reduceLE, Int.reduceAdd, Int.reduceNeg, ↓reduceIte, Nat.reduceBEq, h9]
      repeat (apply And.intro; focus (first | omega | (simp; done)))
      refine run_loop [12, 32, 33, 34, 35, 36, 37, 38, 39, 40, 41, 42, 43, 44, 45, 46, 47, 48, 49, 50, 51, 52, 53, 54, 55, 56, 57, 58, 59] (fun B s => ∃ (i : Int) (M : List α), -1 ≤ i ∧ i < ((c - a : Nat) : Int) ∧ B 12 = .sc (.int .i64 i) ∧ Mix a c L M ∧ Heap lt a 0 (i + 1).toNat M ∧ Srt lt (a + (i + 1).toNat) c M ∧ (∀ p q, p < (i + 1).toNat → a + (i + 1).toNat ≤ q → q < c → lt M[q]! M[a + p]! = false) ∧ s = st.put b (rowc val M sp)) (fun B _ => match B 12 with | .sc (.int _ n) => (n + 1).toNat | _ => 0) rfl ?_ ?_
      · simp (config := {maxSteps := 3000000}) only [go_sem, Int.reduceNeg, ↓reduceIte]
        have e2 : (((c - a : Nat) : Int) - 1 + 1).toNat = c - a := by omega
        refine ⟨((c - a : Nat) : Int) - 1, M, by omega, by omega, rfl, hM, by rw [e2]; exact hH0, by rw [e2]; exact Srt.one (by omega), ?_, rfl⟩
        rw [e2]
        intro p q h3 h4 h5
        omega
      · clear hM hH hH0 hlen M h9
        rintro C s ⟨i, M, hi, hi2, h10, hM, hH, hS, hB, rfl⟩
        have hlen := hM.len
        by_cases c2 : 0 ≤ i
        · obtain ⟨n, rfl⟩ : ∃ n : Nat, i = n := ⟨i.toNat, by omega⟩
          have e1 : ((n : Int) + 1).toNat = n + 1 := by omega
          rw [e1] at hH hS hB
          have e3 : ((a : Int) + (n : Int)).toNat = a + n := by omega
          obtain ⟨g1, g2, s1, s2, m1, m2⟩ := swapC hmo hlen (i := a) (j := a + n) (by omega) (by omega)
          have hex := hM.exch (i := a) (j := a + n) (by omega) (by omega) (by omega) (by omega) h2
          have hlen2 := hex.len
          simp (config := {maxSteps := 3000000}) only [go_sem, Nat.reduceEqDiff, Nat.reduceAdd, Nat.reduceLT, Int.reduceNeg, ↓reduceIte, reduceCtorEq, Nat.reduceBEq, h10, decide_eq_true c2, e3, g1, g2, s1, s2, m1, m2, rowc_len, List.length_set]
          repeat (apply And.intro; focus (first | omega | (simp; done)))
          have gx := fun k => exch_get (L := M) (i := a) (j := a + n) (by omega) (by omega) k
          have hH2 : Heap lt a 1 n (exch M a (a + n)) := fun r k hr hk hkn => by
            have hrk : r < k := by rcases hk with h | h <;> omega
            rw [gx, gx, if_neg (by omega), if_neg (by omega), if_neg (by omega), if_neg (by omega)]
            exact hH r k (by omega) hk (by omega)
          have htop := hH.top E.ord
          have := csift_v (st := st) (b := b) (cap := cap) (sp := sp) hfs E (rowc_mono hmo hlen2) (lo := 0) (hi := n) (fi := a) (by omega) (by omega) (by omega) hH2
          rw [hlen2, dataV] at this
          refine Cal.mk this ?_
          rintro _ _ ⟨M2, k1, k2, rfl⟩ -
          have hM2 : Mix a c L M2 := hex.trans (k1.wide (Nat.le_refl _) (by omega))
          have hbig : ∀ q, a + n ≤ q → q < c → ∀ p, a ≤ p → p < a + n → lt M2[q]! M2[p]! = false := fun q h3 h4 p h5 h6 => by
            rw [k1.out q (by omega)]
            refine k1.all (by omega) (Q := fun v => lt (exch M a (a + n))[q]! v = false) (fun p h7 h8 => ?_) p h5 h6
            rw [gx q, gx p, if_neg (show ¬ p = a + n by omega)]
            by_cases eq : q = a + n
            · rw [if_pos eq]
              by_cases ep : p = a
              · rw [if_pos ep]
                exact htop n (by omega)
              · rw [if_neg ep]
                have := htop (p - a) (by omega)
                rwa [show a + (p - a) = p by omega] at this
            · rw [if_neg eq, if_neg (by omega)]
              by_cases ep : p = a
              · rw [if_pos ep]; exact hB n q (by omega) (by omega) h4
              · rw [if_neg ep]
                have := hB (p - a) q (by omega) (by omega) h4
                rwa [show a + (p - a) = p by omega] at this
          have hS2 : Srt lt (a + n) c M2 := fun p q h3 h4 h5 => by
            rw [k1.out p (by omega), k1.out q (by omega), gx p, gx q, if_neg (show ¬ q = a + n by omega), if_neg (show ¬ q = a by omega)]
            by_cases ep : p = a + n
            · rw [if_pos ep]
              have := hB 0 q (by omega) (by omega) h5
              rwa [Nat.add_zero] at this
            · rw [if_neg ep, if_neg (by omega)]; exact hS p q (by omega) h4 h5
          have e4 : ((n : Int) - 1 + 1).toNat = n := by omega
          simp (config := {maxSteps := 3000000}) only [go_sem, Nat.reduceEqDiff, Int.reduceNeg, ↓reduceIte, Nat.reduceBEq, h10]
          repeat (apply And.intro; focus (first | omega | (simp; done)))
          refine ⟨⟨(n : Int) - 1, M2, by omega, by omega, rfl, hM2, by rw [e4]; exact k2, by rw [e4]; exact hS2, ?_, rfl⟩, by omega⟩
          rw [e4]
          exact fun p q h3 h4 h5 => hbig q h4 h5 (a + p) (by omega) (by omega)
        · have ei : i = -1 := by omega
          subst ei
          simp (config := {maxSteps := 3000000}) only [go_sem, Int.reduceToNat, Int.reduceLE, Int.reduceAdd, Int.reduceNeg, ↓reduceIte, Nat.reduceBEq, h10]
          exact ⟨_, _, Wk.refl _, weak_re hwf, M, hM, hS, rfl⟩
end
end
end Go.Proofs.Ytlngegoamfklgaa
