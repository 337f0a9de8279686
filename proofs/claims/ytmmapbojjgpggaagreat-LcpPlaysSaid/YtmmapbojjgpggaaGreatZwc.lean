/- Steps of the proof, joined: VR34, VR22, VR37, VLp2, VLp3, VLp4, VLp5, Base, Open, VEnter, VSeat, VOpenB. -/
import Derived.Test.YtmmapbojjgpggaaGreatZwb
import Derived.Test.YtmmapbojjgpggaaGreatZwa
import Derived.Test.YtmmapbojjgpggaaGreatPc
import Derived.Test.YtmmapbojjgpggaaGreatProg
import Derived.WalkKit
import Derived.WalkSpells
import Derived.WalkLawsBesides
import Derived.Deep.RegionHeld3
import Derived.Deep.DrawnRows
import Derived.BigQuiet
import Derived.Lib.Hide
import Derived.ProofKit
import Derived.OpenShut
import Derived.Deep.Slices
import Derived.Test.YtmmapbojjgpggaaGreatZec
import Derived.Test.YtmmapbojjgpggaaGreatVc
namespace Go.Proofs.YtmmapbojjgpggaaGreat
open Go
attribute [local go_sem] run_skip run_reg run_seq run_blk run_exit run_ret run_cond if_true if_false at_code_n at_code_x at_code_r at_blk_n at_blk_x at_blk_r at_rnd_n at_rnd_x at_rnd_r at_fin_n at_fin_r ops_nil ops_grd grd_und grd_tt grd_ff grd_tf grd_ft ops_mv ops_pick ops_bin ops_un ops_binb ops_eqs ops_isnil ops_pnil ops_b2s ops_s2b ops_b2sB ops_s2a ops_slcA ops_aidx vaidx vb2sB vs2a vslcA ops_sidx vs2b vsidx srcX ops_appx apx_mk ops_mks ops_mko mks_int mko_int vbinb veqs visnil vpnil vb2s ops_conv ops_fld ops_ix ops_ixa ops_load ops_nilck ops_ext ops_len ops_slen ops_mn ops_mx ops_bld ops_bsl ops_slc ops_sslc ops_box ops_alc ops_alcX ops_boxX ops_bslo ops_store ops_app ops_call ev_t ev_c put_get put_none opv_mk stb_some sto_ptr over_get rel_mk vnat Bx Stp vbld vbsl put_box_same put_box_ne put_sz put_own use_box use_sz put_put args0 List.getD_cons_zero List.getD_cons_succ List.getD_nil vpick vbin vbinI vbinS vun vconv norm vfld vnil vlen vslen vext vmm vix vixa vload takeV takeB mono_nil mono_two mono_sc mono_any mono_und mono_sl mono_agg mono_ep vmlk vmlen vmnil vent vmfn allSc vslc3 kOk fitsV ops_mlk ops_mlen ops_mnil ops_ent ops_mfn ops_slc3 ops_mkm ops_mup mup_map mub_some ops_mdel mdl_nil mdl_map mdb_some ops_rng rng_none rng_map rgb_some ops_nxt ops_ment met_map meb_some ops_est est_map esb_some ops_clr clr_nil clr_box clb_some ops_calv clv_func vslc vsslc fillV splice V.cells strip strip1 allLen ptrV obsOk shAmt IntKind.bits List.map_cons List.map_nil List.length_cons List.length_nil List.getElem?_cons_zero List.getElem?_cons_succ List.take_succ_cons List.take_zero List.drop_succ_cons List.drop_zero List.cons_append List.nil_append List.append_nil List.take_nil List.drop_nil Option.map_some Option.map_none and_true true_and Int.toNat_natCast Nat.min_def Nat.zero_add Nat.add_zero Nat.zero_mul Nat.mul_one Nat.one_mul vret rvAll rvVal resv_1 resv_2 decide_true decide_false Int.lt_irrefl Bool.not_true Bool.not_false ne_eq not_true_eq_false not_false_eq_true eq_self Bool.true_eq_false Bool.false_eq_true List.contains_cons List.contains_nil Bool.false_or Bool.true_or Bool.or_false Bool.or_true List.mem_cons List.not_mem_nil or_false or_true true_or false_or mono_bs ops_aidxn vaidxn ops_fv vfv ops_mki vmki ops_inv ops_cpy cpy_box cpb_some at_finp_n at_finp_r vretp rpAll rpVal vpv resp_0 resp_1 resp_2 Nat.reduceEqDiff Nat.reduceAdd Nat.reduceMul Nat.reduceSub Nat.reduceLT Nat.reduceLeDiff Int.reduceToNat Int.reduceLE Int.reduceLT Int.reducePow Int.reduceMul Int.reduceAdd Int.reduceSub Int.reduceNeg Int.reduceEq Int.reduceMod Int.reduceDiv Nat.reducePow Nat.reduceMod Nat.reduceDiv reduceCtorEq Nat.reduceBEq
section
open Go
section
variable {st : St} {tk : Tk} {l : List Opt} {L : List Int} {w : Want} {own draw : Int}
theorem rPut0_v {n : Int} (k : Nat) (h0 : 0 ≤ n) (h1 : n ≤ 18446744073709551615) (k1 : 1 ≤ k) (k8 : k ≤ 8) : VCalls Tryz.prog 16 [.sl .nil [], .sc (.int .u64 n), .sc (.int .i64 k)] st fun r s => ∃ t, r = .sl t (bs (beL n k)) ∧ RO 1 st s (.sl t (bs (beL n k))) (bs (beL n k)) :=
  (rPut_v (L := []) (tk := .nil) (size := k) IsB.nil' (by simp) h0 h1).mono fun r s ⟨o, n⟩ => by
    rw [if_neg (by omega), List.nil_append, Int.toNat_natCast] at o
    obtain ⟨t, rfl⟩ := own_sl o
    exact ⟨t, rfl, o, n.weak, n.lt, n.tok⟩
theorem RO.over {size : Nat} {base s t : St} {x : V} {l : List V} (h : RO size base s x l) (hw : s.weak t) (hl : t.Lt) : RO size base t x l :=
  h.tn (Tn.ofWeak (bx := []) hw hl) (by simp)
set_option maxRecDepth 100000 in
set_option maxHeartbeats 4000000 in
theorem r34Options_v (hw : w.Good) : VCalls Tryz.prog 100 [.agg w.cells] st fun r s => r = .sl .no (opts (optsW w)) ∧ st = s := by
  obtain ⟨mru, auth, magic, pfc, acfc⟩ := w
  obtain ⟨m0, m1, g0, g1⟩ := hw
  simp only at m0 m1 g0 g1
  have c1 : mru % 18446744073709551616 = mru := by omega
  have c2 : magic % 18446744073709551616 = magic := by omega
  obtain ⟨P1, hP1⟩ : ∃ P : List Opt, P = if mru ≠ 0 then [(1, beL mru 2)] else [] := ⟨_, rfl⟩
  obtain ⟨P2, hP2⟩ : ∃ P : List Opt, P = P1 ++ if auth = true then [(3, [194, 35, 5])] else [] := ⟨_, rfl⟩
  obtain ⟨P3, hP3⟩ : ∃ P : List Opt, P = P2 ++ if magic ≠ 0 then [(5, beL magic 4)] else [] := ⟨_, rfl⟩
  obtain ⟨P4, hP4⟩ : ∃ P : List Opt, P = P3 ++ if pfc = true then [(7, [])] else [] := ⟨_, rfl⟩
  have hP5 : optsW ⟨mru, auth, magic, pfc, acfc⟩ = P4 ++ if acfc = true then [(8, [])] else [] := by rw [hP4, hP3, hP2, hP1]; rfl
  rw [hP5]
  have app : ∀ {s : St} {t : Tk} {P : List Opt} (o : Opt) {d : Option Nat} {rest : List VO} {k : Kt} {A : Nat → V}, RO 2 st s (.sl t (opts P)) (opts P) → P.length ≤ 5 → (∀ t2 s2, RO 2 st s2 (.sl t2 (opts (P ++ [o]))) (opts (P ++ [o])) → Ops Tryz.prog rest k (putV A d (.sl t2 (opts (P ++ [o])))) s2) → App Tryz.prog 2 32 (.sl t (opts P)) (.sl .no [.agg [.sc (.int .u8 o.1), .sl .no (bs o.2)]]) d [] rest k A s := fun {s t P} o {d rest k A} R hl hk => by
    refine App.mk (bytes := 32) (l := opts P) (ys := opts [o]) R.own (allSz_opts _) (by simp only [opts_len, List.length_cons, List.length_nil]; unfold maxLen; omega) (by simp only [opts_len, List.length_cons, List.length_nil]; omega) ?_
    intro r2 s2 k1 k2
    have R2 := R.app k1 k2
    rw [opts_append] at R2
    obtain ⟨t2, rfl⟩ := R2.sl
    exact ⟨trivial, hk t2 s2 R2⟩
  refine vcalls_enterq pc100 (Nat.le_of_ble_eq_true rfl) rfl fun hwf hok => ?_
  show Run _ Pc100.body (.fin (finP Pc100.res _)) _ _
  unfold Pc100 zn zo
  simp (maxSteps := 3000000) only [go_sem, ↓reduceIte, Want.cells]
  refine If.cut [3, 9, 10, 11, 12, 13, 14] (fun B s => ∃ t, B 3 = .sl t (opts P1) ∧ RO 2 st s (.sl t (opts P1)) (opts P1) ∧ P1.length ≤ 1) rfl ?_ ?_
  · by_cases c : mru = 0
    · skip
      rw [if_neg (by exact fun e => e c)] at hP1
      simp (maxSteps := 3000000) only [go_sem, ↓reduceIte, decide_eq_false (show ¬ (0 : Int) < mru by omega), at_cutk_n]
      exact ⟨.nil, by rw [hP1]; rfl, by rw [hP1]; exact RO.nil hwf.weak hwf.lt, by rw [hP1]; simp⟩
    · rw [if_pos (by exact c)] at hP1
      simp (maxSteps := 3000000) only [go_sem, ↓reduceIte, decide_eq_true (show (0 : Int) < mru by omega), c1]
      refine Cal.mk (rPut0_v (n := mru) 2 m0 (by omega) (by decide) (by decide)) ?_
      rintro _ s1 ⟨u, rfl, U⟩ -
      simp (maxSteps := 3000000) only [go_sem, ↓reduceIte]
      refine app (P := []) (1, beL mru 2) (RO.nil U.weak U.lt) (by simp) fun t2 s2 R2 => ?_
      simp (maxSteps := 3000000) only [go_sem, ↓reduceIte, at_cutk_n]
      exact ⟨t2, by rw [hP1], by rw [hP1]; exact R2, by rw [hP1]; simp⟩
  · rintro B s ⟨t, h3, R, hl⟩
    simp (maxSteps := 3000000) only [go_sem, ↓reduceIte]
    refine If.cut [3, 18, 19, 20, 21] (fun B s => ∃ t, B 3 = .sl t (opts P2) ∧ RO 2 st s (.sl t (opts P2)) (opts P2) ∧ P2.length ≤ 2) rfl ?_ ?_
    · by_cases c : ¬ auth = true
      · have c : auth = false := by simpa using c
        rw [if_neg (by simp [c]), List.append_nil] at hP2
        simp (maxSteps := 3000000) only [go_sem, ↓reduceIte, c, at_cutk_n, h3]
        exact ⟨t, by rw [hP2], by rw [hP2]; exact R, by rw [hP2]; omega⟩
      · have c : auth = true := by simpa using c
        rw [if_pos c] at hP2
        simp (maxSteps := 3000000) only [go_sem, c]
        refine Bo.own (by simp [allLen, V.cells]) ?_
        intro g hg
        have U := R.over (weak_use R.lt.weak hg) R.lt.use (t := s.use g 3)
        simp (maxSteps := 3000000) only [go_sem, ↓reduceIte, h3]
        refine app (P := P1) (3, [194, 35, 5]) U (by omega) fun t2 s2 R2 => ?_
        simp (maxSteps := 3000000) only [go_sem, ↓reduceIte, at_cutk_n]
        exact ⟨t2, by rw [hP2], by rw [hP2]; exact R2, by rw [hP2]; simp only [List.length_append, List.length_cons, List.length_nil]; omega⟩
    · rintro B s ⟨t, h3, R, hl⟩
      simp (maxSteps := 3000000) only [go_sem, ↓reduceIte]
      refine If.cut [3, 27, 28, 29, 30, 31, 32] (fun B s => ∃ t, B 3 = .sl t (opts P3) ∧ RO 2 st s (.sl t (opts P3)) (opts P3) ∧ P3.length ≤ 3) rfl ?_ ?_
      · by_cases c : magic = 0
        · skip
          rw [if_neg (by exact fun e => e c), List.append_nil] at hP3
          simp (maxSteps := 3000000) only [go_sem, ↓reduceIte, decide_eq_false (show ¬ (0 : Int) < magic by omega), at_cutk_n, h3]
          exact ⟨t, by rw [hP3], by rw [hP3]; exact R, by rw [hP3]; omega⟩
        · rw [if_pos (by exact c)] at hP3
          simp (maxSteps := 3000000) only [go_sem, ↓reduceIte, decide_eq_true (show (0 : Int) < magic by omega), c2]
          refine Cal.mk (rPut0_v (n := magic) 4 g0 (by omega) (by decide) (by decide)) ?_
          rintro _ s1 ⟨u, rfl, U⟩ -
          simp (maxSteps := 3000000) only [go_sem, ↓reduceIte, h3]
          refine app (P := P2) (5, beL magic 4) (R.over U.weak U.lt) (by omega) fun t2 s2 R2 => ?_
          simp (maxSteps := 3000000) only [go_sem, ↓reduceIte, at_cutk_n]
          exact ⟨t2, by rw [hP3], by rw [hP3]; exact R2, by rw [hP3]; simp only [List.length_append, List.length_cons, List.length_nil]; omega⟩
      · rintro B s ⟨t, h3, R, hl⟩
        simp (maxSteps := 3000000) only [go_sem, ↓reduceIte]
        refine If.cut [3, 36, 37, 38] (fun B s => ∃ t, B 3 = .sl t (opts P4) ∧ RO 2 st s (.sl t (opts P4)) (opts P4) ∧ P4.length ≤ 4) rfl ?_ ?_
        · by_cases c : ¬ pfc = true
          · have c : pfc = false := by simpa using c
            rw [if_neg (by simp [c]), List.append_nil] at hP4
            simp (maxSteps := 3000000) only [go_sem, ↓reduceIte, c, at_cutk_n, h3]
            exact ⟨t, by rw [hP4], by rw [hP4]; exact R, by rw [hP4]; omega⟩
          · have c : pfc = true := by simpa using c
            rw [if_pos c] at hP4
            simp (maxSteps := 3000000) only [go_sem, ↓reduceIte, c, h3]
            refine app (P := P3) (7, []) R (by omega) fun t2 s2 R2 => ?_
            simp (maxSteps := 3000000) only [go_sem, ↓reduceIte, at_cutk_n]
            exact ⟨t2, by rw [hP4], by rw [hP4]; exact R2, by rw [hP4]; simp only [List.length_append, List.length_cons, List.length_nil]; omega⟩
        · rintro B s ⟨t, h3, R, hl⟩
          simp (maxSteps := 3000000) only [go_sem, ↓reduceIte]
          cases acfc with
          | false =>
            simp (maxSteps := 3000000) only [go_sem, ↓reduceIte, h3]
            exact ⟨_, _, Wk.no, R.weak, by simp, rfl⟩
          | true =>
            simp (maxSteps := 3000000) only [go_sem, ↓reduceIte, h3]
            refine app (P := P4) (8, []) R (by omega) fun t2 s2 R2 => ?_
            simp (maxSteps := 3000000) only [go_sem, ↓reduceIte]
            exact ⟨_, _, Wk.no, R2.weak, by simp, rfl⟩
theorem r34Size_v {t : Int} (h0 : 0 ≤ t) (h1 : t < 256) : VCalls Tryz.prog 137 [.sc (.int .u8 t)] st fun r s => r = .sc (.int .i64 (sizeT t)) ∧ st = s := by
  by_cases c : 8 < t
  · skip
    refine vcalls_enterq pc137 (Nat.le_of_ble_eq_true rfl) rfl fun hwf hok => ?_
    show Run _ Pc137.body (.fin (finP Pc137.res _)) _ _
    unfold Pc137 zn zo
    simp (maxSteps := 3000000) only [go_sem, ↓reduceIte]
    intro b hb
    simp (maxSteps := 3000000) only [go_sem, ↓reduceIte, decide_eq_true c]
    exact ⟨_, _, Wk.refl _, weak_put hwf.weak hb, by rw [sizeT, if_neg (by omega), if_neg (by omega), if_neg (by omega)], rfl⟩
  · have hc : t = 0 ∨ t = 1 ∨ t = 2 ∨ t = 3 ∨ t = 4 ∨ t = 5 ∨ t = 6 ∨ t = 7 ∨ t = 8 := by omega
    have e : ∀ n : Nat, n ≤ 8 → decide ((8 : Int) < (n : Int)) = false := by decide
    rcases hc with rfl | rfl | rfl | rfl | rfl | rfl | rfl | rfl | rfl
    all_goals
      refine vcalls_enterq pc137 (Nat.le_of_ble_eq_true rfl) rfl fun hwf hok => ?_
      show Run _ Pc137.body (.fin (finP Pc137.res _)) _ _
      unfold Pc137 zn zo
      simp (maxSteps := 3000000) only [go_sem, ↓reduceIte]
      intro b hb
      try simp (maxSteps := 3000000) only [go_sem, ↓reduceIte, decide_eq_false c]
      repeat (apply And.intro; focus (first | omega | (simp; done)))
      exact ⟨_, _, Wk.refl _, weak_put hwf.weak hb, rfl, rfl⟩
def badO (l : List Opt) (i : Nat) (o : Opt) : Prop := sizeT o.1 ≠ (o.2.length : Int) ∨ ∃ x ∈ l.take i, x.1 = o.1 ∧ x.2.length = o.2.length
set_option maxRecDepth 100000 in
set_option maxHeartbeats 4000000 in
theorem r34Bad_v (hG : GoodO l) (hl : l.length ≤ 1000000) {i : Nat} {o : Opt} (ho : l[i]? = some o) : VCalls Tryz.prog 125 [.sl tk (opts l), .sc (.int .i64 i)] st fun r s => ∃ b : Bool, r = .sc (.bool b) ∧ (b = true ↔ badO l i o) ∧ st = s := by
  refine vcalls_enterq pc125 (Nat.le_of_ble_eq_true rfl) rfl fun hwf hok => ?_
  show Run _ Pc125.body (.fin (finP Pc125.res _)) _ _
  unfold Pc125 zg zo
  obtain ⟨T, D⟩ := o
  obtain ⟨o0, o1, oB, oL⟩ := hG.get ho
  simp only at o0 o1 oB oL
  have hil := (List.getElem?_eq_some_iff.1 ho).1
  simp (maxSteps := 3000000) only [go_sem, ↓reduceIte, opts_at ho, bs_len]
  repeat (apply And.intro; focus (first | omega | (simp; done)))
  refine Cal.mk (r34Size_v o0 o1) ?_
  rintro _ _ ⟨rfl, rfl⟩ -
  by_cases c1 : sizeT T = (D.length : Int)
  rotate_left
  · simp (maxSteps := 3000000) only [go_sem, ↓reduceIte, decide_eq_true (show sizeT T ≠ (D.length : Int) from c1)]
    repeat (apply And.intro; focus (first | omega | (simp; done)))
    exact ⟨_, _, Wk.refl _, hwf.weak, true, rfl, ⟨fun _ => .inl c1, fun _ => rfl⟩, rfl⟩
  · simp (maxSteps := 3000000) only [go_sem, ↓reduceIte, decide_eq_false (show ¬ sizeT T ≠ (D.length : Int) from fun e => e c1)]
    repeat (apply And.intro; focus (first | omega | (simp; done)))
    refine run_loop [4, 5, 21, 23, 26, 27, 28, 31, 32, 33, 34, 36, 37, 38, 39, 40, 41, 42, 43, 44, 45, 46, 47, 48, 49] (fun B s => s = st ∧ ∃ k : Nat, k ≤ i ∧ B 5 = .sc (.int .i64 k) ∧ ∀ x ∈ l.take k, ¬ (x.1 = T ∧ x.2.length = D.length)) (fun B _ => i - vnat (B 5)) rfl ?_ ?_
    · exact ⟨rfl, 0, by omega, rfl, by simp⟩
    · rintro B s ⟨rfl, k, hk, h5, hn⟩
      by_cases c2 : k < i
      · obtain ⟨⟨T2, D2⟩, hx⟩ := get_ex (L := l) (i := k) (by omega)
        have step : ¬ (T2 = T ∧ D2.length = D.length) → ∀ x ∈ l.take (k + 1), ¬ (x.1 = T ∧ x.2.length = D.length) := fun hne x hm => by
          rw [take_snoc hx] at hm
          rcases List.mem_append.1 hm with hm | hm
          · exact hn x hm
          · simp only [List.mem_singleton] at hm; subst hm; exact hne
        repeat' first | simp (maxSteps := 3000000) only [go_sem, ↓reduceIte, h5, opts_at ho, opts_at hx, bs_len, decide_eq_true (show (k : Int) < (i : Int) by omega)] | (refine If.dec (fun h => ?_) (fun h => ?_) <;> first | simp only [decide_eq_true h] | simp only [decide_eq_false h] | skip) | (refine Grd.decd (fun h => ?_) (fun h => ?_) <;> first | simp only [decide_eq_true h] | simp only [decide_eq_false h] | skip) | (refine If.mk (fun h => ?_) (fun h => ?_) <;> first | simp only [h] | skip) | (refine Grd.two (fun h => ?_) (fun h => ?_) <;> first | simp only [h] | skip) | (apply And.intro; focus (first | omega | (simp; done)))
        · refine ⟨_, _, Wk.refl _, hwf.weak, true, rfl, ⟨fun _ => .inr ⟨(T2, D2), ?_, by simp only; omega⟩, fun _ => rfl⟩, rfl⟩
          exact List.mem_iff_getElem?.2 ⟨k, by rw [List.getElem?_take, if_pos c2]; exact hx⟩
        · exact ⟨⟨k + 1, by omega, by simp, step (by omega)⟩, by omega⟩
        · exact ⟨⟨k + 1, by omega, by simp, step (by omega)⟩, by omega⟩
      · obtain rfl : k = i := by omega
        simp (maxSteps := 3000000) only [go_sem, ↓reduceIte, h5]
        have hbad : ¬ badO l k (T, D) := fun e => by
          rcases e with e | ⟨x, hx, e⟩
          · exact e c1
          · exact hn x hx e
        exact ⟨_, _, Wk.refl _, hwf.weak, false, rfl, ⟨(fun e => by cases e), fun e => absurd e hbad⟩, rfl⟩
theorem seen_fold {t : Int} : ∀ {m : List Opt} {a : List Opt × List Opt × List Int}, t ∈ (m.foldl (judgeStep own draw) a).2.2 ↔ t ∈ a.2.2 ∨ ∃ x ∈ m, x.1 = t ∧ sizeT t = (x.2.length : Int)
  | [], a => by simp
  | o :: m, a => by
    rw [List.foldl_cons, seen_fold]
    have h : t ∈ (judgeStep own draw a o).2.2 ↔ t ∈ a.2.2 ∨ o.1 = t ∧ sizeT t = (o.2.length : Int) := by
      unfold judgeStep
      split
      · rename_i c
        refine ⟨.inl, fun h => h.elim id fun ⟨h1, h2⟩ => ?_⟩
        subst h1
        exact c.elim (fun e => absurd h2 e) id
      · rename_i c
        simp only [not_or, Decidable.not_not] at c
        simp only [List.mem_cons]
        constructor
        · rintro (rfl | h)
          · exact .inr ⟨rfl, c.1⟩
          · exact .inl h
        · rintro (h | ⟨h1, h2⟩)
          · exact .inr h
          · exact .inl h1.symm
    rw [h]
    clear h
    simp only [List.mem_cons]
    constructor
    · rintro ((h | h) | ⟨x, hx, h⟩)
      · exact .inl h
      · exact .inr ⟨o, .inl rfl, h⟩
      · exact .inr ⟨x, .inr hx, h⟩
    · rintro (h | ⟨x, rfl | hx, h⟩)
      · exact .inl (.inl h)
      · exact .inl (.inr h)
      · exact .inr ⟨x, hx, h⟩
theorem bad_iff {i : Nat} {o : Opt} : badO l i o ↔ sizeT o.1 ≠ (o.2.length : Int) ∨ o.1 ∈ (judgeF own draw (l.take i)).2.2 := by
  unfold badO judgeF
  rw [seen_fold]
  by_cases c : sizeT o.1 = (o.2.length : Int)
  · simp only [c, ne_eq, not_true_eq_false, false_or, List.not_mem_nil]
    constructor
    · rintro ⟨x, hx, h1, h2⟩; exact ⟨x, hx, h1, by omega⟩
    · rintro ⟨x, hx, h1, h2⟩; exact ⟨x, hx, h1, by omega⟩
  · simp only [ne_eq, c, not_false_eq_true, true_or]
theorem num2_is {D : List Int} (h : D.length = 2) : num2 D = numL D := by unfold num2; rw [if_neg (by omega), List.take_of_length_le (by omega)]
theorem num4_is {D : List Int} (h : D.length = 4) : num4 D = numL D := by unfold num4; rw [if_neg (by omega), List.take_of_length_le (by omega)]
set_option maxRecDepth 100000 in
set_option maxHeartbeats 16000000 in
theorem r34Judge_v (hG : GoodO l) (hl : l.length ≤ 1000000) (o0 : 0 ≤ own) (o1 : own < 4294967296) (d0 : 0 ≤ draw) (d1 : draw < 4294967296) : VCalls Tryz.prog 109 [.sl tk (opts l), .sc (.int .u32 own), .sc (.int .u32 draw)] st fun r s =>
    (∃ t2, r = .tup [.sc (.int .u8 (judgeL l own draw).1), .sl t2 (opts (judgeL l own draw).2)]) ∧ st = s := by
  refine vcalls_enterq pc109 (Nat.le_of_ble_eq_true rfl) rfl fun hwf hok => ?_
  show Run _ Pc109.body (.fin (finP Pc109.res _)) _ _
  unfold Pc109 zg zo
  have eo : own % 18446744073709551616 = own := by omega
  have ed : draw % 18446744073709551616 = draw := by omega
  simp (maxSteps := 3000000) only [go_sem]
  refine run_loop [8, 9, 10, 11, 14, 15, 17, 20, 24, 25, 26, 27, 30, 31, 32, 33, 36, 37, 38, 39, 41, 42, 43, 44, 45, 46, 47, 49, 50, 51, 52, 55, 56, 57, 58, 60, 61, 62, 63, 64, 65, 66, 67, 68, 71, 72, 73, 74, 75] (fun B s => ∃ (i : Nat) (u v : Tk), i ≤ l.length ∧ B 10 = .sc (.int .i64 i) ∧ B 8 = .sl u (opts (judgeF own draw (l.take i)).1) ∧ B 9 = .sl v (opts (judgeF own draw (l.take i)).2.1) ∧
    RO 2 st s (.sl u (opts (judgeF own draw (l.take i)).1)) (opts (judgeF own draw (l.take i)).1) ∧ RO 2 st s (.sl v (opts (judgeF own draw (l.take i)).2.1)) (opts (judgeF own draw (l.take i)).2.1) ∧ Apart u v) (fun B _ => l.length - vnat (B 10)) rfl ?_ ?_
  · exact ⟨0, .nil, .nil, by omega, rfl, rfl, rfl, RO.nil hwf.weak hwf.lt, RO.nil hwf.weak hwf.lt, .nil⟩
  · rintro B s ⟨i, u, v, hi, h10, h8, h9, RU, RV, hap⟩
    have hFl := judgeF_len (own := own) (draw := draw) l i hi
    by_cases c1 : i < l.length
    · obtain ⟨o, ho⟩ := get_ex c1
      obtain ⟨q0, q1, oB, oL⟩ := hG.get ho
      have hsn := judgeF_snoc (own := own) (draw := draw) ho
      have hbad := bad_iff (own := own) (draw := draw) (l := l) (i := i) (o := o)
      obtain ⟨⟨rej, nak, seen⟩, hF⟩ : ∃ F, F = judgeF own draw (l.take i) := ⟨_, rfl⟩
      rw [← hF] at hFl h8 h9 RU RV hsn hbad
      simp only at hFl h8 h9 RU RV hbad
      obtain ⟨t, D⟩ := o
      simp only at q0 q1 oB oL hbad
      have hil := decide_eq_true (show (i : Int) < (l.length : Int) by omega)
      simp (maxSteps := 3000000) only [go_sem, ↓reduceIte, h10, opts_len, hil]
      refine Cal.mk (r34Bad_v hG hl ho) ?_
      rintro _ _ ⟨b, rfl, hb, rfl⟩ -
      cases b with
      | true =>
        have hj : judgeStep own draw (rej, nak, seen) (t, D) = (rej ++ [(t, D)], nak, seen) := if_pos (hbad.1 (hb.1 rfl))
        rw [hj] at hsn
        simp (maxSteps := 3000000) only [go_sem, ↓reduceIte, h10, opts_at ho, h8]
        repeat (apply And.intro; focus (first | omega | (simp; done)))
        refine App.mk (bytes := 32) (l := opts rej) (ys := opts [(t, D)]) RU.own (allSz_opts _) (by simp only [opts_len, List.length_cons, List.length_nil]; unfold maxLen; omega) (by simp only [opts_len, List.length_cons, List.length_nil]; omega) ?_
        intro r2 s2 k1 k2
        rw [opts_append] at k1
        obtain ⟨t2, rfl⟩ := own_sl k1
        obtain ⟨RU2, RV2, hap2⟩ := RU.two RV hap k1 k2
        simp (maxSteps := 3000000) only [go_sem, ↓reduceIte, h10, h9]
        repeat (apply And.intro; focus (first | omega | (simp; done)))
        exact ⟨⟨i + 1, t2, v, by omega, by simp, by rw [hsn], by rw [hsn], by rw [hsn]; exact RU2, by rw [hsn]; exact RV2, hap2⟩, by omega⟩
      | false =>
        have hnb : ¬ (sizeT t ≠ (D.length : Int) ∨ t ∈ seen) := fun e => by have := hb.2 (hbad.2 e); cases this
        have hj : judgeStep own draw (rej, nak, seen) (t, D) = (rej, nak ++ (betterO (t, D) own draw).toList, t :: seen) := if_neg hnb
        rw [hj] at hsn
        have hsz : sizeT t = (D.length : Int) := Decidable.not_not.1 fun e => hnb (.inl e)
        have hDl : D.length ≤ 4 ∧ (t = 1 → D.length = 2) ∧ (t = 5 → D.length = 4) := by
          unfold sizeT at hsz
          split at hsz
          · omega
          split at hsz
          · omega
          split at hsz <;> omega
        simp (maxSteps := 3000000) only [go_sem, ↓reduceIte, h10, opts_at ho]
        repeat (apply And.intro; focus (first | omega | (simp; done)))
        refine Cal.mk (rNum_v oB (by omega)) ?_
        rintro _ _ ⟨rfl, rfl⟩ -
        have end0 : ∀ {P : Prop}, betterO (t, D) own draw = none → ((judgeF own draw (l.take (i + 1))) = (rej, nak, t :: seen) → P) → P := fun h k => k (by rw [hsn, h]; simp)
        have nakA : ∀ (x : Opt) (u2 : V) (s1 : St) (hu : RO 1 s s1 u2 (bs x.2)) {d : Option Nat} {rest : List VO} {k : Kt} {A : Nat → V}, (∀ t2 s2, RO 2 st s2 (.sl u (opts rej)) (opts rej) → RO 2 st s2 (.sl t2 (opts (nak ++ [x]))) (opts (nak ++ [x])) → Apart u t2 → Ops Tryz.prog rest k (putV A d (.sl t2 (opts (nak ++ [x])))) s2) → App Tryz.prog 2 32 (.sl v (opts nak)) (.sl .no [.agg [.sc (.int .u8 x.1), .sl .no (bs x.2)]]) d [] rest k A s1 := fun x u2 s1 hu {d rest k A} hk => by
          have RU1 := RU.over hu.weak hu.lt
          have RV1 := RV.over hu.weak hu.lt
          refine App.mk (bytes := 32) (l := opts nak) (ys := opts [x]) RV1.own (allSz_opts _) (by simp only [opts_len, List.length_cons, List.length_nil]; unfold maxLen; omega) (by simp only [opts_len, List.length_cons, List.length_nil]; omega) ?_
          intro r2 s2 k1 k2
          rw [opts_append] at k1
          obtain ⟨t2, rfl⟩ := own_sl k1
          obtain ⟨RV2, RU2, hap2⟩ := RV1.two RU1 hap.symm k1 k2
          exact ⟨trivial, hk t2 s2 RU2 RV2 hap2.symm⟩
        have done : ∀ (t2 : Tk) (s2 : St) (n2 : List Opt), judgeF own draw (l.take (i + 1)) = (rej, n2, t :: seen) → RO 2 st s2 (.sl u (opts rej)) (opts rej) → RO 2 st s2 (.sl t2 (opts n2)) (opts n2) → Apart u t2 → (∃ (i_1 : Nat) (u_1 v_1 : Tk), i_1 ≤ l.length ∧ V.sc (.int .i64 ((i : Int) + 1)) = .sc (.int .i64 i_1) ∧ V.sl u (opts rej) = .sl u_1 (opts (judgeF own draw (l.take i_1)).1) ∧ V.sl t2 (opts n2) = .sl v_1 (opts (judgeF own draw (l.take i_1)).2.1) ∧ RO 2 st s2 (.sl u_1 (opts (judgeF own draw (l.take i_1)).1)) (opts (judgeF own draw (l.take i_1)).1) ∧ RO 2 st s2 (.sl v_1 (opts (judgeF own draw (l.take i_1)).2.1)) (opts (judgeF own draw (l.take i_1)).2.1) ∧ Apart u_1 v_1) ∧ l.length - ((i : Int) + 1).toNat < l.length - i := fun t2 s2 n2 e k1 k2 k3 =>
          ⟨⟨i + 1, u, t2, by omega, by simp, by rw [e], by rw [e], by rw [e]; exact k1, by rw [e]; exact k2, k3⟩, by omega⟩
        by_cases t1 : t = 1
        · have n2e := num2_is (hDl.2.1 t1)
          have t5 : ¬ t = 5 := by omega
          by_cases cn : numL D < 128 ∨ 1500 < numL D
          · have e : betterO (t, D) own draw = some (1, beL 1400 2) := by rw [betterO, if_pos ⟨t1, by rw [n2e]; exact cn⟩]
            have fin : ∀ {Z : Prop}, (decide (numL D < 128) = true → Z) → (decide (numL D < 128) = false → decide (1500 < numL D) = true → Z) → Z := fun z1 z2 => by
              by_cases k : numL D < 128
              · exact z1 (decide_eq_true k)
              · exact z2 (decide_eq_false k) (decide_eq_true (by omega))
            refine fin (fun e1 => ?_) (fun e1 e2 => ?_)
            · simp (maxSteps := 3000000) only [go_sem, ↓reduceIte, h10, opts_at ho, decide_eq_true t1, e1]
              repeat (apply And.intro; focus (first | omega | (simp; done)))
              refine Cal.mk (rPut0_v (n := 1400) 2 (by decide) (by decide) (by decide) (by decide)) ?_
              rintro _ s1 ⟨u2, rfl, U⟩ -
              simp (maxSteps := 3000000) only [go_sem, ↓reduceIte, h9]
              refine nakA (1, beL 1400 2) _ s1 U fun t2 s2 k1 k2 k3 => ?_
              simp (maxSteps := 3000000) only [go_sem, ↓reduceIte, h10, opts_at ho, decide_eq_false t5, h8]
              repeat (apply And.intro; focus (first | omega | (simp; done)))
              exact done t2 s2 _ (by rw [hsn, e]; rfl) k1 k2 k3
            · simp (maxSteps := 3000000) only [go_sem, ↓reduceIte, h10, opts_at ho, decide_eq_true t1, e1, e2]
              repeat (apply And.intro; focus (first | omega | (simp; done)))
              refine Cal.mk (rPut0_v (n := 1400) 2 (by decide) (by decide) (by decide) (by decide)) ?_
              rintro _ s1 ⟨u2, rfl, U⟩ -
              simp (maxSteps := 3000000) only [go_sem, ↓reduceIte, h9]
              refine nakA (1, beL 1400 2) _ s1 U fun t2 s2 k1 k2 k3 => ?_
              simp (maxSteps := 3000000) only [go_sem, ↓reduceIte, h10, opts_at ho, decide_eq_false t5, h8]
              repeat (apply And.intro; focus (first | omega | (simp; done)))
              exact done t2 s2 _ (by rw [hsn, e]; rfl) k1 k2 k3
          · have e : betterO (t, D) own draw = none := by rw [betterO, if_neg (by rw [n2e]; exact fun h => cn h.2), if_neg (fun h => t5 h.1)]
            simp (maxSteps := 3000000) only [go_sem, ↓reduceIte, h10, opts_at ho, decide_eq_true t1, decide_eq_false (show ¬ numL D < 128 by omega), decide_eq_false (show ¬ 1500 < numL D by omega), decide_eq_false t5, h8, h9]
            repeat (apply And.intro; focus (first | omega | (simp; done)))
            exact done v s nak (by rw [hsn, e]; simp) RU RV hap
        · by_cases t5 : t = 5
          · have n4e := num4_is (hDl.2.2 t5)
            by_cases cn : numL D = 0 ∨ numL D = own
            · have e : betterO (t, D) own draw = some (5, beL draw 4) := by rw [betterO, if_neg (fun h => t1 h.1), if_pos ⟨t5, by rw [n4e]; exact cn⟩]
              have fin : ∀ {Z : Prop}, (decide (numL D = 0) = true → Z) → (decide (numL D = 0) = false → decide (numL D = own) = true → Z) → Z := fun z1 z2 => by
                by_cases k : numL D = 0
                · exact z1 (decide_eq_true k)
                · exact z2 (decide_eq_false k) (decide_eq_true (by omega))
              refine fin (fun e1 => ?_) (fun e1 e2 => ?_)
              · simp (maxSteps := 3000000) only [go_sem, ↓reduceIte, h10, opts_at ho, decide_eq_false t1, decide_eq_true t5, e1, ed]
                repeat (apply And.intro; focus (first | omega | (simp; done)))
                refine Cal.mk (rPut0_v (n := draw) 4 d0 (by omega) (by decide) (by decide)) ?_
                rintro _ s1 ⟨u2, rfl, U⟩ -
                simp (maxSteps := 3000000) only [go_sem, ↓reduceIte, h9]
                refine nakA (5, beL draw 4) _ s1 U fun t2 s2 k1 k2 k3 => ?_
                simp (maxSteps := 3000000) only [go_sem, ↓reduceIte, h10, h8]
                repeat (apply And.intro; focus (first | omega | (simp; done)))
                exact done t2 s2 _ (by rw [hsn, e]; rfl) k1 k2 k3
              · simp (maxSteps := 3000000) only [go_sem, ↓reduceIte, h10, opts_at ho, decide_eq_false t1, decide_eq_true t5, e1, e2, ed, eo]
                repeat (apply And.intro; focus (first | omega | (simp; done)))
                refine Cal.mk (rPut0_v (n := draw) 4 d0 (by omega) (by decide) (by decide)) ?_
                rintro _ s1 ⟨u2, rfl, U⟩ -
                simp (maxSteps := 3000000) only [go_sem, ↓reduceIte, h9]
                refine nakA (5, beL draw 4) _ s1 U fun t2 s2 k1 k2 k3 => ?_
                simp (maxSteps := 3000000) only [go_sem, ↓reduceIte, h10, h8]
                repeat (apply And.intro; focus (first | omega | (simp; done)))
                exact done t2 s2 _ (by rw [hsn, e]; rfl) k1 k2 k3
            · have e : betterO (t, D) own draw = none := by rw [betterO, if_neg (fun h => t1 h.1), if_neg (by rw [n4e]; exact fun h => cn h.2)]
              simp (maxSteps := 3000000) only [go_sem, ↓reduceIte, h10, opts_at ho, decide_eq_false t1, decide_eq_true t5, decide_eq_false (show ¬ numL D = 0 from fun k => cn (.inl k)), decide_eq_false (show ¬ numL D = own from fun k => cn (.inr k)), eo, h8, h9]
              repeat (apply And.intro; focus (first | omega | (simp; done)))
              exact done v s nak (by rw [hsn, e]; simp) RU RV hap
          · have e : betterO (t, D) own draw = none := by rw [betterO, if_neg (fun h => t1 h.1), if_neg (fun h => t5 h.1)]
            simp (maxSteps := 3000000) only [go_sem, ↓reduceIte, h10, opts_at ho, decide_eq_false t1, decide_eq_false t5, h8, h9]
            repeat (apply And.intro; focus (first | omega | (simp; done)))
            exact done v s nak (by rw [hsn, e]; simp) RU RV hap
    · obtain rfl : i = l.length := by omega
      rw [List.take_length] at h8 h9 RU RV hFl
      unfold judgeL
      simp only
      generalize judgeF own draw l = F at h8 h9 RU RV hFl ⊢
      obtain ⟨rej, nak, seen⟩ := F
      simp only at h8 h9 RU RV hFl ⊢
      have hil := decide_eq_false (show ¬ (l.length : Int) < (l.length : Int) by omega)
      cases rej with
      | cons x rej =>
        simp (maxSteps := 3000000) only [go_sem, ↓reduceIte, h10, h8, opts_len, List.length_cons, decide_eq_true (show (0 : Int) < ((rej.length + 1 : Nat) : Int) by omega)]
        exact ⟨_, _, Wk.refl _, RU.weak, ⟨u, rfl⟩, rfl⟩
      | nil =>
        have h00 := decide_eq_false (show ¬ (0 : Int) < ((0 : Nat) : Int) by decide)
        cases nak with
        | cons x nak =>
          simp (maxSteps := 3000000) only [go_sem, ↓reduceIte, h10, h8, h9, opts_len, List.length_cons, List.length_nil, h00, decide_eq_true (show (0 : Int) < ((nak.length + 1 : Nat) : Int) by omega)]
          exact ⟨_, _, Wk.refl _, RU.weak, ⟨v, rfl⟩, rfl⟩
        | nil =>
          simp (maxSteps := 3000000) only [go_sem, ↓reduceIte, h10, h8, h9, opts_len, List.length_nil, h00]
          exact ⟨_, _, Wk.refl _, RU.weak, ⟨tk, rfl⟩, rfl⟩
theorem r34First_v {n : Nat} (hB : IsB L) (hl : L.length ≤ 1000000) (hn : n ≤ 8) : VCalls Tryz.prog 70 [.sl tk (bs L), .sc (.int .i64 n)] st fun r s => r = .sc (.int .u64 (if L.length < n then 0 else numL (L.take n))) ∧ st = s := by
  refine vcalls_enterq pc70 (Nat.le_of_ble_eq_true rfl) rfl fun hwf hok => ?_
  show Run _ Pc70.body (.fin (finP Pc70.res _)) _ _
  unfold Pc70 zo
  by_cases c : L.length < n
  · simp (maxSteps := 3000000) only [go_sem, ↓reduceIte, bs_len, decide_eq_true (show (L.length : Int) < (n : Int) by omega)]
    exact ⟨_, _, Wk.refl _, hwf.weak, by rw [if_pos c], rfl⟩
  · simp (maxSteps := 3000000) only [go_sem, ↓reduceIte, bs_len, decide_eq_false (show ¬ (L.length : Int) < (n : Int) by omega), bs_take, allSz_bs']
    repeat (apply And.intro; focus (first | omega | (simp; done)))
    refine Cal.mk (rNum_v (hB.take n) (by simp only [List.length_take]; omega)) ?_
    rintro _ _ ⟨rfl, rfl⟩ -
    simp (maxSteps := 3000000) only [go_sem, ↓reduceIte]
    exact ⟨_, _, Wk.refl _, hwf.weak, by rw [if_neg c], rfl⟩
theorem r34First2 (hB : IsB L) (hl : L.length ≤ 1000000) : VCalls Tryz.prog 70 [.sl tk (bs L), .sc (.int .i64 2)] st fun r s => r = .sc (.int .u64 (num2 L)) ∧ st = s := r34First_v (n := 2) hB hl (by decide)
theorem r34First4 (hB : IsB L) (hl : L.length ≤ 1000000) : VCalls Tryz.prog 70 [.sl tk (bs L), .sc (.int .i64 4)] st fun r s => r = .sc (.int .u64 (num4 L)) ∧ st = s := r34First_v (n := 4) hB hl (by decide)
set_option maxRecDepth 100000 in
set_option maxHeartbeats 16000000 in
theorem r34Of_v (hG : GoodO l) (hl : l.length ≤ 1000000) : VCalls Tryz.prog 45 [.sl tk (opts l)] st fun r s => r = .agg (ofL l).cells ∧ st = s := by
  refine vcalls_enterq pc45 (Nat.le_of_ble_eq_true rfl) rfl fun hwf hok => ?_
  show Run _ Pc45.body (.fin (finP Pc45.res _)) _ _
  unfold Pc45 zn zo
  simp (maxSteps := 3000000) only [go_sem, ↓reduceIte]
  refine run_loop [3, 4, 8, 9, 11, 14, 15, 16, 17, 18, 21, 22, 23, 24, 25, 27, 28, 31, 32, 33, 34, 35, 37, 38, 40, 41] (fun B s => s = st ∧ ∃ (i : Nat), i ≤ l.length ∧ B 4 = .sc (.int .i64 i) ∧ B 3 = .agg ((l.take i).foldl ofStep .zero).cells) (fun B _ => l.length - vnat (B 4)) rfl ?_ ?_
  · exact ⟨rfl, 0, by omega, rfl, rfl⟩
  · rintro B s ⟨rfl, i, hi, h8, h3⟩
    by_cases c1 : i < l.length
    · obtain ⟨⟨t, D⟩, ho⟩ := get_ex c1
      obtain ⟨o0, o1, oB, oL⟩ := hG.get ho
      have hsn := foldl_snoc (f := ofStep) (a := .zero) ho
      generalize (l.take i).foldl ofStep .zero = X at h3 hsn
      obtain ⟨mru, auth, magic, pfc, acfc⟩ := X
      simp only [Want.cells] at h3
      simp only at o0 o1 oB oL
      have n2 := num2_rng oB
      have n4 := num4_rng oB
      have e2 : num2 D % 65536 = num2 D := by omega
      have e4 : num4 D % 4294967296 = num4 D := by omega
      repeat' first | simp (maxSteps := 3000000) only [go_sem, ↓reduceIte, h8, h3, opts_len, opts_at ho, e2, e4, decide_eq_true (show (i : Int) < (l.length : Int) by omega)] | (refine If.dec (fun h => ?_) (fun h => ?_) <;> first | simp only [decide_eq_true h] | simp only [decide_eq_false h] | skip) | (refine Grd.decd (fun h => ?_) (fun h => ?_) <;> first | simp only [decide_eq_true h] | simp only [decide_eq_false h] | skip) | (refine If.mk (fun h => ?_) (fun h => ?_) <;> first | simp only [h] | skip) | (refine Grd.two (fun h => ?_) (fun h => ?_) <;> first | simp only [h] | skip) | (apply And.intro; focus (first | omega | (simp; done))) | (refine Cal.mk (r34First2 oB oL) ?_; rintro _ _ ⟨rfl, rfl⟩ -) | (refine Cal.mk (r34First4 oB oL) ?_; rintro _ _ ⟨rfl, rfl⟩ -)
      all_goals first | omega | (refine ⟨⟨i + 1, by omega, by simp, ?_⟩, by omega⟩; rw [hsn, ofStep]; (try dsimp only); (repeat' split) <;> first | rfl | (exfalso; omega) | simp_all)
    · obtain rfl : i = l.length := by omega
      rw [List.take_length] at h3
      simp (maxSteps := 3000000) only [go_sem, ↓reduceIte, h8, h3, opts_len, Want.cells]
      exact ⟨_, _, Wk.refl _, hwf.weak, rfl, rfl⟩
theorem rNumAny_v (hB : IsB L) (hl : L.length ≤ 1000000) : VCalls Tryz.prog 53 [.sl tk (bs L)] st fun r s => (∃ x : Int, r = .sc (.int .u64 x) ∧ (L.length ≤ 8 → x = numL L)) ∧ st = s := by
  by_cases c : L.length ≤ 8
  · exact (rNum_v hB c).mono fun r s ⟨e1, e2⟩ => ⟨⟨_, e1, fun _ => rfl⟩, e2⟩
  · skip
    refine vcalls_enterq pc53 (Nat.le_of_ble_eq_true rfl) rfl fun hwf hok => ?_
    show Run _ Pc53.body (.fin (finP Pc53.res _)) _ _
    unfold Pc53 zo
    simp (maxSteps := 3000000) only [go_sem]
    refine run_loop [3, 4, 7, 8, 10, 12, 15, 16, 17, 18] (fun B s => s = st ∧ ∃ (i : Nat) (x : Int), i ≤ L.length ∧ B 4 = .sc (.int .i64 i) ∧ B 3 = .sc (.int .u64 x)) (fun B _ => L.length - vnat (B 4)) rfl ?_ ?_
    · exact ⟨rfl, 0, 0, by omega, rfl, rfl⟩
    · rintro B s ⟨rfl, i, x, hi, h4, h3⟩
      by_cases c1 : i < L.length
      · obtain ⟨y, hy⟩ := get_ex c1
        simp (maxSteps := 3000000) only [go_sem, ↓reduceIte, h4, h3, bs_len, bs_get, hy, decide_eq_true (show (i : Int) < (L.length : Int) by omega)]
        repeat (apply And.intro; focus (first | omega | (simp; done)))
        exact ⟨⟨i + 1, _, by omega, by simp, rfl⟩, by omega⟩
      · obtain rfl : i = L.length := by omega
        simp (maxSteps := 3000000) only [go_sem, ↓reduceIte, h4, h3, bs_len]
        exact ⟨_, _, Wk.refl _, hwf.weak, ⟨x, rfl, fun h => absurd h c⟩, rfl⟩
set_option maxRecDepth 100000 in
set_option maxHeartbeats 16000000 in
theorem r34Naked_v (hw : w.Good) (hG : GoodO l) (hl : l.length ≤ 1000000) : VCalls Tryz.prog 113 [.agg w.cells, .sl tk (opts l)] st fun r s => r = .agg (nakedL w l).cells ∧ st = s := by
  refine vcalls_enterq pc113 (Nat.le_of_ble_eq_true rfl) rfl fun hwf hok => ?_
  show Run _ Pc113.body (.fin (finP Pc113.res _)) _ _
  unfold Pc113 zg zn zo
  simp (maxSteps := 3000000) only [go_sem, Want.cells]
  refine run_loop [2, 5, 6, 9, 10, 12, 15, 16, 17, 18, 21, 22, 23, 24, 26, 27, 28, 29, 30, 31, 32, 33, 36, 37, 38, 40, 41, 42, 44, 45, 46, 48, 52, 53, 54, 55, 57, 58, 59, 60, 61, 62, 63, 64, 67, 68, 69, 71, 72, 73, 75] (fun B s => s = st ∧ ∃ (i : Nat) (X : Want), i ≤ l.length ∧ B 5 = .sc (.int .i64 i) ∧ B 2 = .agg X.cells ∧ X.Good ∧ X = (l.take i).foldl nakStep w) (fun B _ => l.length - vnat (B 5)) rfl ?_ ?_
  · exact ⟨rfl, 0, w, by omega, rfl, rfl, hw, rfl⟩
  · rintro B s ⟨rfl, i, X, hi, h5, h2, hX, he⟩
    by_cases c1 : i < l.length
    · obtain ⟨⟨t, D⟩, ho⟩ := get_ex c1
      obtain ⟨o0, o1, oB, oL⟩ := hG.get ho
      have hsn := foldl_snoc (f := nakStep) (a := w) ho
      rw [← he] at hsn
      have hgn := nakStep_good (o := (t, D)) hX oB
      obtain ⟨mru, auth, magic, pfc, acfc⟩ := X
      obtain ⟨m0, m1, g0, g1⟩ := hX
      simp only [Want.cells] at h2
      simp only at o0 o1 oB oL m0 m1 g0 g1
      have n2 := num2_rng oB
      have n4 := num4_rng oB
      have hil := decide_eq_true (show (i : Int) < (l.length : Int) by omega)
      simp (maxSteps := 3000000) only [go_sem, ↓reduceIte, h5, opts_len, opts_at ho, hil]
      repeat (apply And.intro; focus (first | omega | (simp; done)))
      refine Cal.mk (rNumAny_v oB oL) ?_
      rintro _ _ ⟨⟨x, rfl, hx⟩, rfl⟩ -
      have x2 : D.length = 2 → x = num2 D ∧ x % 65536 = num2 D := fun h => by rw [hx (by omega), ← num2_is h]; omega
      have x4 : D.length = 4 → x = num4 D ∧ x % 4294967296 = num4 D := fun h => by rw [hx (by omega), ← num4_is h]; omega
      repeat' first | simp (maxSteps := 3000000) only [go_sem, ↓reduceIte, h5, h2, bs_len, opts_at ho] | (refine If.dec (fun h => ?_) (fun h => ?_) <;> first | simp only [decide_eq_true h] | simp only [decide_eq_false h] | skip) | (refine Grd.decd (fun h => ?_) (fun h => ?_) <;> first | simp only [decide_eq_true h] | simp only [decide_eq_false h] | skip) | (refine If.mk (fun h => ?_) (fun h => ?_) <;> first | simp only [h] | skip) | (refine Grd.two (fun h => ?_) (fun h => ?_) <;> first | simp only [h] | skip) | (apply And.intro; focus (first | omega | (simp; done)))
      all_goals first | omega | (refine ⟨⟨i + 1, nakStep ⟨mru, auth, magic, pfc, acfc⟩ (t, D), by omega, by simp, ?_, hgn, hsn.symm⟩, by omega⟩; first | (have x2' := x2 (by omega); rw [x2'.2, nakStep]; have := x2'.1; (try dsimp only); (repeat' split) <;> first | rfl | (exfalso; omega) | simp_all) | (have x4' := x4 (by omega); rw [x4'.2, nakStep]; have := x4'.1; (try dsimp only); (repeat' split) <;> first | rfl | (exfalso; omega) | simp_all) | (rw [nakStep]; (try dsimp only); (repeat' split) <;> first | rfl | (exfalso; omega) | simp_all))
    · obtain rfl : i = l.length := by omega
      rw [List.take_length] at he
      subst he
      simp (maxSteps := 3000000) only [go_sem, ↓reduceIte, h5, h2, opts_len, Want.cells]
      exact ⟨_, _, Wk.refl _, hwf.weak, rfl, rfl⟩
set_option maxRecDepth 100000 in
set_option maxHeartbeats 16000000 in
theorem r34Rejected_v (hl : l.length ≤ 1000000) : VCalls Tryz.prog 114 [.agg w.cells, .sl tk (opts l)] st fun r s => r = .tup [.agg (rejectedL w l).1.cells, .sc (.bool (rejectedL w l).2)] ∧ st = s := by
  refine vcalls_enterq pc114 (Nat.le_of_ble_eq_true rfl) rfl fun hwf hok => ?_
  show Run _ Pc114.body (.fin (finP Pc114.res _)) _ _
  unfold Pc114 zg zn zo
  simp (maxSteps := 3000000) only [go_sem, Want.cells]
  refine run_loop [2, 4, 5, 6, 7, 10, 11, 13, 16, 17, 18, 20, 21, 23, 24, 26, 29, 32, 34, 35, 36, 39, 41, 42, 43] (fun B s => s = st ∧ ∃ (i : Nat) (X : Want), i ≤ l.length ∧ B 6 = .sc (.int .i64 i) ∧ B 2 = .agg X.cells ∧ B 4 = .agg [.sc (.int .u16 0), .sc (.bool false), .sc (.int .u32 0), .sc (.bool false), .sc (.bool false)] ∧ rejectedL w l = rejectedL X (l.drop i)) (fun B _ => l.length - vnat (B 6)) rfl ?_ ?_
  · exact ⟨rfl, 0, w, by omega, rfl, rfl, rfl, rfl⟩
  · rintro B s ⟨rfl, i, ⟨mru, auth, magic, pfc, acfc⟩, hi, h6, h2, h4, hr⟩
    rw [hr]
    simp only [Want.cells] at h2
    by_cases c1 : i < l.length
    · obtain ⟨⟨t, D⟩, ho⟩ := get_ex c1
      rw [rejectedL_drop ho]
      clear hr
      have key : ∀ X : Want, X = ⟨if t = 1 then 0 else mru, auth, if t = 5 then 0 else magic, pfc && !decide (t = 7), acfc && !decide (t = 8)⟩ → t ≠ 3 → rejectedL ⟨mru, auth, magic, pfc, acfc⟩ ((t, D) :: l.drop (i + 1)) = rejectedL X (l.drop (i + 1)) := fun X hX h3 => by
        rw [hX, rejectedL]
        dsimp only
        by_cases a1 : t = 1
        · subst a1; simp
        by_cases a5 : t = 5
        · subst a5; simp
        by_cases a7 : t = 7
        · subst a7; simp
        by_cases a8 : t = 8
        · subst a8; simp
        · simp [h3, a1, a5, a7, a8]
      have hil := decide_eq_true (show (i : Int) < (l.length : Int) by omega)
      cases pfc <;> cases acfc
      all_goals
        simp only [Bool.false_and, Bool.true_and] at key
        repeat' first | simp (maxSteps := 3000000) only [go_sem, ↓reduceIte, h6, h2, h4, opts_len, opts_at ho, hil] | (refine If.dec (fun h => ?_) (fun h => ?_) <;> first | simp only [decide_eq_true h] | simp only [decide_eq_false h] | skip) | (refine Grd.decd (fun h => ?_) (fun h => ?_) <;> first | simp only [decide_eq_true h] | simp only [decide_eq_false h] | skip) | (refine If.mk (fun h => ?_) (fun h => ?_) <;> first | simp only [h] | skip) | (refine Grd.two (fun h => ?_) (fun h => ?_) <;> first | simp only [h] | skip) | (apply And.intro; focus (first | omega | (simp; done)))
        all_goals try (refine ⟨_, _, Wk.refl _, hwf.weak, ?_, rfl⟩; rw [rejectedL]; (try dsimp only); (repeat' split) <;> first | rfl | (exfalso; omega) | simp_all; done)
        all_goals first | omega | (refine ⟨⟨i + 1, _, by omega, by simp, ?_, key _ rfl (by omega)⟩, by omega⟩; simp [Want.cells, *]; done)
    · obtain rfl : i = l.length := by omega
      rw [List.drop_length]
      simp (maxSteps := 3000000) only [go_sem, ↓reduceIte, h6, h2, h4, opts_len, Want.cells, rejectedL]
      exact ⟨_, _, Wk.refl _, hwf.weak, rfl, rfl⟩
end
end
section
open Go
theorem ixor_nat {a b : Int} (ha : 0 ≤ a) (ha2 : a < 4294967296) (hb : 0 ≤ b) (hb2 : b < 4294967296) : ibit .xor .u64 a b = ((a.toNat ^^^ b.toNat : Nat) : Int) ∧ ibit .xor .u32 a b = ((a.toNat ^^^ b.toNat : Nat) : Int) := by
  have hx : a.toNat ^^^ b.toNat < 2 ^ 32 := Nat.xor_lt_two_pow (by omega) (by omega)
  have e64 : ∀ x : Int, 0 ≤ x → x < 4294967296 → (BitVec.ofInt 64 x).toNat = x.toNat := fun x h1 h2 => by
    rw [BitVec.toNat_ofInt]; congr 1; omega
  have e32 : ∀ x : Int, 0 ≤ x → x < 4294967296 → (BitVec.ofInt 32 x).toNat = x.toNat := fun x h1 h2 => by
    rw [BitVec.toNat_ofInt]; congr 1; omega
  have f64 : (BitVec.ofInt 64 a ^^^ BitVec.ofInt 64 b).toNat = a.toNat ^^^ b.toNat := by
    rw [BitVec.toNat_xor, e64 a ha ha2, e64 b hb hb2]
  have f32 : (BitVec.ofInt 32 a ^^^ BitVec.ofInt 32 b).toNat = a.toNat ^^^ b.toNat := by
    rw [BitVec.toNat_xor, e32 a ha ha2, e32 b hb hb2]
  have g64 : ibit .xor .u64 a b = IntKind.u64.wrap ((BitVec.ofInt 64 a ^^^ BitVec.ofInt 64 b).toNat : Int) := rfl
  have g32 : ibit .xor .u32 a b = IntKind.u32.wrap ((BitVec.ofInt 32 a ^^^ BitVec.ofInt 32 b).toNat : Int) := rfl
  rw [g64, g32, f64, f32]
  generalize a.toNat ^^^ b.toNat = n at hx
  constructor
  · simp only [IntKind.wrap, IntKind.signed, IntKind.bits, Bool.false_and, Bool.false_eq_true, ↓reduceIte]; omega
  · simp only [IntKind.wrap, IntKind.signed, IntKind.bits, Bool.false_and, Bool.false_eq_true, ↓reduceIte]; omega
theorem ixor64 {a b : Int} (ha : 0 ≤ a) (ha2 : a < 4294967296) (hb : 0 ≤ b) (hb2 : b < 4294967296) : ibit .xor .u64 a b = ibit .xor .u32 a b := by
  rw [(ixor_nat ha ha2 hb hb2).1, (ixor_nat ha ha2 hb hb2).2]
section
variable {st : St} {d : Nat} {r : Lr} {K : Int}
set_option maxRecDepth 100000 in
theorem made_v (K0 : 0 ≤ K) : VCalls Tryz.prog 75 [.sc (.int .u64 K)] st fun v s => v = .sc (.int .u32 (madeD (K % 4294967296))) ∧ st = s := by
  refine vcalls_enterq pc75 (Nat.le_of_ble_eq_true rfl) rfl fun hwf hok => ?_
  show Run _ Pc75.body (.fin (finP Pc75.res _)) _ _
  unfold Pc75 zo
  generalize hk : K % 4294967296 = k
  have hk0 : 0 ≤ k ∧ k < 4294967296 := by omega
  have e1 : k * 2654435761 % 18446744073709551616 = k * 2654435761 := by omega
  unfold madeD
  simp only
  generalize hx : k * 2654435761 % 4294967296 = x
  have hx0 : 0 ≤ x ∧ x < 4294967296 := by omega
  have e2 := ixor64 hx0.1 hx0.2 (b := x / 32768) (by omega) (by omega)
  have hy := ibit_xor_rng x (x / 32768)
  generalize ibit .xor .u32 x (x / 32768) = y at e2 hy ⊢
  have e3 : y * 2246822507 % 18446744073709551616 = y * 2246822507 := by omega
  generalize hz : y * 2246822507 % 4294967296 = z
  have hz0 : 0 ≤ z ∧ z < 4294967296 := by omega
  have e4 := ixor64 hz0.1 hz0.2 (b := z / 8192) (by omega) (by omega)
  have hw := ibit_xor_rng z (z / 8192)
  generalize ibit .xor .u32 z (z / 8192) = w at e4 hw ⊢
  have e5 : w % 4294967296 = w := by omega
  have q1 : x / 32768 % 18446744073709551616 = x / 32768 := by omega
  have q2 : z / 8192 % 18446744073709551616 = z / 8192 := by omega
  repeat' first | simp (maxSteps := 3000000) only [go_sem, ↓reduceIte, hk, e1, hx, q1, e2, e3, hz, q2, e4, e5] | (refine If.dec (fun h => ?_) (fun h => ?_) <;> first | simp only [decide_eq_true h] | simp only [decide_eq_false h] | skip) | (refine Grd.decd (fun h => ?_) (fun h => ?_) <;> first | simp only [decide_eq_true h] | simp only [decide_eq_false h] | skip) | (refine If.mk (fun h => ?_) (fun h => ?_) <;> first | simp only [h] | skip) | (refine Grd.two (fun h => ?_) (fun h => ?_) <;> first | simp only [h] | skip) | (apply And.intro; focus (first | omega | (simp; done)))
  exact ⟨_, _, Wk.refl _, hwf.weak, rfl, rfl⟩
def DrR (s : St) (d : Nat) (ds : List Int) (k : Int) : Prop := ∃ tk K, s.box d = some [.sl tk (w4s ds), .sc (.int .u64 K)] ∧ K % 4294967296 = k ∧ 0 ≤ K ∧ K < 18446744073709551616
set_option maxRecDepth 100000 in
theorem rNext_v (hb : DrR st d r.ds r.k) (hG : DrG r.ds r.k) : VCalls Tryz.prog 56 [ptrV d] st fun v s => v = .sc (.int .u32 r.next.2) ∧ DrR s d r.next.1.ds r.next.1.k ∧ Tn [d] st s := by
  obtain ⟨tk, K, hb, hk, K0, K1⟩ := hb
  refine vcalls_enterq pc56 (Nat.le_of_ble_eq_true rfl) rfl fun hwf hok => ?_
  show Run _ Pc56.body (.fin (finP Pc56.res _)) _ _
  unfold Pc56 zn zo
  have hlt := hwf.lt
  have hK2 : (K + 1) % 18446744073709551616 % 4294967296 = (r.k + 1) % 4294967296 := by omega
  cases hd : r.ds with
  | nil =>
    rw [hd] at hb
    have hn : r.next = ({ r with k := (r.k + 1) % 4294967296 }, madeD ((r.k + 1) % 4294967296)) := by unfold Lr.next; rw [hd]
    have T : Tn [d] st (st.put d [.sl tk (w4s []), .sc (.int .u64 ((K + 1) % 18446744073709551616))]) := (Tn.refl hlt).put (.inl (by simp)) hlt
    simp (maxSteps := 3000000) only [go_sem, ↓reduceIte, hb, w4s_len, List.length_nil, show decide (((0 : Nat) : Int) = 0) = true from rfl]
    refine Cal.mk (made_v (by omega)) ?_
    rintro _ _ ⟨rfl, rfl⟩ -
    simp (maxSteps := 3000000) only [go_sem, ↓reduceIte]
    rw [hn, hd]
    exact ⟨_, _, Wk.refl _, T.lt.weak, by rw [hK2], ⟨tk, _, put_box_same, hK2, by omega, by omega⟩, T⟩
  | cons x l =>
    rw [hd] at hb
    have hn : r.next = ({ r with ds := l, k := (r.k + 1) % 4294967296 }, x) := by unfold Lr.next; rw [hd]
    have T : Tn [d] st (st.put d [.sl .no (w4s l), .sc (.int .u64 ((K + 1) % 18446744073709551616))]) := (Tn.refl hlt).put (.inl (by simp)) hlt
    have g0 : (w4s (x :: l))[0]? = some (.sc (.int .u32 x)) := rfl
    have e1 : (w4s (x :: l)).drop 1 = w4s l := rfl
    have g1 : decide (((l.length + 1 : Nat) : Int) = 0) = false := decide_eq_false (by omega)
    simp (maxSteps := 3000000) only [go_sem, ↓reduceIte, hb, w4s_len, List.length_cons, g1, g0, e1]
    repeat (apply And.intro; focus (first | omega | (simp; done)))
    refine ⟨allSz_w4s _, ?_⟩
    rw [hn]
    exact ⟨_, _, Wk.refl _, T.lt.weak, rfl, ⟨.no, _, put_box_same, hK2, by omega, by omega⟩, T⟩
theorem rSome_v (hb : DrR st d r.ds r.k) (hG : DrG r.ds r.k) : VCalls Tryz.prog 31 [ptrV d] st fun v s => v = .sc (.int .u32 r.draw.2) ∧ DrR s d r.draw.1.ds r.draw.1.k ∧ Tn [d] st s := by
  refine vcalls_enterq pc31 (Nat.le_of_ble_eq_true rfl) rfl fun hwf hok => ?_
  show Run _ Pc31.body (.fin (finP Pc31.res _)) _ _
  unfold Pc31 zo
  simp (maxSteps := 3000000) only [go_sem, ↓reduceIte]
  refine Cal.mk (rNext_v hb hG) ?_
  rintro _ s1 ⟨rfl, h1, T1⟩ -
  by_cases c : r.next.2 = 0
  · simp (maxSteps := 3000000) only [go_sem, ↓reduceIte, decide_eq_true c]
    refine Cal.mk (rNext_v h1 (next_good hG).1) ?_
    rintro _ s2 ⟨rfl, h2, T2⟩ -
    by_cases c2 : r.next.1.next.2 = 0
    · have e : r.draw = (r.next.1.next.1, 1) := by rw [Lr.draw, if_neg (fun k => k c), if_neg (fun k => k c2)]
      simp (maxSteps := 3000000) only [go_sem, ↓reduceIte, decide_eq_true c2]
      rw [e]
      exact ⟨_, _, Wk.refl _, T2.lt.weak, rfl, h2, T1.trans T2⟩
    · have e : r.draw = r.next.1.next := by rw [Lr.draw, if_neg (fun k => k c), if_pos c2]
      simp (maxSteps := 3000000) only [go_sem, ↓reduceIte, decide_eq_false c2]
      rw [e]
      exact ⟨_, _, Wk.refl _, T2.lt.weak, rfl, h2, T1.trans T2⟩
  · have e : r.draw = r.next := by rw [Lr.draw, if_pos c]
    simp (maxSteps := 3000000) only [go_sem, ↓reduceIte, decide_eq_false c]
    rw [e]
    exact ⟨_, _, Wk.refl _, T1.lt.weak, rfl, h1, T1⟩
set_option maxRecDepth 100000 in
theorem rAdd_v {ds : List Int} {x c : Int} (hb : DrR st d ds c) (hl : ds.length < 64) : VCalls Tryz.prog 32 [ptrV d, .sc (.int .u32 x)] st fun v s => DrR s d (ds ++ [x]) c ∧ Tn [d] st s := by
  obtain ⟨tk, K, hb, hk, K0, K1⟩ := hb
  refine vcalls_enterq pc32 (Nat.le_of_ble_eq_true rfl) rfl fun hwf hok => ?_
  show Run _ Pc32.body (.fin (finP Pc32.res _)) _ _
  unfold Pc32 zn zo
  have hlt := hwf.lt
  simp (maxSteps := 3000000) only [go_sem, ↓reduceIte, hb, w4s_len, decide_eq_false (show ¬ (64 : Int) ≤ (ds.length : Int) by omega)]
  refine App.mk (bytes := 4) (l := []) (ys := w4s ds) own_nil (allSz_w4s _) (by simp only [w4s_len, List.length_nil]; unfold maxLen; omega) (by simp only [w4s_len, List.length_nil]; omega) ?_
  intro r1 s1 k1 k2
  have R1 := (RO.nil hlt.weak hlt).app k1 k2
  rw [List.nil_append] at R1
  obtain ⟨t1, rfl⟩ := R1.sl
  simp (maxSteps := 3000000) only [go_sem, ↓reduceIte]
  refine App.mk (bytes := 4) (l := w4s ds) (ys := w4s [x]) R1.own (allSz_w4s _) (by simp only [w4s_len, List.length_cons, List.length_nil]; unfold maxLen; omega) (by simp only [w4s_len, List.length_cons, List.length_nil]; omega) ?_
  intro r2 s2 k3 k4
  have R2 := R1.app k3 k4
  rw [w4s_append] at R2
  obtain ⟨t2, rfl⟩ := R2.sl
  have hb2 := (R2.weak.box d _ hb).1
  simp (maxSteps := 3000000) only [go_sem, ↓reduceIte, hb2]
  have T : Tn [d] st (s2.put d [.sl t2 (w4s (ds ++ [x])), .sc (.int .u64 K)]) := ((Tn.ofWeak (bx := []) R2.weak R2.lt).wide (by simp)).put (.inl (by simp)) hlt
  exact ⟨_, _, Wk.refl _, T.lt.weak, ⟨t2, K, put_box_same, hk, K0, K1⟩, T⟩
set_option maxRecDepth 100000 in
theorem rOf_v {L : List Int} {tk : Tk} (hl : L.length ≤ 64) : VCalls Tryz.prog 9 [.sl tk (w4s L)] st fun v s => ∃ d, v = ptrV d ∧ DrR s d L 0 ∧ st.sz ≤ d ∧ Tn [] st s := by
  refine vcalls_enterq pc9 (Nat.le_of_ble_eq_true rfl) rfl fun hwf hok => ?_
  show Run _ Pc9.body (.fin (finP Pc9.res _)) _ _
  unfold Pc9 zo
  have hlt := hwf.lt
  simp (maxSteps := 3000000) only [go_sem, ↓reduceIte]
  intro d hd
  have T0 : Tn [] st (st.put d [.sl .nil [], .sc (.int .u64 0)]) := tn_new hlt hd
  have D0 : DrR (st.put d [.sl .nil [], .sc (.int .u64 0)]) d [] 0 := ⟨.nil, 0, put_box_same, rfl, by decide, by decide⟩
  generalize st.put d _ = s0 at D0 T0 ⊢
  refine run_loop [4, 9, 10, 12, 16, 17, 18] (fun B s => ∃ i : Nat, i ≤ L.length ∧ B 4 = .sc (.int .i64 i) ∧ DrR s d (L.take i) 0 ∧ Tn [] st s) (fun B _ => L.length - vnat (B 4)) rfl ?_ ?_
  · exact ⟨0, by omega, rfl, D0, T0⟩
  · rintro B s ⟨i, hi, h4, D, T⟩
    by_cases c : i < L.length
    · have hg : (w4s L)[i]? = some (.sc (.int .u32 L[i])) := by simp [w4s, c]
      have hs : L.take (i + 1) = L.take i ++ [L[i]] := by rw [List.take_add_one, List.getElem?_eq_getElem c]; rfl
      simp (maxSteps := 3000000) only [go_sem, ↓reduceIte, h4, w4s_len, decide_eq_true (show (i : Int) < (L.length : Int) by omega), hg]
      repeat (apply And.intro; focus (first | omega | (simp; done)))
      refine Cal.mk (rAdd_v (x := L[i]) D (by simp only [List.length_take]; omega)) ?_
      rintro _ s2 ⟨D2, T2⟩ -
      rw [← hs] at D2
      have T3 : Tn [] st s2 := ⟨fun b cs hb _ => T2.box b cs (T.box b cs hb (by simp)) (fun hm => by simp only [List.mem_singleton] at hm; have := hlt.box b cs hb; omega), fun g m hg => T2.own g m (T.own g m hg), Nat.le_trans T.sz T2.sz, T2.lt⟩
      simp (maxSteps := 3000000) only [go_sem, ↓reduceIte, h4]
      repeat (apply And.intro; focus (first | omega | (simp; done)))
      exact ⟨⟨i + 1, by omega, by simp, D2, T3⟩, by omega⟩
    · obtain rfl : i = L.length := by omega
      rw [List.take_length] at D
      simp (maxSteps := 3000000) only [go_sem, ↓reduceIte, h4, w4s_len]
      exact ⟨_, _, Wk.refl _, T.lt.weak, d, rfl, D, hd, T⟩
end
end
section
open Go
def r1C (d : Nat) (r : Lr) : List V := [.sc (.int .u16 r.w.mru), .sc (.bool r.w.auth), .sc (.int .u32 r.w.magic), .sc (.bool r.w.pfc), .sc (.bool r.w.acfc), .sc (.pointer (some ⟨d, 0, none⟩)), .sc (.int .i64 r.guard), .sc (.int .u32 0), .sc (.int .u32 0), .sc (.int .u32 0), .sc (.int .u32 0), .sc (.int .u32 0), .sc (.int .u32 0), .sc (.bool false)]
structure R1I (d k : Nat) (st : St) (r : Lr) (T : V) (last : List Opt) (r2 : List V) : Prop where
  e : r2 = r1C d r
  eg : r.g = ofL last
  lg : GoodO last
  ll : last.length ≤ 1000000
  dr : DrR st d r.ds r.k
  dg : DrG r.ds r.k
  wg : r.w.Good
  g0 : 0 ≤ r.guard
  g1 : r.guard ≤ k
  ld : d < st.sz
section
variable {st s : St} {tk tl : Tk} {L : List Int} {l last : List Opt} {n d k : Nat} {N : Neg Lr} {r' : Lr} {T0 : V} {r2 : List V}
set_option maxRecDepth 100000 in
set_option maxHeartbeats 4000000 in
theorem r36First_v (hB : IsB L) : VCalls Tryz.prog 124 [.sl tk (bs L)] st fun r s => r = .sc (.int .u32 (num4 L)) ∧ st = s := by
  by_cases c : L.length < 4
  · skip
    refine vcalls_enterq pc124 (Nat.le_of_ble_eq_true rfl) rfl fun hwf hok => ?_
    show Run _ Pc124.body (.fin (finP Pc124.res _)) _ _
    unfold Pc124 zo
    simp (maxSteps := 3000000) only [go_sem, ↓reduceIte, bs_len, decide_eq_true (show (L.length : Int) < 4 by omega)]
    exact ⟨_, _, Wk.refl _, hwf.weak, by rw [num4, if_pos c], rfl⟩
  · obtain ⟨x, h0⟩ := get_ex (L := L) (i := 0) (by omega)
    obtain ⟨y, h1⟩ := get_ex (L := L) (i := 1) (by omega)
    obtain ⟨z, h2⟩ := get_ex (L := L) (i := 2) (by omega)
    obtain ⟨w, h3⟩ := get_ex (L := L) (i := 3) (by omega)
    have b0 := hB.get h0
    have b1 := hB.get h1
    have b2 := hB.get h2
    have b3 := hB.get h3
    have hn : num4 L = 16777216 * x + 65536 * y + 256 * z + w := by
      rw [num4, if_neg c]
      match L, c with
      | x' :: y' :: z' :: w' :: L, _ => simp at h0 h1 h2 h3; subst h0 h1 h2 h3; simp [numL]; omega
    refine vcalls_enterq pc124 (Nat.le_of_ble_eq_true rfl) rfl fun hwf hok => ?_
    show Run _ Pc124.body (.fin (finP Pc124.res _)) _ _
    unfold Pc124 zo
    simp (maxSteps := 3000000) only [go_sem, ↓reduceIte, bs_len, decide_eq_false (show ¬ (L.length : Int) < 4 by omega), bs_get, h0, h1, h2, h3]
    repeat (apply And.intro; focus (first | omega | (simp; done)))
    exact ⟨_, _, Wk.refl _, hwf.weak, by rw [hn]; congr 2; omega, rfl⟩
set_option maxRecDepth 100000 in
theorem r36Number_v (hG : GoodO l) (hl : l.length ≤ 1000000) : VCalls Tryz.prog 107 [.sl tk (opts l)] st fun r s => r = .tup [.sc (.int .u32 (theirN l)), .sc (.bool (findO l 5).isSome)] ∧ st = s := by
  refine vcalls_enterq pc107 (Nat.le_of_ble_eq_true rfl) rfl fun hwf hok => ?_
  show Run _ Pc107.body (.fin (finP Pc107.res _)) _ _
  unfold Pc107 zo
  simp (maxSteps := 3000000) only [go_sem, ↓reduceIte]
  refine Cal.mk (r10Find_v (t := 5) hl) ?_
  rintro _ _ ⟨⟨x, rfl, hx⟩, rfl⟩ -
  rcases hx with ⟨rfl, hf⟩ | ⟨i, D, rfl, ho, hf⟩
  · simp (maxSteps := 3000000) only [go_sem, ↓reduceIte]
    exact ⟨_, _, Wk.refl _, hwf.weak, by rw [theirN_none hf, hf]; rfl, rfl⟩
  · have hi := (List.getElem?_eq_some_iff.1 ho).1
    simp (maxSteps := 3000000) only [go_sem, ↓reduceIte, decide_eq_false (show ¬ (i : Int) < 0 by omega), opts_at ho]
    repeat (apply And.intro; focus (first | omega | (simp; done)))
    refine Cal.mk (r36First_v (hG.get ho).2.2.1) ?_
    rintro _ _ ⟨rfl, rfl⟩ -
    simp (maxSteps := 3000000) only [go_sem, ↓reduceIte]
    exact ⟨_, _, Wk.refl _, hwf.weak, by rw [theirN_some hf, hf]; rfl, rfl⟩
theorem R1I.write (h : RefI (R1I d) [d] 1 11 n k st N) (hi : R1I d k st N.r T0 last r2) {k' : Nat} (hk : k ≤ k') (e1 : r'.ds = N.r.ds) (e2 : r'.k = N.r.k) (e3 : r'.g = N.r.g) (wg : r'.w.Good) (g0 : 0 ≤ r'.guard) (g1 : r'.guard ≤ k') :
    RefI (R1I d) [d] 1 11 n k' (st.put n (refC 1 11 { N with r := r' } tk T0 tl last (r1C d r'))) { N with r := r' } := by
  have hnd : d ≠ n := fun e => h.nn (by simp [e])
  refine ⟨⟨tk, T0, tl, last, r1C d r', put_box_same, ⟨rfl, by rw [← hi.eg]; exact e3, hi.lg, hi.ll, ?_, by rw [e1, e2]; exact hi.dg, wg, g0, g1, by have := hi.ld; simp only [put_sz]; omega⟩⟩, h.nn, h.l0, h.l1, h.i0, h.i1, h.a0, by have := h.a1; simp only; omega, h.rb, h.rl⟩
  obtain ⟨t, K, hb, h1⟩ := hi.dr
  exact ⟨t, K, by rw [put_box_ne hnd, e1]; exact hb, by rw [e2]; exact h1⟩
theorem R1I.more (h : RefI (R1I d) [d] 1 11 n k st N) : RefI (R1I d) [d] 1 11 n (k + 1) st N := by
  obtain ⟨tk, T0, tl, last, r2, hb, hi⟩ := h.ex
  exact ⟨⟨tk, T0, tl, last, r2, hb, { hi with g1 := by have := hi.g1; omega }⟩, h.nn, h.l0, h.l1, h.i0, h.i1, h.a0, by have := h.a1; omega, h.rb, h.rl⟩
theorem R1I.drawn (h : RefI (R1I d) [d] 1 11 n k st N) (hd : DrR s d N.r.draw.1.ds N.r.draw.1.k) (T : Tn [d] st s) : RefI (R1I d) [d] 1 11 n k s { N with r := N.r.draw.1 } := by
  obtain ⟨tk, T0, tl, last, r2, hb, hi⟩ := h.ex
  obtain ⟨k1, k2, k3⟩ := draw_keep (r := N.r)
  have hg := (draw_good hi.dg).1
  refine ⟨⟨tk, T0, tl, last, r2, T.box n _ hb h.nn, ⟨by rw [hi.e]; simp only [r1C, k1, k3], by rw [k2]; exact hi.eg, hi.lg, hi.ll, hd, hg, by rw [k1]; exact hi.wg, by rw [k3]; exact hi.g0, by rw [k3]; exact hi.g1, by have := hi.ld; have := T.sz; omega⟩⟩, h.nn, h.l0, h.l1, h.i0, h.i1, h.a0, h.a1, h.rb, h.rl⟩
theorem r36See_v (h : RefI (R1I d) [d] 1 11 n k st N) (hk : k ≤ 1000000000) {own x : Int} : VCalls Tryz.prog 108 [ptrV n, .sc (.int .u32 own), .sc (.int .u32 x)] st fun v s =>
    v = .sc (.bool (decide (own ≠ 0 ∧ own = x))) ∧ RefI (R1I d) [d] 1 11 n (k + 1) s { N with r := N.r.see own x } ∧ Tn [n, d] st s := by
  refine vcalls_enterq pc108 (Nat.le_of_ble_eq_true rfl) rfl fun hwf hok => ?_
  show Run _ Pc108.body (.fin (finP Pc108.res _)) _ _
  unfold Pc108 zg zn zo
  have hlt := hwf.lt
  obtain ⟨tk, T0, tl, last, r2, hb, hi⟩ := h.ex
  have i0 := hi.g0
  have i1 := hi.g1
  have hW : RefI (R1I d) [d] 1 11 n (k + 1) (st.put n (refC 1 11 { N with r := N.r.see own x } tk T0 tl last (r1C d (N.r.see own x)))) { N with r := N.r.see own x } := by
    refine hi.write h (by omega) rfl rfl rfl hi.wg ?_ ?_
    · show 0 ≤ (if own ≠ 0 ∧ own = x then N.r.guard + 1 else 0)
      split <;> omega
    · show (if own ≠ 0 ∧ own = x then N.r.guard + 1 else 0) ≤ ((k + 1 : Nat) : Int)
      split <;> omega
  have T : Tn [n, d] st (st.put n (refC 1 11 { N with r := N.r.see own x } tk T0 tl last (r1C d (N.r.see own x)))) := (Tn.refl hlt).put (.inl (by simp)) hlt
  rw [hi.e] at hb
  unfold refC r1C at hb
  have fin : ∀ q b, q = st.put n (refC 1 11 { N with r := N.r.see own x } tk T0 tl last (r1C d (N.r.see own x))) → b = decide (own ≠ 0 ∧ own = x) → ∃ (r : V) (st' : St), Wk (.sc (.bool b)) r ∧ st'.weak q ∧ r = .sc (.bool (decide (own ≠ 0 ∧ own = x))) ∧ RefI (R1I d) [d] 1 11 n (k + 1) st' { N with r := N.r.see own x } ∧ Tn [n, d] st st' := fun q b hq hb => by
    rw [hq, hb]
    exact ⟨_, _, Wk.refl _, T.lt.weak, rfl, hW, T⟩
  by_cases c : own ≠ 0 ∧ own = x
  · have eg : (N.r.see own x).guard = N.r.guard + 1 := if_pos c
    simp (maxSteps := 3000000) only [go_sem, ↓reduceIte, decide_eq_false c.1, decide_eq_false (show ¬ own ≠ x from fun e => e c.2), hb]
    repeat (apply And.intro; focus (first | omega | (simp; done)))
    refine fin _ true ?_ (decide_eq_true c).symm
    congr 1
    simp only [refC, r1C, eg]
    rfl
  · have eg : (N.r.see own x).guard = 0 := if_neg c
    by_cases c0 : own = 0
    · simp (maxSteps := 3000000) only [go_sem, ↓reduceIte, decide_eq_true c0, hb]
      refine fin _ _ ?_ (decide_eq_false c).symm
      congr 1
      simp only [refC, r1C, eg]
      rfl
    · simp (maxSteps := 3000000) only [go_sem, ↓reduceIte, decide_eq_false c0, decide_eq_true (show own ≠ x from fun e => c ⟨c0, e⟩), hb]
      refine fin _ _ ?_ (decide_eq_false c).symm
      congr 1
      simp only [refC, r1C, eg]
      rfl
theorem r1Req_v (h : RefI (R1I d) [d] 1 11 n k st N) : VCalls Tryz.prog 80 [ptrV n] st fun x s => x = .sl .no (opts (optsW N.r.w)) ∧ st = s := by
  refine vcalls_enterq pc80 (Nat.le_of_ble_eq_true rfl) rfl fun hwf hok => ?_
  show Run _ Pc80.body (.fin (finP Pc80.res _)) _ _
  unfold Pc80 zo
  obtain ⟨tk, T0, tl, last, r2, hb, hi⟩ := h.ex
  rw [hi.e] at hb
  unfold refC r1C at hb
  simp (maxSteps := 3000000) only [go_sem, ↓reduceIte, hb]
  refine Cal.mk (r34Options_v hi.wg) ?_
  rintro _ _ ⟨rfl, rfl⟩ -
  simp (maxSteps := 3000000) only [go_sem, ↓reduceIte]
  exact ⟨_, _, Wk.refl _, hwf.weak, rfl, rfl⟩
set_option maxRecDepth 100000 in
set_option maxHeartbeats 4000000 in
theorem r1Judge_v (h : RefI (R1I d) [d] 1 11 n k st N) (hk : k ≤ 1000000000) (hG : GoodO l) (hl : l.length ≤ 1000000) : VCalls Tryz.prog 90 [ptrV n, .sl tk (opts l)] st fun x s =>
    (∃ t2, x = .tup [.sc (.int .u8 (N.r.judge l).2.1), .sl t2 (opts (N.r.judge l).2.2)]) ∧ RefI (R1I d) [d] 1 11 n (k + 1) s { N with r := (N.r.judge l).1 } ∧ Tn [n, d] st s := by
  refine vcalls_enterq pc90 (Nat.le_of_ble_eq_true rfl) rfl fun hwf hok => ?_
  show Run _ Pc90.body (.fin (finP Pc90.res _)) _ _
  unfold Pc90 zg zo
  obtain ⟨X, hX⟩ : ∃ X, X = N.r.judge l := ⟨_, rfl⟩
  rw [← hX]
  unfold Lr.judge at hX
  obtain ⟨tk1, T1, tl1, last1, r21, hb, hi⟩ := h.ex
  rw [hi.e] at hb
  unfold refC r1C at hb
  simp (maxSteps := 3000000) only [go_sem, ↓reduceIte, hb]
  refine Cal.mk (r36Number_v hG hl) ?_
  rintro _ _ ⟨rfl, rfl⟩ -
  have hT := theirN_rng hG
  generalize theirN l = x at hT hX
  simp (maxSteps := 3000000) only [go_sem, ↓reduceIte, hb]
  refine Cal.mk (r36See_v h hk) ?_
  rintro _ s1 ⟨rfl, h1, T1⟩ -
  have hwm : (N.r.see N.r.w.magic x).w = N.r.w := rfl
  generalize N.r.see N.r.w.magic x = R1 at h1 hX hwm
  obtain ⟨tk2, T2, tl2, last2, r22, hb1, hi1⟩ := h1.ex
  rw [hi1.e] at hb1
  unfold refC r1C at hb1
  simp only [hwm] at hb1
  have dr := hi1.dr
  have dg := hi1.dg
  obtain ⟨c, hc⟩ : ∃ c : Bool, c = decide ((N.r.w.magic ≠ 0 ∧ N.r.w.magic = x) ∨ x = 0) := ⟨_, rfl⟩
  simp (maxSteps := 3000000) only [go_sem, ↓reduceIte]
  refine Grd.cut [29, 30, 31] (fun B => B 31 = .sc (.bool c)) rfl ?_ ?_
  · rw [hc]
    by_cases c1 : N.r.w.magic ≠ 0 ∧ N.r.w.magic = x
    · simp (maxSteps := 3000000) only [go_sem, ↓reduceIte, decide_eq_true c1, at_cut]
      rw [decide_eq_true (.inl c1)]
    · simp (maxSteps := 3000000) only [go_sem, ↓reduceIte, decide_eq_false c1, at_cut]
      simp only [c1, false_or]
  intro B1 h31
  cases c with
  | false =>
    rw [if_neg (of_decide_eq_false hc.symm)] at hX
    simp (maxSteps := 3000000) only [go_sem, ↓reduceIte, h31, hb1]
    refine Cal.mk (r34Judge_v hG hl hi.wg.g0 hi.wg.g1 (draw := 0) (Int.le_refl 0) (by omega)) ?_
    rintro _ _ ⟨⟨t2, rfl⟩, rfl⟩ -
    simp (maxSteps := 3000000) only [go_sem, ↓reduceIte]
    exact ⟨_, _, Wk.refl _, T1.lt.weak, by rw [hX]; exact ⟨_, rfl⟩, by rw [hX]; exact h1, T1⟩
  | true =>
    rw [if_pos (of_decide_eq_true hc.symm)] at hX
    have hdg := draw_good dg
    obtain ⟨w1, w2, w3⟩ := draw_keep (r := R1)
    simp (maxSteps := 3000000) only [go_sem, ↓reduceIte, h31, hb1]
    refine Cal.mk (rSome_v dr dg) ?_
    rintro _ s2 ⟨rfl, d2, T2⟩ -
    have h2 := R1I.drawn h1 d2 T2
    obtain ⟨tk3, T3, tl3, last3, r23, hb2, hi2⟩ := h2.ex
    rw [hi2.e] at hb2
    unfold refC r1C at hb2
    simp only [w1, hwm] at hb2
    simp (maxSteps := 3000000) only [go_sem, ↓reduceIte, hb2]
    refine Cal.mk (r34Judge_v hG hl hi.wg.g0 hi.wg.g1 (Int.le_of_lt hdg.2.1) hdg.2.2) ?_
    rintro _ _ ⟨⟨t2, rfl⟩, rfl⟩ -
    simp (maxSteps := 3000000) only [go_sem, ↓reduceIte]
    exact ⟨_, _, Wk.refl _, T2.lt.weak, by rw [hX]; exact ⟨_, rfl⟩, by rw [hX]; exact h2, T1.trans (T2.wide (by simp))⟩
set_option maxRecDepth 100000 in
set_option maxHeartbeats 4000000 in
theorem r1Naked_v (h : RefI (R1I d) [d] 1 11 n k st N) (hk : k ≤ 1000000000) (hG : GoodO l) (hl : l.length ≤ 1000000) : VCalls Tryz.prog 92 [ptrV n, .sl tk (opts l)] st fun x s =>
    x = .tup [] ∧ RefI (R1I d) [d] 1 11 n (k + 1) s { N with r := N.r.naked l } ∧ Tn [n, d] st s := by
  refine vcalls_enterq pc92 (Nat.le_of_ble_eq_true rfl) rfl fun hwf hok => ?_
  show Run _ Pc92.body (.fin (finP Pc92.res _)) _ _
  unfold Pc92 zg zn zo
  have hlt := hwf.lt
  obtain ⟨X, hX⟩ : ∃ X, X = N.r.naked l := ⟨_, rfl⟩
  rw [← hX]
  unfold Lr.naked at hX
  obtain ⟨tk1, T1, tl1, last1, r21, hb, hi⟩ := h.ex
  have hw := nakedL_good hi.wg hG
  have h1 := hi.write (tk := tk1) (tl := tl1) h (Nat.le_refl _) (r' := { N.r with w := nakedL N.r.w l }) rfl rfl rfl hw hi.g0 hi.g1
  have T1 : Tn [n, d] st (st.put n (refC 1 11 { N with r := { N.r with w := nakedL N.r.w l } } tk1 T1 tl1 last1 (r1C d { N.r with w := nakedL N.r.w l }))) := (Tn.refl hlt).put (.inl (by simp)) hlt
  rw [hi.e] at hb
  unfold refC r1C at hb h1 T1
  simp only at h1 T1
  have hwg := hi.wg
  simp (maxSteps := 3000000) only [go_sem, ↓reduceIte, hb]
  refine Cal.mk (r34Naked_v hwg hG hl) ?_
  rintro _ _ ⟨rfl, rfl⟩ -
  simp (maxSteps := 3000000) only [go_sem, ↓reduceIte, hb, Want.cells]
  generalize st.put n _ = s1 at h1 T1 ⊢
  refine Cal.mk (r36Number_v hG hl) ?_
  rintro _ _ ⟨rfl, rfl⟩ -
  cases hf : findO l 5 with
  | none =>
    simp only [hf] at hX
    simp (maxSteps := 3000000) only [go_sem, ↓reduceIte, Option.isSome_none]
    exact ⟨_, _, Wk.refl _, T1.lt.weak, rfl, by rw [hX]; exact R1I.more h1, T1⟩
  | some D =>
    simp only [hf] at hX
    rw [theirN_some hf]
    simp (maxSteps := 3000000) only [go_sem, ↓reduceIte, Option.isSome_some]
    refine Cal.mk (r36See_v h1 hk) ?_
    rintro _ s2 ⟨rfl, h2, T2⟩ -
    simp only at h2
    generalize Lr.see { N.r with w := nakedL N.r.w l } N.r.w.magic (num4 D) = R1 at h2 hX
    obtain ⟨tk3, T3, tl3, last3, r23, hb2, hi2⟩ := h2.ex
    have dr := hi2.dr
    have dg := hi2.dg
    rw [hi2.e] at hb2
    unfold refC r1C at hb2
    simp only at hb2
    by_cases c : N.r.w.magic ≠ 0 ∧ N.r.w.magic = num4 D
    · rw [if_pos c] at hX
      simp (maxSteps := 3000000) only [go_sem, ↓reduceIte, decide_eq_true c, hb2]
      refine Cal.mk (rSome_v dr dg) ?_
      rintro _ s3 ⟨rfl, d3, T3⟩ -
      have hdg := draw_good dg
      have h3 := R1I.drawn h2 d3 T3
      obtain ⟨tk4, T4, tl4, last4, r24, hb3, hi3⟩ := h3.ex
      have h4 := hi3.write (tk := tk4) (tl := tl4) h3 (Nat.le_refl _) (r' := { R1.draw.1 with w := { R1.draw.1.w with magic := R1.draw.2 } }) rfl rfl rfl ⟨hi3.wg.m0, hi3.wg.m1, Int.le_of_lt hdg.2.1, hdg.2.2⟩ hi3.g0 hi3.g1
      have T4 : Tn [n, d] st (s3.put n (refC 1 11 { N with r := { R1.draw.1 with w := { R1.draw.1.w with magic := R1.draw.2 } } } tk4 T4 tl4 last4 (r1C d { R1.draw.1 with w := { R1.draw.1.w with magic := R1.draw.2 } }))) := ((T1.trans T2).trans (T3.wide (by simp))).put (.inl (by simp)) hlt
      rw [hi3.e] at hb3
      unfold refC r1C at hb3 h4 T4
      simp only at hb3 h4 T4
      simp (maxSteps := 3000000) only [go_sem, ↓reduceIte, hb3]
      exact ⟨_, _, Wk.refl _, T4.lt.weak, rfl, by rw [hX]; exact h4, T4⟩
    · rw [if_neg c] at hX
      simp (maxSteps := 3000000) only [go_sem, ↓reduceIte, decide_eq_false c]
      exact ⟨_, _, Wk.refl _, T2.lt.weak, rfl, by rw [hX]; exact h2, T1.trans T2⟩
set_option maxRecDepth 100000 in
theorem r1Rejected_v (h : RefI (R1I d) [d] 1 11 n k st N) (hl : l.length ≤ 1000000) : VCalls Tryz.prog 93 [ptrV n, .sl tk (opts l)] st fun x s =>
    x = .sc (.bool (rejectedL N.r.w l).2) ∧ RefI (R1I d) [d] 1 11 n k s { N with r := { N.r with w := (rejectedL N.r.w l).1 } } ∧ Tn [n, d] st s := by
  refine vcalls_enterq pc93 (Nat.le_of_ble_eq_true rfl) rfl fun hwf hok => ?_
  show Run _ Pc93.body (.fin (finP Pc93.res _)) _ _
  unfold Pc93 zg zn zo
  have hlt := hwf.lt
  obtain ⟨tk1, T1, tl1, last1, r21, hb, hi⟩ := h.ex
  have h1 := hi.write (tk := tk1) (tl := tl1) h (Nat.le_refl _) (r' := { N.r with w := (rejectedL N.r.w l).1 }) rfl rfl rfl (rejectedL_good hi.wg) hi.g0 hi.g1
  have T1 : Tn [n, d] st (st.put n (refC 1 11 { N with r := { N.r with w := (rejectedL N.r.w l).1 } } tk1 T1 tl1 last1 (r1C d { N.r with w := (rejectedL N.r.w l).1 }))) := (Tn.refl hlt).put (.inl (by simp)) hlt
  rw [hi.e] at hb
  unfold refC r1C at hb h1 T1
  simp only at h1 T1
  simp (maxSteps := 3000000) only [go_sem, ↓reduceIte, hb]
  refine Cal.mk (r34Rejected_v (w := N.r.w) hl) ?_
  rintro _ _ ⟨rfl, rfl⟩ -
  simp (maxSteps := 3000000) only [go_sem, ↓reduceIte, hb, Want.cells]
  exact ⟨_, _, Wk.refl _, T1.lt.weak, rfl, h1, T1⟩
theorem ref_rules1 : RefR lcpU (R1I d) [d] 1 11 n where
  req := fun k st N h => r1Req_v h
  reqG := fun k st N h => ⟨optsW_good N.r.w, Nat.le_trans (optsW_len N.r.w) (by decide)⟩
  judge := fun k st N l tk h hk hG hl => r1Judge_v h hk hG hl
  judgeG := fun k st N l h hG hl => judgeL_good hG hl
  agreed := fun k st r T last l r2 h hG hl => ⟨h.e, rfl, hG, hl, h.dr, h.dg, h.wg, h.g0, h.g1, h.ld⟩
  naked := fun k st N l tk h hk hG hl => r1Naked_v h hk hG hl
  rejected := fun k st N l tk h hk hG hl => r1Rejected_v h hl
  stay := fun k st s r T last r2 h hs hz => by
    obtain ⟨t, K, hb, h1⟩ := h.dr
    exact ⟨h.e, h.eg, h.lg, h.ll, ⟨t, K, hs d _ hb (by simp), h1⟩, h.dg, h.wg, h.g0, h.g1, Nat.lt_of_lt_of_le h.ld hz⟩
  more := fun k st r T last r2 h => { h with g1 := by have := h.g1; omega }
  lt := fun k st r T last r2 h b hb => by simp only [List.mem_singleton] at hb; subst hb; exact h.ld
end
end
section
open Go
structure LOp where
  kind : Int
  ticks : Int
  p : Ctl
  last : Bool
def LOp.v (o : LOp) (tk : Tk := .no) : V := .agg [.sc (.int .i64 o.kind), .sc (.int .i64 o.ticks), .sc (.int .u8 o.p.code), .sc (.int .u8 o.p.id), .sl tk (bs o.p.data), .sc (.bool o.last)]
def lops (l : List LOp) : List V := l.map fun o => o.v
theorem lops_len (l : List LOp) : (lops l).length = l.length := by simp [lops]
theorem lops_at {l : List LOp} {i : Nat} {o : LOp} (h : l[i]? = some o) : (lops l)[i]? = some (.agg [.sc (.int .i64 o.kind), .sc (.int .i64 o.ticks), .sc (.int .u8 o.p.code), .sc (.int .u8 o.p.id), .sl .no (bs o.p.data), .sc (.bool o.last)]) := by simp [lops, h, LOp.v]
structure LOp.Ok (o : LOp) : Prop where
  k0 : 0 ≤ o.kind
  t0 : 0 ≤ o.ticks
  t1 : o.ticks ≤ 100
  l : o.p.data.length ≤ 500
section
variable {st s : St} {tk tk2 : Tk} {l : List LOp} {most : Int}
set_option maxRecDepth 100000 in
set_option maxHeartbeats 4000000 in
theorem law36Great_v (hm : 0 ≤ most ∧ most ≤ 1000000) : VCalls Tryz.prog 5 [.sl tk (lops l), .sc (.int .i64 most)] st fun r s => (∃ b, r = .sc (.bool b) ∧ (b = false → (l.length : Int) ≤ most ∧ ∀ o ∈ l, o.Ok)) ∧ st = s := by
  refine vcalls_enterq pc5 (Nat.le_of_ble_eq_true rfl) rfl fun hwf hok => ?_
  show Run _ Pc5.body (.fin (finP Pc5.res _)) _ _
  unfold Pc5 zg zo
  by_cases c0 : most < (l.length : Int)
  · simp (maxSteps := 3000000) only [go_sem, ↓reduceIte, lops_len, decide_eq_true c0]
    exact ⟨_, _, Wk.refl _, hwf.weak, ⟨true, rfl, fun e => by cases e⟩, rfl⟩
  · simp (maxSteps := 3000000) only [go_sem, ↓reduceIte, lops_len, decide_eq_false c0]
    refine run_loop [4, 5, 12, 13, 15, 18, 19, 20, 21, 23, 24, 25, 26, 27, 28, 29, 31, 32, 33, 34, 35, 36, 37, 39, 40, 41, 42, 43, 44, 45, 46, 47] (fun B s => s = st ∧ ∃ i : Nat, i ≤ l.length ∧ B 5 = .sc (.int .i64 i) ∧ ∀ o ∈ l.take i, o.Ok) (fun B _ => l.length - vnat (B 5)) rfl ?_ ?_
    · exact ⟨rfl, 0, by omega, rfl, by simp⟩
    · rintro B s ⟨rfl, i, hi, h5, hn⟩
      by_cases c1 : i < l.length
      · obtain ⟨⟨k, t, ⟨c, id, D⟩, la⟩, ho⟩ := get_ex c1
        have step : LOp.Ok ⟨k, t, ⟨c, id, D⟩, la⟩ → ∀ o ∈ l.take (i + 1), o.Ok := fun h x hm => by
          rw [take_snoc ho] at hm
          rcases List.mem_append.1 hm with hm | hm
          · exact hn x hm
          · simp only [List.mem_singleton] at hm; subst hm; exact h
        repeat' first | simp (maxSteps := 3000000) only [go_sem, ↓reduceIte, h5, lops_len, lops_at ho, bs_len, decide_eq_true (show (i : Int) < (l.length : Int) by omega)] | (refine If.dec (fun h => ?_) (fun h => ?_) <;> first | simp only [decide_eq_true h] | simp only [decide_eq_false h] | skip) | (refine Grd.decd (fun h => ?_) (fun h => ?_) <;> first | simp only [decide_eq_true h] | simp only [decide_eq_false h] | skip) | (refine If.mk (fun h => ?_) (fun h => ?_) <;> first | simp only [h] | skip) | (refine Grd.two (fun h => ?_) (fun h => ?_) <;> first | simp only [h] | skip) | (apply And.intro; focus (first | omega | (simp; done)))
        all_goals first
          | (exfalso; omega)
          | exact ⟨_, _, Wk.refl _, hwf.weak, ⟨true, rfl, fun e => by cases e⟩, rfl⟩
          | (apply And.intro; focus exact ⟨i + 1, by omega, by simp, step ⟨by simp only; omega, by simp only; omega, by simp only; omega, by simp only; omega⟩⟩); omega
      · obtain rfl : i = l.length := by omega
        simp (maxSteps := 3000000) only [go_sem, ↓reduceIte, h5, lops_len]
        rw [List.take_length] at hn
        exact ⟨_, _, Wk.refl _, hwf.weak, ⟨false, rfl, fun _ => ⟨by omega, hn⟩⟩, rfl⟩
end
section
variable {st s : St} {tk tk2 : Tk} {p : Ctl} {P : List Ctl} {X : Nout}
theorem r15SameEq_v : VCalls Tryz.prog 17 [.agg [.sc (.int .u8 p.code), .sc (.int .u8 p.id), .sl tk (bs p.data)], .agg [.sc (.int .u8 p.code), .sc (.int .u8 p.id), .sl tk2 (bs p.data)]] st fun r s => r = .sc (.bool true) ∧ st = s := by
  refine vcalls_enterq pc17 (Nat.le_of_ble_eq_true rfl) rfl fun hwf hok => ?_
  show Run _ Pc17.body (.fin (finP Pc17.res _)) _ _
  unfold Pc17 zg zn zo
  simp (maxSteps := 3000000) only [go_sem, ↓reduceIte, u8sOf_bsN]
  exact ⟨_, _, Wk.refl _, hwf.weak, rfl, rfl⟩
set_option maxRecDepth 100000 in
theorem r15All_v (hP : P.length ≤ 1000000) : VCalls Tryz.prog 57 [.sl tk (ctls P), .sl tk2 (ctls P)] st fun r s => r = .sc (.bool true) ∧ st = s := by
  refine vcalls_enterq pc57 (Nat.le_of_ble_eq_true rfl) rfl fun hwf hok => ?_
  show Run _ Pc57.body (.fin (finP Pc57.res _)) _ _
  unfold Pc57 zo
  simp (maxSteps := 3000000) only [go_sem, ↓reduceIte, ctls_len]
  refine run_loop [4, 5, 13, 14, 16, 19, 20, 23, 24, 25, 26] (fun B s => s = st ∧ ∃ i : Nat, i ≤ P.length ∧ B 5 = .sc (.int .i64 i)) (fun B _ => P.length - vnat (B 5)) rfl ?_ ?_
  · exact ⟨rfl, 0, by omega, rfl⟩
  · rintro B s ⟨rfl, i, hi, h5⟩
    by_cases c1 : i < P.length
    · obtain ⟨p, ho⟩ := get_ex c1
      simp (maxSteps := 3000000) only [go_sem, ↓reduceIte, h5, ctls_len, ctls_at ho, decide_eq_true (show (i : Int) < (P.length : Int) by omega)]
      repeat (apply And.intro; focus (first | omega | (simp; done)))
      refine Cal.mk r15SameEq_v ?_
      rintro _ _ ⟨rfl, rfl⟩ -
      simp (maxSteps := 3000000) only [go_sem, ↓reduceIte, Bool.not_true, h5]
      repeat (apply And.intro; focus (first | omega | (simp; done)))
      exact ⟨⟨i + 1, by omega, by simp⟩, by omega⟩
    · obtain rfl : i = P.length := by omega
      simp (maxSteps := 3000000) only [go_sem, ↓reduceIte, h5, ctls_len]
      exact ⟨_, _, Wk.refl _, hwf.weak, rfl, rfl⟩
theorem law36Same_v (hP : X.P.length ≤ 1000000) : VCalls Tryz.prog 33 [.agg [.sl tk (ctls X.P), .sc (.bool X.up), .sc (.bool X.down), .sc (.bool X.over)], .agg [.sl tk2 (ctls X.P), .sc (.bool X.up), .sc (.bool X.down), .sc (.bool X.over)]] st fun r s => r = .sc (.bool true) ∧ st = s := by
  obtain ⟨P, u, d, v⟩ := X
  simp only at hP
  refine vcalls_enterq pc33 (Nat.le_of_ble_eq_true rfl) rfl fun hwf hok => ?_
  show Run _ Pc33.body (.fin (finP Pc33.res _)) _ _
  unfold Pc33 zg zn zo
  have bb : ∀ b : Bool, (b == b) = true := fun b => by cases b <;> rfl
  simp (maxSteps := 3000000) only [go_sem, ↓reduceIte]
  refine Cal.mk (r15All_v hP) ?_
  rintro _ _ ⟨rfl, rfl⟩ -
  simp (maxSteps := 3000000) only [go_sem, ↓reduceIte, bb]
  exact ⟨_, _, Wk.refl _, hwf.weak, rfl, rfl⟩
end
section
variable {st s : St} {tk tk2 : Tk} {n d k : Nat} {N : Neg Lr} {L : List Int}
theorem law37New_v (hb : DrR st d L 0) (hG : DrG L 0) (ld : d < st.sz) : VCalls Tryz.prog 8 [ptrV d] st fun r s => ∃ n, r = ptrV n ∧ RefI (R1I d) [d] 1 11 n 0 s (lcpNew L) ∧ Tn [d] st s ∧ st.sz ≤ n := by
  refine vcalls_enterq pc8 (Nat.le_of_ble_eq_true rfl) rfl fun hwf hok => ?_
  show Run _ Pc8.body (.fin (finP Pc8.res _)) _ _
  unfold Pc8 zo
  have hlt := hwf.lt
  obtain ⟨r, hr⟩ : ∃ r : Lr, r = ⟨.zero, .zero, L, 0, 0⟩ := ⟨_, rfl⟩
  have hN : lcpNew L = ⟨0, 0, 0, 0, [], 0, { r.draw.1 with w := ⟨1400, true, r.draw.2, false, false⟩ }⟩ := by rw [hr]; rfl
  rw [hN]
  have hb' : DrR st d r.ds r.k := by rw [hr]; exact hb
  have hG' : DrG r.ds r.k := by rw [hr]; exact hG
  have hdg := draw_good hG'
  obtain ⟨w1, w2, w3⟩ := draw_keep (r := r)
  have w2' : r.draw.1.g = Want.zero := by rw [w2, hr]
  have w3' : r.draw.1.guard = 0 := by rw [w3, hr]
  clear hN hr
  simp (maxSteps := 3000000) only [go_sem, ↓reduceIte]
  refine Cal.mk (rSome_v hb' hG') ?_
  rintro _ s1 ⟨rfl, d1, T1⟩ -
  generalize r.draw = z at d1 hdg w2' w3' ⊢
  obtain ⟨⟨rw1, rg1, ds1, k1, gu1⟩, x⟩ := z
  simp only at d1 hdg w2' w3' ⊢
  subst w2' w3'
  obtain ⟨r1, hr1⟩ : ∃ r : Lr, r = ⟨rw1, .zero, ds1, k1, 0⟩ := ⟨_, rfl⟩
  have w2' : r1.g = Want.zero := by rw [hr1]
  have w3' : r1.guard = 0 := by rw [hr1]
  simp (maxSteps := 3000000) only [go_sem, ↓reduceIte]
  intro n hn
  have T2 := tn_new (cs := refC 1 11 (⟨0, 0, 0, 0, [], 0, { r1 with w := ⟨1400, true, x, false, false⟩ }⟩ : Neg Lr) .nil (.sl .nil []) .nil [] (r1C d { r1 with w := ⟨1400, true, x, false, false⟩ })) T1.lt hn
  have hnd : n ≠ d := by have := T1.sz; omega
  have I : RefI (R1I d) [d] 1 11 n 0 (s1.put n (refC 1 11 (⟨0, 0, 0, 0, [], 0, { r1 with w := ⟨1400, true, x, false, false⟩ }⟩ : Neg Lr) .nil (.sl .nil []) .nil [] (r1C d { r1 with w := ⟨1400, true, x, false, false⟩ }))) ⟨0, 0, 0, 0, [], 0, { r1 with w := ⟨1400, true, x, false, false⟩ }⟩ := by
    refine ⟨⟨_, _, _, [], _, put_box_same, ⟨rfl, w2', GoodO.nil, by simp, ?_, by rw [hr1]; exact hdg.1, ⟨(by decide : (0 : Int) ≤ 1400), (by decide : (1400 : Int) < 65536), Int.le_of_lt hdg.2.1, hdg.2.2⟩, by show 0 ≤ r1.guard; omega, by show r1.guard ≤ ((0 : Nat) : Int); omega, by have := T1.sz; simp only [put_sz]; omega⟩⟩, by simp [hnd], Int.le_refl 0, (by decide : (0 : Int) ≤ 10), Int.le_refl 0, (by decide : (0 : Int) < 256), Int.le_refl 0, Int.le_refl 0, IsB.nil', by simp⟩
    obtain ⟨t, K, hx, h1⟩ := d1
    exact ⟨t, K, (T2.box d _ hx (by simp)).trans (by rw [hr1]), by rw [hr1]; exact h1⟩
  unfold refC r1C at I T2
  rw [hr1] at I T2
  exact ⟨_, _, Wk.refl _, T2.lt.weak, n, rfl, I, T1.trans (T2.wide (by simp)), by have := T1.sz; omega⟩
theorem law37Theirs_v (h : RefI (R1I d) [d] 1 11 n k st N) : VCalls Tryz.prog 15 [ptrV n] st fun r s => r = .agg N.r.g.cells ∧ st = s := by
  refine vcalls_enterq pc15 (Nat.le_of_ble_eq_true rfl) rfl fun hwf hok => ?_
  show Run _ Pc15.body (.fin (finP Pc15.res _)) _ _
  unfold Pc15 zo
  obtain ⟨tk, T0, tl, last, r2, hb, hi⟩ := h.ex
  unfold refC at hb
  have eg := hi.eg
  rw [eg]
  simp (maxSteps := 3000000) only [go_sem, ↓reduceIte, hb]
  refine Cal.mk (r34Of_v hi.lg hi.ll) ?_
  rintro _ _ ⟨rfl, rfl⟩ -
  generalize ofL last = w
  simp (maxSteps := 3000000) only [go_sem, ↓reduceIte, Want.cells]
  exact ⟨_, _, Wk.refl _, hwf.weak, rfl, rfl⟩
def pktO (o : LOp) (N : Neg Lr) : Ctl := ⟨o.p.code, if o.last = true then N.id else o.p.id, if o.last = true ∧ o.p.code = 2 then N.req else o.p.data⟩
theorem law37Packet_v (h : RefI (R1I d) [d] 1 11 n k st N) {o : LOp} : VCalls Tryz.prog 40 [.agg [.sc (.int .i64 o.kind), .sc (.int .i64 o.ticks), .sc (.int .u8 o.p.code), .sc (.int .u8 o.p.id), .sl tk (bs o.p.data), .sc (.bool o.last)], ptrV n] st fun r s => (∃ t, r = .agg [.sc (.int .u8 (pktO o N).code), .sc (.int .u8 (pktO o N).id), .sl t (bs (pktO o N).data)]) ∧ st = s := by
  obtain ⟨ki, ti, ⟨c, i, D⟩, la⟩ := o
  refine vcalls_enterq pc40 (Nat.le_of_ble_eq_true rfl) rfl fun hwf hok => ?_
  show Run _ Pc40.body (.fin (finP Pc40.res _)) _ _
  unfold Pc40 zg zn zo
  obtain ⟨t1, T0, tl, last, r2, hb, hi⟩ := h.ex
  unfold refC at hb
  cases la with
  | false =>
    simp (maxSteps := 3000000) only [go_sem, ↓reduceIte]
    exact ⟨_, _, Wk.refl _, hwf.weak, ⟨tk, by simp [pktO]⟩, rfl⟩
  | true =>
    by_cases e : c = 2
    · simp (maxSteps := 3000000) only [go_sem, ↓reduceIte, hb, decide_eq_true e]
      exact ⟨_, _, Wk.refl _, hwf.weak, ⟨t1, by simp [pktO, e]⟩, rfl⟩
    · simp (maxSteps := 3000000) only [go_sem, ↓reduceIte, hb, decide_eq_false e]
      exact ⟨_, _, Wk.refl _, hwf.weak, ⟨tk, by simp [pktO, e]⟩, rfl⟩
end
end
section
open Go
section
variable {st s : St} {tk : Tk} {n d k : Nat} {N : Neg Lr}
theorem close_up {R : Type} {U : Rul R} {N : Neg R} {now : Int} : (N.close U now).2.up = false := by
  have e : (N.close U now).2.up = hasA (stepF N.s 3).2 1 := rfl
  rw [e]
  by_cases c : N.s < 0 ∨ 9 < N.s
  · have : stepF N.s 3 = (N.s, 0) := by unfold stepF; rw [if_pos (by omega)]
    rw [this]; exact (by decide : hasA 0 1 = false)
  · have h : N.s = 0 ∨ N.s = 1 ∨ N.s = 2 ∨ N.s = 3 ∨ N.s = 4 ∨ N.s = 5 ∨ N.s = 6 ∨ N.s = 7 ∨ N.s = 8 ∨ N.s = 9 := by omega
    generalize N.s = x at h
    rcases h with rfl | rfl | rfl | rfl | rfl | rfl | rfl | rfl | rfl | rfl <;> decide
set_option maxRecDepth 100000 in
set_option maxHeartbeats 16000000 in
theorem law37Take_v (h : RefI (R1I d) [d] 1 11 n k st N) (hk : k + 1 ≤ 1000000000) {now : Int} (hn : 0 ≤ now) (hn2 : now ≤ 1000000000) {p : Ctl} (hp : p.Good) {tp : Tk} :
    VCalls Tryz.prog 42 [ptrV n, .sc (.int .i64 now), .agg [.sc (.int .u8 p.code), .sc (.int .u8 p.id), .sl tp (bs p.data)]] st (ROut st (R1I d) [d] 1 11 n (k + 1) 20 (lcpTake N now p)) := by
  refine vcalls_enterq pc42 (Nat.le_of_ble_eq_true rfl) rfl fun hwf hok => ?_
  show Run _ Pc42.body (.fin (finP Pc42.res _)) _ _
  unfold Pc42 zg zn zo
  have hlt := hwf.lt
  have hpl := hp.l
  simp (maxSteps := 3000000) only [go_sem, ↓reduceIte]
  refine Cal.mk (r36Take_v ref_rules1 h hk (by decide) hn hn2 hp) ?_
  rintro _ s1 ⟨tv, rfl, o1, o2, o3, o4⟩ -
  obtain ⟨X, hX⟩ : ∃ X, X = lcpTake N now p := ⟨_, rfl⟩
  rw [← hX]
  unfold lcpTake at hX
  generalize N.take lcpU 11 now p = Y at o1 o2 o3 o4 hX ⊢
  obtain ⟨N1, P, up, down, over⟩ := Y
  simp only at o1 o2 o3 o4 hX ⊢
  have D0 : Dn st (R1I d) [d] 1 11 n (k + 1) 5 N1 P tv s1 := ⟨o1, o2, o3, o4⟩
  obtain ⟨t1, T0, tl, last, r2, hb, hi⟩ := o2.ex
  have hwg := hi.wg
  rw [hi.e] at hb
  unfold refC r1C at hb
  obtain ⟨E, hE⟩ : ∃ E : Bool, E = decide (p.code = 9 ∧ N1.s = 9 ∧ 4 ≤ p.data.length ∧ num4 p.data ≠ N1.r.w.magic) := ⟨_, rfl⟩
  have em : N1.r.w.magic % 18446744073709551616 = N1.r.w.magic := by have := hwg.g0; have := hwg.g1; omega
  simp (maxSteps := 3000000) only [go_sem, ↓reduceIte]
  refine Grd.cut [17, 18, 19, 20, 21, 22, 23, 26, 27, 28, 29, 32, 33, 34, 35, 36, 37, 38, 39, 40, 41, 42] (fun B => B 42 = .sc (.bool E)) rfl ?_ ?_
  · by_cases c9 : p.code = 9
    rotate_left
    · simp (maxSteps := 3000000) only [go_sem, ↓reduceIte, decide_eq_false c9, at_cut]
      rw [hE, decide_eq_false fun e => c9 e.1]
    by_cases s9 : N1.s = 9
    rotate_left
    · simp (maxSteps := 3000000) only [go_sem, ↓reduceIte, decide_eq_true c9, decide_eq_false s9, hb, at_cut]
      rw [hE, decide_eq_false fun e => s9 e.2.1]
    by_cases l4 : 4 ≤ p.data.length
    rotate_left
    · simp (maxSteps := 3000000) only [go_sem, ↓reduceIte, decide_eq_true c9, decide_eq_true s9, hb, bs_len, decide_eq_false (show ¬ (4 : Int) ≤ (p.data.length : Int) by omega), at_cut]
      rw [hE, decide_eq_false fun e => l4 e.2.2.1]
    · simp (maxSteps := 3000000) only [go_sem, ↓reduceIte, decide_eq_true c9, decide_eq_true s9, hb, bs_len, decide_eq_true (show (4 : Int) ≤ (p.data.length : Int) by omega), bs_take]
      refine ⟨⟨allSz_bs _, by omega⟩, ?_⟩
      refine Cal.mk (rNum_v (L := p.data.take 4) (hp.b.take _) (by simp only [List.length_take]; omega)) ?_
      rintro _ _ ⟨rfl, rfl⟩ -
      have e4 : numL (p.data.take 4) = num4 p.data := by rw [num4, if_neg (by omega)]
      simp (maxSteps := 3000000) only [go_sem, ↓reduceIte, em, e4, hb, at_cut]
      rw [hE]
      simp only [c9, s9, l4, true_and]
  intro B1 h42
  simp (maxSteps := 3000000) only [go_sem, ↓reduceIte, h42]
  refine If.cut [7, 8, 44, 45, 46, 47, 48, 49, 51, 52, 53, 55, 57, 59, 60, 61] (fun B s2 => ∃ t2, B 7 = .agg [.sl t2 (ctls (lcpEcho N1 p P)), .sc (.bool up), .sc (.bool down), .sc (.bool over)] ∧ Dn st (R1I d) [d] 1 11 n (k + 1) 6 N1 (lcpEcho N1 p P) t2 s2) rfl ?_ ?_
  · cases E with
    | false =>
      have hc := of_decide_eq_false hE.symm
      rw [lcpEcho, if_neg hc]
      simp (maxSteps := 3000000) only [go_sem, ↓reduceIte, at_cutk_n]
      exact ⟨tv, rfl, D0.le (by omega)⟩
    | true =>
      have hc := of_decide_eq_true hE.symm
      rw [lcpEcho, if_pos hc]
      have l4 := hc.2.2.1
      simp (maxSteps := 3000000) only [go_sem, ↓reduceIte, hb, em, allSz_bs', bs_len, bs_drop]
      repeat (apply And.intro; focus (first | omega | (simp; done)))
      refine Cal.mk (rPut0_v (n := N1.r.w.magic) 4 hwg.g0 (by have := hwg.g1; omega) (by decide) (by decide)) ?_
      rintro _ s2 ⟨t2, rfl, R2⟩ -
      simp (maxSteps := 3000000) only [go_sem, ↓reduceIte]
      refine App.mk (bytes := 1) (ys := bs (p.data.drop 4)) R2.own (allSz_bs _) (by simp only [bs_len, beL_len, List.length_drop]; unfold maxLen; omega) (by simp only [bs_len, beL_len, List.length_drop]; omega) ?_
      intro r3 s3 k3 k4
      have R3 := R2.app k3 k4
      rw [bs_append] at R3
      obtain ⟨t3, rfl⟩ := R3.sl
      have D3 := D0.tn0 ref_rules1 (Tn.ofWeak (bx := []) R3.weak R3.lt)
      simp (maxSteps := 3000000) only [go_sem, ↓reduceIte]
      refine D3.app ref_rules1 hlt (by omega) ⟨10, p.id, beL N1.r.w.magic 4 ++ p.data.drop 4⟩ fun t4 s4 D4 => ?_
      simp (maxSteps := 3000000) only [go_sem, ↓reduceIte, at_cutk_n]
      exact ⟨t4, rfl, D4⟩
  rintro B2 s2 ⟨t2, h7, D2⟩
  have hs2 := D2.neg
  generalize lcpEcho N1 p P = P2 at h7 D2 hX
  obtain ⟨t6, T6, tl6, last6, r26, hb2, hi2⟩ := hs2.ex
  have I3 := hi2.write (tk := t6) (tl := tl6) hs2 (Nat.le_refl _) (r' := { N1.r with guard := 0 }) rfl rfl rfl hi2.wg (Int.le_refl 0) (Int.natCast_nonneg _)
  have T3 := D2.tn.put (b := n) (cs := refC 1 11 { N1 with r := { N1.r with guard := 0 } } t6 T6 tl6 last6 (r1C d { N1.r with guard := 0 })) (.inl (by simp)) hlt
  have R3 : RO 3 st.bare (s2.put n (refC 1 11 { N1 with r := { N1.r with guard := 0 } } t6 T6 tl6 last6 (r1C d { N1.r with guard := 0 }))) (.sl t2 (ctls P2)) (ctls P2) := D2.row.tn ((Tn.refl (bx := [n]) D2.row.lt).put (.inl (by simp)) D2.row.lt) (fun _ _ => rfl)
  rw [hi2.e] at hb2
  unfold refC r1C at hb2 I3 T3 R3
  simp only at I3 T3 R3
  simp (maxSteps := 3000000) only [go_sem, ↓reduceIte, hb2]
  by_cases c : 4 ≤ N1.r.guard
  rotate_left
  · rw [if_neg c] at hX
    simp (maxSteps := 3000000) only [go_sem, ↓reduceIte, decide_eq_false c, h7]
    exact ⟨_, _, Wk.refl _, D2.tn.lt.weak, t2, by rw [hX], by rw [hX]; exact D2.row, by rw [hX]; exact D2.neg, D2.tn, by rw [hX]; have := D2.len; simp only; omega⟩
  · rw [if_pos c] at hX
    simp (maxSteps := 3000000) only [go_sem, ↓reduceIte, decide_eq_true c, hb2, h7]
    generalize s2.put n _ = s3 at I3 T3 R3 ⊢
    refine Cal.mk (r36Close_v ref_rules1 I3 hn hn2) ?_
    rintro _ s4 ⟨t4, rfl, R4, I4, T4, hl4⟩ -
    have hup := close_up (U := lcpU) (N := { N1 with r := { N1.r with guard := 0 } }) (now := now)
    generalize Neg.close lcpU _ now = Z at R4 I4 hl4 hX hup ⊢
    obtain ⟨N4, P4, u4, d4, v4⟩ := Z
    simp only at R4 I4 hl4 hX hup ⊢
    subst hup
    have hlen := D2.len
    simp (maxSteps := 3000000) only [go_sem, ↓reduceIte]
    refine Cal.mk (r36Both_v (X := ⟨P2, up, down, over⟩) (Y := ⟨P4, false, d4, v4⟩) (ta := t2) (tb := t4) (by simp only; omega) (by simp only; omega)) ?_
    rintro _ s5 ⟨tv5, rfl, R5⟩ -
    have T5 : Tn [] s4 s5 := Tn.ofWeak R5.weak R5.lt
    have T15 := (T3.trans T4).trans (T5.wide (by simp))
    simp (maxSteps := 3000000) only [go_sem, ↓reduceIte, outV, h7]
    refine ⟨_, _, Wk.refl _, T15.lt.weak, tv5, ?_, ?_, by rw [hX]; exact I4.tn ref_rules1 T5, T15, by rw [hX]; simp only [List.length_append]; omega⟩
    · rw [hX]; simp only [Nout.both, Bool.or_false]
    · rw [hX]
      exact ⟨R5.own, bare_weak T15.sz, R5.lt, fun g k l e => Nat.le_trans (T3.trans T4).sz (R5.tok g k l e)⟩
end
end
section
open Go
structure LOp.In (o : LOp) : Prop where
  c0 : 0 ≤ o.p.code
  c1 : o.p.code < 256
  i0 : 0 ≤ o.p.id
  i1 : o.p.id < 256
  b : IsB o.p.data
section
variable {st s : St} {tk : Tk} {a n q d n2 d2 k : Nat} {N : Neg Lr}
theorem pktO_good {o : LOp} (h : o.In) (hl : o.p.data.length ≤ 500) (R : RefI (R1I d2) [d2] 1 11 n2 k st N) : (pktO o N).Good := by
  obtain ⟨h1, h2, h3, h4, h5⟩ := h
  refine ⟨h1, h2, ?_, ?_, ?_, ?_⟩
  · show 0 ≤ (if o.last = true then N.id else o.p.id)
    have := R.i0; split <;> omega
  · show (if o.last = true then N.id else o.p.id) < 256
    have := R.i1; split <;> omega
  · show IsB (if o.last = true ∧ o.p.code = 2 then N.req else o.p.data)
    have := R.rb; split <;> assumption
  · show (if o.last = true ∧ o.p.code = 2 then N.req else o.p.data).length ≤ 1000000
    have := R.rl; split <;> omega
theorem LcpI.tnx (h : LcpI a n q d k st N) {cs : List Nat} (T : Tn cs st s) (hd : ∀ b ∈ a :: n :: [q, d], b ∉ cs) : LcpI a n q d k s N :=
  ⟨T.box a _ h.ba (hd a (by simp)), h.ng.tnx lcp_rules T (fun b hb => hd b (List.mem_cons_of_mem _ hb)), h.na, Nat.lt_of_lt_of_le h.la T.sz⟩
theorem LcpI.more (h : LcpI a n q d k st N) : LcpI a n q d (k + 1) st N := ⟨h.ba, h.ng.more lcp_rules, h.na, h.la⟩
theorem LOut.tn {m : Nat} {X : Neg Lr × Nout} {r : V} (o : LOut st a n q d k m X r s) : Tn (n :: [q, d]) st s := by
  obtain ⟨_, _, _, _, h, _⟩ := o; exact h
theorem LOut.len {m : Nat} {X : Neg Lr × Nout} {r : V} (o : LOut st a n q d k m X r s) : X.2.P.length ≤ m := by
  obtain ⟨_, _, _, _, _, h⟩ := o; exact h
structure Ap (a n q d n2 d2 : Nat) : Prop where
  x : ∀ b ∈ n2 :: [d2], b ∉ n :: [q, d]
  y : ∀ b ∈ a :: n :: [q, d], b ∉ n2 :: [d2]
structure Two (a n q d n2 d2 k : Nat) (st s : St) (N : Neg Lr) : Prop where
  L : LcpI a n q d k s N
  R : RefI (R1I d2) [d2] 1 11 n2 k s N
  T : Tn [n, q, d, n2, d2] st s
theorem Two.next (hA : Ap a n q d n2 d2) (I : Two a n q d n2 d2 k st s N) {X : Neg Lr × Nout} {r1 r2 : V} {s1 s2 : St} {k1 k2 m1 m2 : Nat} (hk1 : k1 = k ∨ k1 = k + 1) (hk2 : k2 = k ∨ k2 = k + 1)
    (o : LOut s a n q d k1 m1 X r1 s1) (u : ROut s1 (R1I d2) [d2] 1 11 n2 k2 m2 X r2 s2) : Two a n q d n2 d2 (k + 1) st s2 X.1 := by
  obtain ⟨_, _, _, o2, o3, _⟩ := o
  obtain ⟨_, _, _, u2, u3, _⟩ := u
  refine ⟨?_, ?_, (I.T.trans (o3.wide (by simp))).trans (u3.wide (by simp))⟩
  · have := o2.tnx u3 hA.y
    rcases hk1 with rfl | rfl
    · exact this.more
    · exact this
  · rcases hk2 with rfl | rfl
    · exact u2.more ref_rules1
    · exact u2
set_option maxRecDepth 100000 in
set_option maxHeartbeats 16000000 in
theorem law37Step_v {base : St} (hA : Ap a n q d n2 d2) (I : Two a n q d n2 d2 k base st N) (hk : k + 1 ≤ 1000000) {o : LOp} (hi : o.In) (ho : o.Ok) {now : Int} (hn : 0 ≤ now) (hn2 : now ≤ 1000000000) :
    VCalls Tryz.prog 10 [ptrV a, ptrV n2, .agg [.sc (.int .i64 o.kind), .sc (.int .i64 o.ticks), .sc (.int .u8 o.p.code), .sc (.int .u8 o.p.id), .sl tk (bs o.p.data), .sc (.bool o.last)], .sc (.int .i64 now)] st fun r s => r = .sc (.bool true) ∧ ∃ N', Two a n q d n2 d2 (k + 1) base s N' := by
  refine vcalls_enterq pc10 (Nat.le_of_ble_eq_true rfl) rfl fun hwf hok => ?_
  show Run _ Pc10.body (.fin (finP Pc10.res _)) _ _
  unfold Pc10 zn zo
  have hlt := hwf.lt
  have hL := I.L
  have hk0 := ho.k0
  by_cases c4 : o.kind % 8 = 4
  · have e4 := decide_eq_true c4
    skip
    simp (maxSteps := 3000000) only [go_sem, ↓reduceIte, e4]
    refine ⟨hk0, ?_⟩
    refine Cal.mk (lcpTick_v hL hn hn2) ?_
    rintro _ s1 o1 -
    have h1 := I.R.tnx ref_rules1 o1.tn hA.x
    have hln := o1.len
    obtain ⟨tv, rfl, _⟩ := id o1
    simp (maxSteps := 3000000) only [go_sem, ↓reduceIte, outV]
    refine Cal.mk (r36Tick_v ref_rules1 h1 hn hn2) ?_
    rintro _ s2 o2 -
    have J := I.next hA (.inl rfl) (.inl rfl) o1 o2
    have hlt2 := o2.lt
    obtain ⟨tv2, rfl, _⟩ := o2
    simp (maxSteps := 3000000) only [go_sem, ↓reduceIte]
    refine Cal.mk (law36Same_v (Nat.le_trans hln (by decide))) ?_
    rintro _ _ ⟨rfl, rfl⟩ -
    simp (maxSteps := 3000000) only [go_sem, ↓reduceIte]
    exact ⟨_, _, Wk.refl _, hlt2.weak, rfl, _, J⟩
  have e4 := decide_eq_false c4
  by_cases c7 : o.kind % 8 = 7
  · have e7 := decide_eq_true c7
    skip
    simp (maxSteps := 3000000) only [go_sem, ↓reduceIte, e4, e7]
    refine ⟨hk0, ?_⟩
    refine Cal.mk (lcpTick_v hL hn hn2) ?_
    rintro _ s1 o1 -
    have h1 := I.R.tnx ref_rules1 o1.tn hA.x
    have hln := o1.len
    obtain ⟨tv, rfl, _⟩ := id o1
    simp (maxSteps := 3000000) only [go_sem, ↓reduceIte, outV]
    refine Cal.mk (r36Tick_v ref_rules1 h1 hn hn2) ?_
    rintro _ s2 o2 -
    have J := I.next hA (.inl rfl) (.inl rfl) o1 o2
    have hlt2 := o2.lt
    obtain ⟨tv2, rfl, _⟩ := o2
    simp (maxSteps := 3000000) only [go_sem, ↓reduceIte]
    refine Cal.mk (law36Same_v (Nat.le_trans hln (by decide))) ?_
    rintro _ _ ⟨rfl, rfl⟩ -
    simp (maxSteps := 3000000) only [go_sem, ↓reduceIte]
    exact ⟨_, _, Wk.refl _, hlt2.weak, rfl, _, J⟩
  have e7 := decide_eq_false c7
  by_cases c5 : o.kind % 8 = 5
  · have e5 := decide_eq_true c5
    skip
    simp (maxSteps := 3000000) only [go_sem, ↓reduceIte, e4, e7, e5]
    refine ⟨hk0, ?_⟩
    refine Cal.mk (lcpClose_v hL hn hn2) ?_
    rintro _ s1 o1 -
    have h1 := I.R.tnx ref_rules1 o1.tn hA.x
    have hln := o1.len
    obtain ⟨tv, rfl, _⟩ := id o1
    simp (maxSteps := 3000000) only [go_sem, ↓reduceIte, outV]
    refine Cal.mk (r36Close_v ref_rules1 h1 hn hn2) ?_
    rintro _ s2 o2 -
    have J := I.next hA (.inl rfl) (.inl rfl) o1 o2
    have hlt2 := o2.lt
    obtain ⟨tv2, rfl, _⟩ := o2
    simp (maxSteps := 3000000) only [go_sem, ↓reduceIte]
    refine Cal.mk (law36Same_v (Nat.le_trans hln (by decide))) ?_
    rintro _ _ ⟨rfl, rfl⟩ -
    simp (maxSteps := 3000000) only [go_sem, ↓reduceIte]
    exact ⟨_, _, Wk.refl _, hlt2.weak, rfl, _, J⟩
  have e5 := decide_eq_false c5
  by_cases c6 : o.kind % 8 = 6
  · have e6 := decide_eq_true c6
    skip
    simp (maxSteps := 3000000) only [go_sem, ↓reduceIte, e4, e7, e5, e6]
    refine ⟨hk0, ?_⟩
    refine Cal.mk (lcpStart_v hL hn hn2) ?_
    rintro _ s1 o1 -
    have h1 := I.R.tnx ref_rules1 o1.tn hA.x
    have hln := o1.len
    obtain ⟨tv, rfl, _⟩ := id o1
    simp (maxSteps := 3000000) only [go_sem, ↓reduceIte, outV]
    refine Cal.mk (r36Start_v ref_rules1 h1 hn hn2) ?_
    rintro _ s2 o2 -
    have J := I.next hA (.inl rfl) (.inl rfl) o1 o2
    have hlt2 := o2.lt
    obtain ⟨tv2, rfl, _⟩ := o2
    simp (maxSteps := 3000000) only [go_sem, ↓reduceIte]
    refine Cal.mk (law36Same_v (Nat.le_trans hln (by decide))) ?_
    rintro _ _ ⟨rfl, rfl⟩ -
    simp (maxSteps := 3000000) only [go_sem, ↓reduceIte]
    exact ⟨_, _, Wk.refl _, hlt2.weak, rfl, _, J⟩
  have e6 := decide_eq_false c6
  have hg := pktO_good hi ho.l I.R
  simp (maxSteps := 3000000) only [go_sem, ↓reduceIte, e4, e7, e5, e6]
  repeat (apply And.intro; focus (first | omega | (simp; done)))
  refine Cal.mk (law37Packet_v I.R) ?_
  rintro _ _ ⟨⟨t, rfl⟩, rfl⟩ -
  simp (maxSteps := 3000000) only [go_sem, ↓reduceIte]
  refine Cal.mk (lcpTake_v hL (by omega) hn hn2 hg) ?_
  rintro _ s1 o1 -
  have h1 := I.R.tnx ref_rules1 o1.tn hA.x
  have hln := o1.len
  obtain ⟨tv, rfl, _⟩ := id o1
  simp (maxSteps := 3000000) only [go_sem, ↓reduceIte, outV]
  refine Cal.mk (law37Take_v h1 (by omega) hn hn2 hg) ?_
  rintro _ s2 o2 -
  have J := I.next hA (.inr rfl) (.inr rfl) o1 o2
  have hlt2 := o2.lt
  obtain ⟨tv2, rfl, _⟩ := o2
  simp (maxSteps := 3000000) only [go_sem, ↓reduceIte]
  refine Cal.mk (law36Same_v (Nat.le_trans hln (by decide))) ?_
  rintro _ _ ⟨rfl, rfl⟩ -
  simp (maxSteps := 3000000) only [go_sem, ↓reduceIte]
  exact ⟨_, _, Wk.refl _, hlt2.weak, rfl, _, J⟩
end
end
section
open Go
theorem eqW5 {a b c d e} : eqV [.sc (.int .u16 a), .sc (.bool b), .sc (.int .u32 c), .sc (.bool d), .sc (.bool e)] [.sc (.int .u16 a), .sc (.bool b), .sc (.int .u32 c), .sc (.bool d), .sc (.bool e)] = true := by simp [eqV]
section
variable {st : St}
set_option maxRecDepth 100000 in
set_option maxHeartbeats 32000000 in
theorem lcpPlays_v {D : List Int} {l : List LOp} {id : Int} {tk tk2 : Tk} (hD : ∀ x ∈ D, 0 ≤ x ∧ x < 4294967296) (hl : ∀ o ∈ l, o.In) : VCalls Tryz.prog 3 [.sl tk (w4s D), .sl tk2 (lops l), .sc (.int .u8 id)] st fun r s => r = .sc (.bool true) ∧ st = s := by
  refine vcalls_enterq pc3 (Nat.le_of_ble_eq_true rfl) rfl fun hwf hok => ?_
  show Run _ Pc3.body (.fin (finP Pc3.res _)) _ _
  unfold Pc3 zg zo
  have hlt := hwf.lt
  have bb : ∀ b : Bool, (b == b) = true := fun b => by cases b <;> rfl
  by_cases c : D.length ≤ 64
  rotate_left
  · simp (maxSteps := 3000000) only [go_sem, ↓reduceIte, w4s_len, decide_eq_true (show (64 : Int) < (D.length : Int) by omega)]
    exact ⟨_, _, Wk.refl _, hwf.weak, rfl, rfl⟩
  have hG : DrG D 0 := ⟨hD, by omega, by decide, by decide⟩
  simp (maxSteps := 3000000) only [go_sem, ↓reduceIte, w4s_len, decide_eq_false (show ¬ (64 : Int) < (D.length : Int) by omega)]
  refine Cal.mk (law36Great_v (most := 100) (by omega)) ?_
  rintro _ _ ⟨⟨b, rfl, hb⟩, rfl⟩ -
  cases b with
  | true =>
    simp (maxSteps := 3000000) only [go_sem, ↓reduceIte]
    exact ⟨_, _, Wk.refl _, hwf.weak, rfl, rfl⟩
  | false =>
    obtain ⟨hl1, hok1⟩ := hb rfl
    simp (maxSteps := 3000000) only [go_sem, ↓reduceIte]
    refine Cal.mk (law37Draws_v c) ?_
    rintro _ s0 ⟨d, rfl, hDr, hd, W0, L0⟩ -
    have ld : d < s0.sz := by obtain ⟨tk, hb⟩ := hDr; exact L0.box d _ hb
    simp (maxSteps := 3000000) only [go_sem, ↓reduceIte]
    refine Cal.mk (lcpNew_v hDr hG ld) ?_
    rintro _ s1 ⟨a, n, q, rfl, I1, T1, sa, sn, sq⟩ -
    have S0 := W0.sz
    have S1 := T1.sz
    have la := I1.la
    have ln := I1.ng.lt lcp_rules T1.lt
    have ln0 := ln n (by simp)
    have lq0 := ln q (by simp)
    simp (maxSteps := 3000000) only [go_sem, ↓reduceIte]
    refine Cal.mk (rOf_v c) ?_
    rintro _ s2 ⟨d2, rfl, D2, sd2, T2⟩ -
    have S2 := T2.sz
    have ld2 : d2 < s2.sz := by obtain ⟨t, K, hb, _⟩ := D2; exact T2.lt.box d2 _ hb
    simp (maxSteps := 3000000) only [go_sem, ↓reduceIte]
    refine Cal.mk (law37New_v D2 hG ld2) ?_
    rintro _ s3 ⟨n2, rfl, R3, T3, sn2⟩ -
    have hA : Ap a n q d n2 d2 := by
      refine ⟨fun b hb hm => ?_, fun b hb hm => ?_⟩
      · simp only [List.mem_cons, List.not_mem_nil, or_false] at hb hm; omega
      · simp only [List.mem_cons, List.not_mem_nil, or_false] at hb hm; omega
    have I3 := (I1.tn T2).tnx T3 (by
      intro b hb hm; simp only [List.mem_cons, List.not_mem_nil, or_false] at hb hm; omega)
    have W1 := weak_tnF hlt W0 T1 (by simp only [List.mem_singleton]; omega)
    have W2 := weak_tnF hlt W1 T2 (by simp)
    have W3 := weak_tnF hlt W2 T3 (by simp only [List.mem_singleton]; omega)
    have J0 : Two a n q d n2 d2 0 s3 s3 (lcpNew D) := ⟨I3, R3, Tn.refl T3.lt⟩
    have hge : ∀ b ∈ [n, q, d, n2, d2], st.sz ≤ b := by simp only [List.mem_cons, List.not_mem_nil, or_false]; omega
    simp (maxSteps := 3000000) only [go_sem, ↓reduceIte]
    refine run_loop [6, 9, 10, 29, 30, 32, 36, 37, 38, 39, 44, 45, 47, 48, 50, 51, 52, 53, 54, 55, 56, 57, 58, 60, 61, 62, 63, 64, 65, 66, 67, 68, 69, 71, 72, 73, 74, 75, 76, 77, 78, 80, 81, 82, 83, 84, 85] (fun B s => ∃ (i : Nat) (now : Int) (N : Neg Lr), i ≤ l.length ∧ B 10 = .sc (.int .i64 i) ∧ B 9 = .sc (.int .i64 now) ∧ 0 ≤ now ∧ now ≤ 100 * i ∧ Two a n q d n2 d2 i s3 s N) (fun B _ => l.length - vnat (B 10)) rfl ?_ ?_
    · exact ⟨0, 0, _, by omega, rfl, rfl, by omega, by omega, J0⟩
    · rintro B s ⟨i, now, N, hi, h10, h9, n0, n1, J⟩
      by_cases c1 : i < l.length
      · obtain ⟨o, ho⟩ := get_ex c1
        have hin := hl o (List.mem_of_getElem? ho)
        have hok2 := hok1 o (List.mem_of_getElem? ho)
        have t0 := hok2.t0
        have t1 := hok2.t1
        simp (maxSteps := 3000000) only [go_sem, ↓reduceIte, h10, h9, lops_len, lops_at ho, decide_eq_true (show (i : Int) < (l.length : Int) by omega)]
        repeat (apply And.intro; focus (first | omega | (simp; done)))
        refine Cal.mk (law37Step_v hA J (by omega) hin hok2 (now := now + o.ticks) (by omega) (by omega)) ?_
        rintro _ s4 ⟨rfl, N4, J4⟩ -
        obtain ⟨tk4, T04, tl4, last4, r24, hb4, hi4⟩ := J4.R.ex
        rw [hi4.e] at hb4
        unfold refC r1C at hb4
        simp (maxSteps := 3000000) only [go_sem, ↓reduceIte, Bool.not_true, hb4]
        refine Cal.mk (lcpState_v J4.L) ?_
        rintro _ _ ⟨rfl, rfl⟩ -
        simp (maxSteps := 3000000) only [go_sem, ↓reduceIte, hb4]
        refine Cal.mk (lcpOpen_v J4.L) ?_
        rintro _ _ ⟨rfl, rfl⟩ -
        simp (maxSteps := 3000000) only [go_sem, ↓reduceIte, hb4, bb, Bool.not_true]
        refine Cal.mk (lcpMine_v J4.L) ?_
        rintro _ _ ⟨rfl, rfl⟩ -
        simp (maxSteps := 3000000) only [go_sem, ↓reduceIte, hb4, Want.cells, eqW5, Bool.not_true]
        refine Cal.mk (lcpTheirs_v J4.L) ?_
        rintro _ _ ⟨rfl, rfl⟩ -
        simp (maxSteps := 3000000) only [go_sem, ↓reduceIte]
        refine Cal.mk (law37Theirs_v J4.R) ?_
        rintro _ _ ⟨rfl, rfl⟩ -
        simp (maxSteps := 3000000) only [go_sem, ↓reduceIte, Want.cells, eqW5, Bool.not_true, h10]
        repeat (apply And.intro; focus (first | omega | (simp; done)))
        exact ⟨⟨i + 1, _, N4, by omega, by simp, rfl, by omega, by omega, J4⟩, by omega⟩
      · obtain rfl : i = l.length := by omega
        obtain ⟨tk4, T04, tl4, last4, r24, hb4, hi4⟩ := J.R.ex
        have hwg := hi4.wg
        have em : N.r.w.magic % 18446744073709551616 = N.r.w.magic := by have := hwg.g0; have := hwg.g1; omega
        rw [hi4.e] at hb4
        unfold refC r1C at hb4
        simp (maxSteps := 3000000) only [go_sem, ↓reduceIte, h10, lops_len, hb4, em]
        refine Cal.mk (rPut0_v (n := N.r.w.magic) 4 hwg.g0 (by have := hwg.g1; omega) (by decide) (by decide)) ?_
        rintro _ s5 ⟨t5, rfl, R5⟩ -
        have T5 : Tn [] s s5 := Tn.ofWeak R5.weak R5.lt
        have W5 := (weak_tnF hlt (weak_tnF hlt W3 J.T hge) T5 (by simp))
        simp (maxSteps := 3000000) only [go_sem, ↓reduceIte]
        refine Cal.mk (lcpAsk_v (J.L.tn T5) (id := id)) ?_
        rintro _ _ ⟨rfl, rfl⟩ -
        simp (maxSteps := 3000000) only [go_sem, ↓reduceIte, Ctl.v]
        refine Cal.mk (r15SameEq_v (p := ⟨9, id, beL N.r.w.magic 4⟩)) ?_
        rintro _ _ ⟨rfl, rfl⟩ -
        simp (maxSteps := 3000000) only [go_sem, ↓reduceIte]
        refine Cal.mk lcpAlive_v ?_
        rintro _ _ ⟨rfl, rfl⟩ -
        simp (maxSteps := 3000000) only [go_sem, ↓reduceIte]
        exact ⟨_, _, Wk.refl _, W5, rfl, rfl⟩
end
end
section
open Go Go.RowKit
def Pure (w : World) (v : Value) (e : Ending) (w' : World) : Prop := e = .returned v ∧ Below w.heap.size w w'
theorem ret_int {k : IntKind} {a b : Int} (h : a = b) : Ending.returned (.int k a) = .returned (.int k b) := by rw [h]
theorem ret_bool {a b : Bool} (h : a = b) : Ending.returned (.bool a) = .returned (.bool b) := by rw [h]
theorem bcell {W w1 : World} (hb : Below W.heap.size W w1) : (∀ b o, b < W.heap.size → w1.cell? ⟨b, o, none⟩ = W.cell? ⟨b, o, none⟩) ∧ (∀ b o, b < W.heap.size → w1.frozen? ⟨b, o, none⟩ = W.frozen? ⟨b, o, none⟩) :=
  ⟨fun b o h => hb.cell (p := ⟨b, o, none⟩) h, fun b o h => hb.frozen (p := ⟨b, o, none⟩) h⟩
theorem lt_of_cell {w : World} {a : Addr} {v : Value} (h : w.cell? a = some v) : a.block < w.heap.size := by
  rcases Nat.lt_or_ge a.block w.heap.size with hlt | hge
  · exact hlt
  · simp [World.cell?, Array.getElem?_eq_none hge] at h
theorem keep_cell {w w1 : World} {a : Addr} {v : Value} (h : w.cell? a = some v) (hb : Below w.heap.size w w1) : w1.cell? a = some v := (hb.cell (lt_of_cell h)).trans h
theorem below_on {a w w1 : World} (h : Below a.heap.size a w) (h1 : Below w.heap.size w w1) : Below a.heap.size a w1 := h.trans (h1.mono h.size)
theorem below_new {w w1 : World} {o : Obj} (h1 : Below (w.alloc o).heap.size (w.alloc o) w1) : Below w.heap.size w w1 := below_on ((Below.refl _ _).alloc (Nat.le_refl _) _) h1
structure More where
  blocks : List Obj
  count : Nat
instance : Nonempty More := ⟨⟨[], 0⟩⟩
def ext (w : World) (e : More) : World := { w with heap := w.heap ++ e.blocks.toArray, drawn := e.count }
theorem below_ext (w : World) (e : More) : Below w.heap.size w (ext w e) :=
  ⟨rfl, rfl, rfl, by simp [ext], fun k hk => by simp [ext, Array.getElem?_append, hk]⟩
theorem ext_of_below {w w' : World} (h : Below w.heap.size w w') : ∃ e, w' = ext w e := by
  refine ⟨⟨(w'.heap.toList.drop w.heap.size), w'.drawn⟩, ?_⟩
  obtain ⟨h1, h2, h3, h4, h5⟩ := h
  cases w with | mk hp tp dr os out =>
  cases w' with | mk hp' tp' dr' os' out' =>
  simp only at h1 h2 h3 h4 h5
  subst h1 h2 h3
  simp only [ext, World.mk.injEq, and_true]
  apply Array.ext_getElem?
  intro i
  rw [Array.getElem?_append]
  split
  · rename_i hi; exact h5 i hi
  · rename_i hi
    simp only [List.getElem?_toArray, List.getElem?_drop, Array.getElem?_toList]
    congr 1
    omega
theorem calm_of {P : Program} {f : FuncId} {args : Array Value} {w : World} {e : More} {v : Value} (h : Calls P f args (ext w e) (Pure (ext w e) v)) :
    Calls P f args (ext w e) fun en w'' => en = .returned v ∧ ∃ e2, w'' = ext w e2 :=
  h.mono fun _ _ ⟨he, hb⟩ => ⟨he, ext_of_below (below_on (below_ext w e) hb)⟩
theorem calm_same {P : Program} {f : FuncId} {args : Array Value} {w : World} {e : More} {v : Value} (h : Calls P f args (ext w e) fun en w' => en = .returned v ∧ ext w e = w') :
    Calls P f args (ext w e) fun en w'' => en = .returned v ∧ ∃ e2, w'' = ext w e2 :=
  h.mono fun _ _ ⟨he, hb⟩ => ⟨he, e, hb.symm⟩
def Holds (w : World) (L : List (Addr × Value)) : Prop := ∀ p ∈ L, w.cell? p.1 = some p.2
theorem Holds.keep {w w1 : World} {L : List (Addr × Value)} (h : Holds w L) (hb : Below w.heap.size w w1) : Holds w1 L := fun p hp => keep_cell (h p hp) hb
theorem Holds.cons {w : World} {a : Addr} {v : Value} {L : List (Addr × Value)} : Holds w ((a, v) :: L) ↔ w.cell? a = some v ∧ Holds w L := by
  simp [Holds]
theorem Holds.nil {w : World} : Holds w [] ↔ True := by simp [Holds]
theorem Holds.append {w : World} {L M : List (Addr × Value)} (h : Holds w L) (h' : Holds w M) : Holds w (L ++ M) := by
  intro p hp
  rcases List.mem_append.1 hp with hp | hp
  · exact h p hp
  · exact h' p hp
def elemL (b o : Nat) : List Value → List (Addr × Value)
  | [] => []
  | v :: cs => (⟨b, o, none⟩, v) :: elemL b (o + 1) cs
theorem elemL_holds {w : World} {b : Nat} : ∀ (cs : List Value) (o : Nat), (∀ j v, cs[j]? = some v → w.cell? ⟨b, o + j, none⟩ = some v) → Holds w (elemL b o cs)
  | [], _, _ => by simp [elemL, Holds]
  | v :: cs, o, h => by
    rw [elemL, Holds.cons]
    refine ⟨by simpa using h 0 v rfl, elemL_holds cs (o + 1) fun j u hu => ?_⟩
    rw [show o + 1 + j = o + (j + 1) from by omega]
    exact h (j + 1) u (by simpa using hu)
theorem elemL_new (w : World) (cs : Array Value) (t : TypeId) : Holds (w.alloc (.cells cs t)) (elemL w.heap.size 0 cs.toList) :=
  elemL_holds _ _ fun j v hv => by
    simp only [World.cell?, World.alloc, Nat.zero_add, Array.getElem?_push_size]
    simpa using hv
def Elems (w : World) (A : Option Addr) (size : Nat) (xs : List (List Value)) : Prop :=
  ∀ i cs, xs[i]? = some cs → ∃ b o, A = some ⟨b, o, none⟩ ∧ Holds w (elemL b (o + i * size) cs)
theorem Elems.keep {w w1 : World} {A : Option Addr} {size : Nat} {xs : List (List Value)} (h : Elems w A size xs) (hb : Below w.heap.size w w1) : Elems w1 A size xs := fun i cs hi => by
  obtain ⟨b, o, hA, hh⟩ := h i cs hi
  exact ⟨b, o, hA, hh.keep hb⟩
def firstI {α : Type} (h : α → Bool) (l : List α) : Int := match l.findIdx? h with | some i => (i : Int) | none => -1
theorem firstI_at {α : Type} {h : α → Bool} {l : List α} {k : Nat} (hk : k < l.length) (hf : ∀ j, j < k → ∀ x, l[j]? = some x → h x = false) (ht : h l[k] = true) : firstI h l = k := by
  have : l.findIdx? h = some k := by
    rw [List.findIdx?_eq_some_iff_getElem]
    refine ⟨hk, ht, fun j hj => ?_⟩
    have := hf j hj l[j] (List.getElem?_eq_getElem (by omega))
    simp [this]
  rw [firstI, this]
theorem firstI_none {α : Type} {h : α → Bool} {l : List α} (hf : ∀ (j : Nat) (x : α), l[j]? = some x → h x = false) : firstI h l = -1 := by
  have : l.findIdx? h = none := by
    rw [List.findIdx?_eq_none_iff]
    intro x hx
    obtain ⟨j, hj, rfl⟩ := List.mem_iff_getElem.1 hx
    exact hf j _ (List.getElem?_eq_getElem hj)
  rw [firstI, this]
theorem firstI_cases {α : Type} (h : α → Bool) (l : List α) : firstI h l = -1 ∨ ∃ k : Nat, ∃ hk : k < l.length, firstI h l = k ∧ h l[k] = true := by
  unfold firstI
  cases e : l.findIdx? h with
  | none => exact .inl rfl
  | some i =>
    rw [List.findIdx?_eq_some_iff_getElem] at e
    obtain ⟨hi, ht, _⟩ := e
    exact .inr ⟨i, hi, rfl, ht⟩
theorem wp_region_calm {P : Program} {id : Nat} {Q : Exit → Act → World → Prop} {a : Act} {w : World} {l : List Oper} (L : List (Addr × Value)) (hS : Holds w L) (hm : P.follows .mixedOrders = true) (hB : Region.lexB .any l.toArray = true)
    (h : (∀ e, Holds (ext w e) L) → wpQuiet P l.toArray (fun w' => ∃ e, w' = ext w e) (fun a' => ∀ w', Below w.heap.size w w' → Holds w' L → Q .normal a' w') l a) : (Code.region id l.toArray true).wp P Q a w := by
  refine wp_region_quiet (C := fun w' => ∃ e, w' = ext w e) hm hB ⟨⟨[], w.drawn + 1⟩, by simp [ext]⟩ ?_
  have h1 := h fun e => hS.keep (below_ext w e)
  have h2 : ∀ (l : List Oper) (ops : Array Oper) (Q1 Q2 : Act → Prop) (a : Act), (∀ a, Q1 a → Q2 a) → wpQuiet P ops (fun w' => ∃ e, w' = ext w e) Q1 l a → wpQuiet P ops (fun w' => ∃ e, w' = ext w e) Q2 l a := by
    intro l
    induction l with
    | nil => intro _ _ _ a hq h; exact hq _ h
    | cons o l ih =>
      intro ops Q1 Q2 a hq h
      simp only [wpQuiet] at h ⊢
      split at h
      · rename_i hw; rw [if_pos hw]; exact Oper.quiet_mono (fun a ha => ih ops Q1 Q2 a hq ha) h
      · rename_i hw; rw [if_neg hw]; exact ih ops Q1 Q2 _ hq h
  have h3 := h2 l l.toArray _ (fun a' => ∀ w', (∃ e, w' = ext w e) → Q .normal a' w') a (fun a ha w' ⟨e, he⟩ => by subst he; exact ha _ (below_ext w e) (hS.keep (below_ext w e))) h1
  simpa using h3
end
section
open Go Go.RowKit Go.ChangeShapes Go.WideShapes Go.Deep
section
variable {H : Type} {enc : TypeId × Value → H} {P : Program} {w : World} {base : Nat} {spare : Nat → Bool} {held : Bool} {fuel : Nat} {t : TypeId} {cs : List Value} {x : DataW H × List MemPlace}
theorem trod_len {fs : Array Field} (ht : P.underlying t = some (.struct fs)) (h : DataW.trod enc P w base spare held fuel t cs = some x) : cs.length = P.cellsOf t := by
  obtain ⟨_, _, _, _, hl, _⟩ := DataW.trod_struct ht h
  exact hl
theorem trod_field {fs : Array Field} (ht : P.underlying t = some (.struct fs)) (h : DataW.trod enc P w base spare held fuel t cs = some x) (j : Nat) (f : Field) (hj : fs[j]? = some f) :
    ∃ n y, DataW.trod enc P w base spare held n f.type ((cs.drop f.offset).take (P.cellsOf f.type)) = some y := by
  obtain ⟨xs, n, _, _, _, hlen, hf⟩ := DataW.trod_struct ht h
  have h1 := hf j f hj
  have hjl : j < xs.length := by rw [hlen]; exact (Array.getElem?_eq_some_iff.1 hj).1
  exact ⟨n, xs[j], h1.trans (List.getElem?_eq_getElem hjl)⟩
theorem take_one {cs : List Value} {o : Nat} {v : Value} (h : (cs.drop o).take 1 = [v]) : cs[o]? = some v := by
  have : ((cs.drop o).take 1)[0]? = some v := by rw [h]; rfl
  simpa using this
theorem field_int {fs : Array Field} (ht : P.underlying t = some (.struct fs)) (h : DataW.trod enc P w base spare held fuel t cs = some x) (j : Nat) (f : Field) (hj : fs[j]? = some f) {k : IntKind} (hu : P.underlying f.type = some (.int k)) (hc : P.cellsOf f.type = 1) :
    ∃ n, cs[f.offset]? = some (.int k n) ∧ (Lit.int k n).wf = true := by
  obtain ⟨n, y, hy⟩ := trod_field ht h j f hj
  rw [hc] at hy
  obtain ⟨m, e, _, hw⟩ := DataW.trod_int hu hy
  exact ⟨m, take_one e, hw⟩
theorem field_bool {fs : Array Field} (ht : P.underlying t = some (.struct fs)) (h : DataW.trod enc P w base spare held fuel t cs = some x) (j : Nat) (f : Field) (hj : fs[j]? = some f) (hu : P.underlying f.type = some .bool) (hc : P.cellsOf f.type = 1) :
    ∃ b, cs[f.offset]? = some (.bool b) := by
  obtain ⟨n, y, hy⟩ := trod_field ht h j f hj
  rw [hc] at hy
  obtain ⟨m, e, _⟩ := DataW.trod_bool hu hy
  exact ⟨m, take_one e⟩
theorem field_one {fs : Array Field} (ht : P.underlying t = some (.struct fs)) (h : DataW.trod enc P w base spare held fuel t cs = some x) (j : Nat) (f : Field) (hj : fs[j]? = some f) (hc : P.cellsOf f.type = 1) {v : Value} (hv : cs[f.offset]? = some v) :
    ∃ n y, DataW.trod enc P w base spare held n f.type [v] = some y := by
  obtain ⟨n, y, hy⟩ := trod_field ht h j f hj
  rw [hc] at hy
  have : (cs.drop f.offset).take 1 = [v] := by
    obtain ⟨hlt, e⟩ := List.getElem?_eq_some_iff.1 hv
    rw [List.drop_eq_getElem_cons hlt, e]
    rfl
  rw [this] at hy
  exact ⟨n, y, hy⟩
theorem field_sub {fs : Array Field} (ht : P.underlying t = some (.struct fs)) (h : DataW.trod enc P w base spare held fuel t cs = some x) (j : Nat) (f : Field) (hj : fs[j]? = some f) {n : Nat} (hc : P.cellsOf f.type = n) :
    ∃ m y, DataW.trod enc P w base spare held m f.type ((cs.drop f.offset).take n) = some y := by
  subst hc
  exact trod_field ht h j f hj
theorem open_struct {r : Reach} {b0 : Nat} {v : Value} {d : DataW H} {p : List MemPlace} {fs : Array Field} (ht : P.underlying t = some (.struct fs)) (hv : Value.okWide P w r b0 t v) (h : DataW.Trod enc P w base spare held t v d p) :
    ∃ (cs : List Value) (fuel : Nat), v = .agg cs.toArray ∧ DataW.trod enc P w base spare held fuel t cs = some (d, p) := by
  obtain ⟨cs, rfl, _⟩ := okWide_struct ht hv
  obtain ⟨fuel, hf⟩ := h
  exact ⟨cs.toList, fuel, rfl, hf⟩
theorem list_of {α : Type} {Q : Nat → α → Prop} : ∀ (n : Nat), (∀ i, i < n → ∃ r, Q i r) → ∃ l : List α, l.length = n ∧ ∀ (i : Nat) (r : α), l[i]? = some r → Q i r
  | 0, _ => ⟨[], rfl, by simp⟩
  | n + 1, h => by
    obtain ⟨l, hl, hq⟩ := list_of n (fun i hi => h i (by omega))
    obtain ⟨r, hr⟩ := h n (by omega)
    refine ⟨l ++ [r], by simp [hl], fun i r' hi => ?_⟩
    rw [List.getElem?_append] at hi
    split at hi
    · exact hq i r' hi
    · rename_i hge
      obtain rfl : i = n := by
        have := (List.getElem?_eq_some_iff.1 hi).1
        simp at this
        omega
      simp [hl] at hi
      subst hi
      exact hr
theorem open_elems {e : TypeId} {size : Nat} {v : Value} (ht : P.underlying t = some (.slice e)) (hc : P.cellsOf e = size) (hs : 0 < size) (h : DataW.trod enc P w base spare held fuel t [v] = some x) :
    ∃ A len cap, v = .slice A len cap ∧ len ≤ cap ∧ cap ≤ maxLen ∧ (A = none → len = 0 ∧ cap = 0) ∧
      ∀ i, i < len → ∃ b o cs n y, A = some ⟨b, o, none⟩ ∧ cs.length = size ∧ Holds w (elemL b (o + i * size) cs) ∧ DataW.trod enc P w base spare held n e cs = some y := by
  rcases open_slice ht h with ⟨e1, _⟩ | ⟨a, len, cap, m, n, D, Pl, e1, hb, hl, hm, hmm, _, hi⟩
  · cases e1
    exact ⟨none, 0, 0, rfl, by omega, by omega, fun _ => ⟨rfl, rfl⟩, fun i hi => by omega⟩
  · cases e1
    refine ⟨some a, len, cap, rfl, hl, hm, (by intro h; cases h), fun i hil => ?_⟩
    obtain ⟨cs', hcs, ht'⟩ := hi i (by rw [hmm]; split <;> omega)
    rw [hc] at hcs
    obtain ⟨_, hlen, hcell⟩ := World.cells?_some hcs
    have h0 := hcell 0 hs
    have hlt0 : 0 < cs'.length := by omega
    rw [List.getElem?_eq_getElem hlt0] at h0
    have hspot := World.cell?_spot h0
    obtain ⟨b, o, sp⟩ := a
    have hsp : sp = none := by
      by_cases hz : i * size = 0
      · simpa [Addr.add, hz] using hspot
      · rcases Nat.eq_zero_or_pos i with h0' | h0'
        · simp [h0'] at hz
        · obtain ⟨cs0, hcs0, _⟩ := hi 0 (by rw [hmm]; split <;> omega)
          rw [hc] at hcs0
          obtain ⟨_, hlen0, hcell0⟩ := World.cells?_some hcs0
          have h00 := hcell0 0 hs
          rw [List.getElem?_eq_getElem (by omega)] at h00
          simpa [Addr.add] using World.cell?_spot h00
    subst hsp
    refine ⟨b, o, cs', n, _, rfl, hlen, elemL_holds _ _ fun j u hu => ?_, ht'⟩
    have hj : j < size := by have := (List.getElem?_eq_some_iff.1 hu).1; omega
    have := (hcell j hj).trans hu
    have ea : ((⟨b, o, none⟩ : Addr).add (i * size)).add j = ⟨b, o + i * size + j, none⟩ := by
      unfold Addr.add
      by_cases h1 : i * size = 0 <;> by_cases h2 : j = 0 <;> simp [h1, h2]
    rwa [ea] at this
end
structure ArgIn {H : Type} (enc : TypeId × Value → H) (P : Program) (W : World) (base : Nat) (t : TypeId) (v : Value) (d : DataW H) (p : List MemPlace) : Prop where
  wide : Value.okWide P W .any base t v
  trod : DataW.Trod enc P W 0 (fun _ => true) true t v d p
section
variable {H : Type} {enc : TypeId × Value → H} {P : Program} {W : World} {base : Nat} {t : TypeId} {v : Value} {d : DataW H} {p : List MemPlace}
theorem ArgIn.slice {e : TypeId} (h : ArgIn enc P W base t v d p) (ht : P.underlying t = some (.slice e)) :
    ∃ A l c fuel, v = .slice A l c ∧ DataW.trod enc P W 0 (fun _ => true) true fuel t [.slice A l c] = some (d, p) := by
  obtain ⟨A, l, c, rfl⟩ := okWide_slice ht h.wide
  obtain ⟨fuel, hf⟩ := h.trod
  exact ⟨A, l, c, fuel, rfl, hf⟩
theorem ArgIn.struct {fs : Array Field} (h : ArgIn enc P W base t v d p) (ht : P.underlying t = some (.struct fs)) :
    ∃ (cs : List Value) (fuel : Nat), v = .agg cs.toArray ∧ DataW.trod enc P W 0 (fun _ => true) true fuel t cs = some (d, p) :=
  open_struct ht h.wide h.trod
theorem ArgIn.int {k : IntKind} (h : ArgIn enc P W base t v d p) (ht : P.underlying t = some (.int k)) : ∃ n, v = .int k n ∧ (Lit.int k n).wf = true := by
  obtain ⟨n, rfl, _, _, hw⟩ := open_int ht h.wide h.trod
  exact ⟨n, rfl, hw⟩
theorem ArgIn.bool (h : ArgIn enc P W base t v d p) (ht : P.underlying t = some .bool) : ∃ b, v = .bool b := by
  obtain ⟨b, rfl, _⟩ := open_bool ht h.wide h.trod
  exact ⟨b, rfl⟩
theorem ArgIn.string (h : ArgIn enc P W base t v d p) (ht : P.underlying t = some .string) : ∃ s : ByteArray, v = .string s ∧ s.size ≤ maxLen := by
  obtain ⟨s, rfl, _, _, hs⟩ := Go.ChangeMaps.open_string ht h.wide h.trod
  exact ⟨s, rfl, hs⟩
end
theorem calls_args {P : Program} {f : FuncId} {args args' : Array Value} {W : World} {R : Ending → World → Prop} (h : Calls P f args W R) (e : args' = args) : Calls P f args' W R := e ▸ h
end
section
open Go Go.RowKit Go.ChangeShapes Go.WideShapes Go.Deep
theorem elemL_get {w : World} {b : Nat} : ∀ {cs : List Value} {o : Nat} (_ : Holds w (elemL b o cs)) {j : Nat} {v : Value} (_ : cs[j]? = some v), w.cell? ⟨b, o + j, none⟩ = some v
  | [], _, _, _, _, h => by simp at h
  | c :: cs, o, hh, j, v, h => by
    rw [elemL, Holds.cons] at hh
    cases j with
    | zero => simp at h; subst h; exact hh.1
    | succ j => rw [show o + (j + 1) = o + 1 + j by omega]; exact elemL_get hh.2 (by simpa using h)
inductive Sh where
  | int (k : IntKind)
  | bool
  | str
  | sl (s : Sh)
  | st (l : List Sh)
def shFields (P : Program) (g : TypeId → Option Sh) : Nat → List Field → Option (List Sh)
  | _, [] => some []
  | o, f :: fs => if f.offset = o then do
      let s ← g f.type
      let l ← shFields P g (o + P.cellsOf f.type) fs
      pure (s :: l)
    else none
def fieldsEnd (P : Program) : Nat → List Field → Nat
  | o, [] => o
  | o, f :: fs => fieldsEnd P (o + P.cellsOf f.type) fs
def shOf (P : Program) : Nat → TypeId → Option Sh
  | 0, _ => none
  | n + 1, t => match P.underlying t with
    | some (.int k) => if P.cellsOf t = 1 then some (.int k) else none
    | some .bool => if P.cellsOf t = 1 then some .bool else none
    | some .string => if P.cellsOf t = 1 then some .str else none
    | some (.slice e) => if P.cellsOf t = 1 ∧ 0 < P.cellsOf e then (shOf P n e).map .sl else none
    | some (.struct fs) => if fieldsEnd P 0 fs.toList = P.cellsOf t then (shFields P (shOf P n) 0 fs.toList).map .st else none
    | some (.array k e) => if k * P.cellsOf e = P.cellsOf t then (shOf P n e).map fun s => .st (List.replicate k s) else none
    | _ => none
def Sh.pack : Sh → List V → V
  | .st _, ds => .agg ds
  | _, d :: _ => d
  | _, [] => .und
mutual
inductive Sh.Has : Sh → List V → Prop where
  | int (k : IntKind) (n : Int) (h : (Lit.int k n).wf = true) : Sh.Has (.int k) [.sc (.int k n)]
  | bool (b : Bool) : Sh.Has .bool [.sc (.bool b)]
  | str (s : ByteArray) (h : s.size ≤ maxLen) : Sh.Has .str [.sc (.string s)]
  | sl (s : Sh) (l : List V) (h : Sh.Hasl s l) : Sh.Has (.sl s) [.sl .no l]
  | st (l : List Sh) (ds : List V) (h : Sh.Hass l ds) : Sh.Has (.st l) ds
inductive Sh.Hasl : Sh → List V → Prop where
  | nil (s : Sh) : Sh.Hasl s []
  | cons (s : Sh) (ds l : List V) (h : Sh.Has s ds) (k : Sh.Hasl s l) : Sh.Hasl s (s.pack ds :: l)
inductive Sh.Hass : List Sh → List V → Prop where
  | nil : Sh.Hass [] []
  | cons (s : Sh) (l : List Sh) (a b : List V) (h : Sh.Has s a) (k : Sh.Hass l b) : Sh.Hass (s :: l) (a ++ b)
end
theorem hasl_of {s : Sh} : ∀ (l : List V), (∀ d, d ∈ l → ∃ ds, d = s.pack ds ∧ Sh.Has s ds) → Sh.Hasl s l
  | [], _ => .nil s
  | d :: l, h => by
    obtain ⟨ds, rfl, hd⟩ := h d (List.mem_cons_self ..)
    exact .cons s ds l hd (hasl_of l fun e he => h e (List.mem_cons_of_mem _ he))
def ghOf (w : World) : Gh := ⟨fun b o => w.cell? ⟨b, o, none⟩, fun _ => none⟩
def RepR (G : Gh) (ds : List V) (cs : List Value) : Prop := ds.length = cs.length ∧ (∀ v ∈ cs, v.oneCell' = true) ∧ (∀ (i : Nat) (d : V) (v : Value), ds[i]? = some d → cs[i]? = some v → Rep1 G d v) ∧ ∀ d ∈ ds, d.cells = [d]
theorem RepR.one {G : Gh} {d : V} {v : Value} (h : Rep1 G d v) (h1 : v.oneCell' = true) (h2 : d.cells = [d]) : RepR G [d] [v] :=
  ⟨rfl, by simpa using h1, fun i d' v' hd hv => by
    cases i with
    | zero => simp at hd hv; subst hd hv; exact h
    | succ i => simp at hd, by simpa using h2⟩
theorem RepR.append {G : Gh} {a b : List V} {c d : List Value} (h : RepR G a c) (k : RepR G b d) : RepR G (a ++ b) (c ++ d) :=
  ⟨by simp [h.1, k.1], fun v hv => by
    rcases List.mem_append.1 hv with h' | h'
    · exact h.2.1 v h'
    · exact k.2.1 v h', fun i x v hx hv => by
    rw [List.getElem?_append] at hx hv
    rw [← h.1] at hv
    split at hx
    · rename_i hlt
      rw [if_pos hlt] at hv
      exact h.2.2.1 i x v hx hv
    · rename_i hlt
      rw [if_neg hlt] at hv
      exact k.2.2.1 _ x v hx hv, fun x hx => by
    rcases List.mem_append.1 hx with h' | h'
    · exact h.2.2.2 x h'
    · exact k.2.2.2 x h'⟩
theorem pack_cells {s : Sh} {ds : List V} (h : s.Has ds) (hc : ∀ d ∈ ds, d.cells = [d]) : (s.pack ds).cells = ds := by
  cases h with
  | int => rfl
  | bool => rfl
  | str => rfl
  | sl => rfl
  | st => rfl
section
variable {H : Type} {enc : TypeId × Value → H} {P : Program} {w : World} {base : Nat} {spare : Nat → Bool} {held : Bool}
theorem open_sh : ∀ (n : Nat) {t : TypeId} {s : Sh} (_ : shOf P n t = some s) {fuel : Nat} {cs : List Value} {x : DataW H × List MemPlace} (_ : DataW.trod enc P w base spare held fuel t cs = some x),
    ∃ ds, s.Has ds ∧ RepR (ghOf w) ds cs ∧ cs.length = P.cellsOf t
  | 0, _, _, hs, _, _, _, _ => by simp [shOf] at hs
  | n + 1, t, s, hs, fuel, cs, x, h => by
    unfold shOf at hs
    split at hs
    · rename_i k hu
      split at hs
      · rename_i hc
        cases hs
        obtain ⟨m, rfl, _, hw⟩ := DataW.trod_int hu h
        exact ⟨_, .int k m hw, .one (.sc _ rfl) rfl rfl, by rw [hc]; rfl⟩
      · cases hs
    · rename_i hu
      split at hs
      · rename_i hc
        cases hs
        obtain ⟨m, rfl, _⟩ := DataW.trod_bool hu h
        exact ⟨_, .bool m, .one (.sc _ rfl) rfl rfl, by rw [hc]; rfl⟩
      · cases hs
    · rename_i hu
      split at hs
      · rename_i hc
        cases hs
        obtain ⟨m, rfl, _, hm⟩ := DataW.trod_string hu h
        exact ⟨_, .str m hm, .one (.sc _ rfl) rfl rfl, by rw [hc]; rfl⟩
      · cases hs
    · rename_i e hu
      split at hs
      · rename_i hc
        obtain ⟨s', hs', rfl⟩ := Option.map_eq_some_iff.1 hs
        have hlen1 : ∃ v, cs = [v] := by
          rcases DataW.trod_slice hu h with ⟨rfl, _⟩ | ⟨a, len, cap, _, _, _, _, rfl, _⟩
          · exact ⟨_, rfl⟩
          · exact ⟨_, rfl⟩
        obtain ⟨v, rfl⟩ := hlen1
        obtain ⟨A, len, cap, rfl, hle, hm, hA, hel⟩ := open_elems hu rfl hc.2 h
        obtain ⟨l, hl, hq⟩ := list_of (Q := fun i (p : V × List Value) => ∃ b o, A = some ⟨b, o, none⟩ ∧ p.2.length = P.cellsOf e ∧ Holds w (elemL b (o + i * P.cellsOf e) p.2) ∧ ∃ ds, p.1 = s'.pack ds ∧ s'.Has ds ∧ RepR (ghOf w) ds p.2) len (fun i hi => by
          obtain ⟨b, o, cs', n', y, hA', hlen, hh, ht⟩ := hel i hi
          obtain ⟨ds, k1, k2, k3⟩ := open_sh n hs' ht
          exact ⟨(s'.pack ds, cs'), b, o, hA', hlen, hh, ds, rfl, k1, k2⟩)
        refine ⟨[.sl .no (l.map (·.1))], .sl s' _ (hasl_of _ fun d hd => ?_), .one ?_ rfl rfl, by rw [hc.1]; rfl⟩
        · obtain ⟨p, hp, rfl⟩ := List.mem_map.1 hd
          obtain ⟨i, hi, rfl⟩ := List.mem_iff_getElem.1 hp
          obtain ⟨_, _, _, _, _, ds, k1, k2, _⟩ := hq i _ (List.getElem?_eq_getElem hi)
          exact ⟨ds, k1, k2⟩
        · cases A with
          | none =>
            obtain ⟨rfl, rfl⟩ := hA rfl
            obtain rfl := List.eq_nil_of_length_eq_zero hl
            exact .nil .no (fun g k e => by cases e)
          | some a =>
            by_cases h0 : len = 0
            · subst h0
              obtain rfl := List.eq_nil_of_length_eq_zero hl
              exact .emp a cap hm
            · obtain ⟨b, o, _, _, _, hA', _⟩ := hel 0 (by omega)
              cases hA'
              have hlm : len = (l.map (·.1)).length := by simp [hl]
              rw [hlm]
              refine .sl .no _ b o (P.cellsOf e) cap (fun i j => ((l[i]?.map (·.2)).getD []).getD j default) (fun i d hd => ?_) (fun i j hi hj => ?_) (fun i j hi hj => ?_) (fun i d j c hd hc' => ?_) (by simp; omega) hm (by simp) (fun g k e => by cases e)
              · rw [List.getElem?_map] at hd
                obtain ⟨p, hp, rfl⟩ := Option.map_eq_some_iff.1 hd
                obtain ⟨_, _, _, k1, _, ds, k2, k3, k4⟩ := hq i p hp
                rw [k2, pack_cells k3 k4.2.2.2, k4.1, k1]
              · obtain ⟨p, hp⟩ : ∃ p, l[i]? = some p := ⟨_, List.getElem?_eq_getElem (by simpa using hi)⟩
                obtain ⟨b', o', e', k1, k0, ds, k2, k3, k4⟩ := hq i p hp
                cases e'
                have hj' : j < p.2.length := by omega
                simp only [hp, Option.map_some, Option.getD_some, ghOf]
                have := elemL_get k0 (List.getElem?_eq_getElem hj')
                rw [this]
                simp [List.getD, hj']
              · obtain ⟨p, hp⟩ : ∃ p, l[i]? = some p := ⟨_, List.getElem?_eq_getElem (by simpa using hi)⟩
                obtain ⟨b', o', e', k1, k0, ds, k2, k3, k4⟩ := hq i p hp
                have hj' : j < p.2.length := by omega
                simp only [hp, Option.map_some, Option.getD_some]
                simp only [List.getD, List.getElem?_eq_getElem hj', Option.getD_some]
                exact k4.2.1 _ (List.getElem_mem hj')
              · rw [List.getElem?_map] at hd
                obtain ⟨p, hp, rfl⟩ := Option.map_eq_some_iff.1 hd
                obtain ⟨_, _, _, k1, _, ds, k2, k3, k4⟩ := hq i p hp
                rw [k2, pack_cells k3 k4.2.2.2] at hc'
                have hj' : j < p.2.length := by rw [← k4.1]; exact (List.getElem?_eq_some_iff.1 hc').1
                simp only [hp, Option.map_some, Option.getD_some]
                simp only [List.getD, List.getElem?_eq_getElem hj', Option.getD_some]
                exact k4.2.2.1 j c _ hc' (List.getElem?_eq_getElem hj')
      · cases hs
    · rename_i fs hu
      split at hs
      · rename_i hend
        obtain ⟨ss, hss, rfl⟩ := Option.map_eq_some_iff.1 hs
        have hl := trod_len hu h
        have key : ∀ (gs : List Field) (j0 o : Nat) (ss : List Sh), (∀ i f, gs[i]? = some f → fs[j0 + i]? = some f) → shFields P (shOf P n) o gs = some ss → fieldsEnd P o gs = cs.length →
            ∃ ds, Sh.Hass ss ds ∧ RepR (ghOf w) ds (cs.drop o) := by
          intro gs
          induction gs with
          | nil =>
            intro j0 o ss _ hss he
            simp only [shFields, Option.some.injEq] at hss
            subst hss
            simp only [fieldsEnd] at he
            exact ⟨[], .nil, by rw [List.drop_of_length_le (by omega)]; exact ⟨rfl, by simp, by simp, by simp⟩⟩
          | cons f gs ih =>
            intro j0 o ss hg hss he
            simp only [shFields] at hss
            split at hss
            · rename_i hof
              simp only [Option.bind_eq_bind, Option.bind_eq_some_iff] at hss
              obtain ⟨s0, h0, ss', h1, h2⟩ := hss
              cases h2
              simp only [fieldsEnd] at he
              obtain ⟨ds', k1, k2⟩ := ih (j0 + 1) _ ss' (fun i g hi => by rw [show j0 + 1 + i = j0 + (i + 1) by omega]; exact hg (i + 1) g (by simpa using hi)) h1 he
              obtain ⟨m, y, hy⟩ := trod_field hu h j0 f (by simpa using hg 0 f rfl)
              rw [hof] at hy
              obtain ⟨ds0, q1, q2, q3⟩ := open_sh n h0 hy
              refine ⟨ds0 ++ ds', .cons _ _ _ _ q1 k1, ?_⟩
              have := q2.append k2
              rwa [← List.drop_drop, List.take_append_drop] at this
            · cases hss
        obtain ⟨ds, k1, k2⟩ := key fs.toList 0 0 ss (fun i f hf => by simpa using hf) hss (by rw [hend, hl])
        exact ⟨ds, .st _ _ k1, by simpa using k2, hl⟩
      · cases hs
    · rename_i k e hu
      split at hs
      · rename_i hend
        obtain ⟨s', hs', rfl⟩ := Option.map_eq_some_iff.1 hs
        obtain ⟨xs, m, _, _, hl, hxl, hget⟩ := DataW.trod_array hu h
        have key : ∀ (j i : Nat), i + j = k → ∃ ds, Sh.Hass (List.replicate j s') ds ∧ RepR (ghOf w) ds (cs.drop (i * P.cellsOf e)) := by
          intro j
          induction j with
          | zero =>
            intro i hij
            refine ⟨[], .nil, ?_⟩
            have : i = k := by omega
            subst this
            rw [List.drop_of_length_le (by omega)]
            exact ⟨rfl, by simp, by simp, by simp⟩
          | succ j ih =>
            intro i hij
            obtain ⟨ds', k1, k2⟩ := ih (i + 1) (by omega)
            have hlt : i < xs.length := by omega
            have hy := hget i (by omega)
            rw [List.getElem?_eq_getElem hlt] at hy
            obtain ⟨ds0, q1, q2, q3⟩ := open_sh n hs' hy
            refine ⟨ds0 ++ ds', .cons _ _ _ _ q1 k1, ?_⟩
            have := q2.append k2
            rwa [Nat.add_mul, Nat.one_mul, ← List.drop_drop, List.take_append_drop] at this
        obtain ⟨ds, k1, k2⟩ := key k 0 (by omega)
        exact ⟨ds, .st _ _ k1, by simpa using k2, hl⟩
      · cases hs
    · cases hs
theorem RepR.agg {G : Gh} {ds : List V} {cs : List Value} (h : RepR G ds cs) : Rep1 G (.agg ds) (.agg cs.toArray) :=
  .agg ds _ (by simp [h.1]) (fun i v hv => h.2.1 v (List.mem_of_getElem? (by simpa using hv))) (fun i c v hc hv => h.2.2.1 i c v hc (by simpa using hv))
theorem RepR.head {G : Gh} {d : V} {v : Value} (h : RepR G [d] [v]) : Rep1 G d v := h.2.2.1 0 d v rfl rfl
theorem arg_sh {W : World} (n : Nat) {t : TypeId} {s : Sh} {v : Value} {d : DataW H} {p : List MemPlace} (hs : shOf P n t = some s) (h : ArgIn enc P W base t v d p) : ∃ ds, s.Has ds ∧ Rep1 (ghOf W) (s.pack ds) v := by
  cases n with
  | zero => simp [shOf] at hs
  | succ n =>
  have hs0 := hs
  unfold shOf at hs
  split at hs
  · rename_i k hu
    split at hs
    · cases hs
      obtain ⟨m, rfl, hw⟩ := h.int hu
      exact ⟨_, .int k m hw, .sc _ rfl⟩
    · cases hs
  · rename_i hu
    split at hs
    · cases hs
      obtain ⟨b, rfl⟩ := h.bool hu
      exact ⟨_, .bool b, .sc _ rfl⟩
    · cases hs
  · rename_i hu
    split at hs
    · cases hs
      obtain ⟨b, rfl, hm⟩ := h.string hu
      exact ⟨_, .str b hm, .sc _ rfl⟩
    · cases hs
  · rename_i e hu
    split at hs
    · obtain ⟨s', hs', rfl⟩ := Option.map_eq_some_iff.1 hs
      obtain ⟨A, l, c, fuel, rfl, ht⟩ := h.slice hu
      obtain ⟨ds, k1, k2, _⟩ := open_sh _ hs0 ht
      refine ⟨ds, k1, ?_⟩
      cases k1 with
      | sl _ l' h' => exact k2.head
    · cases hs
  · rename_i fs hu
    split at hs
    · obtain ⟨ss, hss, rfl⟩ := Option.map_eq_some_iff.1 hs
      obtain ⟨cs, fuel, rfl, ht⟩ := h.struct hu
      obtain ⟨ds, k1, k2, _⟩ := open_sh _ hs0 ht
      exact ⟨ds, k1, k2.agg⟩
    · cases hs
  · rename_i k e hu
    split at hs
    · obtain ⟨s', hs', rfl⟩ := Option.map_eq_some_iff.1 hs
      have hwd := h.wide
      simp only [Value.okWide, hu] at hwd
      obtain ⟨cs, rfl, _⟩ := hwd
      obtain ⟨fuel, ht⟩ := h.trod
      obtain ⟨ds, k1, k2, _⟩ := open_sh _ hs0 ht
      have ha := k2.agg
      rw [show (Value.agg cs).cells.toList.toArray = cs from by simp [Value.cells]] at ha
      exact ⟨ds, k1, ha⟩
    · cases hs
  · cases hs
end
def st0 (w : World) : St := ⟨fun _ => none, fun _ => none, w.heap.size⟩
theorem repW0 (w : World) : RepW (Fr.of w) (ghOf w) (st0 w) w :=
  ⟨fun _ _ _ h => h, fun _ _ h => (by cases h), fun _ _ h => (by cases h), fun _ _ h => (by cases h), Nat.le_refl _, Below.refl _ _, fun _ _ h => (by cases h)⟩
theorem v_calls {P : Program} {f : FuncId} {args : List V} {us : Array Value} {w : World} (h : VCalls P f args (st0 w) fun r _ => r = .sc (.bool true)) (hl : us.size = args.length)
    (hr : ∀ (i : Nat) (d : V) (u : Value), args[i]? = some d → us[i]? = some u → Rep1 (ghOf w) d u) : Calls P f us w (Pure w (.bool true)) :=
  (h (Fr.of w) (ghOf w) w us (repW0 w) hl hr).mono fun e w' ⟨u, r, st', G', h1, h2, h3, _, h5⟩ => by
    subst h2
    cases h3
    exact ⟨h1, h5.bel⟩
theorem reps1 {G : Gh} {d : V} {u : Value} (h : Rep1 G d u) : ∀ (i : Nat) (x : V) (v : Value), [d][i]? = some x → #[u][i]? = some v → Rep1 G x v := fun i x v hx hv => by
  cases i with
  | zero => simp at hx hv; subst hx hv; exact h
  | succ i => simp at hx
theorem reps2 {G : Gh} {d e : V} {u q : Value} (h : Rep1 G d u) (k : Rep1 G e q) : ∀ (i : Nat) (x : V) (v : Value), [d, e][i]? = some x → #[u, q][i]? = some v → Rep1 G x v := fun i x v hx hv => by
  match i with
  | 0 => simp at hx hv; subst hx hv; exact h
  | 1 => simp at hx hv; subst hx hv; exact k
  | i + 2 => simp at hx
theorem reps3 {G : Gh} {d e f : V} {u q r : Value} (h : Rep1 G d u) (k : Rep1 G e q) (l : Rep1 G f r) : ∀ (i : Nat) (x : V) (v : Value), [d, e, f][i]? = some x → #[u, q, r][i]? = some v → Rep1 G x v := fun i x v hx hv => by
  match i with
  | 0 => simp at hx hv; subst hx hv; exact h
  | 1 => simp at hx hv; subst hx hv; exact k
  | 2 => simp at hx hv; subst hx hv; exact l
  | i + 3 => simp at hx
end
section
open Go Go.RowKit
theorem own : ownKnob Tryz.prog.godebug = none := by kernel_rfl
theorem laidOut : laidOutB Tryz.prog = true := by kernel_rfl
theorem u8_wf {n : Int} (h : (Lit.int .u8 n).wf = true) : 0 ≤ n ∧ n < 256 := by have := bounds_u8 h; omega
theorem hasl_bytes : ∀ {l : List V}, Sh.Hasl (.int .u8) l → ∃ L, IsB L ∧ l = bs L := by
  intro l
  induction l with
  | nil => exact fun _ => ⟨[], by intro x hx; (cases hx), rfl⟩
  | cons d l ih =>
    intro h
    cases h with
    | cons _ ds _ h k =>
      obtain ⟨L, hB, rfl⟩ := ih k
      cases h with
      | int _ n hw => exact ⟨n :: L, by
          intro x hx
          rcases List.mem_cons.1 hx with rfl | hx
          · exact u8_wf hw
          · exact hB x hx, rfl⟩
theorem has_bytes {ds : List V} (h : Sh.Has (.sl (.int .u8)) ds) : ∃ L, IsB L ∧ ds = [.sl .no (bs L)] := by
  cases h with
  | sl _ l h =>
    obtain ⟨L, hB, rfl⟩ := hasl_bytes h
    exact ⟨L, hB, rfl⟩
end
section
open Go Go.RowKit
theorem hass_nil {ds : List V} (h : Sh.Hass [] ds) : ds = [] := by cases h; rfl
theorem hass_int {k : IntKind} {l : List Sh} {ds : List V} (h : Sh.Hass (.int k :: l) ds) : ∃ n b, ds = .sc (.int k n) :: b ∧ (Lit.int k n).wf = true ∧ Sh.Hass l b := by
  cases h with
  | cons _ _ a b h0 h1 =>
    cases h0 with
    | int _ n hw => exact ⟨n, b, rfl, hw, h1⟩
theorem hass_bool {l : List Sh} {ds : List V} (h : Sh.Hass (.bool :: l) ds) : ∃ n b, ds = .sc (.bool n) :: b ∧ Sh.Hass l b := by
  cases h with
  | cons _ _ a b h0 h1 =>
    cases h0 with
    | bool n => exact ⟨n, b, rfl, h1⟩
theorem hass_str {l : List Sh} {ds : List V} (h : Sh.Hass (.str :: l) ds) : ∃ n b, ds = .sc (.string n) :: b ∧ n.size ≤ maxLen ∧ Sh.Hass l b := by
  cases h with
  | cons _ _ a b h0 h1 =>
    cases h0 with
    | str n hn => exact ⟨n, b, rfl, hn, h1⟩
theorem hass_st {m l : List Sh} {ds : List V} (h : Sh.Hass (.st m :: l) ds) : ∃ a b, ds = a ++ b ∧ Sh.Hass m a ∧ Sh.Hass l b := by
  cases h with
  | cons _ _ a b h0 h1 =>
    cases h0 with
    | st _ _ h => exact ⟨a, b, rfl, h, h1⟩
theorem has_st {l : List Sh} {ds : List V} (h : Sh.Has (.st l) ds) : Sh.Hass l ds := by
  cases h with
  | st _ _ h => exact h
theorem hasl_map {α : Type} {s : Sh} (f : α → V) (ok : α → Prop) (h1 : ∀ ds, Sh.Has s ds → ∃ a, ok a ∧ s.pack ds = f a) : ∀ {l : List V}, Sh.Hasl s l → ∃ L : List α, (∀ a ∈ L, ok a) ∧ l = L.map f := by
  intro l
  induction l with
  | nil => exact fun _ => ⟨[], by intro x hx; (cases hx), rfl⟩
  | cons d l ih =>
    intro h
    cases h with
    | cons _ ds _ h k =>
      obtain ⟨L, hB, rfl⟩ := ih k
      obtain ⟨a, ha, e⟩ := h1 ds h
      exact ⟨a :: L, by
          intro x hx
          rcases List.mem_cons.1 hx with rfl | hx
          · exact ha
          · exact hB x hx, by rw [e]; rfl⟩
theorem has_slmap {α : Type} {s : Sh} {f : α → V} {ok : α → Prop} (h1 : ∀ ds, Sh.Has s ds → ∃ a, ok a ∧ s.pack ds = f a) {ds : List V} (h : Sh.Has (.sl s) ds) : ∃ L : List α, (∀ a ∈ L, ok a) ∧ ds = [.sl .no (L.map f)] := by
  cases h with
  | sl _ l h =>
    obtain ⟨L, hB, rfl⟩ := hasl_map f ok h1 h
    exact ⟨L, hB, rfl⟩
end
end Go.Proofs.YtmmapbojjgpggaaGreat
