/- Steps of the proof, joined: VSortC3, VSortC4, VSortC5, VSortC6, VSortB0, VSortB, VSortC7, VSortF, VJoin1, VJoin2, VJoin3, VMp. -/
import Derived.Test.YtlngegoamfklgaaZwa
import Derived.Test.YtlngegoamfklgaaZeb
import Derived.Test.YtlngegoamfklgaaVc
namespace Go.Proofs.Ytlngegoamfklgaa
open Go
attribute [local go_sem] run_skip run_reg run_seq run_blk run_exit run_ret run_cond if_true if_false at_code_n at_code_x at_code_r at_blk_n at_blk_x at_blk_r at_rnd_n at_rnd_x at_rnd_r at_fin_n at_fin_r ops_nil ops_grd grd_und grd_tt grd_ff grd_tf grd_ft ops_mv ops_pick ops_bin ops_un ops_binb ops_eqs ops_isnil ops_pnil ops_b2s ops_s2b ops_b2sB ops_s2a ops_slcA ops_aidx vaidx vb2sB vs2a vslcA ops_sidx vs2b vsidx srcX ops_appx apx_mk ops_mks ops_mko mks_int mko_int vbinb veqs visnil vpnil vb2s ops_conv ops_fld ops_ix ops_ixa ops_load ops_nilck ops_ext ops_len ops_slen ops_mn ops_mx ops_bld ops_bsl ops_slc ops_sslc ops_box ops_alc ops_alcX ops_boxX ops_bslo ops_store ops_app ops_call ev_t ev_c put_get put_none opv_mk stb_some sto_ptr over_get rel_mk vnat Bx Stp vbld vbsl put_box_same put_box_ne put_sz put_own use_box use_sz put_put args0 List.getD_cons_zero List.getD_cons_succ List.getD_nil vpick vbin vbinI vbinS vun vconv norm vfld vnil vlen vslen vext vmm vix vixa vload takeV takeB mono_nil mono_two mono_sc mono_any mono_und mono_sl mono_agg mono_ep vmlk vmlen vmnil vent vmfn allSc vslc3 kOk fitsV ops_mlk ops_mlen ops_mnil ops_ent ops_mfn ops_slc3 ops_mkm ops_mup mup_map mub_some ops_mdel mdl_nil mdl_map mdb_some ops_rng rng_none rng_map rgb_some ops_nxt ops_ment met_map meb_some ops_est est_map esb_some ops_clr clr_nil clr_box clb_some ops_calv clv_func vslc vsslc fillV splice V.cells strip strip1 allLen ptrV obsOk shAmt IntKind.bits List.map_cons List.map_nil List.length_cons List.length_nil List.getElem?_cons_zero List.getElem?_cons_succ List.take_succ_cons List.take_zero List.drop_succ_cons List.drop_zero List.cons_append List.nil_append List.append_nil List.take_nil List.drop_nil Option.map_some Option.map_none and_true true_and Int.toNat_natCast Nat.min_def Nat.zero_add Nat.add_zero Nat.zero_mul Nat.mul_one Nat.one_mul vret rvAll rvVal resv_1 resv_2 decide_true decide_false Int.lt_irrefl Bool.not_true Bool.not_false ne_eq not_true_eq_false not_false_eq_true eq_self Bool.true_eq_false Bool.false_eq_true List.contains_cons List.contains_nil Bool.false_or Bool.true_or Bool.or_false Bool.or_true List.mem_cons List.not_mem_nil or_false or_true true_or false_or mono_bs ops_aidxn vaidxn ops_mki vmki ops_inv ops_cpy cpy_box cpb_some
section
open Go

section
variable {P : Program} {α : Type} [Inhabited α] {val : α → V × V} {lt : α → α → Bool} {g f fsift : FuncId} {st : St} {b cap a c : Nat} {L : List α} {sp : List V}
set_option maxRecDepth 100000 in
set_option maxHeartbeats 16000000 in
theorem csplit_v (hf : cFun P f = some (CSplit)) (E : EltC P g val lt) (hmo : mono (rowc val L sp)) {p : Nat} (h1 : a ≤ p) (h3 : p < c) (h2 : c ≤ L.length) (hl : L.length < 4611686018427387904) :
    VCalls P f [dataV b L.length cap, .sc (.int .i64 a), .sc (.int .i64 c), .sc (.int .i64 p), cmpV g] (st.put b (rowc val L sp)) fun r s => ∃ (m : Nat) (B : Bool) (M : List α), a ≤ m ∧ m < c ∧ Mix a c L M ∧ (∀ k, a ≤ k → k < m → lt M[m]! M[k]! = false) ∧ (∀ k, m < k → k < c → lt M[k]! M[m]! = false) ∧ r = .tup [.sc (.int .i64 m), .sc (.bool B)] ∧ s = st.put b (rowc val M sp) := by
  refine vcalls_enter hf (Nat.le_of_ble_eq_true rfl) fun hwf hok => ?_
  show Run _ (CSplit).body (.fin (finQ (CSplit).res _)) _ _
  unfold CSplit
  obtain ⟨g1, g2, s1, s2, m1, m2⟩ := swapC hmo (rfl : L.length = L.length) (i := a) (j := p) (by omega) (by omega)
  have hM := (Mix.refl (a := a) (b := c) (L := L)).exch (i := a) (j := p) (by omega) (by omega) (by omega) (by omega) h2
  simp (config := {maxSteps := 3000000}) only [go_sem, Nat.reduceEqDiff, Nat.reduceAdd, Nat.reduceLT, Int.reduceNeg, ↓reduceIte, reduceCtorEq, dataV, cmpV, g1, g2, s1, s2, m1, m2, rowc_len, List.length_set]
  repeat (apply And.intro; focus (first | omega | (simp; done)))
  obtain ⟨M, eM⟩ : ∃ M, M = exch L a p := ⟨_, rfl⟩
  rw [← eM] at hM ⊢
  have hlen := hM.len
  have hP : Part (fun p x => lt x p) a c (a + 1) (c - 1) M := Part.start (by omega)
  have h10 : ((a : Int) + 1) = ((a + 1 : Nat) : Int) := by simp
  have h11 : ((c : Int) - 1) = ((c - 1 : Nat) : Int) := by omega
  rw [h10, h11]
  clear g1 g2 s1 s2 m1 m2 eM
  have h10 : True := trivial
  have h11 : True := trivial
  generalize a + 1 = i at hP ⊢
  generalize c - 1 = j at hP ⊢
  obtain ⟨i0, ei0⟩ : ∃ i0, i0 = i := ⟨_, rfl⟩
  obtain ⟨j0, ej0⟩ : ∃ j0, j0 = j := ⟨_, rfl⟩
  have ki := Nat.le_of_eq ei0
  have kj := Nat.le_of_eq ej0.symm
  have k10 := h10
  have k11 := h11
  refine run_loop [12, 32, 33, 34, 35, 36, 37, 38, 39, 40, 41, 42, 43, 44, 45, 46, 47, 48, 49] (fun C s' => ∃ (i : Nat), C 12 = .sc (.int .i64 i) ∧ i0 ≤ i ∧ Part (fun p x => lt x p) a c i j M ∧ s' = st.put b (rowc val M sp)) (fun C _ => j + 1 - vnat (C 12)) rfl ?_ ?_
  · simp (config := {maxSteps := 3000000}) only [go_sem, Nat.reduceEqDiff, ↓reduceIte]
    exact ⟨i, rfl, ki, hP⟩
  · rintro C s' ⟨i, h10, ki, hP, rfl⟩
    have ai := hP.ai
    have ij := hP.ij
    have jc := hP.jc
    by_cases ci : i ≤ j
    · simp (config := {maxSteps := 3000000}) only [go_sem, Nat.reduceEqDiff, ↓reduceIte, reduceCtorEq, Nat.reduceBEq, h10, decide_eq_true (show (i : Int) ≤ (j : Int) by omega), rowc_get (show i < M.length by omega), rowc_get (show a < M.length by omega), rowc_len, rowc_mono hmo hlen, E.call, List.map_nil]
      repeat (apply And.intro; focus (first | omega | (simp; done)))
      refine Cal.mk (E.less _ _ _) ?_
      rintro _ _ ⟨z1, hz1, rfl, rfl⟩ -
      simp (config := {maxSteps := 3000000}) only [go_sem, Nat.reduceEqDiff, ↓reduceIte, hz1]
      cases cq : lt M[i]! M[a]!
      · simp (config := {maxSteps := 3000000}) only [go_sem, ↓reduceIte]
        repeat (apply And.intro; focus (first | omega | (simp; done)))
        refine run_loop [13, 50, 51, 52, 53, 54, 55, 56, 57, 58, 59, 60, 61, 62, 63, 64, 65, 66, 67, 68] (fun D s' => ∃ (j : Nat), D 13 = .sc (.int .i64 j) ∧ j ≤ j0 ∧ Part (fun p x => lt x p) a c i j M ∧ s' = st.put b (rowc val M sp)) (fun D _ => vnat (D 13)) rfl ?_ ?_
        · simp (config := {maxSteps := 3000000}) only [go_sem, Nat.reduceEqDiff, ↓reduceIte, Nat.reduceBEq]
          exact ⟨j, rfl, kj, hP⟩
        · rintro D s' ⟨j, h11, kj, hP, rfl⟩
          have ij := hP.ij
          have jc := hP.jc
          by_cases cj : i ≤ j
          · simp (config := {maxSteps := 3000000}) only [go_sem, Nat.reduceEqDiff, ↓reduceIte, reduceCtorEq, Nat.reduceBEq, h10, h11, decide_eq_true (show (i : Int) ≤ (j : Int) by omega), rowc_get (show j < M.length by omega), rowc_get (show a < M.length by omega), rowc_len, rowc_mono hmo hlen, E.call, List.map_nil]
            repeat (apply And.intro; focus (first | omega | (simp; done)))
            refine Cal.mk (E.less _ _ _) ?_
            rintro _ _ ⟨z2, hz2, rfl, rfl⟩ -
            simp (config := {maxSteps := 3000000}) only [go_sem, Nat.reduceEqDiff, ↓reduceIte, hz2]
            cases cr : lt M[j]! M[a]!
            · simp (config := {maxSteps := 3000000}) only [go_sem, Nat.reduceEqDiff, Int.reduceNeg, ↓reduceIte, Nat.reduceBEq, h11]
              repeat (apply And.intro; focus (first | omega | (simp; done)))
              exact ⟨⟨j - 1, by rw [show ((j : Int) - 1) = ((j - 1 : Nat) : Int) by omega], by omega, hP.down cj cr⟩, by omega⟩
            · obtain ⟨g1, g2, s1, s2, m1, m2⟩ := swapC hmo hlen (i := i) (j := j) (by omega) (by omega)
              have hex := hM.exch (i := i) (j := j) (by omega) (by omega) (by omega) (by omega) h2
              have hPs := hP.swap cj cq cr (by omega)
              have hlt := hP.lt cj cq cr
              have hhd := hP.head cj (by omega)
              simp (config := {maxSteps := 3000000}) only [go_sem, Nat.reduceEqDiff, Nat.reduceAdd, Nat.reduceLT, Int.reduceNeg, ↓reduceIte, reduceCtorEq, Nat.reduceBEq, h10, h11, decide_eq_false (show ¬ ((j : Int) < (i : Int)) by omega), g1, g2, s1, s2, m1, m2, rowc_len, List.length_set]
              repeat (apply And.intro; focus (first | omega | (simp; done)))
              refine run_loop [12, 13, 105, 106, 107, 108, 109, 110, 111, 112, 113, 114, 115, 116, 117, 118, 119, 120, 121, 122, 123, 124, 125, 126, 127, 128, 129, 130, 131, 132, 133, 134, 135, 136, 137, 138, 139, 140, 141, 142, 143, 144, 145, 146, 147, 148, 149, 150, 151, 152, 153, 154, 155, 156, 157, 158, 159, 160, 161, 162] (fun B s => ∃ (i j : Nat) (M : List α), B 12 = .sc (.int .i64 i) ∧ B 13 = .sc (.int .i64 j) ∧ Part (fun p x => lt x p) a c i j M ∧ Mix a c L M ∧ s = st.put b (rowc val M sp)) (fun B _ => vnat (B 13) + 1 - vnat (B 12)) rfl ?_ ?_
              · simp (config := {maxSteps := 3000000}) only [go_sem, Nat.reduceEqDiff, ↓reduceIte]
                exact ⟨i + 1, j - 1, _, by simp, by rw [show ((j : Int) - 1) = ((j - 1 : Nat) : Int) by omega], hPs, hex, rfl⟩
              · rintro G s ⟨i, j, M, h10, h11, hP, hM, rfl⟩
                have hlen := hM.len
                have ij0 := hP.ij
                simp (config := {maxSteps := 3000000}) only [go_sem, h10, h11]
                obtain ⟨i0, ei0⟩ : ∃ i0, i0 = i := ⟨_, rfl⟩
                obtain ⟨j0, ej0⟩ : ∃ j0, j0 = j := ⟨_, rfl⟩
                have ki := Nat.le_of_eq ei0
                have kj := Nat.le_of_eq ej0.symm
                have k10 := h10
                have k11 := h11
                refine run_loop [12, 105, 106, 107, 108, 109, 110, 111, 112, 113, 114, 115, 116, 117, 118, 119, 120, 121, 122] (fun C s' => ∃ (i : Nat), C 12 = .sc (.int .i64 i) ∧ i0 ≤ i ∧ Part (fun p x => lt x p) a c i j M ∧ s' = st.put b (rowc val M sp)) (fun C _ => j + 1 - vnat (C 12)) rfl ?_ ?_
                · simp (config := {maxSteps := 3000000}) only [go_sem, ↓reduceIte, Nat.reduceBEq, h10]
                  exact ⟨i, rfl, ki, hP⟩
                · rintro C s' ⟨i, h10, ki, hP, rfl⟩
                  have ai := hP.ai
                  have ij := hP.ij
                  have jc := hP.jc
                  by_cases ci : i ≤ j
                  · simp (config := {maxSteps := 3000000}) only [go_sem, Nat.reduceEqDiff, ↓reduceIte, reduceCtorEq, Nat.reduceBEq, h10, h11, decide_eq_true (show (i : Int) ≤ (j : Int) by omega), rowc_get (show i < M.length by omega), rowc_get (show a < M.length by omega), rowc_len, rowc_mono hmo hlen, E.call, List.map_nil]
                    repeat (apply And.intro; focus (first | omega | (simp; done)))
                    refine Cal.mk (E.less _ _ _) ?_
                    rintro _ _ ⟨z3, hz3, rfl, rfl⟩ -
                    simp (config := {maxSteps := 3000000}) only [go_sem, Nat.reduceEqDiff, ↓reduceIte, hz3]
                    cases cq : lt M[i]! M[a]!
                    · simp (config := {maxSteps := 3000000}) only [go_sem, ↓reduceIte]
                      repeat (apply And.intro; focus (first | omega | (simp; done)))
                      refine run_loop [13, 123, 124, 125, 126, 127, 128, 129, 130, 131, 132, 133, 134, 135, 136, 137, 138, 139, 140, 141] (fun D s' => ∃ (j : Nat), D 13 = .sc (.int .i64 j) ∧ j ≤ j0 ∧ Part (fun p x => lt x p) a c i j M ∧ s' = st.put b (rowc val M sp)) (fun D _ => vnat (D 13)) rfl ?_ ?_
                      · simp (config := {maxSteps := 3000000}) only [go_sem, Nat.reduceEqDiff, ↓reduceIte, Nat.reduceBEq, h11]
                        exact ⟨j, rfl, kj, hP⟩
                      · rintro D s' ⟨j, h11, kj, hP, rfl⟩
                        have ij := hP.ij
                        have jc := hP.jc
                        by_cases cj : i ≤ j
                        · simp (config := {maxSteps := 3000000}) only [go_sem, Nat.reduceEqDiff, ↓reduceIte, reduceCtorEq, Nat.reduceBEq, h10, h11, decide_eq_true (show (i : Int) ≤ (j : Int) by omega), rowc_get (show j < M.length by omega), rowc_get (show a < M.length by omega), rowc_len, rowc_mono hmo hlen, E.call, List.map_nil]
                          repeat (apply And.intro; focus (first | omega | (simp; done)))
                          refine Cal.mk (E.less _ _ _) ?_
                          rintro _ _ ⟨z4, hz4, rfl, rfl⟩ -
                          simp (config := {maxSteps := 3000000}) only [go_sem, Nat.reduceEqDiff, ↓reduceIte, hz4]
                          cases cr : lt M[j]! M[a]!
                          · simp (config := {maxSteps := 3000000}) only [go_sem, Nat.reduceEqDiff, Int.reduceNeg, ↓reduceIte, Nat.reduceBEq, h11]
                            repeat (apply And.intro; focus (first | omega | (simp; done)))
                            exact ⟨⟨j - 1, by rw [show ((j : Int) - 1) = ((j - 1 : Nat) : Int) by omega], by omega, hP.down cj cr⟩, by omega⟩
                          · obtain ⟨g1, g2, s1, s2, m1, m2⟩ := swapC hmo hlen (i := i) (j := j) (by omega) (by omega)
                            have hex := hM.exch (i := i) (j := j) (by omega) (by omega) (by omega) (by omega) h2
                            have hPs := hP.swap cj cq cr (by omega)
                            have hlt := hP.lt cj cq cr
                            have hhd := hP.head cj (by omega)
                            simp (config := {maxSteps := 3000000}) only [go_sem, Nat.reduceEqDiff, Nat.reduceAdd, Nat.reduceLT, Int.reduceNeg, ↓reduceIte, reduceCtorEq, Nat.reduceBEq, h10, h11, decide_eq_false (show ¬ ((j : Int) < (i : Int)) by omega), g1, g2, s1, s2, m1, m2, rowc_len, List.length_set]
                            repeat (apply And.intro; focus (first | omega | (simp; done)))
                            exact ⟨⟨i + 1, j - 1, _, by simp, by rw [show ((j : Int) - 1) = ((j - 1 : Nat) : Int) by omega], hPs, hex, rfl⟩, by omega⟩
                        · have cj' : ¬ ((i : Int) ≤ (j : Int)) := by omega
                          obtain ⟨g1, g2, s1, s2, m1, m2⟩ := swapC hmo hlen (i := j) (j := a) (by omega) (by omega)
                          have hex := hM.exch (i := j) (j := a) (by omega) (by omega) (by omega) (by omega) h2
                          have hmid := hP.mid E.ord (by omega) (by omega)
                          simp (config := {maxSteps := 3000000}) only [go_sem, Nat.reduceEqDiff, Nat.reduceAdd, Nat.reduceLT, ↓reduceIte, reduceCtorEq, Nat.reduceBEq, h10, h11, decide_eq_false cj', decide_eq_true (show (j : Int) < (i : Int) by omega), g1, g2, s1, s2, m1, m2, rowc_len, List.length_set]
                          repeat (apply And.intro; focus (first | omega | (simp; done)))
                          exact ⟨_, _, Wk.refl _, weak_re hwf, j, false, _, by omega, by omega, hex, hmid.1, hmid.2, rfl, rfl⟩
                    · simp (config := {maxSteps := 3000000}) only [go_sem, Nat.reduceEqDiff, Int.reduceNeg, ↓reduceIte, Nat.reduceBEq, h10]
                      repeat (apply And.intro; focus (first | omega | (simp; done)))
                      exact ⟨⟨i + 1, by simp, by omega, hP.up ci cq⟩, by omega⟩
                  · have ci' : ¬ ((i : Int) ≤ (j : Int)) := by omega
                    simp (config := {maxSteps := 3000000}) only [go_sem, Nat.reduceEqDiff, ↓reduceIte, Nat.reduceBEq, h10, h11, decide_eq_false ci']
                    repeat (apply And.intro; focus (first | omega | (simp; done)))
                    refine run_loop [13, 123, 124, 125, 126, 127, 128, 129, 130, 131, 132, 133, 134, 135, 136, 137, 138, 139, 140, 141] (fun D s' => D 13 = .sc (.int .i64 j) ∧ s' = st.put b (rowc val M sp)) (fun D _ => 0) rfl ?_ ?_
                    · simp (config := {maxSteps := 3000000}) only [go_sem, Nat.reduceEqDiff, ↓reduceIte, Nat.reduceBEq, h11]
                    · rintro D s' ⟨h11, rfl⟩
                      have cj' := ci'
                      obtain ⟨g1, g2, s1, s2, m1, m2⟩ := swapC hmo hlen (i := j) (j := a) (by omega) (by omega)
                      have hex := hM.exch (i := j) (j := a) (by omega) (by omega) (by omega) (by omega) h2
                      have hmid := hP.mid E.ord (by omega) (by omega)
                      simp (config := {maxSteps := 3000000}) only [go_sem, Nat.reduceEqDiff, Nat.reduceAdd, Nat.reduceLT, ↓reduceIte, reduceCtorEq, Nat.reduceBEq, h10, h11, decide_eq_false cj', decide_eq_true (show (j : Int) < (i : Int) by omega), g1, g2, s1, s2, m1, m2, rowc_len, List.length_set]
                      repeat (apply And.intro; focus (first | omega | (simp; done)))
                      exact ⟨_, _, Wk.refl _, weak_re hwf, j, false, _, by omega, by omega, hex, hmid.1, hmid.2, rfl, rfl⟩
          · have cj' : ¬ ((i : Int) ≤ (j : Int)) := by omega
            obtain ⟨g1, g2, s1, s2, m1, m2⟩ := swapC hmo hlen (i := j) (j := a) (by omega) (by omega)
            have hex := hM.exch (i := j) (j := a) (by omega) (by omega) (by omega) (by omega) h2
            have hmid := hP.mid E.ord (by omega) (by omega)
            simp (config := {maxSteps := 3000000}) only [go_sem, Nat.reduceEqDiff, Nat.reduceAdd, Nat.reduceLT, ↓reduceIte, reduceCtorEq, Nat.reduceBEq, h10, h11, decide_eq_false cj', decide_eq_true (show (j : Int) < (i : Int) by omega), g1, g2, s1, s2, m1, m2, rowc_len, List.length_set]
            repeat (apply And.intro; focus (first | omega | (simp; done)))
            exact ⟨_, _, Wk.refl _, weak_re hwf, j, true, _, by omega, by omega, hex, hmid.1, hmid.2, rfl, rfl⟩
      · simp (config := {maxSteps := 3000000}) only [go_sem, Nat.reduceEqDiff, Int.reduceNeg, ↓reduceIte, Nat.reduceBEq, h10]
        repeat (apply And.intro; focus (first | omega | (simp; done)))
        exact ⟨⟨i + 1, by simp, by omega, hP.up ci cq⟩, by omega⟩
    · have ci' : ¬ ((i : Int) ≤ (j : Int)) := by omega
      simp (config := {maxSteps := 3000000}) only [go_sem, Nat.reduceEqDiff, ↓reduceIte, Nat.reduceBEq, h10, decide_eq_false ci']
      repeat (apply And.intro; focus (first | omega | (simp; done)))
      refine run_loop [13, 50, 51, 52, 53, 54, 55, 56, 57, 58, 59, 60, 61, 62, 63, 64, 65, 66, 67, 68] (fun D s' => D 13 = .sc (.int .i64 j) ∧ s' = st.put b (rowc val M sp)) (fun D _ => 0) rfl ?_ ?_
      · simp (config := {maxSteps := 3000000}) only [go_sem, Nat.reduceEqDiff, ↓reduceIte, Nat.reduceBEq]
      · rintro D s' ⟨h11, rfl⟩
        have cj' := ci'
        obtain ⟨g1, g2, s1, s2, m1, m2⟩ := swapC hmo hlen (i := j) (j := a) (by omega) (by omega)
        have hex := hM.exch (i := j) (j := a) (by omega) (by omega) (by omega) (by omega) h2
        have hmid := hP.mid E.ord (by omega) (by omega)
        simp (config := {maxSteps := 3000000}) only [go_sem, Nat.reduceEqDiff, Nat.reduceAdd, Nat.reduceLT, ↓reduceIte, reduceCtorEq, Nat.reduceBEq, h10, h11, decide_eq_false cj', decide_eq_true (show (j : Int) < (i : Int) by omega), g1, g2, s1, s2, m1, m2, rowc_len, List.length_set]
        repeat (apply And.intro; focus (first | omega | (simp; done)))
        exact ⟨_, _, Wk.refl _, weak_re hwf, j, true, _, by omega, by omega, hex, hmid.1, hmid.2, rfl, rfl⟩
set_option maxRecDepth 100000 in
set_option maxHeartbeats 16000000 in
theorem cequal_v (hf : cFun P f = some (CEqual)) (E : EltC P g val lt) (hmo : mono (rowc val L sp)) {p : Nat} (h1 : a ≤ p) (h3 : p < c) (h2 : c ≤ L.length) (hl : L.length < 4611686018427387904) :
    VCalls P f [dataV b L.length cap, .sc (.int .i64 a), .sc (.int .i64 c), .sc (.int .i64 p), cmpV g] (st.put b (rowc val L sp)) fun r s => ∃ (m : Nat) (M : List α), a < m ∧ m ≤ c ∧ Mix a c L M ∧ (∀ k, a ≤ k → k < m → lt L[p]! M[k]! = false) ∧ (∀ k, m ≤ k → k < c → lt L[p]! M[k]! = true) ∧ r = .sc (.int .i64 m) ∧ s = st.put b (rowc val M sp) := by
  refine vcalls_enter hf (Nat.le_of_ble_eq_true rfl) fun hwf hok => ?_
  show Run _ (CEqual).body (.fin (finQ (CEqual).res _)) _ _
  unfold CEqual
  obtain ⟨g1, g2, s1, s2, m1, m2⟩ := swapC hmo (rfl : L.length = L.length) (i := a) (j := p) (by omega) (by omega)
  have hM := (Mix.refl (a := a) (b := c) (L := L)).exch (i := a) (j := p) (by omega) (by omega) (by omega) (by omega) h2
  have hA : (exch L a p)[a]! = L[p]! := by
    rw [exch_get (by omega) (by omega)]
    by_cases e : a = p
    · rw [if_pos e, e]
    · rw [if_neg e, if_pos rfl]
  simp (config := {maxSteps := 3000000}) only [go_sem, Nat.reduceEqDiff, Nat.reduceAdd, Nat.reduceLT, Int.reduceNeg, ↓reduceIte, reduceCtorEq, dataV, cmpV, g1, g2, s1, s2, m1, m2, rowc_len, List.length_set]
  repeat (apply And.intro; focus (first | omega | (simp; done)))
  refine run_loop [11, 12, 31, 32, 33, 34, 35, 36, 37, 38, 39, 40, 41, 42, 43, 44, 45, 46, 47, 48, 49, 50, 51, 52, 53, 54, 55, 56, 57, 58, 59, 60, 61, 62, 63, 64, 65, 66, 67, 68, 69, 70, 71, 72, 73, 74, 75, 76, 77, 78, 79, 80, 81, 82, 83, 84, 85, 86, 87, 88] (fun B s => ∃ (i j : Nat) (M : List α), B 11 = .sc (.int .i64 i) ∧ B 12 = .sc (.int .i64 j) ∧ Part (fun p x => !lt p x) a c i j M ∧ Mix a c L M ∧ M[a]! = L[p]! ∧ s = st.put b (rowc val M sp)) (fun B _ => vnat (B 12) + 1 - vnat (B 11)) rfl ?_ ?_
  · simp (config := {maxSteps := 3000000}) only [go_sem, Nat.reduceEqDiff, ↓reduceIte]
    exact ⟨a + 1, c - 1, _, by simp, by rw [show ((c : Int) - 1) = ((c - 1 : Nat) : Int) by omega], Part.start (by omega), hM, hA, rfl⟩
  · clear hM hA g1 g2 s1 s2 m1 m2
    rintro G s ⟨i, j, M, h10, h11, hP, hM, hA, rfl⟩
    have hlen := hM.len
    have ij0 := hP.ij
    simp (config := {maxSteps := 3000000}) only [go_sem, h10, h11]
    obtain ⟨i0, ei0⟩ : ∃ i0, i0 = i := ⟨_, rfl⟩
    obtain ⟨j0, ej0⟩ : ∃ j0, j0 = j := ⟨_, rfl⟩
    have ki := Nat.le_of_eq ei0
    have kj := Nat.le_of_eq ej0.symm
    have k10 := h10
    have k11 := h11
    refine run_loop [11, 31, 32, 33, 34, 35, 36, 37, 38, 39, 40, 41, 42, 43, 44, 45, 46, 47, 48, 49] (fun C s' => ∃ (i : Nat), C 11 = .sc (.int .i64 i) ∧ i0 ≤ i ∧ Part (fun p x => !lt p x) a c i j M ∧ s' = st.put b (rowc val M sp)) (fun C _ => j + 1 - vnat (C 11)) rfl ?_ ?_
    · simp (config := {maxSteps := 3000000}) only [go_sem, ↓reduceIte, Nat.reduceBEq, h10]
      exact ⟨i, rfl, ki, hP⟩
    · rintro C s' ⟨i, h10, ki, hP, rfl⟩
      have ai := hP.ai
      have ij := hP.ij
      have jc := hP.jc
      by_cases ci : i ≤ j
      · simp (config := {maxSteps := 3000000}) only [go_sem, Nat.reduceEqDiff, ↓reduceIte, reduceCtorEq, Nat.reduceBEq, h10, h11, decide_eq_true (show (i : Int) ≤ (j : Int) by omega), rowc_get (show i < M.length by omega), rowc_get (show a < M.length by omega), rowc_len, rowc_mono hmo hlen, E.call, List.map_nil]
        repeat (apply And.intro; focus (first | omega | (simp; done)))
        refine Cal.mk (E.less _ _ _) ?_
        rintro _ _ ⟨z5, hz5, rfl, rfl⟩ -
        simp (config := {maxSteps := 3000000}) only [go_sem, Nat.reduceEqDiff, ↓reduceIte, hz5]
        cases cq : lt M[a]! M[i]!
        · simp (config := {maxSteps := 3000000}) only [go_sem, Nat.reduceEqDiff, Int.reduceNeg, ↓reduceIte, Nat.reduceBEq, h10]
          repeat (apply And.intro; focus (first | omega | (simp; done)))
          exact ⟨⟨i + 1, by simp, by omega, hP.up ci (by_not cq)⟩, by omega⟩
        · simp (config := {maxSteps := 3000000}) only [go_sem, ↓reduceIte]
          repeat (apply And.intro; focus (first | omega | (simp; done)))
          refine run_loop [12, 50, 51, 52, 53, 54, 55, 56, 57, 58, 59, 60, 61, 62, 63, 64, 65, 66, 67] (fun D s' => ∃ (j : Nat), D 12 = .sc (.int .i64 j) ∧ j ≤ j0 ∧ Part (fun p x => !lt p x) a c i j M ∧ s' = st.put b (rowc val M sp)) (fun D _ => vnat (D 12)) rfl ?_ ?_
          · simp (config := {maxSteps := 3000000}) only [go_sem, Nat.reduceEqDiff, ↓reduceIte, Nat.reduceBEq, h11]
            exact ⟨j, rfl, kj, hP⟩
          · rintro D s' ⟨j, h11, kj, hP, rfl⟩
            have ij := hP.ij
            have jc := hP.jc
            by_cases cj : i ≤ j
            · simp (config := {maxSteps := 3000000}) only [go_sem, Nat.reduceEqDiff, ↓reduceIte, reduceCtorEq, Nat.reduceBEq, h10, h11, decide_eq_true (show (i : Int) ≤ (j : Int) by omega), rowc_get (show j < M.length by omega), rowc_get (show a < M.length by omega), rowc_len, rowc_mono hmo hlen, E.call, List.map_nil]
              repeat (apply And.intro; focus (first | omega | (simp; done)))
              refine Cal.mk (E.less _ _ _) ?_
              rintro _ _ ⟨z6, hz6, rfl, rfl⟩ -
              simp (config := {maxSteps := 3000000}) only [go_sem, Nat.reduceEqDiff, ↓reduceIte, hz6]
              cases cr : lt M[a]! M[j]!
              · obtain ⟨g1, g2, s1, s2, m1, m2⟩ := swapC hmo hlen (i := i) (j := j) (by omega) (by omega)
                have hex := hM.exch (i := i) (j := j) (by omega) (by omega) (by omega) (by omega) h2
                have hPs := hP.swap cj (by_not cq) (by_not cr) (by omega)
                have hlt := hP.lt cj (by_not cq) (by_not cr)
                have hhd := hP.head cj (by omega)
                simp (config := {maxSteps := 3000000}) only [go_sem, Nat.reduceEqDiff, Nat.reduceAdd, Nat.reduceLT, Int.reduceNeg, ↓reduceIte, reduceCtorEq, Nat.reduceBEq, h10, h11, decide_eq_false (show ¬ ((j : Int) < (i : Int)) by omega), g1, g2, s1, s2, m1, m2, rowc_len, List.length_set]
                repeat (apply And.intro; focus (first | omega | (simp; done)))
                exact ⟨⟨i + 1, j - 1, _, by simp, by rw [show ((j : Int) - 1) = ((j - 1 : Nat) : Int) by omega], hPs, hex, hhd.trans hA, rfl⟩, by omega⟩
              · simp (config := {maxSteps := 3000000}) only [go_sem, Nat.reduceEqDiff, Int.reduceNeg, ↓reduceIte, Nat.reduceBEq, h11]
                repeat (apply And.intro; focus (first | omega | (simp; done)))
                exact ⟨⟨j - 1, by rw [show ((j : Int) - 1) = ((j - 1 : Nat) : Int) by omega], by omega, hP.down cj (by_not cr)⟩, by omega⟩
            · have cj' : ¬ ((i : Int) ≤ (j : Int)) := by omega
              simp (config := {maxSteps := 3000000}) only [go_sem, Nat.reduceEqDiff, ↓reduceIte, reduceCtorEq, Nat.reduceBEq, h10, h11, decide_eq_false cj', decide_eq_true (show (j : Int) < (i : Int) by omega)]
              repeat (apply And.intro; focus (first | omega | (simp; done)))
              exact ⟨_, _, Wk.refl _, weak_re hwf, i, M, by omega, by omega, hM, fun k k1 k2 => by
                rw [← hA]
                by_cases e : k = a
                · rw [e]; exact E.ord.irr _
                · exact not_by (hP.lo k (by omega) k2), fun k k1 k2 => by
                rw [← hA]
                exact not_by (hP.hi k (by omega) k2), rfl, rfl⟩
      · have ci' : ¬ ((i : Int) ≤ (j : Int)) := by omega
        simp (config := {maxSteps := 3000000}) only [go_sem, Nat.reduceEqDiff, ↓reduceIte, Nat.reduceBEq, h10, h11, decide_eq_false ci']
        repeat (apply And.intro; focus (first | omega | (simp; done)))
        refine run_loop [12, 50, 51, 52, 53, 54, 55, 56, 57, 58, 59, 60, 61, 62, 63, 64, 65, 66, 67] (fun D s' => D 12 = .sc (.int .i64 j) ∧ s' = st.put b (rowc val M sp)) (fun D _ => 0) rfl ?_ ?_
        · simp (config := {maxSteps := 3000000}) only [go_sem, Nat.reduceEqDiff, ↓reduceIte, Nat.reduceBEq, h11]
        · rintro D s' ⟨h11, rfl⟩
          have cj' := ci'
          simp (config := {maxSteps := 3000000}) only [go_sem, Nat.reduceEqDiff, ↓reduceIte, reduceCtorEq, Nat.reduceBEq, h10, h11, decide_eq_false cj', decide_eq_true (show (j : Int) < (i : Int) by omega)]
          repeat (apply And.intro; focus (first | omega | (simp; done)))
          exact ⟨_, _, Wk.refl _, weak_re hwf, i, M, by omega, by omega, hM, fun k k1 k2 => by
            rw [← hA]
            by_cases e : k = a
            · rw [e]; exact E.ord.irr _
            · exact not_by (hP.lo k (by omega) k2), fun k k1 k2 => by
            rw [← hA]
            exact not_by (hP.hi k (by omega) k2), rfl, rfl⟩
end
end
section
open Go

section
variable {P : Program} {α : Type} [Inhabited α] {val : α → V × V} {lt : α → α → Bool} {g f fsift : FuncId} {st : St} {b cap a c : Nat} {L : List α} {sp : List V}
set_option maxRecDepth 100000 in
set_option maxHeartbeats 16000000 in
theorem cpart_v (hf : cFun P f = some (CPart)) (E : EltC P g val lt) (hmo : mono (rowc val L sp)) (h1 : a < c) (h2 : c ≤ L.length) (hl : L.length < 4611686018427387904) (hLB : LB lt a c L) :
    VCalls P f [dataV b L.length cap, .sc (.int .i64 a), .sc (.int .i64 c), cmpV g] (st.put b (rowc val L sp)) fun r s => ∃ (B : Bool) (M : List α), Mix a c L M ∧ (B = true → Srt lt a c M) ∧ r = .sc (.bool B) ∧ s = st.put b (rowc val M sp) := by
  refine vcalls_enter hf (Nat.le_of_ble_eq_true rfl) fun hwf hok => ?_
  show Run _ (CPart).body (.fin (finQ (CPart).res _)) _ _
  unfold CPart
  simp (config := {maxSteps := 3000000}) only [go_sem, Nat.reduceEqDiff, Int.reduceNeg, ↓reduceIte, dataV, cmpV]
  repeat (apply And.intro; focus (first | omega | (simp; done)))
  refine run_loop [8, 9, 10, 11, 12, 15, 16, 17, 18, 19, 20, 21, 22, 23, 24, 25, 26, 27, 28, 29, 30, 31, 32, 33, 34, 35, 36, 37, 38, 39, 40, 41, 42, 43, 44, 45, 46, 47, 48, 49, 50, 51, 52, 53, 54, 55, 56, 57, 58, 59, 60, 61, 62, 63, 64, 65, 66, 67, 68, 69, 70, 71, 72, 73, 74, 75, 76, 77, 78, 79, 80, 81, 82, 83, 84, 85, 86, 87, 88, 89, 90, 91, 92, 93, 94, 95, 96, 97, 98, 99, 100, 101, 102, 103, 104, 105, 106, 107, 108, 109, 110, 111, 112, 113, 114, 115, 116, 117, 118, 119, 120, 121, 122, 123, 124, 125, 126, 127, 128, 129, 130, 131, 132, 133, 134, 135, 136, 137, 138, 139, 140] (fun B s => ∃ (n i : Nat) (M : List α), B 10 = .sc (.int .i64 n) ∧ B 9 = .sc (.int .i64 i) ∧ a + 1 ≤ i ∧ i ≤ c ∧ Mix a c L M ∧ Srt lt a i M ∧ s = st.put b (rowc val M sp)) (fun B _ => 5 - vnat (B 10)) rfl ?_ ?_
  · simp (config := {maxSteps := 3000000}) only [go_sem, Nat.reduceEqDiff, ↓reduceIte]
    exact ⟨0, a + 1, L, rfl, by simp, by omega, by omega, .refl, Srt.one (by omega), rfl⟩
  · rintro B s ⟨n, i, M, h8, h7, hi1, hi2, hM, hS, rfl⟩
    have hlen := hM.len
    by_cases cn : n < 5
    · simp (config := {maxSteps := 3000000}) only [go_sem, ↓reduceIte, Nat.reduceBEq, h8, decide_eq_true (show (n : Int) < 5 by omega)]
      refine run_loop [9, 19, 20, 21, 22, 23, 24, 25, 26, 27, 28, 29, 30, 31, 32, 33, 34, 35, 36, 37, 38] (fun C s' => ∃ (i : Nat), C 9 = .sc (.int .i64 i) ∧ a + 1 ≤ i ∧ i ≤ c ∧ Srt lt a i M ∧ s' = st.put b (rowc val M sp)) (fun C _ => c - vnat (C 9)) rfl ?_ ?_
      · simp (config := {maxSteps := 3000000}) only [go_sem, Nat.reduceEqDiff, ↓reduceIte, Nat.reduceBEq, h7]
        exact ⟨i, rfl, hi1, hi2, hS⟩
      · clear hi1 hi2 hS
        rintro C s' ⟨i, h7, hi1, hi2, hS, rfl⟩
        have e1 : ((i : Int) - 1).toNat = i - 1 := by omega
        have hLM := hLB.mix hM h2
        by_cases ci : i < c
        · simp (config := {maxSteps := 3000000}) only [go_sem, Nat.reduceEqDiff, Int.reduceNeg, ↓reduceIte, reduceCtorEq, Nat.reduceBEq, h7, e1, decide_eq_true (show (i : Int) < (c : Int) by omega), rowc_get (show i < M.length by omega), rowc_get (show i - 1 < M.length by omega), rowc_len, rowc_mono hmo hlen, E.call, List.map_nil]
          repeat (apply And.intro; focus (first | omega | (simp; done)))
          refine Cal.mk (E.less _ _ _) ?_
          rintro _ _ ⟨z1, hz1, rfl, rfl⟩ -
          simp (config := {maxSteps := 3000000}) only [go_sem, Nat.reduceEqDiff, ↓reduceIte, hz1]
          cases cq : lt M[i]! M[i - 1]!
          · simp (config := {maxSteps := 3000000}) only [go_sem, Nat.reduceEqDiff, Int.reduceNeg, ↓reduceIte, Nat.reduceBEq, h7]
            repeat (apply And.intro; focus (first | omega | (simp; done)))
            exact ⟨⟨i + 1, by simp, by omega, by omega, hS.next E.ord hi1 cq⟩, by omega⟩
          · simp (config := {maxSteps := 3000000}) only [go_sem, Nat.reduceEqDiff, Int.reduceNeg, ↓reduceIte, Nat.reduceBEq, h7, decide_eq_false (show ¬ (i : Int) = (c : Int) by omega)]
            repeat (apply And.intro; focus (first | omega | (simp; done)))
            by_cases c5 : (c : Int) - (a : Int) < 50
            · simp (config := {maxSteps := 3000000}) only [go_sem, ↓reduceIte, decide_eq_true c5]
              exact ⟨_, _, Wk.refl _, weak_re hwf, false, M, hM, (fun h => by cases h), rfl, rfl⟩
            · obtain ⟨g1, g2, s1, s2, m1, m2⟩ := swapC hmo hlen (i := i) (j := i - 1) (by omega) (by omega)
              have hex := hM.exch (i := i) (j := i - 1) (by omega) (by omega) (by omega) (by omega) h2
              have hS1 : Srt lt a (i - 1) (exch M i (i - 1)) := fun p q k1 k2 k3 => by
                rw [exch_get (by omega) (by omega), exch_get (by omega) (by omega), if_neg (by omega), if_neg (by omega), if_neg (by omega), if_neg (by omega)]
                exact hS p q k1 k2 (by omega)
              simp (config := {maxSteps := 3000000}) only [go_sem, Nat.reduceEqDiff, Nat.reduceAdd, Nat.reduceLT, Int.reduceNeg, ↓reduceIte, reduceCtorEq, Nat.reduceBEq, h7, e1, decide_eq_false c5, g1, g2, s1, s2, m1, m2, rowc_len, List.length_set]
              repeat (apply And.intro; focus (first | omega | (simp; done)))
              clear hM hS hLM g1 g2 s1 s2 m1 m2 cq
              generalize exch M i (i - 1) = M at hex hS1 ⊢
              by_cases c2 : (2 : Int) ≤ (i : Int) - (a : Int)
              · simp (config := {maxSteps := 3000000}) only [go_sem, Nat.reduceEqDiff, Int.reduceNeg, ↓reduceIte, Nat.reduceBEq, h7, decide_eq_true c2]
                repeat (apply And.intro; focus (first | omega | (simp; done)))
                refine run_loop [11, 68, 69, 70, 71, 72, 73, 74, 75, 76, 77, 78, 79, 80, 81, 82, 83, 84, 85, 86, 87, 88, 89, 90, 91, 92, 93, 94, 95, 96, 97, 98, 99, 100] (fun D s' => ∃ (j : Nat) (M : List α), D 11 = .sc (.int .i64 j) ∧ a ≤ j ∧ j ≤ i - 1 ∧ Mix a c L M ∧ Ins lt a (i - 1) j M ∧ s' = st.put b (rowc val M sp)) (fun D _ => vnat (D 11)) rfl ?_ ?_
                · simp (config := {maxSteps := 3000000}) only [go_sem, ↓reduceIte]
                  exact ⟨i - 1, M, by rw [show ((i : Int) - 1) = ((i - 1 : Nat) : Int) by omega], by omega, by omega, hex, Ins.start hS1, rfl⟩
                · clear hex hS1 hlen M
                  rintro D s' ⟨j, M, h9, hj1, hj2, hM, hI, rfl⟩
                  have hlen := hM.len
                  by_cases cj : 1 ≤ j
                  · have e2 : ((j : Int) - 1).toNat = j - 1 := by omega
                    simp (config := {maxSteps := 3000000}) only [go_sem, Nat.reduceEqDiff, Int.reduceNeg, ↓reduceIte, reduceCtorEq, Nat.reduceBEq, h9, e2, decide_eq_true (show (1 : Int) ≤ (j : Int) by omega), rowc_get (show j < M.length by omega), rowc_get (show j - 1 < M.length by omega), rowc_len, rowc_mono hmo hlen, E.call, List.map_nil]
                    repeat (apply And.intro; focus (first | omega | (simp; done)))
                    refine Cal.mk (E.less _ _ _) ?_
                    rintro _ _ ⟨z2, hz2, rfl, rfl⟩ -
                    simp (config := {maxSteps := 3000000}) only [go_sem, ↓reduceIte, hz2]
                    cases cq : lt M[j]! M[j - 1]!
                    · have hS : Srt lt a i M := by
                        have := hI.done E.ord (by omega) (if e : j = a then .inl e else .inr ⟨by omega, cq⟩)
                        rwa [Nat.sub_add_cancel (by omega)] at this
                      simp (config := {maxSteps := 3000000}) only [go_sem, Nat.reduceEqDiff, Int.reduceNeg, ↓reduceIte, Nat.reduceBEq, h7]
                      repeat (apply And.intro; focus (first | omega | (simp; done)))
                      by_cases c3 : (2 : Int) ≤ (c : Int) - (i : Int)
                      · simp (config := {maxSteps := 3000000}) only [go_sem, Nat.reduceEqDiff, Int.reduceNeg, ↓reduceIte, Nat.reduceBEq, h7, decide_eq_true c3]
                        repeat (apply And.intro; focus (first | omega | (simp; done)))
                        refine run_loop [12, 107, 108, 109, 110, 111, 112, 113, 114, 115, 116, 117, 118, 119, 120, 121, 122, 123, 124, 125, 126, 127, 128, 129, 130, 131, 132, 133, 134, 135, 136, 137, 138, 139, 140] (fun G s' => ∃ (j : Nat) (M : List α), G 12 = .sc (.int .i64 j) ∧ i + 1 ≤ j ∧ j ≤ c ∧ Mix a c L M ∧ Srt lt a i M ∧ s' = st.put b (rowc val M sp)) (fun G _ => c - vnat (G 12)) rfl ?_ ?_
                        · simp (config := {maxSteps := 3000000}) only [go_sem, ↓reduceIte]
                          exact ⟨i + 1, M, by simp, by omega, by omega, hM, hS, rfl⟩
                        · rintro G s' ⟨j, M, h10, hj1, hj2, hM, hS, rfl⟩
                          have hlen := hM.len
                          by_cases cj : j < c
                          · have e2 : ((j : Int) - 1).toNat = j - 1 := by omega
                            simp (config := {maxSteps := 3000000}) only [go_sem, Nat.reduceEqDiff, Int.reduceNeg, ↓reduceIte, reduceCtorEq, Nat.reduceBEq, h10, e2, decide_eq_true (show (j : Int) < (c : Int) by omega), rowc_get (show j < M.length by omega), rowc_get (show j - 1 < M.length by omega), rowc_len, rowc_mono hmo hlen, E.call, List.map_nil]
                            repeat (apply And.intro; focus (first | omega | (simp; done)))
                            refine Cal.mk (E.less _ _ _) ?_
                            rintro _ _ ⟨z3, hz3, rfl, rfl⟩ -
                            simp (config := {maxSteps := 3000000}) only [go_sem, ↓reduceIte, hz3]
                            cases cr : lt M[j]! M[j - 1]!
                            · simp (config := {maxSteps := 3000000}) only [go_sem, Nat.reduceEqDiff, Int.reduceNeg, ↓reduceIte, Nat.reduceBEq, h7, h8]
                              repeat (apply And.intro; focus (first | omega | (simp; done)))
                              first | exact ⟨⟨n + 1, i, M, by simp, rfl, hi1, hi2, hM, hS, rfl⟩, by omega⟩ | omega
                            · obtain ⟨g1, g2, s1, s2, m1, m2⟩ := swapC hmo hlen (i := j) (j := j - 1) (by omega) (by omega)
                              have hex := hM.exch (i := j) (j := j - 1) (by omega) (by omega) (by omega) (by omega) h2
                              have hS2 : Srt lt a i (exch M j (j - 1)) := hS.keep fun k k1 k2 => by rw [exch_get (by omega) (by omega), if_neg (by omega), if_neg (by omega)]
                              simp (config := {maxSteps := 3000000}) only [go_sem, Nat.reduceEqDiff, Nat.reduceAdd, Nat.reduceLT, Int.reduceNeg, ↓reduceIte, reduceCtorEq, Nat.reduceBEq, h10, e2, g1, g2, s1, s2, m1, m2, rowc_len, List.length_set]
                              repeat (apply And.intro; focus (first | omega | (simp; done)))
                              exact ⟨⟨j + 1, _, by simp, by omega, by omega, hex, hS2, rfl⟩, by omega⟩
                          · simp (config := {maxSteps := 3000000}) only [go_sem, Nat.reduceEqDiff, Int.reduceNeg, ↓reduceIte, Nat.reduceBEq, h7, h8, h10, decide_eq_false (show ¬ (j : Int) < (c : Int) by omega)]
                            repeat (apply And.intro; focus (first | omega | (simp; done)))
                            first | exact ⟨⟨n + 1, i, M, by simp, rfl, hi1, hi2, hM, hS, rfl⟩, by omega⟩ | omega
                      · simp (config := {maxSteps := 3000000}) only [go_sem, Nat.reduceEqDiff, Int.reduceNeg, ↓reduceIte, Nat.reduceBEq, h7, h8, decide_eq_false c3]
                        repeat (apply And.intro; focus (first | omega | (simp; done)))
                        first | exact ⟨⟨n + 1, i, M, by simp, rfl, hi1, hi2, hM, hS, rfl⟩, by omega⟩ | omega
                    · have haj : a < j := by
                        rcases Nat.lt_or_ge a j with h | h
                        · exact h
                        · have e : j = a := by omega
                          have := hLB.mix hM h2 (by omega) j (by omega) (by omega)
                          rw [e] at this cq
                          rw [this] at cq; cases cq
                      obtain ⟨g1, g2, s1, s2, m1, m2⟩ := swapC hmo hlen (i := j) (j := j - 1) (by omega) (by omega)
                      have hex := hM.exch (i := j) (j := j - 1) (by omega) (by omega) (by omega) (by omega) h2
                      have hst := hI.step E.ord haj (by omega) (by omega) cq
                      simp (config := {maxSteps := 3000000}) only [go_sem, Nat.reduceEqDiff, Nat.reduceAdd, Nat.reduceLT, Int.reduceNeg, ↓reduceIte, reduceCtorEq, Nat.reduceBEq, h9, e2, g1, g2, s1, s2, m1, m2, rowc_len, List.length_set]
                      repeat (apply And.intro; focus (first | omega | (simp; done)))
                      exact ⟨⟨j - 1, _, by rw [show ((j : Int) - 1) = ((j - 1 : Nat) : Int) by omega], by omega, by omega, hex, hst, rfl⟩, by omega⟩
                  · have hS : Srt lt a i M := by
                      have := hI.done E.ord (by omega) (.inl (by omega))
                      rwa [Nat.sub_add_cancel (by omega)] at this
                    simp (config := {maxSteps := 3000000}) only [go_sem, Nat.reduceEqDiff, Int.reduceNeg, ↓reduceIte, Nat.reduceBEq, h9, h7, decide_eq_false (show ¬ (1 : Int) ≤ (j : Int) by omega)]
                    repeat (apply And.intro; focus (first | omega | (simp; done)))
                    by_cases c3 : (2 : Int) ≤ (c : Int) - (i : Int)
                    · simp (config := {maxSteps := 3000000}) only [go_sem, Nat.reduceEqDiff, Int.reduceNeg, ↓reduceIte, Nat.reduceBEq, h7, decide_eq_true c3]
                      repeat (apply And.intro; focus (first | omega | (simp; done)))
                      refine run_loop [12, 107, 108, 109, 110, 111, 112, 113, 114, 115, 116, 117, 118, 119, 120, 121, 122, 123, 124, 125, 126, 127, 128, 129, 130, 131, 132, 133, 134, 135, 136, 137, 138, 139, 140] (fun G s' => ∃ (j : Nat) (M : List α), G 12 = .sc (.int .i64 j) ∧ i + 1 ≤ j ∧ j ≤ c ∧ Mix a c L M ∧ Srt lt a i M ∧ s' = st.put b (rowc val M sp)) (fun G _ => c - vnat (G 12)) rfl ?_ ?_
                      · simp (config := {maxSteps := 3000000}) only [go_sem, ↓reduceIte]
                        exact ⟨i + 1, M, by simp, by omega, by omega, hM, hS, rfl⟩
                      · rintro G s' ⟨j, M, h10, hj1, hj2, hM, hS, rfl⟩
                        have hlen := hM.len
                        by_cases cj : j < c
                        · have e2 : ((j : Int) - 1).toNat = j - 1 := by omega
                          simp (config := {maxSteps := 3000000}) only [go_sem, Nat.reduceEqDiff, Int.reduceNeg, ↓reduceIte, reduceCtorEq, Nat.reduceBEq, h10, e2, decide_eq_true (show (j : Int) < (c : Int) by omega), rowc_get (show j < M.length by omega), rowc_get (show j - 1 < M.length by omega), rowc_len, rowc_mono hmo hlen, E.call, List.map_nil]
                          repeat (apply And.intro; focus (first | omega | (simp; done)))
                          refine Cal.mk (E.less _ _ _) ?_
                          rintro _ _ ⟨z4, hz4, rfl, rfl⟩ -
                          simp (config := {maxSteps := 3000000}) only [go_sem, ↓reduceIte, hz4]
                          cases cr : lt M[j]! M[j - 1]!
                          · simp (config := {maxSteps := 3000000}) only [go_sem, Nat.reduceEqDiff, Int.reduceNeg, ↓reduceIte, Nat.reduceBEq, h7, h8]
                            repeat (apply And.intro; focus (first | omega | (simp; done)))
                            first | exact ⟨⟨n + 1, i, M, by simp, rfl, hi1, hi2, hM, hS, rfl⟩, by omega⟩ | omega
                          · obtain ⟨g1, g2, s1, s2, m1, m2⟩ := swapC hmo hlen (i := j) (j := j - 1) (by omega) (by omega)
                            have hex := hM.exch (i := j) (j := j - 1) (by omega) (by omega) (by omega) (by omega) h2
                            have hS2 : Srt lt a i (exch M j (j - 1)) := hS.keep fun k k1 k2 => by rw [exch_get (by omega) (by omega), if_neg (by omega), if_neg (by omega)]
                            simp (config := {maxSteps := 3000000}) only [go_sem, Nat.reduceEqDiff, Nat.reduceAdd, Nat.reduceLT, Int.reduceNeg, ↓reduceIte, reduceCtorEq, Nat.reduceBEq, h10, e2, g1, g2, s1, s2, m1, m2, rowc_len, List.length_set]
                            repeat (apply And.intro; focus (first | omega | (simp; done)))
                            exact ⟨⟨j + 1, _, by simp, by omega, by omega, hex, hS2, rfl⟩, by omega⟩
                        · simp (config := {maxSteps := 3000000}) only [go_sem, Nat.reduceEqDiff, Int.reduceNeg, ↓reduceIte, Nat.reduceBEq, h7, h8, h10, decide_eq_false (show ¬ (j : Int) < (c : Int) by omega)]
                          repeat (apply And.intro; focus (first | omega | (simp; done)))
                          first | exact ⟨⟨n + 1, i, M, by simp, rfl, hi1, hi2, hM, hS, rfl⟩, by omega⟩ | omega
                    · simp (config := {maxSteps := 3000000}) only [go_sem, Nat.reduceEqDiff, Int.reduceNeg, ↓reduceIte, Nat.reduceBEq, h7, h8, decide_eq_false c3]
                      repeat (apply And.intro; focus (first | omega | (simp; done)))
                      first | exact ⟨⟨n + 1, i, M, by simp, rfl, hi1, hi2, hM, hS, rfl⟩, by omega⟩ | omega
              · simp (config := {maxSteps := 3000000}) only [go_sem, Nat.reduceEqDiff, Int.reduceNeg, ↓reduceIte, Nat.reduceBEq, h7, decide_eq_false c2]
                have hS : Srt lt a i M := Srt.one (by omega)
                have hlen := hex.len
                have hM := hex
                by_cases c3 : (2 : Int) ≤ (c : Int) - (i : Int)
                · simp (config := {maxSteps := 3000000}) only [go_sem, Nat.reduceEqDiff, Int.reduceNeg, ↓reduceIte, Nat.reduceBEq, h7, decide_eq_true c3]
                  repeat (apply And.intro; focus (first | omega | (simp; done)))
                  refine run_loop [12, 107, 108, 109, 110, 111, 112, 113, 114, 115, 116, 117, 118, 119, 120, 121, 122, 123, 124, 125, 126, 127, 128, 129, 130, 131, 132, 133, 134, 135, 136, 137, 138, 139, 140] (fun G s' => ∃ (j : Nat) (M : List α), G 12 = .sc (.int .i64 j) ∧ i + 1 ≤ j ∧ j ≤ c ∧ Mix a c L M ∧ Srt lt a i M ∧ s' = st.put b (rowc val M sp)) (fun G _ => c - vnat (G 12)) rfl ?_ ?_
                  · simp (config := {maxSteps := 3000000}) only [go_sem, ↓reduceIte]
                    exact ⟨i + 1, M, by simp, by omega, by omega, hM, hS, rfl⟩
                  · rintro G s' ⟨j, M, h10, hj1, hj2, hM, hS, rfl⟩
                    have hlen := hM.len
                    by_cases cj : j < c
                    · have e2 : ((j : Int) - 1).toNat = j - 1 := by omega
                      simp (config := {maxSteps := 3000000}) only [go_sem, Nat.reduceEqDiff, Int.reduceNeg, ↓reduceIte, reduceCtorEq, Nat.reduceBEq, h10, e2, decide_eq_true (show (j : Int) < (c : Int) by omega), rowc_get (show j < M.length by omega), rowc_get (show j - 1 < M.length by omega), rowc_len, rowc_mono hmo hlen, E.call, List.map_nil]
                      repeat (apply And.intro; focus (first | omega | (simp; done)))
                      refine Cal.mk (E.less _ _ _) ?_
                      rintro _ _ ⟨z5, hz5, rfl, rfl⟩ -
                      simp (config := {maxSteps := 3000000}) only [go_sem, ↓reduceIte, hz5]
                      cases cr : lt M[j]! M[j - 1]!
                      · simp (config := {maxSteps := 3000000}) only [go_sem, Nat.reduceEqDiff, Int.reduceNeg, ↓reduceIte, Nat.reduceBEq, h7, h8]
                        repeat (apply And.intro; focus (first | omega | (simp; done)))
                        first | exact ⟨⟨n + 1, i, M, by simp, rfl, hi1, hi2, hM, hS, rfl⟩, by omega⟩ | omega
                      · obtain ⟨g1, g2, s1, s2, m1, m2⟩ := swapC hmo hlen (i := j) (j := j - 1) (by omega) (by omega)
                        have hex := hM.exch (i := j) (j := j - 1) (by omega) (by omega) (by omega) (by omega) h2
                        have hS2 : Srt lt a i (exch M j (j - 1)) := hS.keep fun k k1 k2 => by rw [exch_get (by omega) (by omega), if_neg (by omega), if_neg (by omega)]
                        simp (config := {maxSteps := 3000000}) only [go_sem, Nat.reduceEqDiff, Nat.reduceAdd, Nat.reduceLT, Int.reduceNeg, ↓reduceIte, reduceCtorEq, Nat.reduceBEq, h10, e2, g1, g2, s1, s2, m1, m2, rowc_len, List.length_set]
                        repeat (apply And.intro; focus (first | omega | (simp; done)))
                        exact ⟨⟨j + 1, _, by simp, by omega, by omega, hex, hS2, rfl⟩, by omega⟩
                    · simp (config := {maxSteps := 3000000}) only [go_sem, Nat.reduceEqDiff, Int.reduceNeg, ↓reduceIte, Nat.reduceBEq, h7, h8, h10, decide_eq_false (show ¬ (j : Int) < (c : Int) by omega)]
                      repeat (apply And.intro; focus (first | omega | (simp; done)))
                      first | exact ⟨⟨n + 1, i, M, by simp, rfl, hi1, hi2, hM, hS, rfl⟩, by omega⟩ | omega
                · simp (config := {maxSteps := 3000000}) only [go_sem, Nat.reduceEqDiff, Int.reduceNeg, ↓reduceIte, Nat.reduceBEq, h7, h8, decide_eq_false c3]
                  repeat (apply And.intro; focus (first | omega | (simp; done)))
                  first | exact ⟨⟨n + 1, i, M, by simp, rfl, hi1, hi2, hM, hS, rfl⟩, by omega⟩ | omega
        · have ei : i = c := by omega
          subst ei
          simp (config := {maxSteps := 3000000}) only [go_sem, Nat.reduceEqDiff, ↓reduceIte, Nat.reduceBEq, h7]
          exact ⟨_, _, Wk.refl _, weak_re hwf, true, M, hM, fun _ => hS, rfl, rfl⟩
    · simp (config := {maxSteps := 3000000}) only [go_sem, ↓reduceIte, Nat.reduceBEq, h8, decide_eq_false (show ¬ (n : Int) < 5 by omega)]
      exact ⟨_, _, Wk.refl _, weak_re hwf, false, M, hM, (fun h => by cases h), rfl, rfl⟩
end
end
section
open Go

section
variable {P : Program} {α : Type} [Inhabited α] {val : α → V × V} {lt : α → α → Bool} {g f fsift : FuncId} {st : St} {b cap a c : Nat} {L : List α} {sp : List V}
variable {fo fm fa fpow fnext : FuncId} {r : Nat}
set_option maxRecDepth 100000 in
set_option maxHeartbeats 16000000 in
theorem cord2_v (hf : cFun P f = some (COrd2)) (E : EltC P g val lt) (hbr : b < r) {i j n : Nat} (hi : i < L.length) (hj : j < L.length) (hn : n < 4611686018427387904) (hmo : mono (rowc val L sp)) (hl : L.length < 4611686018427387904) :
    VCalls P f [dataV b L.length cap, .sc (.int .i64 i), .sc (.int .i64 j), ptrV r, cmpV g] ((st.put b (rowc val L sp)).put r [.sc (.int .i64 n)]) fun v s => ∃ (x y m : Nat), ((x = i ∧ y = j) ∨ (x = j ∧ y = i)) ∧ m ≤ n + 1 ∧ v = .tup [.sc (.int .i64 x), .sc (.int .i64 y)] ∧ s = (st.put b (rowc val L sp)).put r [.sc (.int .i64 m)] := by
  refine vcalls_enter hf (Nat.le_of_ble_eq_true rfl) fun hwf hok => ?_
  show Run _ (COrd2).body (.fin (finQ (COrd2).res _)) _ _
  unfold COrd2
  simp (config := {maxSteps := 3000000}) only [go_sem, Nat.reduceEqDiff, ↓reduceIte, reduceCtorEq, dataV, cmpV, put_box_ne (Nat.ne_of_lt hbr), rowc_get hi, rowc_get hj, rowc_len, hmo, E.call, List.map_nil]
  repeat (apply And.intro; focus (first | omega | (simp; done)))
  refine Cal.mk (E.less _ _ _) ?_
  rintro _ _ ⟨z1, hz1, rfl, rfl⟩ -
  simp (config := {maxSteps := 3000000}) only [go_sem, ↓reduceIte, hz1]
  cases cq : lt L[j]! L[i]!
  · simp (config := {maxSteps := 3000000}) only [go_sem, Nat.reduceEqDiff, ↓reduceIte]
    exact ⟨_, _, Wk.refl _, weak_re hwf, i, j, n, .inl ⟨rfl, rfl⟩, by omega, rfl, rfl⟩
  · simp (config := {maxSteps := 3000000}) only [go_sem, Nat.reduceEqDiff, Nat.reduceLT, Nat.reduceLeDiff, Int.reduceNeg, ↓reduceIte]
    repeat (apply And.intro; focus (first | omega | (simp; done)))
    exact ⟨_, _, Wk.refl _, weak_re hwf, j, i, n + 1, .inr ⟨rfl, rfl⟩, by omega, rfl, by simp⟩
set_option maxRecDepth 100000 in
set_option maxHeartbeats 16000000 in
theorem cmed_v (hf : cFun P f = some (CMed fo)) (hfo : cFun P fo = some (COrd2)) (E : EltC P g val lt) (hbr : b < r) {i j k n : Nat} (hi : i < L.length) (hj : j < L.length) (hk : k < L.length) (hn : n < 4611686018427387) (hmo : mono (rowc val L sp)) (hl : L.length < 4611686018427387904) :
    VCalls P f [dataV b L.length cap, .sc (.int .i64 i), .sc (.int .i64 j), .sc (.int .i64 k), ptrV r, cmpV g] ((st.put b (rowc val L sp)).put r [.sc (.int .i64 n)]) fun v s => ∃ (x m : Nat), (x = i ∨ x = j ∨ x = k) ∧ m ≤ n + 3 ∧ v = .sc (.int .i64 x) ∧ s = (st.put b (rowc val L sp)).put r [.sc (.int .i64 m)] := by
  refine vcalls_enter hf (Nat.le_of_ble_eq_true rfl) fun hwf hok => ?_
  show Run _ (CMed fo).body (.fin (finQ (CMed fo).res _)) _ _
  unfold CMed
  simp (config := {maxSteps := 3000000}) only [go_sem, Nat.reduceEqDiff, ↓reduceIte, reduceCtorEq, dataV, cmpV]
  refine Cal.mk (cord2_v (n := n) hfo E hbr (i := i) (j := j) (by omega) (by omega) (by omega) hmo hl) ?_
  rintro _ _ ⟨x1, y1, n1, h1, m1, rfl, rfl⟩ -
  simp (config := {maxSteps := 3000000}) only [go_sem, Nat.reduceEqDiff, ↓reduceIte, reduceCtorEq]
  refine Cal.mk (cord2_v (n := n1) hfo E hbr (i := y1) (j := k) (by omega) (by omega) (by omega) hmo hl) ?_
  rintro _ _ ⟨x2, y2, n2, h2, m2, rfl, rfl⟩ -
  simp (config := {maxSteps := 3000000}) only [go_sem, Nat.reduceEqDiff, ↓reduceIte, reduceCtorEq]
  refine Cal.mk (cord2_v (n := n2) hfo E hbr (i := x1) (j := x2) (by omega) (by omega) (by omega) hmo hl) ?_
  rintro _ _ ⟨x3, y3, n3, h3, m3, rfl, rfl⟩ -
  simp (config := {maxSteps := 3000000}) only [go_sem, Nat.reduceEqDiff, ↓reduceIte]
  exact ⟨_, _, Wk.refl _, weak_re hwf, y3, n3, by omega, by omega, rfl, rfl⟩
set_option maxRecDepth 100000 in
set_option maxHeartbeats 16000000 in
theorem cmeda_v (hf : cFun P f = some (CMedA fm)) (hfm : cFun P fm = some (CMed fo)) (hfo : cFun P fo = some (COrd2)) (E : EltC P g val lt) (hbr : b < r) {i n : Nat} (hi : 1 ≤ i) (hj : i + 1 < L.length) (hn : n < 4611686018427387) (hmo : mono (rowc val L sp)) (hl : L.length < 4611686018427387904) :
    VCalls P f [dataV b L.length cap, .sc (.int .i64 i), ptrV r, cmpV g] ((st.put b (rowc val L sp)).put r [.sc (.int .i64 n)]) fun v s => ∃ (x m : Nat), i ≤ x + 1 ∧ x ≤ i + 1 ∧ m ≤ n + 3 ∧ v = .sc (.int .i64 x) ∧ s = (st.put b (rowc val L sp)).put r [.sc (.int .i64 m)] := by
  refine vcalls_enter hf (Nat.le_of_ble_eq_true rfl) fun hwf hok => ?_
  show Run _ (CMedA fm).body (.fin (finQ (CMedA fm).res _)) _ _
  unfold CMedA
  have e1 : ((i : Int) - 1) = ((i - 1 : Nat) : Int) := by omega
  have e2 : ((i : Int) + 1) = ((i + 1 : Nat) : Int) := by omega
  simp (config := {maxSteps := 3000000}) only [go_sem, Nat.reduceEqDiff, Int.reduceNeg, ↓reduceIte, reduceCtorEq, dataV, cmpV, e1, e2]
  repeat (apply And.intro; focus (first | omega | (simp; done)))
  refine Cal.mk (cmed_v (n := n) hfm hfo E hbr (i := i - 1) (j := i) (k := i + 1) (by omega) (by omega) (by omega) (by omega) hmo hl) ?_
  rintro _ _ ⟨x, m, hx, hm, rfl, rfl⟩ -
  simp (config := {maxSteps := 3000000}) only [go_sem, ↓reduceIte]
  exact ⟨_, _, Wk.refl _, weak_re hwf, x, m, by omega, by omega, by omega, rfl, rfl⟩
set_option maxRecDepth 100000 in
set_option maxHeartbeats 16000000 in
theorem cpivot_v (hf : cFun P f = some (CPivot fa fm)) (hfa : cFun P fa = some (CMedA fm)) (hfm : cFun P fm = some (CMed fo)) (hfo : cFun P fo = some (COrd2)) (E : EltC P g val lt) (h1 : a < c) (h2 : c ≤ L.length) (hmo : mono (rowc val L sp)) (hl : L.length < 4611686018427387904) :
    VCalls P f [dataV b L.length cap, .sc (.int .i64 a), .sc (.int .i64 c), cmpV g] (st.put b (rowc val L sp)) fun v s => ∃ (p : Nat) (h : Int), a ≤ p ∧ p < c ∧ v = .tup [.sc (.int .i64 p), .sc (.int .i64 h)] ∧ s = st.put b (rowc val L sp) := by
  refine vcalls_enter hf (Nat.le_of_ble_eq_true rfl) fun hwf hok => ?_
  show Run _ (CPivot fa fm).body (.fin (finQ (CPivot fa fm).res _)) _ _
  unfold CPivot
  have e0 : (c : Int) - (a : Int) = ((c - a : Nat) : Int) := by omega
  have e1 : (a : Int) + ((c - a : Nat) : Int) / 4 * 1 = ((a + (c - a) / 4 * 1 : Nat) : Int) := by omega
  have e2 : (a : Int) + ((c - a : Nat) : Int) / 4 * 2 = ((a + (c - a) / 4 * 2 : Nat) : Int) := by omega
  have e3 : (a : Int) + ((c - a : Nat) : Int) / 4 * 3 = ((a + (c - a) / 4 * 3 : Nat) : Int) := by omega
  simp (config := {maxSteps := 3000000}) only [go_sem, Nat.reduceEqDiff, Int.reduceLT, Int.reduceNeg, ↓reduceIte, dataV, cmpV, e0, e1, e2, e3]
  repeat (apply And.intro; focus (first | omega | (simp; done)))
  intro r hr
  have hbr : b < r := by omega
  have hrn : (st.put b (rowc val L sp)).box r = none := by
    rw [put_box_ne (Nat.ne_of_gt hbr)]
    cases e : st.box r with
    | none => rfl
    | some X =>
      have := hwf.lt.box r X (by rw [put_box_ne (Nat.ne_of_gt hbr)]; exact e)
      simp only [put_sz] at this
      omega
  obtain ⟨i1, ei1⟩ : ∃ i, i = a + (c - a) / 4 := ⟨_, rfl⟩
  obtain ⟨i2, ei2⟩ : ∃ i, i = a + (c - a) / 4 * 2 := ⟨_, rfl⟩
  obtain ⟨i3, ei3⟩ : ∃ i, i = a + (c - a) / 4 * 3 := ⟨_, rfl⟩
  by_cases c8 : (8 : Int) ≤ ((c - a : Nat) : Int)
  · by_cases c50 : (50 : Int) ≤ ((c - a : Nat) : Int)
    · simp (config := {maxSteps := 3000000}) only [go_sem, Nat.reduceEqDiff, Int.reduceNeg, ↓reduceIte, reduceCtorEq, decide_eq_true c8, decide_eq_true c50]
      repeat (apply And.intro; focus (first | omega | (simp; done)))
      rw [← ei1, ← ei2, ← ei3]
      refine Cal.mk (cmeda_v (n := 0) hfa hfm hfo E hbr (i := i1) (by omega) (by omega) (by omega) hmo hl) ?_
      rintro _ _ ⟨x1, n1, h1, i1, m1, rfl, rfl⟩ -
      simp (config := {maxSteps := 3000000}) only [go_sem, Nat.reduceEqDiff, ↓reduceIte, reduceCtorEq]
      refine Cal.mk (cmeda_v (n := n1) hfa hfm hfo E hbr (i := i2) (by omega) (by omega) (by omega) hmo hl) ?_
      rintro _ _ ⟨x2, n2, h2, i2, m2, rfl, rfl⟩ -
      simp (config := {maxSteps := 3000000}) only [go_sem, Nat.reduceEqDiff, ↓reduceIte, reduceCtorEq]
      refine Cal.mk (cmeda_v (n := n2) hfa hfm hfo E hbr (i := i3) (by omega) (by omega) (by omega) hmo hl) ?_
      rintro _ _ ⟨x3, n3, h3, i3, m3, rfl, rfl⟩ -
      simp (config := {maxSteps := 3000000}) only [go_sem, Nat.reduceEqDiff, ↓reduceIte, reduceCtorEq]
      refine Cal.mk (cmed_v (n := n3) hfm hfo E hbr (i := x1) (j := x2) (k := x3) (by omega) (by omega) (by omega) (by omega) hmo hl) ?_
      rintro _ _ ⟨x, m, hx, hm, rfl, rfl⟩ -
      simp (config := {maxSteps := 3000000}) only [go_sem, Nat.reduceEqDiff, ↓reduceIte]
      by_cases k0 : ((m : Nat) : Int) = 0
      · simp (config := {maxSteps := 3000000}) only [go_sem, Nat.reduceEqDiff, ↓reduceIte, decide_eq_true k0]
        exact ⟨_, _, Wk.refl _, weak_putF (weak_re hwf) hrn, x, 1, by omega, by omega, rfl, rfl⟩
      · by_cases k12 : ((m : Nat) : Int) = 12
        · simp (config := {maxSteps := 3000000}) only [go_sem, Nat.reduceEqDiff, ↓reduceIte, decide_eq_false k0, decide_eq_true k12]
          exact ⟨_, _, Wk.refl _, weak_putF (weak_re hwf) hrn, x, 2, by omega, by omega, rfl, rfl⟩
        · simp (config := {maxSteps := 3000000}) only [go_sem, Nat.reduceEqDiff, ↓reduceIte, decide_eq_false k0, decide_eq_false k12]
          exact ⟨_, _, Wk.refl _, weak_putF (weak_re hwf) hrn, x, 0, by omega, by omega, rfl, rfl⟩
    · simp (config := {maxSteps := 3000000}) only [go_sem, Nat.reduceEqDiff, Int.reduceNeg, ↓reduceIte, reduceCtorEq, decide_eq_true c8, decide_eq_false c50]
      repeat (apply And.intro; focus (first | omega | (simp; done)))
      rw [← ei1, ← ei2, ← ei3]
      refine Cal.mk (cmed_v (n := 0) hfm hfo E hbr (i := i1) (j := i2) (k := i3) (by omega) (by omega) (by omega) (by omega) hmo hl) ?_
      rintro _ _ ⟨x, m, hx, hm, rfl, rfl⟩ -
      simp (config := {maxSteps := 3000000}) only [go_sem, Nat.reduceEqDiff, ↓reduceIte]
      by_cases k0 : ((m : Nat) : Int) = 0
      · simp (config := {maxSteps := 3000000}) only [go_sem, Nat.reduceEqDiff, ↓reduceIte, decide_eq_true k0]
        exact ⟨_, _, Wk.refl _, weak_putF (weak_re hwf) hrn, x, 1, by omega, by omega, rfl, rfl⟩
      · by_cases k12 : ((m : Nat) : Int) = 12
        · simp (config := {maxSteps := 3000000}) only [go_sem, Nat.reduceEqDiff, ↓reduceIte, decide_eq_false k0, decide_eq_true k12]
          exact ⟨_, _, Wk.refl _, weak_putF (weak_re hwf) hrn, x, 2, by omega, by omega, rfl, rfl⟩
        · simp (config := {maxSteps := 3000000}) only [go_sem, Nat.reduceEqDiff, ↓reduceIte, decide_eq_false k0, decide_eq_false k12]
          exact ⟨_, _, Wk.refl _, weak_putF (weak_re hwf) hrn, x, 0, by omega, by omega, rfl, rfl⟩
  · simp (config := {maxSteps := 3000000}) only [go_sem, Nat.reduceEqDiff, Int.reduceNeg, ↓reduceIte, decide_eq_false c8]
    repeat (apply And.intro; focus (first | omega | (simp; done)))
    exact ⟨_, _, Wk.refl _, weak_putF (weak_re hwf) hrn, a + (c - a) / 4 * 2, 1, by omega, by omega, rfl, rfl⟩
set_option maxRecDepth 100000 in
set_option maxHeartbeats 16000000 in
theorem cbreak_v (hf : cFun P f = some (CBreak fpow fnext)) (hpow : ∀ (st : St) (n : Nat), 0 < n → n < 4611686018427387904 → VCalls P fpow [.sc (.int .i64 n)] st fun v s => st = s ∧ ∃ m : Nat, n < m ∧ m ≤ 2 * n ∧ v = .sc (.int .u64 m))
    (hnext : ∀ (st : St) (r : Nat) (x : Int), VCalls P fnext [ptrV r] (st.put r [.sc (.int .u64 x)]) fun v s => ∃ y, v = .sc (.int .u64 y) ∧ s = st.put r [.sc (.int .u64 y)]) (h1 : a ≤ c) (h2 : c ≤ L.length) (hmo : mono (rowc val L sp)) (hl : L.length < 4611686018427387904) :
    VCalls P f [dataV b L.length cap, .sc (.int .i64 a), .sc (.int .i64 c), cmpV g] (st.put b (rowc val L sp)) fun v s => ∃ M, Mix a c L M ∧ s = st.put b (rowc val M sp) := by
  refine vcalls_enter hf (Nat.le_of_ble_eq_true rfl) fun hwf hok => ?_
  show Run _ (CBreak fpow fnext).body (.fin (finQ (CBreak fpow fnext).res _)) _ _
  unfold CBreak
  have e0 : (c : Int) - (a : Int) = ((c - a : Nat) : Int) := by omega
  have e1 : ((c - a : Nat) : Int) % 18446744073709551616 = ((c - a : Nat) : Int) := by omega
  by_cases c8 : (8 : Int) ≤ ((c - a : Nat) : Int)
  · simp (config := {maxSteps := 3000000}) only [go_sem, Nat.reduceEqDiff, Nat.reduceLT, Nat.reduceLeDiff, Int.reduceNeg, ↓reduceIte, dataV, cmpV, e0, e1, decide_eq_true c8]
    repeat (apply And.intro; focus (first | omega | (simp; done)))
    intro r hr
    have hbr : b < r := by omega
    have hrn : (st.put b (rowc val L sp)).box r = none := by
      rw [put_box_ne (Nat.ne_of_gt hbr)]
      cases e : st.box r with
      | none => rfl
      | some X =>
        have := hwf.lt.box r X (by rw [put_box_ne (Nat.ne_of_gt hbr)]; exact e)
        simp only [put_sz] at this
        omega
    refine Cal.mk (hpow _ (c - a) (by omega) (by omega)) ?_
    rintro _ _ ⟨rfl, m, hm1, hm2, rfl⟩ -
    obtain ⟨q, eq⟩ : ∃ q : Nat, q = (c - a) / 4 * 2 := ⟨_, rfl⟩
    have e2 : ((c - a : Nat) : Int) / 4 * 2 = (q : Int) := by omega
    have e3 : ((m : Int) - 1) % 18446744073709551616 = ((m - 1 : Nat) : Int) := by omega
    simp (config := {maxSteps := 3000000}) only [go_sem, Nat.reduceEqDiff, Int.reduceLT, Int.reduceNeg, ↓reduceIte, e2]
    repeat (apply And.intro; focus (first | omega | (simp; done)))
    refine run_loop [11, 12, 28, 29, 30, 31, 32, 33, 34, 35, 36, 37, 38, 39, 40, 41, 42, 43, 44, 45, 46, 47, 48, 49, 50, 51, 52, 53, 54, 55, 56, 57, 58, 59, 60, 61, 62, 63, 64, 65, 66] (fun B s => ∃ (k : Nat) (x : Int) (M : List α), B 11 = .sc (.int .i64 k) ∧ a + q ≤ k + 1 ∧ k ≤ a + q + 2 ∧ Mix a c L M ∧ s = (st.put b (rowc val M sp)).put r [.sc (.int .u64 x)]) (fun B _ => a + q + 2 - vnat (B 11)) rfl ?_ ?_
    · simp (config := {maxSteps := 3000000}) only [go_sem, ↓reduceIte]
      exact ⟨a + q - 1, _, L, by rw [show (a : Int) + (q : Int) - 1 = ((a + q - 1 : Nat) : Int) by omega], by omega, by omega, .refl, rfl⟩
    · rintro B s ⟨k, x, M, h9, hk1, hk2, hM, rfl⟩
      have hlen := hM.len
      by_cases ck : (k : Int) ≤ (a : Int) + (q : Int) + 1
      · simp (config := {maxSteps := 3000000}) only [go_sem, Nat.reduceEqDiff, Int.reduceLT, Int.reduceNeg, ↓reduceIte, Nat.reduceBEq, h9, e2, decide_eq_true ck]
        repeat (apply And.intro; focus (first | omega | (simp; done)))
        refine Cal.mk (hnext _ r x) ?_
        rintro _ _ ⟨y, rfl, rfl⟩ -
        obtain ⟨z, ez, hz⟩ := and_u64 y (m := m - 1) (by omega)
        by_cases cz : ((c - a : Nat) : Int) ≤ (z : Int)
        · have ezz : (z : Int) - ((c - a : Nat) : Int) = ((z - (c - a) : Nat) : Int) := by omega
          obtain ⟨g1, g2, s1, s2, m1, m2⟩ := swapC hmo hlen (i := k) (j := a + (z - (c - a))) (by omega) (by omega)
          have hex := hM.exch (i := k) (j := a + (z - (c - a))) (by omega) (by omega) (by omega) (by omega) h2
          have ej : ((a : Int) + ((z - (c - a) : Nat) : Int)).toNat = a + (z - (c - a)) := by omega
          simp (config := {maxSteps := 3000000}) only [go_sem, Nat.reduceEqDiff, Nat.reduceAdd, Nat.reduceLT, Int.reduceNeg, ↓reduceIte, reduceCtorEq, Nat.reduceBEq, h9, ez, ezz, e3, decide_eq_true cz, ej, g1, g2, s1, s2, m1, m2, rowc_len, List.length_set, put_swp (Nat.ne_of_lt hbr), put_box_ne (Nat.ne_of_lt hbr)]
          repeat (apply And.intro; focus (first | omega | (simp; done)))
          exact ⟨⟨k + 1, y, _, by simp, by omega, by omega, hex, rfl⟩, by omega⟩
        · obtain ⟨g1, g2, s1, s2, m1, m2⟩ := swapC hmo hlen (i := k) (j := a + z) (by omega) (by omega)
          have hex := hM.exch (i := k) (j := a + z) (by omega) (by omega) (by omega) (by omega) h2
          have ej : ((a : Int) + (z : Int)).toNat = a + z := by omega
          simp (config := {maxSteps := 3000000}) only [go_sem, Nat.reduceEqDiff, Nat.reduceAdd, Nat.reduceLT, Int.reduceNeg, ↓reduceIte, reduceCtorEq, Nat.reduceBEq, h9, ez, e3, decide_eq_false cz, ej, g1, g2, s1, s2, m1, m2, rowc_len, List.length_set, put_swp (Nat.ne_of_lt hbr), put_box_ne (Nat.ne_of_lt hbr)]
          repeat (apply And.intro; focus (first | omega | (simp; done)))
          exact ⟨⟨k + 1, y, _, by simp, by omega, by omega, hex, rfl⟩, by omega⟩
      · simp (config := {maxSteps := 3000000}) only [go_sem, Nat.reduceEqDiff, Int.reduceLT, Int.reduceNeg, ↓reduceIte, Nat.reduceBEq, h9, e2, decide_eq_false ck]
        repeat (apply And.intro; focus (first | omega | (simp; done)))
        exact ⟨_, _, Wk.refl _, weak_putF (weak_re hwf) (by rw [put_box_ne (Nat.ne_of_gt hbr)] at hrn ⊢; exact hrn), M, hM, rfl⟩
  · simp (config := {maxSteps := 3000000}) only [go_sem, Nat.reduceEqDiff, Int.reduceNeg, ↓reduceIte, dataV, cmpV, e0, decide_eq_false c8]
    repeat (apply And.intro; focus (first | omega | (simp; done)))
    exact ⟨_, _, Wk.refl _, weak_re hwf, L, .refl, rfl⟩
end
end
section
open Go

/-- The sort's functions of one instance. -/
structure SortsC (P : Program) (f fins fheap fbreak fpivot frev fpart fequal fsplit fsift fa fm fo fpow fnext : FuncId) : Prop where
  pdq : cFun P f = some (CPdq fins fheap fbreak fpivot frev fpart fequal fsplit f)
  ins : cFun P fins = some (CIns)
  heap : cFun P fheap = some (CHeap fsift)
  sift : cFun P fsift = some (CSift)
  brk : cFun P fbreak = some (CBreak fpow fnext)
  pivot : cFun P fpivot = some (CPivot fa fm)
  meda : cFun P fa = some (CMedA fm)
  med : cFun P fm = some (CMed fo)
  ord2 : cFun P fo = some (COrd2)
  rev : cFun P frev = some CRev
  part : cFun P fpart = some (CPart)
  equal : cFun P fequal = some (CEqual)
  split : cFun P fsplit = some (CSplit)
  pow : ∀ (st : St) (n : Nat), 0 < n → n < 4611686018427387904 → VCalls P fpow [.sc (.int .i64 n)] st fun v s => st = s ∧ ∃ m : Nat, n < m ∧ m ≤ 2 * n ∧ v = .sc (.int .u64 m)
  next : ∀ (st : St) (r : Nat) (x : Int), VCalls P fnext [ptrV r] (st.put r [.sc (.int .u64 x)]) fun v s => ∃ y, v = .sc (.int .u64 y) ∧ s = st.put r [.sc (.int .u64 y)]
section
variable {P : Program} {α : Type} [Inhabited α] {val : α → V × V} {lt : α → α → Bool} {g f fsift : FuncId} {st : St} {b cap a c : Nat} {L : List α} {sp : List V}
variable {fins fheap fbreak fpivot frev fpart fequal fsplit fa fm fo fpow fnext : FuncId}
set_option maxRecDepth 100000 in
set_option maxHeartbeats 64000000 in
theorem cpdq_v (hc : SortsC P f fins fheap fbreak fpivot frev fpart fequal fsplit fsift fa fm fo fpow fnext) (E : EltC P g val lt) : ∀ (n a c : Nat) (L : List α) (lim : Int), c - a ≤ n → a ≤ c → c ≤ L.length → L.length < 4611686018427387904 → 0 ≤ lim → lim < 4611686018427387904 → LB lt a c L → mono (rowc val L sp) →
    VCalls P f [dataV b L.length cap, .sc (.int .i64 a), .sc (.int .i64 c), .sc (.int .i64 lim), cmpV g] (st.put b (rowc val L sp)) fun _ s => ∃ M, Mix a c L M ∧ Srt lt a c M ∧ s = st.put b (rowc val M sp) := by
  intro n
  induction n using Nat.strongRecOn with
  | _ n ih =>
  intro a c L lim hn h1 h2 hl hl0 hl1 hLB hmo
  refine vcalls_enter hc.pdq (Nat.le_of_ble_eq_true rfl) fun hwf hok => ?_
  show Run _ (CPdq fins fheap fbreak fpivot frev fpart fequal fsplit f).body (.fin (finQ (CPdq fins fheap fbreak fpivot frev fpart fequal fsplit f).res _)) _ _
  unfold CPdq
  simp (config := {maxSteps := 3000000}) only [go_sem, dataV, cmpV]
  refine run_loop [1, 2, 3, 10, 11, 12, 13, 14, 15, 16, 17, 18, 19, 20, 21, 22, 23, 24, 25, 26, 27, 28, 29, 30, 31, 32, 33, 34, 35, 36, 37, 38, 39, 40, 41, 42, 43, 44, 45, 46, 47, 48, 49, 50, 51, 52, 53, 54, 55, 56, 57, 58, 59, 60, 61, 62, 63, 64, 65, 66, 67, 68, 69, 70, 71, 72, 73, 74, 75, 76, 77, 78, 79, 80, 81, 82, 83, 84, 85, 86, 87, 88, 89, 90, 91, 92, 93, 94, 95, 96, 97, 98, 99, 100, 101, 102, 103, 104, 105, 106, 107, 108, 109, 110, 111, 112, 113, 114, 115, 116, 117, 118, 119, 120, 121, 122, 123, 124, 125, 126, 127, 128, 129, 130, 131, 132, 133, 134, 135, 136, 137, 138, 139, 140, 141, 142, 143, 144, 145, 146, 147] (fun B s => ∃ (x y : Nat) (M : List α) (lim : Int) (B1 B2 : Bool), B 1 = .sc (.int .i64 x) ∧ B 2 = .sc (.int .i64 y) ∧ B 3 = .sc (.int .i64 lim) ∧ B 10 = .sc (.bool B1) ∧ B 11 = .sc (.bool B2) ∧ a ≤ x ∧ x ≤ y ∧ y ≤ c ∧ 0 ≤ lim ∧ lim < 4611686018427387904 ∧ Mix a c L M ∧ Fence lt a c x y M ∧ s = st.put b (rowc val M sp)) (fun B _ => vnat (B 2) - vnat (B 1)) rfl ?_ ?_
  · simp (config := {maxSteps := 3000000}) only [go_sem, Nat.reduceEqDiff, ↓reduceIte]
    exact ⟨a, c, L, lim, true, true, rfl, rfl, rfl, rfl, rfl, by omega, by omega, by omega, hl0, hl1, .refl, Fence.nil, rfl⟩
  · clear hl0 hl1
    rintro B s ⟨x, y, M, lim, B1, B2, q1, q2, q3, q8, q9, hax, hxy, hyc, hl0, hl1, hM, hF, rfl⟩
    have hlen := hM.len
    have e0 : (y : Int) - (x : Int) = ((y - x : Nat) : Int) := by omega
    by_cases c12 : ((y - x : Nat) : Int) ≤ 12
    · simp (config := {maxSteps := 3000000}) only [go_sem, Nat.reduceEqDiff, Int.reduceNeg, ↓reduceIte, reduceCtorEq, Nat.reduceBEq, q1, q2, e0, decide_eq_true c12]
      repeat (apply And.intro; focus (first | omega | (simp; done)))
      have cc := cins_v (st := st) (b := b) (cap := cap) (sp := sp) hc.ins E (rowc_mono hmo hlen) (L := M) (a := x) (c := y) (by omega) (by omega) (by omega)
      rw [hlen, dataV] at cc
      refine Cal.mk cc ?_
      rintro _ _ ⟨N, n1, n2, rfl⟩ -
      clear cc
      simp (config := {maxSteps := 3000000}) only [go_sem]
      have hfin := hF.fin hM hax hyc h2 n1 n2
      exact ⟨_, _, Wk.refl _, weak_re hwf, N, hfin.1, hfin.2, rfl⟩
    · by_cases cl : lim = 0
      · simp (config := {maxSteps := 3000000}) only [go_sem, Nat.reduceEqDiff, Int.reduceNeg, ↓reduceIte, reduceCtorEq, Nat.reduceBEq, q1, q2, q3, e0, decide_eq_false c12, decide_eq_true cl]
        repeat (apply And.intro; focus (first | omega | (simp; done)))
        have cc := cheap_v (st := st) (b := b) (cap := cap) (sp := sp) hc.heap hc.sift E (rowc_mono hmo hlen) (L := M) (a := x) (c := y) (by omega) (by omega) (by omega)
        rw [hlen, dataV] at cc
        refine Cal.mk cc ?_
        rintro _ _ ⟨N, n1, n2, rfl⟩ -
        clear cc
        simp (config := {maxSteps := 3000000}) only [go_sem]
        have hfin := hF.fin hM hax hyc h2 n1 n2
        exact ⟨_, _, Wk.refl _, weak_re hwf, N, hfin.1, hfin.2, rfl⟩
      · cases B1
        · simp (config := {maxSteps := 3000000}) only [go_sem, Nat.reduceEqDiff, Int.reduceNeg, ↓reduceIte, reduceCtorEq, Nat.reduceBEq, q1, q2, q3, q8, e0, decide_eq_false c12, decide_eq_false cl]
          repeat (apply And.intro; focus (first | omega | (simp; done)))
          have cc := cbreak_v (st := st) (b := b) (cap := cap) (sp := sp) hc.brk (g := g) hc.pow hc.next (L := M) (a := x) (c := y) (by omega) (by omega) (rowc_mono hmo hlen) (by omega)
          rw [hlen, dataV] at cc
          refine Cal.mk cc ?_
          rintro _ _ ⟨N, n1, rfl⟩ -
          clear cc
          simp (config := {maxSteps := 3000000}) only [go_sem, Nat.reduceEqDiff, Int.reduceNeg, ↓reduceIte, reduceCtorEq, Nat.reduceBEq, q1, q2, q3]
          repeat (apply And.intro; focus (first | omega | (simp; done)))
          have hF := hF.mix n1 hax hyc (by omega)
          have hM := hM.trans (n1.wide hax hyc)
          have hlen := hM.len
          obtain ⟨lim', el⟩ : ∃ l, l = lim - 1 := ⟨_, rfl⟩
          rw [← el]
          have hl0 : 0 ≤ lim' := by omega
          have hl1 : lim' < 4611686018427387904 := by omega
          clear n1
          generalize N = M at hF hM hlen ⊢
          have cc := cpivot_v (st := st) (b := b) (cap := cap) (sp := sp) hc.pivot hc.meda hc.med hc.ord2 E (L := M) (a := x) (c := y) (by omega) (by omega) (rowc_mono hmo hlen) (by omega)
          rw [hlen, dataV] at cc
          refine Cal.mk cc ?_
          rintro _ _ ⟨pv, hint, p1, p2, rfl, rfl⟩ -
          clear cc
          by_cases k2 : hint = 2
          · simp (config := {maxSteps := 3000000}) only [go_sem, Nat.reduceEqDiff, ↓reduceIte, reduceCtorEq, Nat.reduceBEq, q1, q2, decide_eq_true k2]
            repeat (apply And.intro; focus (first | omega | (simp; done)))
            have cc := crev_v (st := st) (b := b) (cap := cap) (sp := sp) hc.rev (g := g) (rowc_mono hmo hlen) (L := M) (a := x) (c := y) (by omega) (by omega) (by omega)
            rw [hlen, dataV] at cc
            refine Cal.mk cc ?_
            rintro _ _ ⟨N, n1, rfl⟩ -
            clear cc
            have hF := hF.mix n1 hax hyc (by omega)
            have hM := hM.trans (n1.wide hax hyc)
            have hlen := hM.len
            have ep : (y : Int) - 1 - ((pv : Int) - (x : Int)) = ((y - 1 - (pv - x) : Nat) : Int) := by omega
            obtain ⟨pw, epw⟩ : ∃ pw, pw = y - 1 - (pv - x) := ⟨_, rfl⟩
            have p1 : x ≤ pw := by omega
            have p2 : pw < y := by omega
            rw [← epw] at ep
            clear n1 epw
            generalize N = M at hF hM hlen ⊢
            simp (config := {maxSteps := 3000000}) only [go_sem, Nat.reduceEqDiff, Int.reduceNeg, ↓reduceIte, Nat.reduceBEq, q1, q2, q8, ep]
            repeat (apply And.intro; focus (first | omega | (simp; done)))
            clear ep
            generalize pw = pv at p1 p2 ⊢
            have hLM := hLB.mix hM h2
            have hLx := hF.lb hLM hax hyc
            by_cases cx : 0 < x
            · have ex : ((x : Int) - 1).toNat = x - 1 := by omega
              simp (config := {maxSteps := 3000000}) only [go_sem, Nat.reduceEqDiff, Int.reduceNeg, ↓reduceIte, reduceCtorEq, Nat.reduceBEq, q1, ex, decide_eq_true (show (0 : Int) < (x : Int) by omega), rowc_get (show x - 1 < M.length by omega), rowc_get (show pv < M.length by omega), rowc_len, rowc_mono hmo hlen, E.call, List.map_nil]
              repeat (apply And.intro; focus (first | omega | (simp; done)))
              refine Cal.mk (E.less _ _ _) ?_
              rintro _ _ ⟨z1, hz1, rfl, rfl⟩ -
              simp (config := {maxSteps := 3000000}) only [go_sem, Nat.reduceEqDiff, ↓reduceIte, hz1]
              cases cq : lt M[x - 1]! M[pv]!
              · simp (config := {maxSteps := 3000000}) only [go_sem, Nat.reduceEqDiff, ↓reduceIte, reduceCtorEq, Nat.reduceBEq, q1, q2]
                have cc := cequal_v (st := st) (b := b) (cap := cap) (sp := sp) hc.equal E (rowc_mono hmo hlen) (p := pv) (by omega) (by omega) (by omega) (by omega) (L := M) (a := x) (c := y)
                rw [hlen, dataV] at cc
                refine Cal.mk cc ?_
                rintro _ _ ⟨m, N, n1, n2, n3, n4, n5, rfl, rfl⟩ -
                clear cc
                simp (config := {maxSteps := 3000000}) only [go_sem, Nat.reduceEqDiff, ↓reduceIte, Nat.reduceBEq, q2, q8, q9]
                repeat (apply And.intro; focus (first | omega | (simp; done)))
                exact ⟨⟨m, y, N, lim', _, _, rfl, rfl, rfl, rfl, rfl, by omega, by omega, by omega, hl0, hl1, hM.trans (n3.wide hax hyc), hF.goE E.ord hLx cx cq hax hyc n1 n2 (by omega) n3 n4, rfl⟩, by omega⟩
              · simp (config := {maxSteps := 3000000}) only [go_sem, Nat.reduceEqDiff, ↓reduceIte, reduceCtorEq, Nat.reduceBEq, q1, q2]
                have cc := csplit_v (st := st) (b := b) (cap := cap) (sp := sp) hc.split E (rowc_mono hmo hlen) (p := pv) (by omega) (by omega) (by omega) (by omega) (L := M) (a := x) (c := y)
                rw [hlen, dataV] at cc
                refine Cal.mk cc ?_
                rintro _ _ ⟨m, B3, N, n1, n2, n3, n4, n5, rfl, rfl⟩ -
                clear cc
                have hlN : N.length = L.length := n3.len.trans hlen
                have hMN : Mix a c L N := hM.trans (n3.wide hax hyc)
                have hFN := hF.mix n3 hax hyc (by omega)
                have hLN := hLx.mix n3 (by omega)
                have e4 : (m : Int) - (x : Int) = ((m - x : Nat) : Int) := by omega
                have e5 : (y : Int) - (m : Int) = ((y - m : Nat) : Int) := by omega
                have e6 : (m : Int) + 1 = ((m + 1 : Nat) : Int) := by simp
                clear hM hF hLx hLM n3
                by_cases cl : ((m - x : Nat) : Int) < ((y - m : Nat) : Int)
                · simp (config := {maxSteps := 3000000}) only [go_sem, Nat.reduceEqDiff, Int.reduceLT, Int.reduceNeg, ↓reduceIte, reduceCtorEq, Nat.reduceBEq, q1, q2, e4, e5, decide_eq_true cl]
                  repeat (apply And.intro; focus (first | omega | (simp; done)))
                  have cc := ih (m - x) (by omega) x m N lim' (Nat.le_refl _) (by omega) (by omega) (by omega) hl0 hl1 (hLN.part (by omega)) (rowc_mono hmo hlN)
                  rw [hlN, dataV] at cc
                  refine Cal.mk cc ?_
                  rintro _ _ ⟨R, r1, r2, rfl⟩ -
                  clear cc
                  simp (config := {maxSteps := 3000000}) only [go_sem, Nat.reduceEqDiff, Int.reduceNeg, ↓reduceIte, Nat.reduceBEq, q2, e6]
                  repeat (apply And.intro; focus (first | omega | (simp; done)))
                  exact ⟨⟨m + 1, y, R, lim', _, _, rfl, rfl, rfl, rfl, rfl, by omega, by omega, by omega, hl0, hl1, hMN.trans (r1.wide (by omega) (by omega)), hFN.goL E.ord hax hyc (by omega) (by omega) (by omega) n4 n5 r1 r2, rfl⟩, by omega⟩
                · simp (config := {maxSteps := 3000000}) only [go_sem, Nat.reduceEqDiff, Int.reduceLT, Int.reduceNeg, ↓reduceIte, reduceCtorEq, Nat.reduceBEq, q1, q2, e4, e5, e6, decide_eq_false cl]
                  repeat (apply And.intro; focus (first | omega | (simp; done)))
                  have cc := ih (y - (m + 1)) (by omega) (m + 1) y N lim' (Nat.le_refl _) (by omega) (by omega) (by omega) hl0 hl1 (LB.next n5) (rowc_mono hmo hlN)
                  rw [hlN, dataV] at cc
                  refine Cal.mk cc ?_
                  rintro _ _ ⟨R, r1, r2, rfl⟩ -
                  clear cc
                  simp (config := {maxSteps := 3000000}) only [go_sem, Nat.reduceEqDiff, ↓reduceIte, Nat.reduceBEq, q1]
                  repeat (apply And.intro; focus (first | omega | (simp; done)))
                  exact ⟨⟨x, m, R, lim', _, _, rfl, rfl, rfl, rfl, rfl, by omega, by omega, by omega, hl0, hl1, hMN.trans (r1.wide (by omega) (by omega)), hFN.goR E.ord hax hyc (by omega) (by omega) (by omega) n4 n5 r1 r2, rfl⟩, by omega⟩
            · simp (config := {maxSteps := 3000000}) only [go_sem, Nat.reduceEqDiff, ↓reduceIte, reduceCtorEq, Nat.reduceBEq, q1, q2, decide_eq_false (show ¬ (0 : Int) < (x : Int) by omega)]
              have cc := csplit_v (st := st) (b := b) (cap := cap) (sp := sp) hc.split E (rowc_mono hmo hlen) (p := pv) (by omega) (by omega) (by omega) (by omega) (L := M) (a := x) (c := y)
              rw [hlen, dataV] at cc
              refine Cal.mk cc ?_
              rintro _ _ ⟨m, B3, N, n1, n2, n3, n4, n5, rfl, rfl⟩ -
              clear cc
              have hlN : N.length = L.length := n3.len.trans hlen
              have hMN : Mix a c L N := hM.trans (n3.wide hax hyc)
              have hFN := hF.mix n3 hax hyc (by omega)
              have hLN := hLx.mix n3 (by omega)
              have e4 : (m : Int) - (x : Int) = ((m - x : Nat) : Int) := by omega
              have e5 : (y : Int) - (m : Int) = ((y - m : Nat) : Int) := by omega
              have e6 : (m : Int) + 1 = ((m + 1 : Nat) : Int) := by simp
              clear hM hF hLx hLM n3
              by_cases cl : ((m - x : Nat) : Int) < ((y - m : Nat) : Int)
              · simp (config := {maxSteps := 3000000}) only [go_sem, Nat.reduceEqDiff, Int.reduceLT, Int.reduceNeg, ↓reduceIte, reduceCtorEq, Nat.reduceBEq, q1, q2, e4, e5, decide_eq_true cl]
                repeat (apply And.intro; focus (first | omega | (simp; done)))
                have cc := ih (m - x) (by omega) x m N lim' (Nat.le_refl _) (by omega) (by omega) (by omega) hl0 hl1 (hLN.part (by omega)) (rowc_mono hmo hlN)
                rw [hlN, dataV] at cc
                refine Cal.mk cc ?_
                rintro _ _ ⟨R, r1, r2, rfl⟩ -
                clear cc
                simp (config := {maxSteps := 3000000}) only [go_sem, Nat.reduceEqDiff, Int.reduceNeg, ↓reduceIte, Nat.reduceBEq, q2, e6]
                repeat (apply And.intro; focus (first | omega | (simp; done)))
                exact ⟨⟨m + 1, y, R, lim', _, _, rfl, rfl, rfl, rfl, rfl, by omega, by omega, by omega, hl0, hl1, hMN.trans (r1.wide (by omega) (by omega)), hFN.goL E.ord hax hyc (by omega) (by omega) (by omega) n4 n5 r1 r2, rfl⟩, by omega⟩
              · simp (config := {maxSteps := 3000000}) only [go_sem, Nat.reduceEqDiff, Int.reduceLT, Int.reduceNeg, ↓reduceIte, reduceCtorEq, Nat.reduceBEq, q1, q2, e4, e5, e6, decide_eq_false cl]
                repeat (apply And.intro; focus (first | omega | (simp; done)))
                have cc := ih (y - (m + 1)) (by omega) (m + 1) y N lim' (Nat.le_refl _) (by omega) (by omega) (by omega) hl0 hl1 (LB.next n5) (rowc_mono hmo hlN)
                rw [hlN, dataV] at cc
                refine Cal.mk cc ?_
                rintro _ _ ⟨R, r1, r2, rfl⟩ -
                clear cc
                simp (config := {maxSteps := 3000000}) only [go_sem, Nat.reduceEqDiff, ↓reduceIte, Nat.reduceBEq, q1]
                repeat (apply And.intro; focus (first | omega | (simp; done)))
                exact ⟨⟨x, m, R, lim', _, _, rfl, rfl, rfl, rfl, rfl, by omega, by omega, by omega, hl0, hl1, hMN.trans (r1.wide (by omega) (by omega)), hFN.goR E.ord hax hyc (by omega) (by omega) (by omega) n4 n5 r1 r2, rfl⟩, by omega⟩
          · simp (config := {maxSteps := 3000000}) only [go_sem, Nat.reduceEqDiff, ↓reduceIte, Nat.reduceBEq, q1, q8, decide_eq_false k2]
            repeat (apply And.intro; focus (first | omega | (simp; done)))
            have hLM := hLB.mix hM h2
            have hLx := hF.lb hLM hax hyc
            by_cases cx : 0 < x
            · have ex : ((x : Int) - 1).toNat = x - 1 := by omega
              simp (config := {maxSteps := 3000000}) only [go_sem, Nat.reduceEqDiff, Int.reduceNeg, ↓reduceIte, reduceCtorEq, Nat.reduceBEq, q1, ex, decide_eq_true (show (0 : Int) < (x : Int) by omega), rowc_get (show x - 1 < M.length by omega), rowc_get (show pv < M.length by omega), rowc_len, rowc_mono hmo hlen, E.call, List.map_nil]
              repeat (apply And.intro; focus (first | omega | (simp; done)))
              refine Cal.mk (E.less _ _ _) ?_
              rintro _ _ ⟨z2, hz2, rfl, rfl⟩ -
              simp (config := {maxSteps := 3000000}) only [go_sem, Nat.reduceEqDiff, ↓reduceIte, hz2]
              cases cq : lt M[x - 1]! M[pv]!
              · simp (config := {maxSteps := 3000000}) only [go_sem, Nat.reduceEqDiff, ↓reduceIte, reduceCtorEq, Nat.reduceBEq, q1, q2]
                have cc := cequal_v (st := st) (b := b) (cap := cap) (sp := sp) hc.equal E (rowc_mono hmo hlen) (p := pv) (by omega) (by omega) (by omega) (by omega) (L := M) (a := x) (c := y)
                rw [hlen, dataV] at cc
                refine Cal.mk cc ?_
                rintro _ _ ⟨m, N, n1, n2, n3, n4, n5, rfl, rfl⟩ -
                clear cc
                simp (config := {maxSteps := 3000000}) only [go_sem, Nat.reduceEqDiff, ↓reduceIte, Nat.reduceBEq, q2, q8, q9]
                repeat (apply And.intro; focus (first | omega | (simp; done)))
                exact ⟨⟨m, y, N, lim', _, _, rfl, rfl, rfl, rfl, rfl, by omega, by omega, by omega, hl0, hl1, hM.trans (n3.wide hax hyc), hF.goE E.ord hLx cx cq hax hyc n1 n2 (by omega) n3 n4, rfl⟩, by omega⟩
              · simp (config := {maxSteps := 3000000}) only [go_sem, Nat.reduceEqDiff, ↓reduceIte, reduceCtorEq, Nat.reduceBEq, q1, q2]
                have cc := csplit_v (st := st) (b := b) (cap := cap) (sp := sp) hc.split E (rowc_mono hmo hlen) (p := pv) (by omega) (by omega) (by omega) (by omega) (L := M) (a := x) (c := y)
                rw [hlen, dataV] at cc
                refine Cal.mk cc ?_
                rintro _ _ ⟨m, B3, N, n1, n2, n3, n4, n5, rfl, rfl⟩ -
                clear cc
                have hlN : N.length = L.length := n3.len.trans hlen
                have hMN : Mix a c L N := hM.trans (n3.wide hax hyc)
                have hFN := hF.mix n3 hax hyc (by omega)
                have hLN := hLx.mix n3 (by omega)
                have e4 : (m : Int) - (x : Int) = ((m - x : Nat) : Int) := by omega
                have e5 : (y : Int) - (m : Int) = ((y - m : Nat) : Int) := by omega
                have e6 : (m : Int) + 1 = ((m + 1 : Nat) : Int) := by simp
                clear hM hF hLx hLM n3
                by_cases cl : ((m - x : Nat) : Int) < ((y - m : Nat) : Int)
                · simp (config := {maxSteps := 3000000}) only [go_sem, Nat.reduceEqDiff, Int.reduceLT, Int.reduceNeg, ↓reduceIte, reduceCtorEq, Nat.reduceBEq, q1, q2, e4, e5, decide_eq_true cl]
                  repeat (apply And.intro; focus (first | omega | (simp; done)))
                  have cc := ih (m - x) (by omega) x m N lim' (Nat.le_refl _) (by omega) (by omega) (by omega) hl0 hl1 (hLN.part (by omega)) (rowc_mono hmo hlN)
                  rw [hlN, dataV] at cc
                  refine Cal.mk cc ?_
                  rintro _ _ ⟨R, r1, r2, rfl⟩ -
                  clear cc
                  simp (config := {maxSteps := 3000000}) only [go_sem, Nat.reduceEqDiff, Int.reduceNeg, ↓reduceIte, Nat.reduceBEq, q2, e6]
                  repeat (apply And.intro; focus (first | omega | (simp; done)))
                  exact ⟨⟨m + 1, y, R, lim', _, _, rfl, rfl, rfl, rfl, rfl, by omega, by omega, by omega, hl0, hl1, hMN.trans (r1.wide (by omega) (by omega)), hFN.goL E.ord hax hyc (by omega) (by omega) (by omega) n4 n5 r1 r2, rfl⟩, by omega⟩
                · simp (config := {maxSteps := 3000000}) only [go_sem, Nat.reduceEqDiff, Int.reduceLT, Int.reduceNeg, ↓reduceIte, reduceCtorEq, Nat.reduceBEq, q1, q2, e4, e5, e6, decide_eq_false cl]
                  repeat (apply And.intro; focus (first | omega | (simp; done)))
                  have cc := ih (y - (m + 1)) (by omega) (m + 1) y N lim' (Nat.le_refl _) (by omega) (by omega) (by omega) hl0 hl1 (LB.next n5) (rowc_mono hmo hlN)
                  rw [hlN, dataV] at cc
                  refine Cal.mk cc ?_
                  rintro _ _ ⟨R, r1, r2, rfl⟩ -
                  clear cc
                  simp (config := {maxSteps := 3000000}) only [go_sem, Nat.reduceEqDiff, ↓reduceIte, Nat.reduceBEq, q1]
                  repeat (apply And.intro; focus (first | omega | (simp; done)))
                  exact ⟨⟨x, m, R, lim', _, _, rfl, rfl, rfl, rfl, rfl, by omega, by omega, by omega, hl0, hl1, hMN.trans (r1.wide (by omega) (by omega)), hFN.goR E.ord hax hyc (by omega) (by omega) (by omega) n4 n5 r1 r2, rfl⟩, by omega⟩
            · simp (config := {maxSteps := 3000000}) only [go_sem, Nat.reduceEqDiff, ↓reduceIte, reduceCtorEq, Nat.reduceBEq, q1, q2, decide_eq_false (show ¬ (0 : Int) < (x : Int) by omega)]
              have cc := csplit_v (st := st) (b := b) (cap := cap) (sp := sp) hc.split E (rowc_mono hmo hlen) (p := pv) (by omega) (by omega) (by omega) (by omega) (L := M) (a := x) (c := y)
              rw [hlen, dataV] at cc
              refine Cal.mk cc ?_
              rintro _ _ ⟨m, B3, N, n1, n2, n3, n4, n5, rfl, rfl⟩ -
              clear cc
              have hlN : N.length = L.length := n3.len.trans hlen
              have hMN : Mix a c L N := hM.trans (n3.wide hax hyc)
              have hFN := hF.mix n3 hax hyc (by omega)
              have hLN := hLx.mix n3 (by omega)
              have e4 : (m : Int) - (x : Int) = ((m - x : Nat) : Int) := by omega
              have e5 : (y : Int) - (m : Int) = ((y - m : Nat) : Int) := by omega
              have e6 : (m : Int) + 1 = ((m + 1 : Nat) : Int) := by simp
              clear hM hF hLx hLM n3
              by_cases cl : ((m - x : Nat) : Int) < ((y - m : Nat) : Int)
              · simp (config := {maxSteps := 3000000}) only [go_sem, Nat.reduceEqDiff, Int.reduceLT, Int.reduceNeg, ↓reduceIte, reduceCtorEq, Nat.reduceBEq, q1, q2, e4, e5, decide_eq_true cl]
                repeat (apply And.intro; focus (first | omega | (simp; done)))
                have cc := ih (m - x) (by omega) x m N lim' (Nat.le_refl _) (by omega) (by omega) (by omega) hl0 hl1 (hLN.part (by omega)) (rowc_mono hmo hlN)
                rw [hlN, dataV] at cc
                refine Cal.mk cc ?_
                rintro _ _ ⟨R, r1, r2, rfl⟩ -
                clear cc
                simp (config := {maxSteps := 3000000}) only [go_sem, Nat.reduceEqDiff, Int.reduceNeg, ↓reduceIte, Nat.reduceBEq, q2, e6]
                repeat (apply And.intro; focus (first | omega | (simp; done)))
                exact ⟨⟨m + 1, y, R, lim', _, _, rfl, rfl, rfl, rfl, rfl, by omega, by omega, by omega, hl0, hl1, hMN.trans (r1.wide (by omega) (by omega)), hFN.goL E.ord hax hyc (by omega) (by omega) (by omega) n4 n5 r1 r2, rfl⟩, by omega⟩
              · simp (config := {maxSteps := 3000000}) only [go_sem, Nat.reduceEqDiff, Int.reduceLT, Int.reduceNeg, ↓reduceIte, reduceCtorEq, Nat.reduceBEq, q1, q2, e4, e5, e6, decide_eq_false cl]
                repeat (apply And.intro; focus (first | omega | (simp; done)))
                have cc := ih (y - (m + 1)) (by omega) (m + 1) y N lim' (Nat.le_refl _) (by omega) (by omega) (by omega) hl0 hl1 (LB.next n5) (rowc_mono hmo hlN)
                rw [hlN, dataV] at cc
                refine Cal.mk cc ?_
                rintro _ _ ⟨R, r1, r2, rfl⟩ -
                clear cc
                simp (config := {maxSteps := 3000000}) only [go_sem, Nat.reduceEqDiff, ↓reduceIte, Nat.reduceBEq, q1]
                repeat (apply And.intro; focus (first | omega | (simp; done)))
                exact ⟨⟨x, m, R, lim', _, _, rfl, rfl, rfl, rfl, rfl, by omega, by omega, by omega, hl0, hl1, hMN.trans (r1.wide (by omega) (by omega)), hFN.goR E.ord hax hyc (by omega) (by omega) (by omega) n4 n5 r1 r2, rfl⟩, by omega⟩
        · simp (config := {maxSteps := 3000000}) only [go_sem, Nat.reduceEqDiff, Int.reduceNeg, ↓reduceIte, reduceCtorEq, Nat.reduceBEq, q1, q2, q3, q8, e0, decide_eq_false c12, decide_eq_false cl]
          repeat (apply And.intro; focus (first | omega | (simp; done)))
          obtain ⟨lim', el⟩ : ∃ l, l = lim := ⟨_, rfl⟩
          rw [← el] at q3 hl0 hl1
          have cc := cpivot_v (st := st) (b := b) (cap := cap) (sp := sp) hc.pivot hc.meda hc.med hc.ord2 E (L := M) (a := x) (c := y) (by omega) (by omega) (rowc_mono hmo hlen) (by omega)
          rw [hlen, dataV] at cc
          refine Cal.mk cc ?_
          rintro _ _ ⟨pv, hint, p1, p2, rfl, rfl⟩ -
          clear cc
          by_cases k2 : hint = 2
          · simp (config := {maxSteps := 3000000}) only [go_sem, Nat.reduceEqDiff, ↓reduceIte, reduceCtorEq, Nat.reduceBEq, q1, q2, decide_eq_true k2]
            repeat (apply And.intro; focus (first | omega | (simp; done)))
            have cc := crev_v (st := st) (b := b) (cap := cap) (sp := sp) hc.rev (g := g) (rowc_mono hmo hlen) (L := M) (a := x) (c := y) (by omega) (by omega) (by omega)
            rw [hlen, dataV] at cc
            refine Cal.mk cc ?_
            rintro _ _ ⟨N, n1, rfl⟩ -
            clear cc
            have hF := hF.mix n1 hax hyc (by omega)
            have hM := hM.trans (n1.wide hax hyc)
            have hlen := hM.len
            have ep : (y : Int) - 1 - ((pv : Int) - (x : Int)) = ((y - 1 - (pv - x) : Nat) : Int) := by omega
            obtain ⟨pw, epw⟩ : ∃ pw, pw = y - 1 - (pv - x) := ⟨_, rfl⟩
            have p1 : x ≤ pw := by omega
            have p2 : pw < y := by omega
            rw [← epw] at ep
            clear n1 epw
            generalize N = M at hF hM hlen ⊢
            cases B2
            · simp (config := {maxSteps := 3000000}) only [go_sem, Nat.reduceEqDiff, Int.reduceNeg, ↓reduceIte, Nat.reduceBEq, q1, q2, q8, q9, ep]
              repeat (apply And.intro; focus (first | omega | (simp; done)))
              clear ep
              generalize pw = pv at p1 p2 ⊢
              have hLM := hLB.mix hM h2
              have hLx := hF.lb hLM hax hyc
              by_cases cx : 0 < x
              · have ex : ((x : Int) - 1).toNat = x - 1 := by omega
                simp (config := {maxSteps := 3000000}) only [go_sem, Nat.reduceEqDiff, Int.reduceNeg, ↓reduceIte, reduceCtorEq, Nat.reduceBEq, q1, ex, decide_eq_true (show (0 : Int) < (x : Int) by omega), rowc_get (show x - 1 < M.length by omega), rowc_get (show pv < M.length by omega), rowc_len, rowc_mono hmo hlen, E.call, List.map_nil]
                repeat (apply And.intro; focus (first | omega | (simp; done)))
                refine Cal.mk (E.less _ _ _) ?_
                rintro _ _ ⟨z3, hz3, rfl, rfl⟩ -
                simp (config := {maxSteps := 3000000}) only [go_sem, Nat.reduceEqDiff, ↓reduceIte, hz3]
                cases cq : lt M[x - 1]! M[pv]!
                · simp (config := {maxSteps := 3000000}) only [go_sem, Nat.reduceEqDiff, ↓reduceIte, reduceCtorEq, Nat.reduceBEq, q1, q2]
                  have cc := cequal_v (st := st) (b := b) (cap := cap) (sp := sp) hc.equal E (rowc_mono hmo hlen) (p := pv) (by omega) (by omega) (by omega) (by omega) (L := M) (a := x) (c := y)
                  rw [hlen, dataV] at cc
                  refine Cal.mk cc ?_
                  rintro _ _ ⟨m, N, n1, n2, n3, n4, n5, rfl, rfl⟩ -
                  clear cc
                  simp (config := {maxSteps := 3000000}) only [go_sem, Nat.reduceEqDiff, ↓reduceIte, Nat.reduceBEq, q2, q3, q8, q9]
                  repeat (apply And.intro; focus (first | omega | (simp; done)))
                  exact ⟨⟨m, y, N, lim', _, _, rfl, rfl, rfl, rfl, rfl, by omega, by omega, by omega, hl0, hl1, hM.trans (n3.wide hax hyc), hF.goE E.ord hLx cx cq hax hyc n1 n2 (by omega) n3 n4, rfl⟩, by omega⟩
                · simp (config := {maxSteps := 3000000}) only [go_sem, Nat.reduceEqDiff, ↓reduceIte, reduceCtorEq, Nat.reduceBEq, q1, q2]
                  have cc := csplit_v (st := st) (b := b) (cap := cap) (sp := sp) hc.split E (rowc_mono hmo hlen) (p := pv) (by omega) (by omega) (by omega) (by omega) (L := M) (a := x) (c := y)
                  rw [hlen, dataV] at cc
                  refine Cal.mk cc ?_
                  rintro _ _ ⟨m, B3, N, n1, n2, n3, n4, n5, rfl, rfl⟩ -
                  clear cc
                  have hlN : N.length = L.length := n3.len.trans hlen
                  have hMN : Mix a c L N := hM.trans (n3.wide hax hyc)
                  have hFN := hF.mix n3 hax hyc (by omega)
                  have hLN := hLx.mix n3 (by omega)
                  have e4 : (m : Int) - (x : Int) = ((m - x : Nat) : Int) := by omega
                  have e5 : (y : Int) - (m : Int) = ((y - m : Nat) : Int) := by omega
                  have e6 : (m : Int) + 1 = ((m + 1 : Nat) : Int) := by simp
                  clear hM hF hLx hLM n3
                  by_cases cl : ((m - x : Nat) : Int) < ((y - m : Nat) : Int)
                  · simp (config := {maxSteps := 3000000}) only [go_sem, Nat.reduceEqDiff, Int.reduceLT, Int.reduceNeg, ↓reduceIte, reduceCtorEq, Nat.reduceBEq, q1, q2, q3, e4, e5, decide_eq_true cl]
                    repeat (apply And.intro; focus (first | omega | (simp; done)))
                    have cc := ih (m - x) (by omega) x m N lim' (Nat.le_refl _) (by omega) (by omega) (by omega) hl0 hl1 (hLN.part (by omega)) (rowc_mono hmo hlN)
                    rw [hlN, dataV] at cc
                    refine Cal.mk cc ?_
                    rintro _ _ ⟨R, r1, r2, rfl⟩ -
                    clear cc
                    simp (config := {maxSteps := 3000000}) only [go_sem, Nat.reduceEqDiff, Int.reduceNeg, ↓reduceIte, Nat.reduceBEq, q2, q3, e6]
                    repeat (apply And.intro; focus (first | omega | (simp; done)))
                    exact ⟨⟨m + 1, y, R, lim', _, _, rfl, rfl, rfl, rfl, rfl, by omega, by omega, by omega, hl0, hl1, hMN.trans (r1.wide (by omega) (by omega)), hFN.goL E.ord hax hyc (by omega) (by omega) (by omega) n4 n5 r1 r2, rfl⟩, by omega⟩
                  · simp (config := {maxSteps := 3000000}) only [go_sem, Nat.reduceEqDiff, Int.reduceLT, Int.reduceNeg, ↓reduceIte, reduceCtorEq, Nat.reduceBEq, q1, q2, q3, e4, e5, e6, decide_eq_false cl]
                    repeat (apply And.intro; focus (first | omega | (simp; done)))
                    have cc := ih (y - (m + 1)) (by omega) (m + 1) y N lim' (Nat.le_refl _) (by omega) (by omega) (by omega) hl0 hl1 (LB.next n5) (rowc_mono hmo hlN)
                    rw [hlN, dataV] at cc
                    refine Cal.mk cc ?_
                    rintro _ _ ⟨R, r1, r2, rfl⟩ -
                    clear cc
                    simp (config := {maxSteps := 3000000}) only [go_sem, Nat.reduceEqDiff, ↓reduceIte, Nat.reduceBEq, q1, q3]
                    repeat (apply And.intro; focus (first | omega | (simp; done)))
                    exact ⟨⟨x, m, R, lim', _, _, rfl, rfl, rfl, rfl, rfl, by omega, by omega, by omega, hl0, hl1, hMN.trans (r1.wide (by omega) (by omega)), hFN.goR E.ord hax hyc (by omega) (by omega) (by omega) n4 n5 r1 r2, rfl⟩, by omega⟩
              · simp (config := {maxSteps := 3000000}) only [go_sem, Nat.reduceEqDiff, ↓reduceIte, reduceCtorEq, Nat.reduceBEq, q1, q2, decide_eq_false (show ¬ (0 : Int) < (x : Int) by omega)]
                have cc := csplit_v (st := st) (b := b) (cap := cap) (sp := sp) hc.split E (rowc_mono hmo hlen) (p := pv) (by omega) (by omega) (by omega) (by omega) (L := M) (a := x) (c := y)
                rw [hlen, dataV] at cc
                refine Cal.mk cc ?_
                rintro _ _ ⟨m, B3, N, n1, n2, n3, n4, n5, rfl, rfl⟩ -
                clear cc
                have hlN : N.length = L.length := n3.len.trans hlen
                have hMN : Mix a c L N := hM.trans (n3.wide hax hyc)
                have hFN := hF.mix n3 hax hyc (by omega)
                have hLN := hLx.mix n3 (by omega)
                have e4 : (m : Int) - (x : Int) = ((m - x : Nat) : Int) := by omega
                have e5 : (y : Int) - (m : Int) = ((y - m : Nat) : Int) := by omega
                have e6 : (m : Int) + 1 = ((m + 1 : Nat) : Int) := by simp
                clear hM hF hLx hLM n3
                by_cases cl : ((m - x : Nat) : Int) < ((y - m : Nat) : Int)
                · simp (config := {maxSteps := 3000000}) only [go_sem, Nat.reduceEqDiff, Int.reduceLT, Int.reduceNeg, ↓reduceIte, reduceCtorEq, Nat.reduceBEq, q1, q2, q3, e4, e5, decide_eq_true cl]
                  repeat (apply And.intro; focus (first | omega | (simp; done)))
                  have cc := ih (m - x) (by omega) x m N lim' (Nat.le_refl _) (by omega) (by omega) (by omega) hl0 hl1 (hLN.part (by omega)) (rowc_mono hmo hlN)
                  rw [hlN, dataV] at cc
                  refine Cal.mk cc ?_
                  rintro _ _ ⟨R, r1, r2, rfl⟩ -
                  clear cc
                  simp (config := {maxSteps := 3000000}) only [go_sem, Nat.reduceEqDiff, Int.reduceNeg, ↓reduceIte, Nat.reduceBEq, q2, q3, e6]
                  repeat (apply And.intro; focus (first | omega | (simp; done)))
                  exact ⟨⟨m + 1, y, R, lim', _, _, rfl, rfl, rfl, rfl, rfl, by omega, by omega, by omega, hl0, hl1, hMN.trans (r1.wide (by omega) (by omega)), hFN.goL E.ord hax hyc (by omega) (by omega) (by omega) n4 n5 r1 r2, rfl⟩, by omega⟩
                · simp (config := {maxSteps := 3000000}) only [go_sem, Nat.reduceEqDiff, Int.reduceLT, Int.reduceNeg, ↓reduceIte, reduceCtorEq, Nat.reduceBEq, q1, q2, q3, e4, e5, e6, decide_eq_false cl]
                  repeat (apply And.intro; focus (first | omega | (simp; done)))
                  have cc := ih (y - (m + 1)) (by omega) (m + 1) y N lim' (Nat.le_refl _) (by omega) (by omega) (by omega) hl0 hl1 (LB.next n5) (rowc_mono hmo hlN)
                  rw [hlN, dataV] at cc
                  refine Cal.mk cc ?_
                  rintro _ _ ⟨R, r1, r2, rfl⟩ -
                  clear cc
                  simp (config := {maxSteps := 3000000}) only [go_sem, Nat.reduceEqDiff, ↓reduceIte, Nat.reduceBEq, q1, q3]
                  repeat (apply And.intro; focus (first | omega | (simp; done)))
                  exact ⟨⟨x, m, R, lim', _, _, rfl, rfl, rfl, rfl, rfl, by omega, by omega, by omega, hl0, hl1, hMN.trans (r1.wide (by omega) (by omega)), hFN.goR E.ord hax hyc (by omega) (by omega) (by omega) n4 n5 r1 r2, rfl⟩, by omega⟩
            · simp (config := {maxSteps := 3000000}) only [go_sem, Nat.reduceEqDiff, Int.reduceNeg, ↓reduceIte, reduceCtorEq, Nat.reduceBEq, q1, q2, q8, q9, ep]
              repeat (apply And.intro; focus (first | omega | (simp; done)))
              clear ep
              generalize pw = pv at p1 p2 ⊢
              have cc := cpart_v (st := st) (b := b) (cap := cap) (sp := sp) hc.part E (rowc_mono hmo hlen) (L := M) (a := x) (c := y) (by omega) (by omega) (by omega) (hF.lb (hLB.mix hM h2) hax hyc)
              rw [hlen, dataV] at cc
              refine Cal.mk cc ?_
              rintro _ _ ⟨B3, N, n1, n2, rfl, rfl⟩ -
              clear cc
              cases B3
              · simp (config := {maxSteps := 3000000}) only [go_sem, Nat.reduceEqDiff, ↓reduceIte, Nat.reduceBEq, q1]
                have hF := hF.mix n1 hax hyc (by omega)
                have hM := hM.trans (n1.wide hax hyc)
                have hlen := hM.len
                clear n1 n2
                generalize N = M at hF hM hlen ⊢
                have hLM := hLB.mix hM h2
                have hLx := hF.lb hLM hax hyc
                by_cases cx : 0 < x
                · have ex : ((x : Int) - 1).toNat = x - 1 := by omega
                  simp (config := {maxSteps := 3000000}) only [go_sem, Nat.reduceEqDiff, Int.reduceNeg, ↓reduceIte, reduceCtorEq, Nat.reduceBEq, q1, ex, decide_eq_true (show (0 : Int) < (x : Int) by omega), rowc_get (show x - 1 < M.length by omega), rowc_get (show pv < M.length by omega), rowc_len, rowc_mono hmo hlen, E.call, List.map_nil]
                  repeat (apply And.intro; focus (first | omega | (simp; done)))
                  refine Cal.mk (E.less _ _ _) ?_
                  rintro _ _ ⟨z4, hz4, rfl, rfl⟩ -
                  simp (config := {maxSteps := 3000000}) only [go_sem, Nat.reduceEqDiff, ↓reduceIte, hz4]
                  cases cq : lt M[x - 1]! M[pv]!
                  · simp (config := {maxSteps := 3000000}) only [go_sem, Nat.reduceEqDiff, ↓reduceIte, reduceCtorEq, Nat.reduceBEq, q1, q2]
                    have cc := cequal_v (st := st) (b := b) (cap := cap) (sp := sp) hc.equal E (rowc_mono hmo hlen) (p := pv) (by omega) (by omega) (by omega) (by omega) (L := M) (a := x) (c := y)
                    rw [hlen, dataV] at cc
                    refine Cal.mk cc ?_
                    rintro _ _ ⟨m, N, n1, n2, n3, n4, n5, rfl, rfl⟩ -
                    clear cc
                    simp (config := {maxSteps := 3000000}) only [go_sem, Nat.reduceEqDiff, ↓reduceIte, Nat.reduceBEq, q2, q3, q8, q9]
                    repeat (apply And.intro; focus (first | omega | (simp; done)))
                    exact ⟨⟨m, y, N, lim', _, _, rfl, rfl, rfl, rfl, rfl, by omega, by omega, by omega, hl0, hl1, hM.trans (n3.wide hax hyc), hF.goE E.ord hLx cx cq hax hyc n1 n2 (by omega) n3 n4, rfl⟩, by omega⟩
                  · simp (config := {maxSteps := 3000000}) only [go_sem, Nat.reduceEqDiff, ↓reduceIte, reduceCtorEq, Nat.reduceBEq, q1, q2]
                    have cc := csplit_v (st := st) (b := b) (cap := cap) (sp := sp) hc.split E (rowc_mono hmo hlen) (p := pv) (by omega) (by omega) (by omega) (by omega) (L := M) (a := x) (c := y)
                    rw [hlen, dataV] at cc
                    refine Cal.mk cc ?_
                    rintro _ _ ⟨m, B3, N, n1, n2, n3, n4, n5, rfl, rfl⟩ -
                    clear cc
                    have hlN : N.length = L.length := n3.len.trans hlen
                    have hMN : Mix a c L N := hM.trans (n3.wide hax hyc)
                    have hFN := hF.mix n3 hax hyc (by omega)
                    have hLN := hLx.mix n3 (by omega)
                    have e4 : (m : Int) - (x : Int) = ((m - x : Nat) : Int) := by omega
                    have e5 : (y : Int) - (m : Int) = ((y - m : Nat) : Int) := by omega
                    have e6 : (m : Int) + 1 = ((m + 1 : Nat) : Int) := by simp
                    clear hM hF hLx hLM n3
                    by_cases cl : ((m - x : Nat) : Int) < ((y - m : Nat) : Int)
                    · simp (config := {maxSteps := 3000000}) only [go_sem, Nat.reduceEqDiff, Int.reduceLT, Int.reduceNeg, ↓reduceIte, reduceCtorEq, Nat.reduceBEq, q1, q2, q3, e4, e5, decide_eq_true cl]
                      repeat (apply And.intro; focus (first | omega | (simp; done)))
                      have cc := ih (m - x) (by omega) x m N lim' (Nat.le_refl _) (by omega) (by omega) (by omega) hl0 hl1 (hLN.part (by omega)) (rowc_mono hmo hlN)
                      rw [hlN, dataV] at cc
                      refine Cal.mk cc ?_
                      rintro _ _ ⟨R, r1, r2, rfl⟩ -
                      clear cc
                      simp (config := {maxSteps := 3000000}) only [go_sem, Nat.reduceEqDiff, Int.reduceNeg, ↓reduceIte, Nat.reduceBEq, q2, q3, e6]
                      repeat (apply And.intro; focus (first | omega | (simp; done)))
                      exact ⟨⟨m + 1, y, R, lim', _, _, rfl, rfl, rfl, rfl, rfl, by omega, by omega, by omega, hl0, hl1, hMN.trans (r1.wide (by omega) (by omega)), hFN.goL E.ord hax hyc (by omega) (by omega) (by omega) n4 n5 r1 r2, rfl⟩, by omega⟩
                    · simp (config := {maxSteps := 3000000}) only [go_sem, Nat.reduceEqDiff, Int.reduceLT, Int.reduceNeg, ↓reduceIte, reduceCtorEq, Nat.reduceBEq, q1, q2, q3, e4, e5, e6, decide_eq_false cl]
                      repeat (apply And.intro; focus (first | omega | (simp; done)))
                      have cc := ih (y - (m + 1)) (by omega) (m + 1) y N lim' (Nat.le_refl _) (by omega) (by omega) (by omega) hl0 hl1 (LB.next n5) (rowc_mono hmo hlN)
                      rw [hlN, dataV] at cc
                      refine Cal.mk cc ?_
                      rintro _ _ ⟨R, r1, r2, rfl⟩ -
                      clear cc
                      simp (config := {maxSteps := 3000000}) only [go_sem, Nat.reduceEqDiff, ↓reduceIte, Nat.reduceBEq, q1, q3]
                      repeat (apply And.intro; focus (first | omega | (simp; done)))
                      exact ⟨⟨x, m, R, lim', _, _, rfl, rfl, rfl, rfl, rfl, by omega, by omega, by omega, hl0, hl1, hMN.trans (r1.wide (by omega) (by omega)), hFN.goR E.ord hax hyc (by omega) (by omega) (by omega) n4 n5 r1 r2, rfl⟩, by omega⟩
                · simp (config := {maxSteps := 3000000}) only [go_sem, Nat.reduceEqDiff, ↓reduceIte, reduceCtorEq, Nat.reduceBEq, q1, q2, decide_eq_false (show ¬ (0 : Int) < (x : Int) by omega)]
                  have cc := csplit_v (st := st) (b := b) (cap := cap) (sp := sp) hc.split E (rowc_mono hmo hlen) (p := pv) (by omega) (by omega) (by omega) (by omega) (L := M) (a := x) (c := y)
                  rw [hlen, dataV] at cc
                  refine Cal.mk cc ?_
                  rintro _ _ ⟨m, B3, N, n1, n2, n3, n4, n5, rfl, rfl⟩ -
                  clear cc
                  have hlN : N.length = L.length := n3.len.trans hlen
                  have hMN : Mix a c L N := hM.trans (n3.wide hax hyc)
                  have hFN := hF.mix n3 hax hyc (by omega)
                  have hLN := hLx.mix n3 (by omega)
                  have e4 : (m : Int) - (x : Int) = ((m - x : Nat) : Int) := by omega
                  have e5 : (y : Int) - (m : Int) = ((y - m : Nat) : Int) := by omega
                  have e6 : (m : Int) + 1 = ((m + 1 : Nat) : Int) := by simp
                  clear hM hF hLx hLM n3
                  by_cases cl : ((m - x : Nat) : Int) < ((y - m : Nat) : Int)
                  · simp (config := {maxSteps := 3000000}) only [go_sem, Nat.reduceEqDiff, Int.reduceLT, Int.reduceNeg, ↓reduceIte, reduceCtorEq, Nat.reduceBEq, q1, q2, q3, e4, e5, decide_eq_true cl]
                    repeat (apply And.intro; focus (first | omega | (simp; done)))
                    have cc := ih (m - x) (by omega) x m N lim' (Nat.le_refl _) (by omega) (by omega) (by omega) hl0 hl1 (hLN.part (by omega)) (rowc_mono hmo hlN)
                    rw [hlN, dataV] at cc
                    refine Cal.mk cc ?_
                    rintro _ _ ⟨R, r1, r2, rfl⟩ -
                    clear cc
                    simp (config := {maxSteps := 3000000}) only [go_sem, Nat.reduceEqDiff, Int.reduceNeg, ↓reduceIte, Nat.reduceBEq, q2, q3, e6]
                    repeat (apply And.intro; focus (first | omega | (simp; done)))
                    exact ⟨⟨m + 1, y, R, lim', _, _, rfl, rfl, rfl, rfl, rfl, by omega, by omega, by omega, hl0, hl1, hMN.trans (r1.wide (by omega) (by omega)), hFN.goL E.ord hax hyc (by omega) (by omega) (by omega) n4 n5 r1 r2, rfl⟩, by omega⟩
                  · simp (config := {maxSteps := 3000000}) only [go_sem, Nat.reduceEqDiff, Int.reduceLT, Int.reduceNeg, ↓reduceIte, reduceCtorEq, Nat.reduceBEq, q1, q2, q3, e4, e5, e6, decide_eq_false cl]
                    repeat (apply And.intro; focus (first | omega | (simp; done)))
                    have cc := ih (y - (m + 1)) (by omega) (m + 1) y N lim' (Nat.le_refl _) (by omega) (by omega) (by omega) hl0 hl1 (LB.next n5) (rowc_mono hmo hlN)
                    rw [hlN, dataV] at cc
                    refine Cal.mk cc ?_
                    rintro _ _ ⟨R, r1, r2, rfl⟩ -
                    clear cc
                    simp (config := {maxSteps := 3000000}) only [go_sem, Nat.reduceEqDiff, ↓reduceIte, Nat.reduceBEq, q1, q3]
                    repeat (apply And.intro; focus (first | omega | (simp; done)))
                    exact ⟨⟨x, m, R, lim', _, _, rfl, rfl, rfl, rfl, rfl, by omega, by omega, by omega, hl0, hl1, hMN.trans (r1.wide (by omega) (by omega)), hFN.goR E.ord hax hyc (by omega) (by omega) (by omega) n4 n5 r1 r2, rfl⟩, by omega⟩
              · simp (config := {maxSteps := 3000000}) only [go_sem, ↓reduceIte]
                have hfin := hF.fin hM hax hyc h2 n1 (n2 rfl)
                exact ⟨_, _, Wk.refl _, weak_re hwf, N, hfin.1, hfin.2, rfl⟩
          · cases B2
            · simp (config := {maxSteps := 3000000}) only [go_sem, Nat.reduceEqDiff, ↓reduceIte, Nat.reduceBEq, q1, q8, q9, decide_eq_false k2]
              repeat (apply And.intro; focus (first | omega | (simp; done)))
              have hLM := hLB.mix hM h2
              have hLx := hF.lb hLM hax hyc
              by_cases cx : 0 < x
              · have ex : ((x : Int) - 1).toNat = x - 1 := by omega
                simp (config := {maxSteps := 3000000}) only [go_sem, Nat.reduceEqDiff, Int.reduceNeg, ↓reduceIte, reduceCtorEq, Nat.reduceBEq, q1, ex, decide_eq_true (show (0 : Int) < (x : Int) by omega), rowc_get (show x - 1 < M.length by omega), rowc_get (show pv < M.length by omega), rowc_len, rowc_mono hmo hlen, E.call, List.map_nil]
                repeat (apply And.intro; focus (first | omega | (simp; done)))
                refine Cal.mk (E.less _ _ _) ?_
                rintro _ _ ⟨z5, hz5, rfl, rfl⟩ -
                simp (config := {maxSteps := 3000000}) only [go_sem, Nat.reduceEqDiff, ↓reduceIte, hz5]
                cases cq : lt M[x - 1]! M[pv]!
                · simp (config := {maxSteps := 3000000}) only [go_sem, Nat.reduceEqDiff, ↓reduceIte, reduceCtorEq, Nat.reduceBEq, q1, q2]
                  have cc := cequal_v (st := st) (b := b) (cap := cap) (sp := sp) hc.equal E (rowc_mono hmo hlen) (p := pv) (by omega) (by omega) (by omega) (by omega) (L := M) (a := x) (c := y)
                  rw [hlen, dataV] at cc
                  refine Cal.mk cc ?_
                  rintro _ _ ⟨m, N, n1, n2, n3, n4, n5, rfl, rfl⟩ -
                  clear cc
                  simp (config := {maxSteps := 3000000}) only [go_sem, Nat.reduceEqDiff, ↓reduceIte, Nat.reduceBEq, q2, q3, q8, q9]
                  repeat (apply And.intro; focus (first | omega | (simp; done)))
                  exact ⟨⟨m, y, N, lim', _, _, rfl, rfl, rfl, rfl, rfl, by omega, by omega, by omega, hl0, hl1, hM.trans (n3.wide hax hyc), hF.goE E.ord hLx cx cq hax hyc n1 n2 (by omega) n3 n4, rfl⟩, by omega⟩
                · simp (config := {maxSteps := 3000000}) only [go_sem, Nat.reduceEqDiff, ↓reduceIte, reduceCtorEq, Nat.reduceBEq, q1, q2]
                  have cc := csplit_v (st := st) (b := b) (cap := cap) (sp := sp) hc.split E (rowc_mono hmo hlen) (p := pv) (by omega) (by omega) (by omega) (by omega) (L := M) (a := x) (c := y)
                  rw [hlen, dataV] at cc
                  refine Cal.mk cc ?_
                  rintro _ _ ⟨m, B3, N, n1, n2, n3, n4, n5, rfl, rfl⟩ -
                  clear cc
                  have hlN : N.length = L.length := n3.len.trans hlen
                  have hMN : Mix a c L N := hM.trans (n3.wide hax hyc)
                  have hFN := hF.mix n3 hax hyc (by omega)
                  have hLN := hLx.mix n3 (by omega)
                  have e4 : (m : Int) - (x : Int) = ((m - x : Nat) : Int) := by omega
                  have e5 : (y : Int) - (m : Int) = ((y - m : Nat) : Int) := by omega
                  have e6 : (m : Int) + 1 = ((m + 1 : Nat) : Int) := by simp
                  clear hM hF hLx hLM n3
                  by_cases cl : ((m - x : Nat) : Int) < ((y - m : Nat) : Int)
                  · simp (config := {maxSteps := 3000000}) only [go_sem, Nat.reduceEqDiff, Int.reduceLT, Int.reduceNeg, ↓reduceIte, reduceCtorEq, Nat.reduceBEq, q1, q2, q3, e4, e5, decide_eq_true cl]
                    repeat (apply And.intro; focus (first | omega | (simp; done)))
                    have cc := ih (m - x) (by omega) x m N lim' (Nat.le_refl _) (by omega) (by omega) (by omega) hl0 hl1 (hLN.part (by omega)) (rowc_mono hmo hlN)
                    rw [hlN, dataV] at cc
                    refine Cal.mk cc ?_
                    rintro _ _ ⟨R, r1, r2, rfl⟩ -
                    clear cc
                    simp (config := {maxSteps := 3000000}) only [go_sem, Nat.reduceEqDiff, Int.reduceNeg, ↓reduceIte, Nat.reduceBEq, q2, q3, e6]
                    repeat (apply And.intro; focus (first | omega | (simp; done)))
                    exact ⟨⟨m + 1, y, R, lim', _, _, rfl, rfl, rfl, rfl, rfl, by omega, by omega, by omega, hl0, hl1, hMN.trans (r1.wide (by omega) (by omega)), hFN.goL E.ord hax hyc (by omega) (by omega) (by omega) n4 n5 r1 r2, rfl⟩, by omega⟩
                  · simp (config := {maxSteps := 3000000}) only [go_sem, Nat.reduceEqDiff, Int.reduceLT, Int.reduceNeg, ↓reduceIte, reduceCtorEq, Nat.reduceBEq, q1, q2, q3, e4, e5, e6, decide_eq_false cl]
                    repeat (apply And.intro; focus (first | omega | (simp; done)))
                    have cc := ih (y - (m + 1)) (by omega) (m + 1) y N lim' (Nat.le_refl _) (by omega) (by omega) (by omega) hl0 hl1 (LB.next n5) (rowc_mono hmo hlN)
                    rw [hlN, dataV] at cc
                    refine Cal.mk cc ?_
                    rintro _ _ ⟨R, r1, r2, rfl⟩ -
                    clear cc
                    simp (config := {maxSteps := 3000000}) only [go_sem, Nat.reduceEqDiff, ↓reduceIte, Nat.reduceBEq, q1, q3]
                    repeat (apply And.intro; focus (first | omega | (simp; done)))
                    exact ⟨⟨x, m, R, lim', _, _, rfl, rfl, rfl, rfl, rfl, by omega, by omega, by omega, hl0, hl1, hMN.trans (r1.wide (by omega) (by omega)), hFN.goR E.ord hax hyc (by omega) (by omega) (by omega) n4 n5 r1 r2, rfl⟩, by omega⟩
              · simp (config := {maxSteps := 3000000}) only [go_sem, Nat.reduceEqDiff, ↓reduceIte, reduceCtorEq, Nat.reduceBEq, q1, q2, decide_eq_false (show ¬ (0 : Int) < (x : Int) by omega)]
                have cc := csplit_v (st := st) (b := b) (cap := cap) (sp := sp) hc.split E (rowc_mono hmo hlen) (p := pv) (by omega) (by omega) (by omega) (by omega) (L := M) (a := x) (c := y)
                rw [hlen, dataV] at cc
                refine Cal.mk cc ?_
                rintro _ _ ⟨m, B3, N, n1, n2, n3, n4, n5, rfl, rfl⟩ -
                clear cc
                have hlN : N.length = L.length := n3.len.trans hlen
                have hMN : Mix a c L N := hM.trans (n3.wide hax hyc)
                have hFN := hF.mix n3 hax hyc (by omega)
                have hLN := hLx.mix n3 (by omega)
                have e4 : (m : Int) - (x : Int) = ((m - x : Nat) : Int) := by omega
                have e5 : (y : Int) - (m : Int) = ((y - m : Nat) : Int) := by omega
                have e6 : (m : Int) + 1 = ((m + 1 : Nat) : Int) := by simp
                clear hM hF hLx hLM n3
                by_cases cl : ((m - x : Nat) : Int) < ((y - m : Nat) : Int)
                · simp (config := {maxSteps := 3000000}) only [go_sem, Nat.reduceEqDiff, Int.reduceLT, Int.reduceNeg, ↓reduceIte, reduceCtorEq, Nat.reduceBEq, q1, q2, q3, e4, e5, decide_eq_true cl]
                  repeat (apply And.intro; focus (first | omega | (simp; done)))
                  have cc := ih (m - x) (by omega) x m N lim' (Nat.le_refl _) (by omega) (by omega) (by omega) hl0 hl1 (hLN.part (by omega)) (rowc_mono hmo hlN)
                  rw [hlN, dataV] at cc
                  refine Cal.mk cc ?_
                  rintro _ _ ⟨R, r1, r2, rfl⟩ -
                  clear cc
                  simp (config := {maxSteps := 3000000}) only [go_sem, Nat.reduceEqDiff, Int.reduceNeg, ↓reduceIte, Nat.reduceBEq, q2, q3, e6]
                  repeat (apply And.intro; focus (first | omega | (simp; done)))
                  exact ⟨⟨m + 1, y, R, lim', _, _, rfl, rfl, rfl, rfl, rfl, by omega, by omega, by omega, hl0, hl1, hMN.trans (r1.wide (by omega) (by omega)), hFN.goL E.ord hax hyc (by omega) (by omega) (by omega) n4 n5 r1 r2, rfl⟩, by omega⟩
                · simp (config := {maxSteps := 3000000}) only [go_sem, Nat.reduceEqDiff, Int.reduceLT, Int.reduceNeg, ↓reduceIte, reduceCtorEq, Nat.reduceBEq, q1, q2, q3, e4, e5, e6, decide_eq_false cl]
                  repeat (apply And.intro; focus (first | omega | (simp; done)))
                  have cc := ih (y - (m + 1)) (by omega) (m + 1) y N lim' (Nat.le_refl _) (by omega) (by omega) (by omega) hl0 hl1 (LB.next n5) (rowc_mono hmo hlN)
                  rw [hlN, dataV] at cc
                  refine Cal.mk cc ?_
                  rintro _ _ ⟨R, r1, r2, rfl⟩ -
                  clear cc
                  simp (config := {maxSteps := 3000000}) only [go_sem, Nat.reduceEqDiff, ↓reduceIte, Nat.reduceBEq, q1, q3]
                  repeat (apply And.intro; focus (first | omega | (simp; done)))
                  exact ⟨⟨x, m, R, lim', _, _, rfl, rfl, rfl, rfl, rfl, by omega, by omega, by omega, hl0, hl1, hMN.trans (r1.wide (by omega) (by omega)), hFN.goR E.ord hax hyc (by omega) (by omega) (by omega) n4 n5 r1 r2, rfl⟩, by omega⟩
            · by_cases k1 : hint = 1
              · simp (config := {maxSteps := 3000000}) only [go_sem, Nat.reduceEqDiff, ↓reduceIte, reduceCtorEq, Nat.reduceBEq, q1, q2, q8, q9, decide_eq_false k2, decide_eq_true k1]
                repeat (apply And.intro; focus (first | omega | (simp; done)))
                have cc := cpart_v (st := st) (b := b) (cap := cap) (sp := sp) hc.part E (rowc_mono hmo hlen) (L := M) (a := x) (c := y) (by omega) (by omega) (by omega) (hF.lb (hLB.mix hM h2) hax hyc)
                rw [hlen, dataV] at cc
                refine Cal.mk cc ?_
                rintro _ _ ⟨B3, N, n1, n2, rfl, rfl⟩ -
                clear cc
                cases B3
                · simp (config := {maxSteps := 3000000}) only [go_sem, Nat.reduceEqDiff, ↓reduceIte, Nat.reduceBEq, q1]
                  have hF := hF.mix n1 hax hyc (by omega)
                  have hM := hM.trans (n1.wide hax hyc)
                  have hlen := hM.len
                  clear n1 n2
                  generalize N = M at hF hM hlen ⊢
                  have hLM := hLB.mix hM h2
                  have hLx := hF.lb hLM hax hyc
                  by_cases cx : 0 < x
                  · have ex : ((x : Int) - 1).toNat = x - 1 := by omega
                    simp (config := {maxSteps := 3000000}) only [go_sem, Nat.reduceEqDiff, Int.reduceNeg, ↓reduceIte, reduceCtorEq, Nat.reduceBEq, q1, ex, decide_eq_true (show (0 : Int) < (x : Int) by omega), rowc_get (show x - 1 < M.length by omega), rowc_get (show pv < M.length by omega), rowc_len, rowc_mono hmo hlen, E.call, List.map_nil]
                    repeat (apply And.intro; focus (first | omega | (simp; done)))
                    refine Cal.mk (E.less _ _ _) ?_
                    rintro _ _ ⟨z6, hz6, rfl, rfl⟩ -
                    simp (config := {maxSteps := 3000000}) only [go_sem, Nat.reduceEqDiff, ↓reduceIte, hz6]
                    cases cq : lt M[x - 1]! M[pv]!
                    · simp (config := {maxSteps := 3000000}) only [go_sem, Nat.reduceEqDiff, ↓reduceIte, reduceCtorEq, Nat.reduceBEq, q1, q2]
                      have cc := cequal_v (st := st) (b := b) (cap := cap) (sp := sp) hc.equal E (rowc_mono hmo hlen) (p := pv) (by omega) (by omega) (by omega) (by omega) (L := M) (a := x) (c := y)
                      rw [hlen, dataV] at cc
                      refine Cal.mk cc ?_
                      rintro _ _ ⟨m, N, n1, n2, n3, n4, n5, rfl, rfl⟩ -
                      clear cc
                      simp (config := {maxSteps := 3000000}) only [go_sem, Nat.reduceEqDiff, ↓reduceIte, Nat.reduceBEq, q2, q3, q8, q9]
                      repeat (apply And.intro; focus (first | omega | (simp; done)))
                      exact ⟨⟨m, y, N, lim', _, _, rfl, rfl, rfl, rfl, rfl, by omega, by omega, by omega, hl0, hl1, hM.trans (n3.wide hax hyc), hF.goE E.ord hLx cx cq hax hyc n1 n2 (by omega) n3 n4, rfl⟩, by omega⟩
                    · simp (config := {maxSteps := 3000000}) only [go_sem, Nat.reduceEqDiff, ↓reduceIte, reduceCtorEq, Nat.reduceBEq, q1, q2]
                      have cc := csplit_v (st := st) (b := b) (cap := cap) (sp := sp) hc.split E (rowc_mono hmo hlen) (p := pv) (by omega) (by omega) (by omega) (by omega) (L := M) (a := x) (c := y)
                      rw [hlen, dataV] at cc
                      refine Cal.mk cc ?_
                      rintro _ _ ⟨m, B3, N, n1, n2, n3, n4, n5, rfl, rfl⟩ -
                      clear cc
                      have hlN : N.length = L.length := n3.len.trans hlen
                      have hMN : Mix a c L N := hM.trans (n3.wide hax hyc)
                      have hFN := hF.mix n3 hax hyc (by omega)
                      have hLN := hLx.mix n3 (by omega)
                      have e4 : (m : Int) - (x : Int) = ((m - x : Nat) : Int) := by omega
                      have e5 : (y : Int) - (m : Int) = ((y - m : Nat) : Int) := by omega
                      have e6 : (m : Int) + 1 = ((m + 1 : Nat) : Int) := by simp
                      clear hM hF hLx hLM n3
                      by_cases cl : ((m - x : Nat) : Int) < ((y - m : Nat) : Int)
                      · simp (config := {maxSteps := 3000000}) only [go_sem, Nat.reduceEqDiff, Int.reduceLT, Int.reduceNeg, ↓reduceIte, reduceCtorEq, Nat.reduceBEq, q1, q2, q3, e4, e5, decide_eq_true cl]
                        repeat (apply And.intro; focus (first | omega | (simp; done)))
                        have cc := ih (m - x) (by omega) x m N lim' (Nat.le_refl _) (by omega) (by omega) (by omega) hl0 hl1 (hLN.part (by omega)) (rowc_mono hmo hlN)
                        rw [hlN, dataV] at cc
                        refine Cal.mk cc ?_
                        rintro _ _ ⟨R, r1, r2, rfl⟩ -
                        clear cc
                        simp (config := {maxSteps := 3000000}) only [go_sem, Nat.reduceEqDiff, Int.reduceNeg, ↓reduceIte, Nat.reduceBEq, q2, q3, e6]
                        repeat (apply And.intro; focus (first | omega | (simp; done)))
                        exact ⟨⟨m + 1, y, R, lim', _, _, rfl, rfl, rfl, rfl, rfl, by omega, by omega, by omega, hl0, hl1, hMN.trans (r1.wide (by omega) (by omega)), hFN.goL E.ord hax hyc (by omega) (by omega) (by omega) n4 n5 r1 r2, rfl⟩, by omega⟩
                      · simp (config := {maxSteps := 3000000}) only [go_sem, Nat.reduceEqDiff, Int.reduceLT, Int.reduceNeg, ↓reduceIte, reduceCtorEq, Nat.reduceBEq, q1, q2, q3, e4, e5, e6, decide_eq_false cl]
                        repeat (apply And.intro; focus (first | omega | (simp; done)))
                        have cc := ih (y - (m + 1)) (by omega) (m + 1) y N lim' (Nat.le_refl _) (by omega) (by omega) (by omega) hl0 hl1 (LB.next n5) (rowc_mono hmo hlN)
                        rw [hlN, dataV] at cc
                        refine Cal.mk cc ?_
                        rintro _ _ ⟨R, r1, r2, rfl⟩ -
                        clear cc
                        simp (config := {maxSteps := 3000000}) only [go_sem, Nat.reduceEqDiff, ↓reduceIte, Nat.reduceBEq, q1, q3]
                        repeat (apply And.intro; focus (first | omega | (simp; done)))
                        exact ⟨⟨x, m, R, lim', _, _, rfl, rfl, rfl, rfl, rfl, by omega, by omega, by omega, hl0, hl1, hMN.trans (r1.wide (by omega) (by omega)), hFN.goR E.ord hax hyc (by omega) (by omega) (by omega) n4 n5 r1 r2, rfl⟩, by omega⟩
                  · simp (config := {maxSteps := 3000000}) only [go_sem, Nat.reduceEqDiff, ↓reduceIte, reduceCtorEq, Nat.reduceBEq, q1, q2, decide_eq_false (show ¬ (0 : Int) < (x : Int) by omega)]
                    have cc := csplit_v (st := st) (b := b) (cap := cap) (sp := sp) hc.split E (rowc_mono hmo hlen) (p := pv) (by omega) (by omega) (by omega) (by omega) (L := M) (a := x) (c := y)
                    rw [hlen, dataV] at cc
                    refine Cal.mk cc ?_
                    rintro _ _ ⟨m, B3, N, n1, n2, n3, n4, n5, rfl, rfl⟩ -
                    clear cc
                    have hlN : N.length = L.length := n3.len.trans hlen
                    have hMN : Mix a c L N := hM.trans (n3.wide hax hyc)
                    have hFN := hF.mix n3 hax hyc (by omega)
                    have hLN := hLx.mix n3 (by omega)
                    have e4 : (m : Int) - (x : Int) = ((m - x : Nat) : Int) := by omega
                    have e5 : (y : Int) - (m : Int) = ((y - m : Nat) : Int) := by omega
                    have e6 : (m : Int) + 1 = ((m + 1 : Nat) : Int) := by simp
                    clear hM hF hLx hLM n3
                    by_cases cl : ((m - x : Nat) : Int) < ((y - m : Nat) : Int)
                    · simp (config := {maxSteps := 3000000}) only [go_sem, Nat.reduceEqDiff, Int.reduceLT, Int.reduceNeg, ↓reduceIte, reduceCtorEq, Nat.reduceBEq, q1, q2, q3, e4, e5, decide_eq_true cl]
                      repeat (apply And.intro; focus (first | omega | (simp; done)))
                      have cc := ih (m - x) (by omega) x m N lim' (Nat.le_refl _) (by omega) (by omega) (by omega) hl0 hl1 (hLN.part (by omega)) (rowc_mono hmo hlN)
                      rw [hlN, dataV] at cc
                      refine Cal.mk cc ?_
                      rintro _ _ ⟨R, r1, r2, rfl⟩ -
                      clear cc
                      simp (config := {maxSteps := 3000000}) only [go_sem, Nat.reduceEqDiff, Int.reduceNeg, ↓reduceIte, Nat.reduceBEq, q2, q3, e6]
                      repeat (apply And.intro; focus (first | omega | (simp; done)))
                      exact ⟨⟨m + 1, y, R, lim', _, _, rfl, rfl, rfl, rfl, rfl, by omega, by omega, by omega, hl0, hl1, hMN.trans (r1.wide (by omega) (by omega)), hFN.goL E.ord hax hyc (by omega) (by omega) (by omega) n4 n5 r1 r2, rfl⟩, by omega⟩
                    · simp (config := {maxSteps := 3000000}) only [go_sem, Nat.reduceEqDiff, Int.reduceLT, Int.reduceNeg, ↓reduceIte, reduceCtorEq, Nat.reduceBEq, q1, q2, q3, e4, e5, e6, decide_eq_false cl]
                      repeat (apply And.intro; focus (first | omega | (simp; done)))
                      have cc := ih (y - (m + 1)) (by omega) (m + 1) y N lim' (Nat.le_refl _) (by omega) (by omega) (by omega) hl0 hl1 (LB.next n5) (rowc_mono hmo hlN)
                      rw [hlN, dataV] at cc
                      refine Cal.mk cc ?_
                      rintro _ _ ⟨R, r1, r2, rfl⟩ -
                      clear cc
                      simp (config := {maxSteps := 3000000}) only [go_sem, Nat.reduceEqDiff, ↓reduceIte, Nat.reduceBEq, q1, q3]
                      repeat (apply And.intro; focus (first | omega | (simp; done)))
                      exact ⟨⟨x, m, R, lim', _, _, rfl, rfl, rfl, rfl, rfl, by omega, by omega, by omega, hl0, hl1, hMN.trans (r1.wide (by omega) (by omega)), hFN.goR E.ord hax hyc (by omega) (by omega) (by omega) n4 n5 r1 r2, rfl⟩, by omega⟩
                · simp (config := {maxSteps := 3000000}) only [go_sem, ↓reduceIte]
                  have hfin := hF.fin hM hax hyc h2 n1 (n2 rfl)
                  exact ⟨_, _, Wk.refl _, weak_re hwf, N, hfin.1, hfin.2, rfl⟩
              · simp (config := {maxSteps := 3000000}) only [go_sem, Nat.reduceEqDiff, ↓reduceIte, Nat.reduceBEq, q1, q8, q9, decide_eq_false k2, decide_eq_false k1]
                repeat (apply And.intro; focus (first | omega | (simp; done)))
                have hLM := hLB.mix hM h2
                have hLx := hF.lb hLM hax hyc
                by_cases cx : 0 < x
                · have ex : ((x : Int) - 1).toNat = x - 1 := by omega
                  simp (config := {maxSteps := 3000000}) only [go_sem, Nat.reduceEqDiff, Int.reduceNeg, ↓reduceIte, reduceCtorEq, Nat.reduceBEq, q1, ex, decide_eq_true (show (0 : Int) < (x : Int) by omega), rowc_get (show x - 1 < M.length by omega), rowc_get (show pv < M.length by omega), rowc_len, rowc_mono hmo hlen, E.call, List.map_nil]
                  repeat (apply And.intro; focus (first | omega | (simp; done)))
                  refine Cal.mk (E.less _ _ _) ?_
                  rintro _ _ ⟨z7, hz7, rfl, rfl⟩ -
                  simp (config := {maxSteps := 3000000}) only [go_sem, Nat.reduceEqDiff, ↓reduceIte, hz7]
                  cases cq : lt M[x - 1]! M[pv]!
                  · simp (config := {maxSteps := 3000000}) only [go_sem, Nat.reduceEqDiff, ↓reduceIte, reduceCtorEq, Nat.reduceBEq, q1, q2]
                    have cc := cequal_v (st := st) (b := b) (cap := cap) (sp := sp) hc.equal E (rowc_mono hmo hlen) (p := pv) (by omega) (by omega) (by omega) (by omega) (L := M) (a := x) (c := y)
                    rw [hlen, dataV] at cc
                    refine Cal.mk cc ?_
                    rintro _ _ ⟨m, N, n1, n2, n3, n4, n5, rfl, rfl⟩ -
                    clear cc
                    simp (config := {maxSteps := 3000000}) only [go_sem, Nat.reduceEqDiff, ↓reduceIte, Nat.reduceBEq, q2, q3, q8, q9]
                    repeat (apply And.intro; focus (first | omega | (simp; done)))
                    exact ⟨⟨m, y, N, lim', _, _, rfl, rfl, rfl, rfl, rfl, by omega, by omega, by omega, hl0, hl1, hM.trans (n3.wide hax hyc), hF.goE E.ord hLx cx cq hax hyc n1 n2 (by omega) n3 n4, rfl⟩, by omega⟩
                  · simp (config := {maxSteps := 3000000}) only [go_sem, Nat.reduceEqDiff, ↓reduceIte, reduceCtorEq, Nat.reduceBEq, q1, q2]
                    have cc := csplit_v (st := st) (b := b) (cap := cap) (sp := sp) hc.split E (rowc_mono hmo hlen) (p := pv) (by omega) (by omega) (by omega) (by omega) (L := M) (a := x) (c := y)
                    rw [hlen, dataV] at cc
                    refine Cal.mk cc ?_
                    rintro _ _ ⟨m, B3, N, n1, n2, n3, n4, n5, rfl, rfl⟩ -
                    clear cc
                    have hlN : N.length = L.length := n3.len.trans hlen
                    have hMN : Mix a c L N := hM.trans (n3.wide hax hyc)
                    have hFN := hF.mix n3 hax hyc (by omega)
                    have hLN := hLx.mix n3 (by omega)
                    have e4 : (m : Int) - (x : Int) = ((m - x : Nat) : Int) := by omega
                    have e5 : (y : Int) - (m : Int) = ((y - m : Nat) : Int) := by omega
                    have e6 : (m : Int) + 1 = ((m + 1 : Nat) : Int) := by simp
                    clear hM hF hLx hLM n3
                    by_cases cl : ((m - x : Nat) : Int) < ((y - m : Nat) : Int)
                    · simp (config := {maxSteps := 3000000}) only [go_sem, Nat.reduceEqDiff, Int.reduceLT, Int.reduceNeg, ↓reduceIte, reduceCtorEq, Nat.reduceBEq, q1, q2, q3, e4, e5, decide_eq_true cl]
                      repeat (apply And.intro; focus (first | omega | (simp; done)))
                      have cc := ih (m - x) (by omega) x m N lim' (Nat.le_refl _) (by omega) (by omega) (by omega) hl0 hl1 (hLN.part (by omega)) (rowc_mono hmo hlN)
                      rw [hlN, dataV] at cc
                      refine Cal.mk cc ?_
                      rintro _ _ ⟨R, r1, r2, rfl⟩ -
                      clear cc
                      simp (config := {maxSteps := 3000000}) only [go_sem, Nat.reduceEqDiff, Int.reduceNeg, ↓reduceIte, Nat.reduceBEq, q2, q3, e6]
                      repeat (apply And.intro; focus (first | omega | (simp; done)))
                      exact ⟨⟨m + 1, y, R, lim', _, _, rfl, rfl, rfl, rfl, rfl, by omega, by omega, by omega, hl0, hl1, hMN.trans (r1.wide (by omega) (by omega)), hFN.goL E.ord hax hyc (by omega) (by omega) (by omega) n4 n5 r1 r2, rfl⟩, by omega⟩
                    · simp (config := {maxSteps := 3000000}) only [go_sem, Nat.reduceEqDiff, Int.reduceLT, Int.reduceNeg, ↓reduceIte, reduceCtorEq, Nat.reduceBEq, q1, q2, q3, e4, e5, e6, decide_eq_false cl]
                      repeat (apply And.intro; focus (first | omega | (simp; done)))
                      have cc := ih (y - (m + 1)) (by omega) (m + 1) y N lim' (Nat.le_refl _) (by omega) (by omega) (by omega) hl0 hl1 (LB.next n5) (rowc_mono hmo hlN)
                      rw [hlN, dataV] at cc
                      refine Cal.mk cc ?_
                      rintro _ _ ⟨R, r1, r2, rfl⟩ -
                      clear cc
                      simp (config := {maxSteps := 3000000}) only [go_sem, Nat.reduceEqDiff, ↓reduceIte, Nat.reduceBEq, q1, q3]
                      repeat (apply And.intro; focus (first | omega | (simp; done)))
                      exact ⟨⟨x, m, R, lim', _, _, rfl, rfl, rfl, rfl, rfl, by omega, by omega, by omega, hl0, hl1, hMN.trans (r1.wide (by omega) (by omega)), hFN.goR E.ord hax hyc (by omega) (by omega) (by omega) n4 n5 r1 r2, rfl⟩, by omega⟩
                · simp (config := {maxSteps := 3000000}) only [go_sem, Nat.reduceEqDiff, ↓reduceIte, reduceCtorEq, Nat.reduceBEq, q1, q2, decide_eq_false (show ¬ (0 : Int) < (x : Int) by omega)]
                  have cc := csplit_v (st := st) (b := b) (cap := cap) (sp := sp) hc.split E (rowc_mono hmo hlen) (p := pv) (by omega) (by omega) (by omega) (by omega) (L := M) (a := x) (c := y)
                  rw [hlen, dataV] at cc
                  refine Cal.mk cc ?_
                  rintro _ _ ⟨m, B3, N, n1, n2, n3, n4, n5, rfl, rfl⟩ -
                  clear cc
                  have hlN : N.length = L.length := n3.len.trans hlen
                  have hMN : Mix a c L N := hM.trans (n3.wide hax hyc)
                  have hFN := hF.mix n3 hax hyc (by omega)
                  have hLN := hLx.mix n3 (by omega)
                  have e4 : (m : Int) - (x : Int) = ((m - x : Nat) : Int) := by omega
                  have e5 : (y : Int) - (m : Int) = ((y - m : Nat) : Int) := by omega
                  have e6 : (m : Int) + 1 = ((m + 1 : Nat) : Int) := by simp
                  clear hM hF hLx hLM n3
                  by_cases cl : ((m - x : Nat) : Int) < ((y - m : Nat) : Int)
                  · simp (config := {maxSteps := 3000000}) only [go_sem, Nat.reduceEqDiff, Int.reduceLT, Int.reduceNeg, ↓reduceIte, reduceCtorEq, Nat.reduceBEq, q1, q2, q3, e4, e5, decide_eq_true cl]
                    repeat (apply And.intro; focus (first | omega | (simp; done)))
                    have cc := ih (m - x) (by omega) x m N lim' (Nat.le_refl _) (by omega) (by omega) (by omega) hl0 hl1 (hLN.part (by omega)) (rowc_mono hmo hlN)
                    rw [hlN, dataV] at cc
                    refine Cal.mk cc ?_
                    rintro _ _ ⟨R, r1, r2, rfl⟩ -
                    clear cc
                    simp (config := {maxSteps := 3000000}) only [go_sem, Nat.reduceEqDiff, Int.reduceNeg, ↓reduceIte, Nat.reduceBEq, q2, q3, e6]
                    repeat (apply And.intro; focus (first | omega | (simp; done)))
                    exact ⟨⟨m + 1, y, R, lim', _, _, rfl, rfl, rfl, rfl, rfl, by omega, by omega, by omega, hl0, hl1, hMN.trans (r1.wide (by omega) (by omega)), hFN.goL E.ord hax hyc (by omega) (by omega) (by omega) n4 n5 r1 r2, rfl⟩, by omega⟩
                  · simp (config := {maxSteps := 3000000}) only [go_sem, Nat.reduceEqDiff, Int.reduceLT, Int.reduceNeg, ↓reduceIte, reduceCtorEq, Nat.reduceBEq, q1, q2, q3, e4, e5, e6, decide_eq_false cl]
                    repeat (apply And.intro; focus (first | omega | (simp; done)))
                    have cc := ih (y - (m + 1)) (by omega) (m + 1) y N lim' (Nat.le_refl _) (by omega) (by omega) (by omega) hl0 hl1 (LB.next n5) (rowc_mono hmo hlN)
                    rw [hlN, dataV] at cc
                    refine Cal.mk cc ?_
                    rintro _ _ ⟨R, r1, r2, rfl⟩ -
                    clear cc
                    simp (config := {maxSteps := 3000000}) only [go_sem, Nat.reduceEqDiff, ↓reduceIte, Nat.reduceBEq, q1, q3]
                    repeat (apply And.intro; focus (first | omega | (simp; done)))
                    exact ⟨⟨x, m, R, lim', _, _, rfl, rfl, rfl, rfl, rfl, by omega, by omega, by omega, hl0, hl1, hMN.trans (r1.wide (by omega) (by omega)), hFN.goR E.ord hax hyc (by omega) (by omega) (by omega) n4 n5 r1 r2, rfl⟩, by omega⟩
end
end
section
open Go

def bitsTab : ByteArray := ({ data := (([0, 1, 2, 2, 3, 3, 3, 3, 4, 4, 4, 4, 4, 4, 4, 4, 5, 5, 5, 5, 5, 5, 5, 5, 5, 5, 5, 5, 5, 5, 5, 5, 6, 6, 6, 6, 6, 6, 6, 6, 6, 6, 6, 6, 6, 6, 6, 6, 6, 6, 6, 6, 6, 6, 6, 6, 6, 6, 6, 6, 6, 6, 6, 6].append [7, 7, 7, 7, 7, 7, 7, 7, 7, 7, 7, 7, 7, 7, 7, 7, 7, 7, 7, 7, 7, 7, 7, 7, 7, 7, 7, 7, 7, 7, 7, 7, 7, 7, 7, 7, 7, 7, 7, 7, 7, 7, 7, 7, 7, 7, 7, 7, 7, 7, 7, 7, 7, 7, 7, 7, 7, 7, 7, 7, 7, 7, 7, 7]).append ([8, 8, 8, 8, 8, 8, 8, 8, 8, 8, 8, 8, 8, 8, 8, 8, 8, 8, 8, 8, 8, 8, 8, 8, 8, 8, 8, 8, 8, 8, 8, 8, 8, 8, 8, 8, 8, 8, 8, 8, 8, 8, 8, 8, 8, 8, 8, 8, 8, 8, 8, 8, 8, 8, 8, 8, 8, 8, 8, 8, 8, 8, 8, 8].append [8, 8, 8, 8, 8, 8, 8, 8, 8, 8, 8, 8, 8, 8, 8, 8, 8, 8, 8, 8, 8, 8, 8, 8, 8, 8, 8, 8, 8, 8, 8, 8, 8, 8, 8, 8, 8, 8, 8, 8, 8, 8, 8, 8, 8, 8, 8, 8, 8, 8, 8, 8, 8, 8, 8, 8, 8, 8, 8, 8, 8, 8, 8, 8])).toArray })
def BLen64 (T : ByteArray) : FC := ⟨25, .seq (.reg [⟨some 2, .mv (.c (.sc (.int .i64 0))), none, []⟩]) (.seq (.seq (.reg [⟨some 3, .mv (.t 0), none, []⟩, ⟨some 4, .bin .geq (.t 3) (.c (.sc (.int .u64 4294967296))), none, []⟩]) (.cond (.t 4) (.seq (.reg [⟨some 5, .mv (.t 0), none, []⟩, ⟨some 6, .bin .shr (.t 5) (.c (.sc (.int .u64 32))), none, []⟩, ⟨some 0, .mv (.t 6), none, []⟩]) (.reg [⟨some 2, .mv (.c (.sc (.int .i64 32))), none, []⟩])) .skip)) (.seq (.seq (.reg [⟨some 7, .mv (.t 0), none, []⟩, ⟨some 8, .bin .geq (.t 7) (.c (.sc (.int .u64 65536))), none, []⟩]) (.cond (.t 8) (.seq (.reg [⟨some 9, .mv (.t 0), none, []⟩, ⟨some 10, .bin .shr (.t 9) (.c (.sc (.int .u64 16))), none, []⟩, ⟨some 0, .mv (.t 10), none, []⟩]) (.reg [⟨some 11, .mv (.t 2), none, []⟩, ⟨some 12, .bin .add (.t 11) (.c (.sc (.int .i64 16))), none, []⟩, ⟨some 2, .mv (.t 12), none, []⟩])) .skip)) (.seq (.seq (.reg [⟨some 13, .mv (.t 0), none, []⟩, ⟨some 14, .bin .geq (.t 13) (.c (.sc (.int .u64 256))), none, []⟩]) (.cond (.t 14) (.seq (.reg [⟨some 15, .mv (.t 0), none, []⟩, ⟨some 16, .bin .shr (.t 15) (.c (.sc (.int .u64 8))), none, []⟩, ⟨some 0, .mv (.t 16), none, []⟩]) (.reg [⟨some 17, .mv (.t 2), none, []⟩, ⟨some 18, .bin .add (.t 17) (.c (.sc (.int .i64 8))), none, []⟩, ⟨some 2, .mv (.t 18), none, []⟩])) .skip)) (.seq (.reg [⟨some 19, .mv (.t 2), none, []⟩, ⟨some 20, .mv (.t 0), none, []⟩, ⟨some 21, .conv .u8 (.t 20), none, []⟩, ⟨some 22, .sidx (.c (.sc (.string T))) (.t 21), none, []⟩, ⟨some 23, .conv .i64 (.t 22), none, []⟩, ⟨some 24, .bin .add (.t 19) (.t 23), none, []⟩, ⟨some 2, .mv (.t 24), none, []⟩]) .ret)))), [.tmp 2]⟩
def BLen (flen32 flen64 : FuncId) : FC := ⟨8, .seq (.reg [⟨some 2, .mv (.c (.sc (.int .i64 0))), none, []⟩]) (.seq (.cond (.c (.sc (.bool false))) (.seq (.reg [⟨some 3, .mv (.t 0), none, []⟩, ⟨some 4, .conv .u32 (.t 3), none, []⟩, ⟨some 5, .call flen32 [.t 4], none, []⟩, ⟨some 2, .mv (.t 5), none, []⟩]) .ret) .skip) (.seq (.reg [⟨some 6, .mv (.t 0), none, []⟩, ⟨some 7, .call flen64 [.t 6], none, []⟩, ⟨some 2, .mv (.t 7), none, []⟩]) .ret)), [.tmp 2]⟩
def BPow (flen : FuncId) : FC := ⟨7, .seq (.reg [⟨some 2, .mv (.c (.sc (.int .u64 0))), none, []⟩]) (.seq (.reg [⟨some 3, .mv (.t 0), none, []⟩, ⟨some 4, .conv .u64 (.t 3), none, []⟩, ⟨some 5, .call flen [.t 4], none, []⟩, ⟨some 6, .bin .shl (.c (.sc (.int .u64 1))) (.t 5), none, []⟩, ⟨some 2, .mv (.t 6), none, []⟩]) .ret), [.tmp 2]⟩
def BNext : FC := ⟨33, .seq (.reg [⟨some 2, .mv (.c (.sc (.int .u64 0))), none, []⟩]) (.seq (.reg [⟨some 3, .mv (.t 0), none, []⟩, ⟨some 4, .nilck (.t 3), none, []⟩, ⟨some 5, .load none (.t 4), none, []⟩, ⟨some 6, .mv (.t 0), none, []⟩, ⟨some 7, .nilck (.t 6), none, []⟩, ⟨some 8, .load none (.t 7), none, []⟩, ⟨some 9, .bin .shl (.t 8) (.c (.sc (.int .u64 13))), none, []⟩, ⟨some 10, .bin .xor (.t 5) (.t 9), none, []⟩, ⟨some 11, .nilck (.t 3), none, []⟩, ⟨none, .store 1 (.t 11) (.t 10), none, []⟩]) (.seq (.reg [⟨some 12, .mv (.t 0), none, []⟩, ⟨some 13, .nilck (.t 12), none, []⟩, ⟨some 14, .load none (.t 13), none, []⟩, ⟨some 15, .mv (.t 0), none, []⟩, ⟨some 16, .nilck (.t 15), none, []⟩, ⟨some 17, .load none (.t 16), none, []⟩, ⟨some 18, .bin .shr (.t 17) (.c (.sc (.int .u64 7))), none, []⟩, ⟨some 19, .bin .xor (.t 14) (.t 18), none, []⟩, ⟨some 20, .nilck (.t 12), none, []⟩, ⟨none, .store 1 (.t 20) (.t 19), none, []⟩]) (.seq (.reg [⟨some 21, .mv (.t 0), none, []⟩, ⟨some 22, .nilck (.t 21), none, []⟩, ⟨some 23, .load none (.t 22), none, []⟩, ⟨some 24, .mv (.t 0), none, []⟩, ⟨some 25, .nilck (.t 24), none, []⟩, ⟨some 26, .load none (.t 25), none, []⟩, ⟨some 27, .bin .shl (.t 26) (.c (.sc (.int .u64 17))), none, []⟩, ⟨some 28, .bin .xor (.t 23) (.t 27), none, []⟩, ⟨some 29, .nilck (.t 21), none, []⟩, ⟨none, .store 1 (.t 29) (.t 28), none, []⟩]) (.seq (.reg [⟨some 30, .mv (.t 0), none, []⟩, ⟨some 31, .nilck (.t 30), none, []⟩, ⟨some 32, .load none (.t 31), none, []⟩, ⟨some 2, .mv (.t 32), none, []⟩]) .ret)))), [.tmp 2]⟩
end
section
open Go

/-- The table of lengths. -/
def TabOk (T : ByteArray) : Prop := ∀ x : Nat, x < 256 → ∃ t : Nat, (bytesOf T)[x]? = some (t : Int) ∧ t ≤ 8 ∧ x < 2 ^ t ∧ (x = 0 ∨ 2 ^ t ≤ 2 * x)
theorem tab_all : (List.range 256).all (fun x => match (bytesOf bitsTab)[x]? with | some t => decide (0 ≤ t ∧ t ≤ 8 ∧ x < 2 ^ t.toNat ∧ (x = 0 ∨ 2 ^ t.toNat ≤ 2 * x)) | none => false) = true := by kernel_rfl
theorem tab_ok : TabOk bitsTab := fun x hx => by
  have h := List.all_eq_true.1 tab_all x (List.mem_range.2 hx)
  cases e : (bytesOf bitsTab)[x]? with
  | none => simp [e] at h
  | some t =>
    simp only [e, decide_eq_true_eq] at h
    exact ⟨t.toNat, by rw [show ((t.toNat : Nat) : Int) = t by omega], by omega, h.2.2.1, h.2.2.2⟩
theorem pow_in {k n t x y : Nat} (hk : k = n + t) {p : Nat} (hp : p = 2 ^ n) (h1 : y * p ≤ x) (h2 : x < (y + 1) * p) (h3 : y < 2 ^ t) (h4 : y = 0 ∨ 2 ^ t ≤ 2 * y) : x < 2 ^ k ∧ (y = 0 ∨ 2 ^ k ≤ 2 * x) := by
  subst hk hp
  rw [Nat.pow_add]
  refine ⟨Nat.lt_of_lt_of_le h2 (by rw [Nat.mul_comm]; exact Nat.mul_le_mul_left _ h3), ?_⟩
  rcases h4 with h4 | h4
  · exact .inl h4
  · refine .inr (Nat.le_trans (Nat.mul_le_mul_left (2 ^ n) h4) ?_)
    rw [← Nat.mul_assoc, Nat.mul_comm (2 ^ n) 2, Nat.mul_assoc]
    exact Nat.mul_le_mul_left 2 (by rw [Nat.mul_comm]; exact h1)
theorem weak_ne {st : St} {b : Nat} {X Y : List V} (h : (st.put b X).Wf) : (st.put b Y).weak (st.put b Y) := by
  have := (h.lt.put (b := b) (cs := Y)).weak
  rwa [put_put] at this
section
variable {P : Program} {st : St} {f flen flen32 flen64 : FuncId} {T : ByteArray}
set_option maxRecDepth 100000 in
set_option maxHeartbeats 16000000 in
theorem blen64_v (hf : cFun P f = some (BLen64 T)) (hT : TabOk T) {x : Nat} (hx : x < 18446744073709551616) :
    VCalls P f [.sc (.int .u64 x)] st fun v s => st = s ∧ ∃ k : Nat, k ≤ 64 ∧ x < 2 ^ k ∧ (x = 0 ∨ 2 ^ k ≤ 2 * x) ∧ v = .sc (.int .i64 k) := by
  refine vcalls_enter hf (Nat.le_of_ble_eq_true rfl) fun hwf hok => ?_
  show Run _ (BLen64 T).body (.fin (finQ (BLen64 T).res _)) _ _
  unfold BLen64
  by_cases c0 : (4294967296 : Int) ≤ (x : Int)
  · obtain ⟨a, ea⟩ : ∃ y : Nat, y = x / 4294967296 := ⟨_, rfl⟩
    have ia : (x : Int) / 4294967296 = (a : Int) := by omega
    by_cases c1 : (65536 : Int) ≤ (a : Int)
    · obtain ⟨b, eb⟩ : ∃ y : Nat, y = a / 65536 := ⟨_, rfl⟩
      have ib : (a : Int) / 65536 = (b : Int) := by omega
      by_cases c2 : (256 : Int) ≤ (b : Int)
      · obtain ⟨c, ec⟩ : ∃ y : Nat, y = b / 256 := ⟨_, rfl⟩
        have ic : (b : Int) / 256 = (c : Int) := by omega
        obtain ⟨t, ht, t8, t1, t2⟩ := hT c (by omega)
        have em : (c : Int) % 256 = (c : Int) := by omega
        simp (config := {maxSteps := 3000000}) only [go_sem, Nat.reduceEqDiff, Nat.reduceLeDiff, Int.reduceToNat, Int.reduceLE, Int.reducePow, Int.reduceAdd, Int.reduceNeg, ↓reduceIte, reduceCtorEq, decide_eq_true c0, ia, decide_eq_true c1, ib, decide_eq_true c2, ic, em, ht]
        repeat (apply And.intro; focus (first | omega | (simp; done)))
        have hp := pow_in (k := 56 + t) (n := 56) (x := x) (y := c) rfl (p := 72057594037927936) (by decide) (by omega) (by omega) t1 t2
        exact ⟨_, _, Wk.refl _, hwf.weak, rfl, 56 + t, by omega, hp.1, by omega, by simp⟩
      · obtain ⟨t, ht, t8, t1, t2⟩ := hT b (by omega)
        have em : (b : Int) % 256 = (b : Int) := by omega
        simp (config := {maxSteps := 3000000}) only [go_sem, Nat.reduceEqDiff, Nat.reduceLeDiff, Int.reduceToNat, Int.reduceLE, Int.reducePow, Int.reduceAdd, Int.reduceNeg, ↓reduceIte, reduceCtorEq, decide_eq_true c0, ia, decide_eq_true c1, ib, decide_eq_false c2, em, ht]
        repeat (apply And.intro; focus (first | omega | (simp; done)))
        have hp := pow_in (k := 48 + t) (n := 48) (x := x) (y := b) rfl (p := 281474976710656) (by decide) (by omega) (by omega) t1 t2
        exact ⟨_, _, Wk.refl _, hwf.weak, rfl, 48 + t, by omega, hp.1, by omega, by simp⟩
    · by_cases c2 : (256 : Int) ≤ (a : Int)
      · obtain ⟨c, ec⟩ : ∃ y : Nat, y = a / 256 := ⟨_, rfl⟩
        have ic : (a : Int) / 256 = (c : Int) := by omega
        obtain ⟨t, ht, t8, t1, t2⟩ := hT c (by omega)
        have em : (c : Int) % 256 = (c : Int) := by omega
        simp (config := {maxSteps := 3000000}) only [go_sem, Nat.reduceEqDiff, Nat.reduceLeDiff, Int.reduceToNat, Int.reduceLE, Int.reducePow, Int.reduceAdd, Int.reduceNeg, ↓reduceIte, reduceCtorEq, decide_eq_true c0, ia, decide_eq_false c1, decide_eq_true c2, ic, em, ht]
        repeat (apply And.intro; focus (first | omega | (simp; done)))
        have hp := pow_in (k := 40 + t) (n := 40) (x := x) (y := c) rfl (p := 1099511627776) (by decide) (by omega) (by omega) t1 t2
        exact ⟨_, _, Wk.refl _, hwf.weak, rfl, 40 + t, by omega, hp.1, by omega, by simp⟩
      · obtain ⟨t, ht, t8, t1, t2⟩ := hT a (by omega)
        have em : (a : Int) % 256 = (a : Int) := by omega
        simp (config := {maxSteps := 3000000}) only [go_sem, Nat.reduceEqDiff, Nat.reduceLeDiff, Int.reduceToNat, Int.reduceLE, Int.reducePow, Int.reduceNeg, ↓reduceIte, reduceCtorEq, decide_eq_true c0, ia, decide_eq_false c1, decide_eq_false c2, em, ht]
        repeat (apply And.intro; focus (first | omega | (simp; done)))
        have hp := pow_in (k := 32 + t) (n := 32) (x := x) (y := a) rfl (p := 4294967296) (by decide) (by omega) (by omega) t1 t2
        exact ⟨_, _, Wk.refl _, hwf.weak, rfl, 32 + t, by omega, hp.1, by omega, by simp⟩
  · by_cases c1 : (65536 : Int) ≤ (x : Int)
    · obtain ⟨b, eb⟩ : ∃ y : Nat, y = x / 65536 := ⟨_, rfl⟩
      have ib : (x : Int) / 65536 = (b : Int) := by omega
      by_cases c2 : (256 : Int) ≤ (b : Int)
      · obtain ⟨c, ec⟩ : ∃ y : Nat, y = b / 256 := ⟨_, rfl⟩
        have ic : (b : Int) / 256 = (c : Int) := by omega
        obtain ⟨t, ht, t8, t1, t2⟩ := hT c (by omega)
        have em : (c : Int) % 256 = (c : Int) := by omega
        simp (config := {maxSteps := 3000000}) only [go_sem, Nat.reduceEqDiff, Nat.reduceLeDiff, Int.reduceToNat, Int.reduceLE, Int.reducePow, Int.reduceAdd, Int.reduceNeg, ↓reduceIte, reduceCtorEq, decide_eq_false c0, decide_eq_true c1, ib, decide_eq_true c2, ic, em, ht]
        repeat (apply And.intro; focus (first | omega | (simp; done)))
        have hp := pow_in (k := 24 + t) (n := 24) (x := x) (y := c) rfl (p := 16777216) (by decide) (by omega) (by omega) t1 t2
        exact ⟨_, _, Wk.refl _, hwf.weak, rfl, 24 + t, by omega, hp.1, by omega, by simp⟩
      · obtain ⟨t, ht, t8, t1, t2⟩ := hT b (by omega)
        have em : (b : Int) % 256 = (b : Int) := by omega
        simp (config := {maxSteps := 3000000}) only [go_sem, Nat.reduceEqDiff, Nat.reduceLeDiff, Int.reduceToNat, Int.reduceLE, Int.reducePow, Int.reduceAdd, Int.reduceNeg, ↓reduceIte, reduceCtorEq, decide_eq_false c0, decide_eq_true c1, ib, decide_eq_false c2, em, ht]
        repeat (apply And.intro; focus (first | omega | (simp; done)))
        have hp := pow_in (k := 16 + t) (n := 16) (x := x) (y := b) rfl (p := 65536) (by decide) (by omega) (by omega) t1 t2
        exact ⟨_, _, Wk.refl _, hwf.weak, rfl, 16 + t, by omega, hp.1, by omega, by simp⟩
    · by_cases c2 : (256 : Int) ≤ (x : Int)
      · obtain ⟨c, ec⟩ : ∃ y : Nat, y = x / 256 := ⟨_, rfl⟩
        have ic : (x : Int) / 256 = (c : Int) := by omega
        obtain ⟨t, ht, t8, t1, t2⟩ := hT c (by omega)
        have em : (c : Int) % 256 = (c : Int) := by omega
        simp (config := {maxSteps := 3000000}) only [go_sem, Nat.reduceEqDiff, Nat.reduceLeDiff, Int.reduceToNat, Int.reduceLE, Int.reducePow, Int.reduceAdd, Int.reduceNeg, ↓reduceIte, reduceCtorEq, decide_eq_false c0, decide_eq_false c1, decide_eq_true c2, ic, em, ht]
        repeat (apply And.intro; focus (first | omega | (simp; done)))
        have hp := pow_in (k := 8 + t) (n := 8) (x := x) (y := c) rfl (p := 256) (by decide) (by omega) (by omega) t1 t2
        exact ⟨_, _, Wk.refl _, hwf.weak, rfl, 8 + t, by omega, hp.1, by omega, by simp⟩
      · obtain ⟨t, ht, t8, t1, t2⟩ := hT x (by omega)
        have em : (x : Int) % 256 = (x : Int) := by omega
        simp (config := {maxSteps := 3000000}) only [go_sem, Nat.reduceEqDiff, Int.reduceNeg, ↓reduceIte, reduceCtorEq, decide_eq_false c0, decide_eq_false c1, decide_eq_false c2, em, ht]
        repeat (apply And.intro; focus (first | omega | (simp; done)))
        have hp := pow_in (k := 0 + t) (n := 0) (x := x) (y := x) rfl (p := 1) (by decide) (by omega) (by omega) t1 t2
        exact ⟨_, _, Wk.refl _, hwf.weak, rfl, 0 + t, by omega, hp.1, by omega, by simp⟩
set_option maxRecDepth 100000 in
set_option maxHeartbeats 4000000 in
theorem blen_v (hf : cFun P f = some (BLen flen32 flen64)) (h64 : cFun P flen64 = some (BLen64 T)) (hT : TabOk T) {x : Nat} (hx : x < 18446744073709551616) :
    VCalls P f [.sc (.int .u64 x)] st fun v s => st = s ∧ ∃ k : Nat, k ≤ 64 ∧ x < 2 ^ k ∧ (x = 0 ∨ 2 ^ k ≤ 2 * x) ∧ v = .sc (.int .i64 k) := by
  refine vcalls_enter hf (Nat.le_of_ble_eq_true rfl) fun hwf hok => ?_
  show Run _ (BLen flen32 flen64).body (.fin (finQ (BLen flen32 flen64).res _)) _ _
  unfold BLen
  simp (config := {maxSteps := 3000000}) only [go_sem, ↓reduceIte, reduceCtorEq]
  refine Cal.mk (blen64_v h64 hT hx) ?_
  rintro _ _ ⟨rfl, k, h1, h2, h3, rfl⟩ -
  simp (config := {maxSteps := 3000000}) only [go_sem, ↓reduceIte]
  exact ⟨_, _, Wk.refl _, hwf.weak, rfl, k, h1, h2, h3, rfl⟩
set_option maxRecDepth 100000 in
set_option maxHeartbeats 4000000 in
theorem bpow_v (hf : cFun P f = some (BPow flen)) (hfl : cFun P flen = some (BLen flen32 flen64)) (h64 : cFun P flen64 = some (BLen64 T)) (hT : TabOk T) {n : Nat} (h0 : 0 < n) (hn : n < 4611686018427387904) :
    VCalls P f [.sc (.int .i64 n)] st fun v s => st = s ∧ ∃ m : Nat, n < m ∧ m ≤ 2 * n ∧ v = .sc (.int .u64 m) := by
  have en : (n : Int) % 18446744073709551616 = (n : Int) := by omega
  refine vcalls_enter hf (Nat.le_of_ble_eq_true rfl) fun hwf hok => ?_
  show Run _ (BPow flen).body (.fin (finQ (BPow flen).res _)) _ _
  unfold BPow
  simp (config := {maxSteps := 3000000}) only [go_sem, ↓reduceIte, reduceCtorEq, en]
  refine Cal.mk (blen_v hfl h64 hT (x := n) (by omega)) ?_
  rintro _ _ ⟨rfl, k, h1, h2, h3, rfl⟩ -
  have h4 : 2 ^ k ≤ 2 * n := by omega
  have em : ((1 : Int) * 2 ^ min ((k : Int)).toNat 64) % 18446744073709551616 = ((2 ^ k : Nat) : Int) := by
    rw [Int.toNat_natCast, Nat.min_eq_left h1, Int.one_mul]
    have e2 : (2 : Int) ^ k = ((2 ^ k : Nat) : Int) := by simp
    rw [e2]
    have : 2 ^ k < 18446744073709551616 := by omega
    generalize 2 ^ k = q at this ⊢
    omega
  simp only [Int.toNat_natCast, Int.one_mul, Nat.min_eq_left h1] at em
  simp (config := {maxSteps := 3000000}) only [go_sem, ↓reduceIte, em, Int.one_mul, Nat.min_eq_left h1]
  repeat (apply And.intro; focus (first | omega | (simp; done)))
  exact ⟨_, _, Wk.refl _, hwf.weak, rfl, 2 ^ k, h2, h4, by first | rfl | simp⟩
set_option maxRecDepth 100000 in
set_option maxHeartbeats 4000000 in
theorem bnext_v (hf : cFun P f = some BNext) (st : St) (r : Nat) (x : Int) : VCalls P f [ptrV r] (st.put r [.sc (.int .u64 x)]) fun v s => ∃ y, v = .sc (.int .u64 y) ∧ s = st.put r [.sc (.int .u64 y)] := by
  refine vcalls_enter hf (Nat.le_of_ble_eq_true rfl) fun hwf hok => ?_
  show Run _ (BNext).body (.fin (finQ (BNext).res _)) _ _
  unfold BNext
  simp (config := {maxSteps := 3000000}) only [go_sem, Nat.reduceEqDiff, Nat.reduceLT, Nat.reduceLeDiff, Int.reduceToNat, Int.reduceLE, Int.reducePow, ↓reduceIte, reduceCtorEq]
  exact ⟨_, _, Wk.refl _, weak_ne hwf, _, rfl, rfl⟩
end
end
section
open Go

section
variable {P : Program} {α : Type} [Inhabited α] {val : α → V × V} {lt : α → α → Bool} {g f fsift : FuncId} {st : St} {b cap a c : Nat} {L : List α} {sp : List V}
variable {fins fheap fbreak fpivot frev fpart fequal fsplit fa fm fo fpow fnext fpdq flen flen32 flen64 fnan : FuncId} {T : ByteArray}
set_option maxRecDepth 100000 in
set_option maxHeartbeats 4000000 in
theorem csort_v (hf : cFun P f = some (CSorts flen fpdq)) (hfl : cFun P flen = some (BLen flen32 flen64)) (h64 : cFun P flen64 = some (BLen64 T)) (hT : TabOk T) (hc : SortsC P fpdq fins fheap fbreak fpivot frev fpart fequal fsplit fsift fa fm fo fpow fnext) (E : EltC P g val lt) (hmo : mono (rowc val L sp)) (hl : L.length < 4611686018427387904) :
    VCalls P f [dataV b L.length cap, cmpV g] (st.put b (rowc val L sp)) fun _ s => ∃ M : List α, M.Perm L ∧ M.Pairwise (fun x y => lt y x = false) ∧ s = st.put b (rowc val M sp) := by
  have en : (L.length : Int) % 18446744073709551616 = (L.length : Int) := by omega
  refine vcalls_enter hf (Nat.le_of_ble_eq_true rfl) fun hwf hok => ?_
  show Run _ (CSorts flen fpdq).body (.fin (finQ (CSorts flen fpdq).res _)) _ _
  unfold CSorts
  simp (config := {maxSteps := 3000000}) only [go_sem, Nat.reduceEqDiff, ↓reduceIte, reduceCtorEq, dataV, cmpV, en]
  refine Cal.mk (blen_v hfl h64 hT (x := L.length) (by omega)) ?_
  rintro _ _ ⟨rfl, k, k1, k2, k3, rfl⟩ -
  simp (config := {maxSteps := 3000000}) only [go_sem, Nat.reduceEqDiff, ↓reduceIte]
  have cc := cpdq_v (st := st) (b := b) (cap := cap) (sp := sp) hc E L.length 0 L.length L k (by omega) (by omega) (by omega) hl (by omega) (by omega) (fun h0 => by omega) hmo
  rw [dataV] at cc
  refine Cal.mk cc ?_
  rintro _ _ ⟨M, m1, m2, rfl⟩ -
  simp (config := {maxSteps := 3000000}) only [go_sem]
  exact ⟨_, _, Wk.refl _, weak_re hwf, M, (Srt.all m1 m2).1, (Srt.all m1 m2).2, rfl⟩
end
end
section
open Go

set_option maxRecDepth 100000 in
theorem sortsF : SortsC Try.prog 187 196 197 198 199 200 201 202 203 206 207 208 209 158 159 :=
  ⟨vc187, vc196, vc197, vc206, vc198, vc199, vc207, vc208, vc209, vc200, vc201, vc202, vc203,
    fun _ _ h0 hn => bpow_v vc158 vc71 vc120 tab_ok h0 hn, fun st r x => bnext_v vc159 st r x⟩
/-- A row sorted. -/
theorem sortF_v {α : Type} [Inhabited α] {val : α → V × V} {lt : α → α → Bool} {g : FuncId} (E : EltC Try.prog g val lt) {st : St} {b cap : Nat} {L : List α} {sp : List V} (hmo : mono (rowc val L sp)) (hl : L.length < 4611686018427387904) :
    VCalls Try.prog 155 [dataV b L.length cap, cmpV g] (st.put b (rowc val L sp)) fun _ s => ∃ M : List α, M.Perm L ∧ M.Pairwise (fun x y => lt y x = false) ∧ s = st.put b (rowc val M sp) :=
  csort_v vc155 vc71 vc120 tab_ok sortsF E hmo hl
end
section
open Go

theorem RO.later {size : Nat} {base s s' : St} {r : V} {l : List V} (h : RO size base s r l) (hw : s.weak s') (hl : s'.Lt) : RO size base s' r l :=
  ⟨by
    rcases h.own with h1 | ⟨g, h1, h2, h3⟩
    · exact .inl h1
    · exact .inr ⟨g, h1, (hw.own g _ h2).1, by have := hw.sz; omega⟩, weak_tr h.weak hw, hl, h.tok⟩
def rwf (f : Nat → List Int) (L : List Nat) : List V := rws (L.map f)
theorem rwf_len (f : Nat → List Int) (L : List Nat) : (rwf f L).length = L.length := by simp [rwf, rws]
theorem rwf_get {f : Nat → List Int} {L : List Nat} {i j : Nat} (h : L[i]? = some j) : (rwf f L)[i]? = some (.sl .no (bs (f j))) := by simp [rwf, rws, h]
theorem rwf_append (f : Nat → List Int) (L M : List Nat) : rwf f L ++ rwf f M = rwf f (L ++ M) := by simp [rwf, rws]
theorem rwf_take (f : Nat → List Int) (L : List Nat) (k : Nat) : (rwf f L).take k = rwf f (L.take k) := by simp [rwf, rws, List.map_take]
theorem rwf_drop (f : Nat → List Int) (L : List Nat) (k : Nat) : (rwf f L).drop k = rwf f (L.drop k) := by simp [rwf, rws, List.map_drop]
theorem allSz_rwf (f : Nat → List Int) (L : List Nat) : allSz 1 (rwf f L) := allSz_rws _
def ints (l : List Int) : List V := l.map fun n => .sc (.int .i64 n)
theorem ints_len (l : List Int) : (ints l).length = l.length := by simp [ints]
theorem ints_get {l : List Int} {i : Nat} {x : Int} (h : l[i]? = some x) : (ints l)[i]? = some (.sc (.int .i64 x)) := by simp [ints, h]
section
variable {st : St} {f : Nat → List Int} {L : List Nat} {ts : List Int} {tk tk2 : Tk}
def OrdV (st : St) (f : Nat → List Int) (L : List Nat) (v : V) (s : St) : Prop := (∃ σ : List Nat, σ.Perm L ∧ v = .sl .no (rwf f σ)) ∧ st = s
set_option maxRecDepth 100000 in
set_option maxHeartbeats 8000000 in
theorem order54_v (hL : L.length ≤ 1000) (hts : ts.length ≤ 1000) : VCalls Try.prog 64 [.sl tk (rwf f L), .sl tk2 (ints ts)] st (OrdV st f L) := by
  refine vcalls_enter vc64 (Nat.le_of_ble_eq_true rfl) fun hwf hok => ?_
  show Run _ Vc64.body (.fin (finQ Vc64.res _)) _ _
  unfold Vc64
  simp (config := {maxSteps := 3000000}) only [go_sem, ↓reduceIte, reduceCtorEq]
  refine run_loop [5, 6, 7, 8, 10, 11, 12, 13, 14, 15, 16, 17, 18, 19, 20, 21, 22, 23, 24, 25, 26, 27, 28, 29, 30, 31, 32, 33, 34, 35, 36, 37, 38, 39, 40, 41, 42, 43, 44] (fun B s => ∃ (i : Nat) (tv : Tk) (Lf σ : List Nat) (v : V), i ≤ σ.length ∧ (σ ++ Lf).Perm L ∧ B 7 = .sc (.int .i64 i) ∧ B 6 = .sl tv (rwf f Lf) ∧ B 5 = v ∧ RO 1 st s v (rwf f σ))
    (fun B _ => match B 6 with | .sl _ l => l.length | _ => 0) rfl ?_ ?_
  · exact ⟨0, tk, L, [], .sl .nil [], by omega, .refl _, rfl, rfl, rfl, RO.nil hwf.weak hwf.lt⟩
  · rintro B s ⟨i, tv, Lf, σ, v, hi, hp, h7, h6, h5, R⟩
    have hlen := hp.length_eq
    rw [List.length_append] at hlen
    obtain ⟨tw, rfl⟩ := R.sl
    by_cases c1 : 0 < Lf.length
    · have key : ∀ k : Nat, k < Lf.length → ∃ j, Lf[k]? = some j ∧ (σ ++ [j] ++ (Lf.take k ++ Lf.drop (k + 1))).Perm L := fun k hk => by
        obtain ⟨j, hj⟩ := get_ex hk
        refine ⟨j, hj, ?_⟩
        have h2 : (Lf.take k ++ j :: Lf.drop (k + 1)).Perm (j :: (Lf.take k ++ Lf.drop (k + 1))) := List.perm_middle
        have h3 : Lf.take k ++ j :: Lf.drop (k + 1) = Lf := by
          have := List.drop_eq_getElem_cons hk
          rw [List.getElem?_eq_getElem hk] at hj
          cases hj
          rw [← this, List.take_append_drop]
        rw [h3] at h2
        rw [List.append_assoc]
        exact (List.Perm.append_left σ h2.symm).trans hp
      by_cases c2 : i < ts.length
      · obtain ⟨x, hx⟩ := get_ex c2
        obtain ⟨k, hk⟩ : ∃ k : Nat, min (max x 0) ((Lf.length : Int) - 1) = k := ⟨(min (max x 0) ((Lf.length : Int) - 1)).toNat, by omega⟩
        have hkl : k < Lf.length := by omega
        obtain ⟨j, hj, hp2⟩ := key k hkl
        have e1 : ((k : Int) + 1).toNat = k + 1 := by omega
        simp (config := {maxSteps := 3000000}) only [go_sem, Nat.reduceEqDiff, Int.reduceNeg, ↓reduceIte, Nat.reduceBEq, h7, h6, h5, rwf_len, ints_len, ints_get hx, hk, rwf_get hj, decide_eq_true (show (0 : Int) < (Lf.length : Int) by omega), decide_eq_true (show (i : Int) < (ts.length : Int) by omega)]
        repeat (apply And.intro; focus (first | omega | (simp; done)))
        refine App.mk (bytes := 24) (l := rwf f σ) (ys := rwf f [j]) R.own (allSz_rwf _ _) (by simp only [rwf_len, List.length_cons, List.length_nil, maxLen]; omega) (by simp only [rwf_len, List.length_cons, List.length_nil]; omega) ?_
        intro r2 s2 k1 k2
        have R2 := R.app k1 k2
        rw [rwf_append] at R2
        simp (config := {maxSteps := 3000000}) only [go_sem, Nat.reduceEqDiff, Int.reduceNeg, ↓reduceIte, Nat.reduceBEq, h6, rwf_len, rwf_take, rwf_drop, e1, allSz_rwf]
        repeat (apply And.intro; focus (first | omega | (simp; done)))
        refine Bo.own (by simp [allLen]) ?_
        intro g hg
        have Q0 : RO 1 s2 (s2.use g 0) (.sl (.own g 1) []) [] := RO.use0' R2.lt.weak R2.lt hg
        simp (config := {maxSteps := 3000000}) only [go_sem, Nat.reduceEqDiff, ↓reduceIte]
        refine App.mk (bytes := 24) (l := []) (ys := rwf f (Lf.take k)) Q0.own (allSz_rwf _ _) (by simp only [rwf_len, List.length_nil, List.length_take, maxLen]; omega) (by simp only [rwf_len, List.length_nil, List.length_take]; omega) ?_
        intro r3 s3 k3 k4
        have Q1 := Q0.app k3 k4
        rw [List.nil_append] at Q1
        simp (config := {maxSteps := 3000000}) only [go_sem, Nat.reduceEqDiff, ↓reduceIte]
        refine App.mk (bytes := 24) (l := rwf f (Lf.take k)) (ys := rwf f (Lf.drop (k + 1))) Q1.own (allSz_rwf _ _) (by simp only [rwf_len, List.length_drop, List.length_take, maxLen]; omega) (by simp only [rwf_len, List.length_drop, List.length_take]; omega) ?_
        intro r4 s4 k5 k6
        have Q2 := Q1.app k5 k6
        rw [rwf_append] at Q2
        obtain ⟨tu, rfl⟩ := Q2.sl
        simp (config := {maxSteps := 3000000}) only [go_sem, Nat.reduceEqDiff, Int.reduceNeg, ↓reduceIte, Nat.reduceBEq, h7, rwf_len]
        repeat (apply And.intro; focus (first | omega | (simp; done)))
        exact ⟨⟨i + 1, tu, Lf.take k ++ Lf.drop (k + 1), σ ++ [j], r2, by simp; omega, hp2, by simp, rfl, rfl, R2.later Q2.weak Q2.lt⟩, by simp only [List.length_append, List.length_take, List.length_drop]; omega⟩
      · obtain ⟨j, hj, hp2⟩ := key 0 c1
        have i0 : (0 : Int).toNat = 0 := rfl
        have i1 : ((0 : Int) + 1).toNat = 1 := rfl
        simp (config := {maxSteps := 3000000}) only [go_sem, Nat.reduceEqDiff, Int.reduceLE, ↓reduceIte, Nat.reduceBEq, h7, h6, h5, rwf_len, ints_len, i0, rwf_get hj, decide_eq_true (show (0 : Int) < (Lf.length : Int) by omega), decide_eq_false (show ¬ (i : Int) < (ts.length : Int) by omega)]
        repeat (apply And.intro; focus (first | omega | (simp; done)))
        refine App.mk (bytes := 24) (l := rwf f σ) (ys := rwf f [j]) R.own (allSz_rwf _ _) (by simp only [rwf_len, List.length_cons, List.length_nil, maxLen]; omega) (by simp only [rwf_len, List.length_cons, List.length_nil]; omega) ?_
        intro r2 s2 k1 k2
        have R2 := R.app k1 k2
        rw [rwf_append] at R2
        simp (config := {maxSteps := 3000000}) only [go_sem, Nat.reduceEqDiff, Int.reduceToNat, Int.reduceLE, Int.reduceAdd, Int.reduceNeg, ↓reduceIte, Nat.reduceBEq, h6, rwf_len, rwf_take, rwf_drop, i0, allSz_rwf]
        repeat (apply And.intro; focus (first | omega | (simp; done)))
        refine Bo.own (by simp [allLen]) ?_
        intro g hg
        have Q0 : RO 1 s2 (s2.use g 0) (.sl (.own g 1) []) [] := RO.use0' R2.lt.weak R2.lt hg
        simp (config := {maxSteps := 3000000}) only [go_sem, Nat.reduceEqDiff, ↓reduceIte]
        refine App.mk (bytes := 24) (l := []) (ys := rwf f (Lf.take 0)) Q0.own (allSz_rwf _ _) (by simp only [rwf_len, List.length_nil, List.length_take, maxLen]; omega) (by simp only [rwf_len, List.length_nil, List.length_take]; omega) ?_
        intro r3 s3 k3 k4
        have Q1 := Q0.app k3 k4
        rw [List.nil_append] at Q1
        simp (config := {maxSteps := 3000000}) only [go_sem, Nat.reduceEqDiff, ↓reduceIte]
        refine App.mk (bytes := 24) (l := rwf f (Lf.take 0)) (ys := rwf f (Lf.drop 1)) Q1.own (allSz_rwf _ _) (by simp only [rwf_len, List.length_drop, List.length_take, maxLen]; omega) (by simp only [rwf_len, List.length_drop, List.length_take]; omega) ?_
        intro r4 s4 k5 k6
        have Q2 := Q1.app k5 k6
        rw [rwf_append] at Q2
        obtain ⟨tu, rfl⟩ := Q2.sl
        simp (config := {maxSteps := 3000000}) only [go_sem, Nat.reduceEqDiff, Int.reduceNeg, ↓reduceIte, Nat.reduceBEq, h7, rwf_len]
        repeat (apply And.intro; focus (first | omega | (simp; done)))
        exact ⟨⟨i + 1, tu, Lf.take 0 ++ Lf.drop 1, σ ++ [j], r2, by simp; omega, hp2, by simp, rfl, rfl, R2.later Q2.weak Q2.lt⟩, by simp only [List.length_drop]; omega⟩
    · have : Lf = [] := List.eq_nil_of_length_eq_zero (by omega)
      subst this
      rw [List.append_nil] at hp
      have nc0 : ((0 : Nat) : Int) = 0 := rfl
      simp (config := {maxSteps := 3000000}) only [go_sem, Nat.reduceEqDiff, ↓reduceIte, Nat.reduceBEq, h6, h5, rwf_len, nc0]
      exact ⟨_, _, Wk.no, R.weak, ⟨σ, hp, rfl⟩, rfl⟩
end
section
variable {st : St} {d : DG} {step n : Nat}
set_option maxRecDepth 100000 in
theorem pieceCmp_v (h : CutD d step n) {x y : Nat} : VCalls Try.prog 156 [.agg [(pcv d step x).1, (pcv d step x).2], .agg [(pcv d step y).1, (pcv d step y).2]] st fun v s => ∃ n : Int, decide (n < 0) = ltc x y ∧ v = .sc (.int .i64 n) ∧ st = s := by
  have hs := h.s0
  have hl := h.sl
  have hD := h.D
  have hx : min x 511 * step ≤ 511 * 500 := Nat.mul_le_mul (Nat.min_le_right _ _) (by omega)
  have hy : min y 511 * step ≤ 511 * 500 := Nat.mul_le_mul (Nat.min_le_right _ _) (by omega)
  obtain ⟨u, hu⟩ : ∃ u, u = min x 511 := ⟨_, rfl⟩
  obtain ⟨w, hw⟩ : ∃ w, w = min y 511 := ⟨_, rfl⟩
  have hpx : pcv d step x = (.sc (.int .i64 ((u * step : Nat) : Int)), .sl .no (bs (pDat d step u))) := by rw [hu]; rfl
  have hpy : pcv d step y = (.sc (.int .i64 ((w * step : Nat) : Int)), .sl .no (bs (pDat d step w))) := by rw [hw]; rfl
  have hlc : ltc x y = decide (u < w) := by rw [hu, hw]; rfl
  rw [← hu] at hx
  rw [← hw] at hy
  rw [hpx, hpy, hlc]
  clear hu hw hpx hpy hlc
  refine vcalls_enter vc156 (Nat.le_of_ble_eq_true rfl) fun hwf hok => ?_
  show Run _ Vc156.body (.fin (finQ Vc156.res _)) _ _
  unfold Vc156
  simp (config := {maxSteps := 3000000}) only [go_sem, Nat.reduceEqDiff, Nat.reduceAdd, ↓reduceIte, reduceCtorEq]
  intro b hb c hc
  have hbc : b < c := by omega
  have hc2 : st.sz ≤ c := by omega
  clear hc
  simp (config := {maxSteps := 3000000}) only [go_sem, Nat.reduceEqDiff, Int.reduceNeg, ↓reduceIte, put_box_ne (Nat.ne_of_lt hbc)]
  repeat (apply And.intro; focus (first | omega | (simp; done)))
  refine ⟨_, _, Wk.refl _, weak_put (weak_put hwf.weak hb) hc2, _, ?_, rfl, rfl⟩
  rw [Bool.eq_iff_iff]
  simp only [decide_eq_true_eq]
  have key : u * step < w * step ↔ u < w := Nat.mul_lt_mul_right hs
  omega
theorem eltPc (h : CutD d step n) : EltC Try.prog 156 (pcv d step) ltc := ⟨fun _ _ _ => pieceCmp_v h, by kernel_rfl, ltc_ord⟩
end
end
section
open Go

/-- All but one box are as they were. -/
structure WX (pb : Nat) (st s : St) : Prop where
  box : ∀ b cs, st.box b = some cs → b ≠ pb → s.box b = some cs
  own : ∀ g m, st.own g = some m → s.own g = some m
  sz : st.sz ≤ s.sz
variable {pb : Nat} {st s s' : St}
theorem WX.refl : WX pb st st := ⟨fun _ _ h _ => h, fun _ _ h => h, Nat.le_refl _⟩
theorem WX.same (h : WX pb st s) {Z : List V} : WX pb st (s.put pb Z) := ⟨fun b cs hb hne => by rw [put_box_ne hne]; exact h.box b cs hb hne, h.own, by have := h.sz; simp only [put_sz]; omega⟩
theorem WX.new (h : WX pb st s) (hl : st.Lt) {c : Nat} {cs : List V} (hc : st.sz ≤ c) : WX pb st (s.put c cs) :=
  ⟨fun b ds hb hne => by rw [put_box_ne (by have := hl.box b ds hb; omega)]; exact h.box b ds hb hne, h.own, by have := h.sz; simp only [put_sz]; omega⟩
theorem WX.both (h : WX pb st s) {c : Nat} {cs : List V} : WX pb (st.put c cs) (s.put c cs) :=
  ⟨fun b ds hb hne => by
    by_cases e : b = c
    · subst e; rw [put_box_same] at hb ⊢; exact hb
    · rw [put_box_ne e] at hb ⊢; exact h.box b ds hb hne, h.own, by have := h.sz; simp only [put_sz]; omega⟩
theorem WX.fin (h : WX pb st s) (hl : st.Lt) {Y : List V} : (st.put pb Y).weak (s.put pb Y) :=
  ⟨fun b ds hb => by
    by_cases e : b = pb
    · subst e; rw [put_box_same] at hb ⊢; exact ⟨hb, by simp only [put_sz]; omega⟩
    · rw [put_box_ne e] at hb ⊢
      exact ⟨h.box b ds hb e, by have := hl.box b ds hb; simp only [put_sz]; omega⟩, fun g m hg => ⟨h.own g m hg, by have := hl.own g m hg; simp only [put_sz]; omega⟩, by have := h.sz; simp only [put_sz]; omega⟩
theorem WX.of (h : st.weak s) : WX pb st s := ⟨fun b cs hb _ => (h.box b cs hb).1, fun g m hg => (h.own g m hg).1, h.sz⟩
/-- The row of those that came. -/
def RowP (s : St) (pb : Nat) (d : DG) (step : Nat) (S : List Nat) (orb : Option Nat) (rv : V) : Prop :=
  (orb = none ∧ S = [] ∧ rv = .sl .nil []) ∨ ∃ rb cap sp, orb = some rb ∧ rb ≠ pb ∧ rv = dataV rb S.length cap ∧ s.box rb = some (rowc (pcv d step) S sp) ∧ S.length * 2 + sp.length = cap * 2 ∧ mono (rowc (pcv d step) S sp) ∧ cap ≤ maxLen
theorem RowP.len {d : DG} {step : Nat} {S : List Nat} {orb : Option Nat} {rv : V} (h : RowP s pb d step S orb rv) : vlen rv = (True, .sc (.int .i64 S.length)) := by
  rcases h with ⟨_, rfl, rfl⟩ | ⟨rb, cap, sp, _, _, rfl, _⟩ <;> rfl
theorem RowP.wx {d : DG} {step : Nat} {S : List Nat} {orb : Option Nat} {rv : V} (h : RowP s pb d step S orb rv) (hw : WX pb s s') : RowP s' pb d step S orb rv := by
  rcases h with h | ⟨rb, cap, sp, h1, h2, h3, h4, h5⟩
  · exact .inl h
  · exact .inr ⟨rb, cap, sp, h1, h2, h3, hw.box rb _ h4 h2, h5⟩
/-- What came of a datagram. -/
structure PartB (s : St) (pb : Nat) (d : DG) (step n : Nat) (H : List V → Prop) (S : List Nat) (orb : Option Nat) : Prop where
  ex : ∃ rv h1 h2 h3 h4 h5 h6 h7 h8 h9 : V, s.box pb = some [rv, h1, h2, h3, h4, h5, h6, h7, h8, h9, .sc (.bool (decide (0 ∈ S))), .sc (.int .i64 (endV d n S)), .sc (.int .i64 15), .sc (.int .i64 1)] ∧ (0 ∈ S → H [h1, h2, h3, h4, h5, h6, h7, h8, h9]) ∧ RowP s pb d step S orb rv
def AddQ (st : St) (pb : Nat) (d : DG) (step n : Nat) (H : List V → Prop) (S : List Nat) (orb : Option Nat) (j : Nat) (v : V) (s : St) : Prop :=
  v = .sc (.bool true) ∧ ∃ rb X Y, (orb = some rb ∨ (orb = none ∨ True) ∧ st.sz ≤ rb) ∧ rb ≠ pb ∧ s = (st.put rb X).put pb Y ∧ PartB s pb d step n H (S ++ [j]) (some rb)
theorem endV_last {d : DG} {n : Nat} {S : List Nat} : endV d n (S ++ [n - 1]) = (d.D.length : Int) := by
  unfold endV; rw [if_pos (by simp)]
theorem endV_not {d : DG} {n j : Nat} {S : List Nat} (h : j ≠ n - 1) : endV d n (S ++ [j]) = endV d n S := by
  unfold endV
  have : (n - 1 ∈ S ++ [j]) ↔ n - 1 ∈ S := by
    simp only [List.mem_append, List.mem_singleton]
    exact ⟨fun k => k.elim id (fun e => absurd e.symm h), .inl⟩
  simp only [this]
theorem min511 {x : Nat} (h : x < 500) : min x 511 = x := by omega
/-- What the walk keeps. -/
structure AddS (st s : St) (pb q : Nat) (qc pc : List V) : Prop where
  wx : WX pb st s
  lt : s.Lt
  bq : s.box q = some qc
  bp : s.box pb = some pc
theorem AddS.new {q : Nat} {qc pc : List V} (h : AddS st s pb q qc pc) (hl : st.Lt) {c : Nat} {cs : List V} (hc : s.sz ≤ c) : AddS st (s.put c cs) pb q qc pc :=
  ⟨h.wx.new hl (by have := h.wx.sz; omega), h.lt.put, by rw [put_box_ne (by have := h.lt.box q _ h.bq; omega)]; exact h.bq, by rw [put_box_ne (by have := h.lt.box pb _ h.bp; omega)]; exact h.bp⟩
theorem AddS.same {q : Nat} {qc pc pd : List V} (h : AddS st s pb q qc pc) (hq : q ≠ pb) : AddS st (s.put pb pd) pb q qc pd :=
  ⟨h.wx.same, h.lt.put, by rw [put_box_ne hq]; exact h.bq, put_box_same⟩
section
variable {d : DG} {step n j : Nat} {H : List V → Prop} {S : List Nat} {orb : Option Nat} {tk : Tk} {c0 c1 c2 c3 c4 c5 c6 c7 : V}
set_option maxRecDepth 100000 in
set_option maxHeartbeats 16000000 in
theorem partAdd_v (h : CutD d step n) (hj : j < n) (hSd : S.Nodup) (hSn : ∀ i ∈ S, i < n) (hjS : j ∉ S) (P : PartB st pb d step n H S orb) (hH : j = 0 → H [c0, c1, c2, c3, c4, c5, c6, c7, .sl tk (bs (pDat d step j))])
    (hc : ∀ c ∈ [c0, c1, c2, c3, c4, c5, c6, c7], c.cells = [c]) (hob : ∀ c ∈ [c0, c1, c2, c3, c4, c5, c6, c7], c.ob = false) :
    VCalls Try.prog 108 [ptrV pb, .agg [c0, c1, c2, c3, c4, c5, c6, c7, .sl tk (bs (pDat d step j))], .sc (.int .i64 ((j * step : Nat) : Int)), .sc (.bool (decide (¬ j * step + step < d.D.length)))] st (AddQ st pb d step n H S orb j) := by
  refine vcalls_enter vc108 (Nat.le_of_ble_eq_true rfl) fun hwf hok => ?_
  show Run _ Vc108.body (.fin (finQ Vc108.res _)) _ _
  unfold Vc108
  obtain ⟨rv, h1, h2, h3, h4, h5, h6, h7, h8, h9, hbp, hHd, hrow⟩ := P.ex
  have hlt := hwf.lt
  have hps := hlt.box pb _ hbp
  have hn5 := h.n63
  have hD5 := h.D
  have hend := h.le hj
  have hSl : S.length ≤ 500 := by
    have := hSd.length_le_of_subset (l₂ := List.range n) (fun x hx => List.mem_range.2 (hSn x hx))
    simp at this; omega
  have hvl := hrow.len
  simp only [List.mem_cons, List.not_mem_nil, or_false, forall_eq_or_imp, forall_eq] at hc
  obtain ⟨cc0, cc1, cc2, cc3, cc4, cc5, cc6, cc7⟩ := hc
  simp (config := {maxSteps := 3000000}) only [go_sem, Nat.reduceEqDiff, Nat.reduceAdd, Int.reduceNeg, ↓reduceIte, reduceCtorEq]
  intro q hq
  have qp : q ≠ pb := by omega
  have pq : pb ≠ q := qp.symm
  obtain ⟨pc, hpc⟩ : ∃ pc, pc = [rv, h1, h2, h3, h4, h5, h6, h7, h8, h9, .sc (.bool (decide (0 ∈ S))), .sc (.int .i64 (endV d n S)), .sc (.int .i64 15), .sc (.int .i64 1)] := ⟨_, rfl⟩
  have A0 : AddS st (st.put q [c0, c1, c2, c3, c4, c5, c6, c7, .sl tk (bs (pDat d step j))]) pb q [c0, c1, c2, c3, c4, c5, c6, c7, .sl tk (bs (pDat d step j))] [rv, h1, h2, h3, h4, h5, h6, h7, h8, h9, .sc (.bool (decide (0 ∈ S))), .sc (.int .i64 (endV d n S)), .sc (.int .i64 15), .sc (.int .i64 1)] :=
    ⟨WX.refl.new hlt hq, hlt.put, put_box_same, by rw [put_box_ne pq]; exact hbp⟩
  generalize st.put q [c0, c1, c2, c3, c4, c5, c6, c7, .sl tk (bs (pDat d step j))] = s0 at A0 ⊢
  obtain ⟨QC, hQC⟩ : ∃ QC, QC = [c0, c1, c2, c3, c4, c5, c6, c7, .sl tk (bs (pDat d step j))] := ⟨_, rfl⟩
  have hE1 : 0 ≤ endV d n (S ++ [j]) → endV d n (S ++ [j]) = d.D.length := fun h0 => by
    unfold endV at h0 ⊢
    split
    · rfl
    · rename_i hh; rw [if_neg hh] at h0; omega
  have hxs : ∀ {i : Nat}, i < S.length → ∃ x, S[i]! = x ∧ x < n ∧ (x < j ∨ j < x) := fun {i} hi => by
    obtain ⟨x, hx⟩ := get_ex hi
    have hm := List.mem_of_getElem? hx
    refine ⟨x, bang_eq hx, hSn x hm, ?_⟩
    rcases Nat.lt_trichotomy x j with c | c | c
    · exact .inl c
    · subst c; exact absurd hm hjS
    · exact .inr c
  have hpv : ∀ {x : Nat}, x < n → pcv d step x = (.sc (.int .i64 ((x * step : Nat) : Int)), .sl .no (bs (pDat d step x))) := fun {x} hx => by unfold pcv; rw [min511 (by omega)]
  have nc0 : ((0 : Nat) : Int) = 0 := rfl
  have hp1 : (pcv d step j).1 = .sc (.int .i64 ((j * step : Nat) : Int)) := by rw [hpv hj]
  have hp2 : (pcv d step j).2 = .sl .no (bs (pDat d step j)) := by rw [hpv hj]
  rcases hrow with ⟨f1, hS0, f3⟩ | ⟨rb, cap, sp, e1, e2, e3, e4, e5, e6, e7⟩
  · subst f3
    simp (config := {maxSteps := 3000000}) only [go_sem, Int.reduceNeg, ↓reduceIte, A0.bp, nc0, bs_len]
    repeat (apply And.intro; focus (first | omega | (simp; done)))
    refine run_loop [8, 11, 24, 25, 26, 27, 28, 29, 30, 31, 32, 33, 34, 35, 36, 37, 38, 39, 40, 41, 42] (fun B s => B 24 = .sc (.int .i64 0) ∧ AddS st s pb q [c0, c1, c2, c3, c4, c5, c6, c7, .sl tk (bs (pDat d step j))] [.sl .nil [], h1, h2, h3, h4, h5, h6, h7, h8, h9, .sc (.bool (decide (0 ∈ S))), .sc (.int .i64 (endV d n S)), .sc (.int .i64 15), .sc (.int .i64 1)]) (fun B _ => 0) rfl ?_ ?_
    · exact ⟨rfl, A0⟩
    · clear A0
      rintro B1 s1 ⟨hk1, A⟩
      have hmore := h.more (j := j)
      by_cases hm : j * step + step < d.D.length
      · have hjn : j ≠ n - 1 := by have := hmore.1 hm; omega
        have eS := endV_not (d := d) (S := S) hjn
        have A1 : AddS st s1 pb q [c0, c1, c2, c3, c4, c5, c6, c7, .sl tk (bs (pDat d step j))] [.sl .nil [], h1, h2, h3, h4, h5, h6, h7, h8, h9, .sc (.bool (decide (0 ∈ S))), .sc (.int .i64 (endV d n (S ++ [j]))), .sc (.int .i64 15), .sc (.int .i64 1)] := by rw [eS]; exact A
        have hnl : decide (¬ j * step + step < d.D.length) = false := decide_eq_false (fun k => k hm)
        by_cases h0 : 0 ≤ endV d n (S ++ [j])
        · have hD := hE1 h0
          simp (config := {maxSteps := 3000000}) only [go_sem, Nat.reduceEqDiff, ↓reduceIte, reduceCtorEq, Nat.reduceBEq, hk1, nc0, hnl, A1.bp, decide_eq_true h0, decide_eq_false (show ¬ endV d n (S ++ [j]) < ((j * step : Nat) : Int) + ((pDat d step j).length : Int) by rw [hD]; omega)]
          refine run_loop [8, 13, 76, 77, 78, 79, 80, 81, 82, 83, 84, 85, 86, 87, 88, 89, 90, 91, 92, 93, 94, 95, 96, 97, 98] (fun B s => B 76 = .sc (.int .i64 0) ∧ AddS st s pb q [c0, c1, c2, c3, c4, c5, c6, c7, .sl tk (bs (pDat d step j))] [.sl .nil [], h1, h2, h3, h4, h5, h6, h7, h8, h9, .sc (.bool (decide (0 ∈ S))), .sc (.int .i64 (endV d n (S ++ [j]))), .sc (.int .i64 15), .sc (.int .i64 1)]) (fun B _ => 0) rfl ?_ ?_
          · exact ⟨rfl, A1⟩
          · clear A1
            rintro B2 s2 ⟨hk2, A⟩
            by_cases hj0 : j = 0
            · have hz : decide (((j * step : Nat) : Int) = 0) = true := decide_eq_true (by rw [hj0]; simp)
              have A2 := A.same (pd := [.sl .nil [], c0, c1, c2, c3, c4, c5, c6, c7, .sl tk (bs (pDat d step j)), .sc (.bool true), .sc (.int .i64 (endV d n (S ++ [j]))), .sc (.int .i64 15), .sc (.int .i64 1)]) qp
              simp (config := {maxSteps := 3000000}) only [go_sem, Nat.reduceEqDiff, Nat.reduceAdd, Nat.reduceLT, Nat.reduceLeDiff, ↓reduceIte, reduceCtorEq, Nat.reduceBEq, hk2, hz, A.bp, A.bq, put_box_ne qp]
              have hf : (true : Bool) = decide (0 ∈ S ++ [j]) := (decide_eq_true (by simp [hj0])).symm
              have hK : 0 ∈ S ++ [j] → H [c0, c1, c2, c3, c4, c5, c6, c7, .sl tk (bs (pDat d step j))] := fun _ => hH hj0
              rw [hf] at A2
              rw [hf]
              generalize s2.put pb _ = s3 at A2 ⊢
              try simp (config := {maxSteps := 3000000}) only [go_sem, Nat.reduceEqDiff, Nat.reduceAdd, Nat.reduceMul, Nat.reduceSub, Nat.reduceLT, Nat.reduceLeDiff, Int.reduceToNat, Int.reduceLE, Int.reduceLT, Int.reducePow, Int.reduceMul, Int.reduceAdd, Int.reduceSub, Int.reduceNeg, Int.reduceEq, Int.reduceMod, Int.reduceDiv, Nat.reducePow, Nat.reduceMod, Nat.reduceDiv, ↓reduceIte, reduceCtorEq, Nat.reduceBEq, A2.bp, A2.bq]
              rw [← hp1, ← hp2]
              refine App.pushC0 (bytes := 32) (val := pcv d step) (x := j) (by omega) ?_
              intro b' cap' sp' q1 q3 q4 q5
              have hbp : pb ≠ b' := by have := A2.lt.box pb _ A2.bp; omega
              have hor : orb = some b' ∨ (orb = none ∨ True) ∧ st.sz ≤ b' := .inr ⟨.inr trivial, by have := A2.wx.sz; omega⟩
              simp (config := {maxSteps := 3000000}) only [go_sem, Nat.reduceEqDiff, Nat.reduceAdd, Nat.reduceLT, Nat.reduceLeDiff, ↓reduceIte, put_box_ne hbp, A2.bp, dataV]
              have hW := (A2.wx.both (c := b') (cs := rowc (pcv d step) ([j]) sp')).fin (hlt.put) (Y := [dataV b' ([j]).length cap', c0, c1, c2, c3, c4, c5, c6, c7, .sl tk (bs (pDat d step j)), .sc (.bool (decide (0 ∈ S ++ [j]))), .sc (.int .i64 (endV d n (S ++ [j]))), .sc (.int .i64 15), .sc (.int .i64 1)])
              refine ⟨_, _, Wk.refl _, hW, (by first | rfl | rw [← hf]), b', _, _, hor, hbp.symm, rfl, ⟨_, _, _, _, _, _, _, _, _, _, put_box_same, hK, .inr ⟨b', cap', sp', rfl, hbp.symm, by rw [hS0]; rfl, by rw [put_box_ne hbp.symm, put_box_same]; rw [hS0]; rfl, by rw [hS0]; simp; omega, by rw [hS0]; exact q5, q4⟩⟩⟩
            · have hz : decide (((j * step : Nat) : Int) = 0) = false := decide_eq_false (by have := Nat.mul_pos (show 0 < j by omega) h.s0; omega)
              have hf : decide (0 ∈ S) = decide (0 ∈ S ++ [j]) := by
                refine decide_eq_decide.2 ⟨fun k => by simp [k], fun k => ?_⟩
                simp only [List.mem_append, List.mem_singleton] at k
                exact k.elim id (fun e => absurd e.symm hj0)
              have hK : 0 ∈ S ++ [j] → H [h1, h2, h3, h4, h5, h6, h7, h8, h9] := fun k => hHd (by rw [decide_eq_decide] at hf; exact hf.2 k)
              have A2 := A
              rw [hf] at A2
              simp (config := {maxSteps := 3000000}) only [go_sem, Nat.reduceEqDiff, Nat.reduceAdd, Nat.reduceLT, Nat.reduceLeDiff, ↓reduceIte, reduceCtorEq, Nat.reduceBEq, hk2, hz, A2.bp, A2.bq]
              rw [← hp1, ← hp2]
              refine App.pushC0 (bytes := 32) (val := pcv d step) (x := j) (by omega) ?_
              intro b' cap' sp' q1 q3 q4 q5
              have hbp : pb ≠ b' := by have := A2.lt.box pb _ A2.bp; omega
              have hor : orb = some b' ∨ (orb = none ∨ True) ∧ st.sz ≤ b' := .inr ⟨.inr trivial, by have := A2.wx.sz; omega⟩
              simp (config := {maxSteps := 3000000}) only [go_sem, Nat.reduceEqDiff, Nat.reduceAdd, Nat.reduceLT, Nat.reduceLeDiff, ↓reduceIte, put_box_ne hbp, A2.bp, dataV]
              have hW := (A2.wx.both (c := b') (cs := rowc (pcv d step) ([j]) sp')).fin (hlt.put) (Y := [dataV b' ([j]).length cap', h1, h2, h3, h4, h5, h6, h7, h8, h9, .sc (.bool (decide (0 ∈ S ++ [j]))), .sc (.int .i64 (endV d n (S ++ [j]))), .sc (.int .i64 15), .sc (.int .i64 1)])
              refine ⟨_, _, Wk.refl _, hW, (by first | rfl | rw [← hf]), b', _, _, hor, hbp.symm, rfl, ⟨_, _, _, _, _, _, _, _, _, _, put_box_same, hK, .inr ⟨b', cap', sp', rfl, hbp.symm, by rw [hS0]; rfl, by rw [put_box_ne hbp.symm, put_box_same]; rw [hS0]; rfl, by rw [hS0]; simp; omega, by rw [hS0]; exact q5, q4⟩⟩⟩
        · simp (config := {maxSteps := 3000000}) only [go_sem, Nat.reduceEqDiff, ↓reduceIte, reduceCtorEq, Nat.reduceBEq, hk1, nc0, hnl, A1.bp, decide_eq_false h0]
          refine run_loop [8, 13, 76, 77, 78, 79, 80, 81, 82, 83, 84, 85, 86, 87, 88, 89, 90, 91, 92, 93, 94, 95, 96, 97, 98] (fun B s => B 76 = .sc (.int .i64 0) ∧ AddS st s pb q [c0, c1, c2, c3, c4, c5, c6, c7, .sl tk (bs (pDat d step j))] [.sl .nil [], h1, h2, h3, h4, h5, h6, h7, h8, h9, .sc (.bool (decide (0 ∈ S))), .sc (.int .i64 (endV d n (S ++ [j]))), .sc (.int .i64 15), .sc (.int .i64 1)]) (fun B _ => 0) rfl ?_ ?_
          · exact ⟨rfl, A1⟩
          · clear A1
            rintro B2 s2 ⟨hk2, A⟩
            by_cases hj0 : j = 0
            · have hz : decide (((j * step : Nat) : Int) = 0) = true := decide_eq_true (by rw [hj0]; simp)
              have A2 := A.same (pd := [.sl .nil [], c0, c1, c2, c3, c4, c5, c6, c7, .sl tk (bs (pDat d step j)), .sc (.bool true), .sc (.int .i64 (endV d n (S ++ [j]))), .sc (.int .i64 15), .sc (.int .i64 1)]) qp
              simp (config := {maxSteps := 3000000}) only [go_sem, Nat.reduceEqDiff, Nat.reduceAdd, Nat.reduceLT, Nat.reduceLeDiff, ↓reduceIte, reduceCtorEq, Nat.reduceBEq, hk2, hz, A.bp, A.bq, put_box_ne qp]
              have hf : (true : Bool) = decide (0 ∈ S ++ [j]) := (decide_eq_true (by simp [hj0])).symm
              have hK : 0 ∈ S ++ [j] → H [c0, c1, c2, c3, c4, c5, c6, c7, .sl tk (bs (pDat d step j))] := fun _ => hH hj0
              rw [hf] at A2
              rw [hf]
              generalize s2.put pb _ = s3 at A2 ⊢
              try simp (config := {maxSteps := 3000000}) only [go_sem, Nat.reduceEqDiff, Nat.reduceAdd, Nat.reduceMul, Nat.reduceSub, Nat.reduceLT, Nat.reduceLeDiff, Int.reduceToNat, Int.reduceLE, Int.reduceLT, Int.reducePow, Int.reduceMul, Int.reduceAdd, Int.reduceSub, Int.reduceNeg, Int.reduceEq, Int.reduceMod, Int.reduceDiv, Nat.reducePow, Nat.reduceMod, Nat.reduceDiv, ↓reduceIte, reduceCtorEq, Nat.reduceBEq, A2.bp, A2.bq]
              rw [← hp1, ← hp2]
              refine App.pushC0 (bytes := 32) (val := pcv d step) (x := j) (by omega) ?_
              intro b' cap' sp' q1 q3 q4 q5
              have hbp : pb ≠ b' := by have := A2.lt.box pb _ A2.bp; omega
              have hor : orb = some b' ∨ (orb = none ∨ True) ∧ st.sz ≤ b' := .inr ⟨.inr trivial, by have := A2.wx.sz; omega⟩
              simp (config := {maxSteps := 3000000}) only [go_sem, Nat.reduceEqDiff, Nat.reduceAdd, Nat.reduceLT, Nat.reduceLeDiff, ↓reduceIte, put_box_ne hbp, A2.bp, dataV]
              have hW := (A2.wx.both (c := b') (cs := rowc (pcv d step) ([j]) sp')).fin (hlt.put) (Y := [dataV b' ([j]).length cap', c0, c1, c2, c3, c4, c5, c6, c7, .sl tk (bs (pDat d step j)), .sc (.bool (decide (0 ∈ S ++ [j]))), .sc (.int .i64 (endV d n (S ++ [j]))), .sc (.int .i64 15), .sc (.int .i64 1)])
              refine ⟨_, _, Wk.refl _, hW, (by first | rfl | rw [← hf]), b', _, _, hor, hbp.symm, rfl, ⟨_, _, _, _, _, _, _, _, _, _, put_box_same, hK, .inr ⟨b', cap', sp', rfl, hbp.symm, by rw [hS0]; rfl, by rw [put_box_ne hbp.symm, put_box_same]; rw [hS0]; rfl, by rw [hS0]; simp; omega, by rw [hS0]; exact q5, q4⟩⟩⟩
            · have hz : decide (((j * step : Nat) : Int) = 0) = false := decide_eq_false (by have := Nat.mul_pos (show 0 < j by omega) h.s0; omega)
              have hf : decide (0 ∈ S) = decide (0 ∈ S ++ [j]) := by
                refine decide_eq_decide.2 ⟨fun k => by simp [k], fun k => ?_⟩
                simp only [List.mem_append, List.mem_singleton] at k
                exact k.elim id (fun e => absurd e.symm hj0)
              have hK : 0 ∈ S ++ [j] → H [h1, h2, h3, h4, h5, h6, h7, h8, h9] := fun k => hHd (by rw [decide_eq_decide] at hf; exact hf.2 k)
              have A2 := A
              rw [hf] at A2
              simp (config := {maxSteps := 3000000}) only [go_sem, Nat.reduceEqDiff, Nat.reduceAdd, Nat.reduceLT, Nat.reduceLeDiff, ↓reduceIte, reduceCtorEq, Nat.reduceBEq, hk2, hz, A2.bp, A2.bq]
              rw [← hp1, ← hp2]
              refine App.pushC0 (bytes := 32) (val := pcv d step) (x := j) (by omega) ?_
              intro b' cap' sp' q1 q3 q4 q5
              have hbp : pb ≠ b' := by have := A2.lt.box pb _ A2.bp; omega
              have hor : orb = some b' ∨ (orb = none ∨ True) ∧ st.sz ≤ b' := .inr ⟨.inr trivial, by have := A2.wx.sz; omega⟩
              simp (config := {maxSteps := 3000000}) only [go_sem, Nat.reduceEqDiff, Nat.reduceAdd, Nat.reduceLT, Nat.reduceLeDiff, ↓reduceIte, put_box_ne hbp, A2.bp, dataV]
              have hW := (A2.wx.both (c := b') (cs := rowc (pcv d step) ([j]) sp')).fin (hlt.put) (Y := [dataV b' ([j]).length cap', h1, h2, h3, h4, h5, h6, h7, h8, h9, .sc (.bool (decide (0 ∈ S ++ [j]))), .sc (.int .i64 (endV d n (S ++ [j]))), .sc (.int .i64 15), .sc (.int .i64 1)])
              refine ⟨_, _, Wk.refl _, hW, (by first | rfl | rw [← hf]), b', _, _, hor, hbp.symm, rfl, ⟨_, _, _, _, _, _, _, _, _, _, put_box_same, hK, .inr ⟨b', cap', sp', rfl, hbp.symm, by rw [hS0]; rfl, by rw [put_box_ne hbp.symm, put_box_same]; rw [hS0]; rfl, by rw [hS0]; simp; omega, by rw [hS0]; exact q5, q4⟩⟩⟩
      · have hjn : j = n - 1 := by
          have : ¬ j + 1 < n := fun k => hm (hmore.2 k)
          omega
        have eS : endV d n S = -1 := by unfold endV; rw [if_neg (by rw [← hjn]; exact hjS)]
        have hee : ((j * step : Nat) : Int) + ((pDat d step j).length : Int) = endV d n (S ++ [j]) := by
          have h1 : endV d n (S ++ [j]) = d.D.length := by rw [hjn]; exact endV_last
          have h2 := pDat_len d step j
          have h3 := h.at.2 hj
          rw [h1]; omega
        have hil : decide (¬ j * step + step < d.D.length) = true := decide_eq_true hm
        have A1 := A.same (pd := [.sl .nil [], h1, h2, h3, h4, h5, h6, h7, h8, h9, .sc (.bool (decide (0 ∈ S))), .sc (.int .i64 (endV d n (S ++ [j]))), .sc (.int .i64 15), .sc (.int .i64 1)]) qp
        simp (config := {maxSteps := 3000000}) only [go_sem, Nat.reduceEqDiff, Nat.reduceAdd, Nat.reduceLT, Nat.reduceLeDiff, Int.reduceLE, Int.reduceNeg, ↓reduceIte, reduceCtorEq, Nat.reduceBEq, hk1, nc0, hil, hee, eS, A.bp]
        clear A
        generalize s1.put pb _ = s1' at A1 ⊢
        try simp (config := {maxSteps := 3000000}) only [go_sem, Nat.reduceEqDiff, Nat.reduceAdd, Nat.reduceMul, Nat.reduceSub, Nat.reduceLT, Nat.reduceLeDiff, Int.reduceToNat, Int.reduceLE, Int.reduceLT, Int.reducePow, Int.reduceMul, Int.reduceAdd, Int.reduceSub, Int.reduceNeg, Int.reduceEq, Int.reduceMod, Int.reduceDiv, Nat.reducePow, Nat.reduceMod, Nat.reduceDiv, ↓reduceIte, reduceCtorEq, Nat.reduceBEq, A1.bp, nc0]
        refine run_loop [8, 13, 76, 77, 78, 79, 80, 81, 82, 83, 84, 85, 86, 87, 88, 89, 90, 91, 92, 93, 94, 95, 96, 97, 98] (fun B s => B 76 = .sc (.int .i64 0) ∧ AddS st s pb q [c0, c1, c2, c3, c4, c5, c6, c7, .sl tk (bs (pDat d step j))] [.sl .nil [], h1, h2, h3, h4, h5, h6, h7, h8, h9, .sc (.bool (decide (0 ∈ S))), .sc (.int .i64 (endV d n (S ++ [j]))), .sc (.int .i64 15), .sc (.int .i64 1)]) (fun B _ => 0) rfl ?_ ?_
        · exact ⟨rfl, A1⟩
        · clear A1
          rintro B2 s2 ⟨hk2, A⟩
          by_cases hj0 : j = 0
          · have hz : decide (((j * step : Nat) : Int) = 0) = true := decide_eq_true (by rw [hj0]; simp)
            have A2 := A.same (pd := [.sl .nil [], c0, c1, c2, c3, c4, c5, c6, c7, .sl tk (bs (pDat d step j)), .sc (.bool true), .sc (.int .i64 (endV d n (S ++ [j]))), .sc (.int .i64 15), .sc (.int .i64 1)]) qp
            simp (config := {maxSteps := 3000000}) only [go_sem, Nat.reduceEqDiff, Nat.reduceAdd, Nat.reduceLT, Nat.reduceLeDiff, Int.reduceNeg, ↓reduceIte, reduceCtorEq, Nat.reduceBEq, hk2, hz, A.bp, A.bq, put_box_ne qp]
            have hf : (true : Bool) = decide (0 ∈ S ++ [j]) := (decide_eq_true (by simp [hj0])).symm
            have hK : 0 ∈ S ++ [j] → H [c0, c1, c2, c3, c4, c5, c6, c7, .sl tk (bs (pDat d step j))] := fun _ => hH hj0
            rw [hf] at A2
            rw [hf]
            generalize s2.put pb _ = s3 at A2 ⊢
            try simp (config := {maxSteps := 3000000}) only [go_sem, Nat.reduceEqDiff, Nat.reduceAdd, Nat.reduceMul, Nat.reduceSub, Nat.reduceLT, Nat.reduceLeDiff, Int.reduceToNat, Int.reduceLE, Int.reduceLT, Int.reducePow, Int.reduceMul, Int.reduceAdd, Int.reduceSub, Int.reduceNeg, Int.reduceEq, Int.reduceMod, Int.reduceDiv, Nat.reducePow, Nat.reduceMod, Nat.reduceDiv, ↓reduceIte, reduceCtorEq, Nat.reduceBEq, A2.bp, A2.bq]
            rw [← hp1, ← hp2]
            refine App.pushC0 (bytes := 32) (val := pcv d step) (x := j) (by omega) ?_
            intro b' cap' sp' q1 q3 q4 q5
            have hbp : pb ≠ b' := by have := A2.lt.box pb _ A2.bp; omega
            have hor : orb = some b' ∨ (orb = none ∨ True) ∧ st.sz ≤ b' := .inr ⟨.inr trivial, by have := A2.wx.sz; omega⟩
            simp (config := {maxSteps := 3000000}) only [go_sem, Nat.reduceEqDiff, Nat.reduceAdd, Nat.reduceLT, Nat.reduceLeDiff, Int.reduceNeg, ↓reduceIte, put_box_ne hbp, A2.bp, dataV]
            have hW := (A2.wx.both (c := b') (cs := rowc (pcv d step) ([j]) sp')).fin (hlt.put) (Y := [dataV b' ([j]).length cap', c0, c1, c2, c3, c4, c5, c6, c7, .sl tk (bs (pDat d step j)), .sc (.bool (decide (0 ∈ S ++ [j]))), .sc (.int .i64 (endV d n (S ++ [j]))), .sc (.int .i64 15), .sc (.int .i64 1)])
            refine ⟨_, _, Wk.refl _, hW, (by first | rfl | rw [← hf]), b', _, _, hor, hbp.symm, rfl, ⟨_, _, _, _, _, _, _, _, _, _, put_box_same, hK, .inr ⟨b', cap', sp', rfl, hbp.symm, by rw [hS0]; rfl, by rw [put_box_ne hbp.symm, put_box_same]; rw [hS0]; rfl, by rw [hS0]; simp; omega, by rw [hS0]; exact q5, q4⟩⟩⟩
          · have hz : decide (((j * step : Nat) : Int) = 0) = false := decide_eq_false (by have := Nat.mul_pos (show 0 < j by omega) h.s0; omega)
            have hf : decide (0 ∈ S) = decide (0 ∈ S ++ [j]) := by
              refine decide_eq_decide.2 ⟨fun k => by simp [k], fun k => ?_⟩
              simp only [List.mem_append, List.mem_singleton] at k
              exact k.elim id (fun e => absurd e.symm hj0)
            have hK : 0 ∈ S ++ [j] → H [h1, h2, h3, h4, h5, h6, h7, h8, h9] := fun k => hHd (by rw [decide_eq_decide] at hf; exact hf.2 k)
            have A2 := A
            rw [hf] at A2
            simp (config := {maxSteps := 3000000}) only [go_sem, Nat.reduceEqDiff, Nat.reduceAdd, Nat.reduceLT, Nat.reduceLeDiff, Int.reduceNeg, ↓reduceIte, reduceCtorEq, Nat.reduceBEq, hk2, hz, A2.bp, A2.bq]
            rw [← hp1, ← hp2]
            refine App.pushC0 (bytes := 32) (val := pcv d step) (x := j) (by omega) ?_
            intro b' cap' sp' q1 q3 q4 q5
            have hbp : pb ≠ b' := by have := A2.lt.box pb _ A2.bp; omega
            have hor : orb = some b' ∨ (orb = none ∨ True) ∧ st.sz ≤ b' := .inr ⟨.inr trivial, by have := A2.wx.sz; omega⟩
            simp (config := {maxSteps := 3000000}) only [go_sem, Nat.reduceEqDiff, Nat.reduceAdd, Nat.reduceLT, Nat.reduceLeDiff, Int.reduceNeg, ↓reduceIte, put_box_ne hbp, A2.bp, dataV]
            have hW := (A2.wx.both (c := b') (cs := rowc (pcv d step) ([j]) sp')).fin (hlt.put) (Y := [dataV b' ([j]).length cap', h1, h2, h3, h4, h5, h6, h7, h8, h9, .sc (.bool (decide (0 ∈ S ++ [j]))), .sc (.int .i64 (endV d n (S ++ [j]))), .sc (.int .i64 15), .sc (.int .i64 1)])
            refine ⟨_, _, Wk.refl _, hW, (by first | rfl | rw [← hf]), b', _, _, hor, hbp.symm, rfl, ⟨_, _, _, _, _, _, _, _, _, _, put_box_same, hK, .inr ⟨b', cap', sp', rfl, hbp.symm, by rw [hS0]; rfl, by rw [put_box_ne hbp.symm, put_box_same]; rw [hS0]; rfl, by rw [hS0]; simp; omega, by rw [hS0]; exact q5, q4⟩⟩⟩
  · subst e3
    simp (config := {maxSteps := 3000000}) only [go_sem, Int.reduceNeg, ↓reduceIte, A0.bp, dataV, bs_len]
    repeat (apply And.intro; focus (first | omega | (simp; done)))
    refine run_loop [8, 11, 24, 25, 26, 27, 28, 29, 30, 31, 32, 33, 34, 35, 36, 37, 38, 39, 40, 41, 42] (fun B s => ∃ i : Nat, i ≤ S.length ∧ B 24 = .sc (.int .i64 i) ∧ AddS st s pb q [c0, c1, c2, c3, c4, c5, c6, c7, .sl tk (bs (pDat d step j))] [dataV rb S.length cap, h1, h2, h3, h4, h5, h6, h7, h8, h9, .sc (.bool (decide (0 ∈ S))), .sc (.int .i64 (endV d n S)), .sc (.int .i64 15), .sc (.int .i64 1)]) (fun B _ => S.length - vnat (B 24)) rfl ?_ ?_
    · exact ⟨0, by omega, rfl, A0⟩
    · clear A0
      rintro B1 s1 ⟨i, hi, hk1, A⟩
      by_cases cl : i < S.length
      · have e4' := A.wx.box rb _ e4 e2
        obtain ⟨x, hx, hxn, hxj⟩ := hxs cl
        have hg := rowc_get (val := pcv d step) (L := S) (sp := sp) (i := i) cl
        rw [hx, hpv hxn] at hg
        have hxe := h.le hxn
        simp (config := {maxSteps := 3000000}) only [go_sem, Nat.reduceEqDiff, Nat.reduceAdd, Nat.reduceLT, Nat.reduceLeDiff, Int.reduceNeg, ↓reduceIte, Nat.reduceBEq, hk1, dataV, e4', hg, rowc_len, e6, decide_eq_true (show (i : Int) < (S.length : Int) by omega)]
        repeat (apply And.intro; focus (first | omega | (simp; done)))
        intro u hu
        rcases hxj with hxj | hxj
        · have hap := h.apart hxj
          simp (config := {maxSteps := 3000000}) only [go_sem, Nat.reduceEqDiff, Int.reduceNeg, ↓reduceIte, Nat.reduceBEq, hk1, bs_len, decide_eq_false (show ¬ ((j * step : Nat) : Int) < ((x * step : Nat) : Int) + ((pDat d step x).length : Int) by omega)]
          repeat (apply And.intro; focus (first | omega | (simp; done)))
          first | exact ⟨⟨i + 1, by omega, by simp, A.new hlt hu⟩, by omega⟩ | omega
        · have hap := h.apart hxj
          have hp0 := h.pos hxn
          simp (config := {maxSteps := 3000000}) only [go_sem, Nat.reduceEqDiff, Int.reduceNeg, ↓reduceIte, Nat.reduceBEq, hk1, bs_len, decide_eq_true (show ((j * step : Nat) : Int) < ((x * step : Nat) : Int) + ((pDat d step x).length : Int) by omega), decide_eq_false (show ¬ ((x * step : Nat) : Int) < ((j * step : Nat) : Int) + ((pDat d step j).length : Int) by omega)]
          repeat (apply And.intro; focus (first | omega | (simp; done)))
          first | exact ⟨⟨i + 1, by omega, by simp, A.new hlt hu⟩, by omega⟩ | omega
      · obtain rfl : i = S.length := by omega
        have hmore := h.more (j := j)
        by_cases hm : j * step + step < d.D.length
        · have hjn : j ≠ n - 1 := by have := hmore.1 hm; omega
          have eS := endV_not (d := d) (S := S) hjn
          have A1 : AddS st s1 pb q [c0, c1, c2, c3, c4, c5, c6, c7, .sl tk (bs (pDat d step j))] [dataV rb S.length cap, h1, h2, h3, h4, h5, h6, h7, h8, h9, .sc (.bool (decide (0 ∈ S))), .sc (.int .i64 (endV d n (S ++ [j]))), .sc (.int .i64 15), .sc (.int .i64 1)] := by rw [eS]; exact A
          have hnl : decide (¬ j * step + step < d.D.length) = false := decide_eq_false (fun k => k hm)
          by_cases h0 : 0 ≤ endV d n (S ++ [j])
          · have hD := hE1 h0
            simp (config := {maxSteps := 3000000}) only [go_sem, Nat.reduceEqDiff, ↓reduceIte, reduceCtorEq, Nat.reduceBEq, hk1, dataV, hnl, A1.bp, decide_eq_true h0, decide_eq_false (show ¬ endV d n (S ++ [j]) < ((j * step : Nat) : Int) + ((pDat d step j).length : Int) by rw [hD]; omega)]
            refine run_loop [8, 13, 76, 77, 78, 79, 80, 81, 82, 83, 84, 85, 86, 87, 88, 89, 90, 91, 92, 93, 94, 95, 96, 97, 98] (fun B s => ∃ i : Nat, i ≤ S.length ∧ B 76 = .sc (.int .i64 i) ∧ AddS st s pb q [c0, c1, c2, c3, c4, c5, c6, c7, .sl tk (bs (pDat d step j))] [dataV rb S.length cap, h1, h2, h3, h4, h5, h6, h7, h8, h9, .sc (.bool (decide (0 ∈ S))), .sc (.int .i64 (endV d n (S ++ [j]))), .sc (.int .i64 15), .sc (.int .i64 1)]) (fun B _ => S.length - vnat (B 76)) rfl ?_ ?_
            · exact ⟨0, by omega, rfl, A1⟩
            · clear A1
              rintro B2 s2 ⟨i, hi, hk2, A⟩
              by_cases cl : i < S.length
              · have e4' := A.wx.box rb _ e4 e2
                obtain ⟨x, hx, hxn, hxj⟩ := hxs cl
                have hg := rowc_get (val := pcv d step) (L := S) (sp := sp) (i := i) cl
                rw [hx, hpv hxn] at hg
                have hxe := h.le hxn
                simp (config := {maxSteps := 3000000}) only [go_sem, Nat.reduceEqDiff, Nat.reduceAdd, Nat.reduceLT, Nat.reduceLeDiff, ↓reduceIte, reduceCtorEq, Nat.reduceBEq, hk2, dataV, e4', hg, rowc_len, e6, decide_eq_true (show (i : Int) < (S.length : Int) by omega)]
                repeat (apply And.intro; focus (first | omega | (simp; done)))
                intro u hu
                have bpu : pb ≠ u := by have := A.lt.box pb _ A.bp; omega
                by_cases h0' : 0 ≤ endV d n (S ++ [j])
                · have hD' := hE1 h0'
                  simp (config := {maxSteps := 3000000}) only [go_sem, Nat.reduceEqDiff, Int.reduceNeg, ↓reduceIte, reduceCtorEq, Nat.reduceBEq, hk2, put_box_ne bpu, A.bp, bs_len, decide_eq_true h0', decide_eq_false (show ¬ endV d n (S ++ [j]) < ((x * step : Nat) : Int) + ((pDat d step x).length : Int) by rw [hD']; omega)]
                  repeat (apply And.intro; focus (first | omega | (simp; done)))
                  first | exact ⟨⟨i + 1, by omega, by simp, A.new hlt hu⟩, by omega⟩ | omega
                · simp (config := {maxSteps := 3000000}) only [go_sem, Nat.reduceEqDiff, Int.reduceNeg, ↓reduceIte, Nat.reduceBEq, hk2, put_box_ne bpu, A.bp, decide_eq_false h0']
                  repeat (apply And.intro; focus (first | omega | (simp; done)))
                  first | exact ⟨⟨i + 1, by omega, by simp, A.new hlt hu⟩, by omega⟩ | omega
              · obtain rfl : i = S.length := by omega
                by_cases hj0 : j = 0
                · have hz : decide (((j * step : Nat) : Int) = 0) = true := decide_eq_true (by rw [hj0]; simp)
                  have A2 := A.same (pd := [dataV rb S.length cap, c0, c1, c2, c3, c4, c5, c6, c7, .sl tk (bs (pDat d step j)), .sc (.bool true), .sc (.int .i64 (endV d n (S ++ [j]))), .sc (.int .i64 15), .sc (.int .i64 1)]) qp
                  simp (config := {maxSteps := 3000000}) only [go_sem, Nat.reduceEqDiff, Nat.reduceAdd, Nat.reduceLT, Nat.reduceLeDiff, ↓reduceIte, reduceCtorEq, Nat.reduceBEq, hk2, dataV, hz, A.bp, A.bq, put_box_ne qp]
                  have hf : (true : Bool) = decide (0 ∈ S ++ [j]) := (decide_eq_true (by simp [hj0])).symm
                  have hK : 0 ∈ S ++ [j] → H [c0, c1, c2, c3, c4, c5, c6, c7, .sl tk (bs (pDat d step j))] := fun _ => hH hj0
                  rw [hf] at A2
                  simp only [dataV] at A2
                  rw [hf]
                  generalize s2.put pb _ = s3 at A2 ⊢
                  try simp (config := {maxSteps := 3000000}) only [go_sem, Nat.reduceEqDiff, Nat.reduceAdd, Nat.reduceMul, Nat.reduceSub, Nat.reduceLT, Nat.reduceLeDiff, Int.reduceToNat, Int.reduceLE, Int.reduceLT, Int.reducePow, Int.reduceMul, Int.reduceAdd, Int.reduceSub, Int.reduceNeg, Int.reduceEq, Int.reduceMod, Int.reduceDiv, Nat.reducePow, Nat.reduceMod, Nat.reduceDiv, ↓reduceIte, reduceCtorEq, Nat.reduceBEq, A2.bp, A2.bq]
                  have e4' := A2.wx.box rb _ e4 e2
                  rw [← hp1, ← hp2]
                  refine App.pushC (bytes := 32) (val := pcv d step) (x := j) e4' e5 e6 e7 (by unfold maxLen; omega) (by omega) ?_
                  intro b' cap' sp' q1 q2 q3 q4 q5
                  have hbp : pb ≠ b' := by
                    rcases q1 with rfl | q1
                    · exact e2.symm
                    · have := A2.lt.box pb _ A2.bp; omega
                  have hor : orb = some b' ∨ (orb = none ∨ True) ∧ st.sz ≤ b' := by
                    rcases q1 with rfl | q1
                    · exact .inl e1
                    · exact .inr ⟨.inr trivial, by have := A2.wx.sz; omega⟩
                  simp (config := {maxSteps := 3000000}) only [go_sem, Nat.reduceEqDiff, Nat.reduceAdd, Nat.reduceLT, Nat.reduceLeDiff, ↓reduceIte, put_box_ne hbp, A2.bp, dataV]
                  have hW := (A2.wx.both (c := b') (cs := rowc (pcv d step) (S ++ [j]) sp')).fin (hlt.put) (Y := [dataV b' (S ++ [j]).length cap', c0, c1, c2, c3, c4, c5, c6, c7, .sl tk (bs (pDat d step j)), .sc (.bool (decide (0 ∈ S ++ [j]))), .sc (.int .i64 (endV d n (S ++ [j]))), .sc (.int .i64 15), .sc (.int .i64 1)])
                  refine ⟨_, _, Wk.refl _, hW, (by first | rfl | rw [← hf]), b', _, _, hor, hbp.symm, rfl, ⟨_, _, _, _, _, _, _, _, _, _, put_box_same, hK, .inr ⟨b', cap', sp', rfl, hbp.symm, rfl, by rw [put_box_ne hbp.symm, put_box_same], by simp; omega, q5, q4⟩⟩⟩
                · have hz : decide (((j * step : Nat) : Int) = 0) = false := decide_eq_false (by have := Nat.mul_pos (show 0 < j by omega) h.s0; omega)
                  have hf : decide (0 ∈ S) = decide (0 ∈ S ++ [j]) := by
                    refine decide_eq_decide.2 ⟨fun k => by simp [k], fun k => ?_⟩
                    simp only [List.mem_append, List.mem_singleton] at k
                    exact k.elim id (fun e => absurd e.symm hj0)
                  have hK : 0 ∈ S ++ [j] → H [h1, h2, h3, h4, h5, h6, h7, h8, h9] := fun k => hHd (by rw [decide_eq_decide] at hf; exact hf.2 k)
                  have A2 := A
                  rw [hf] at A2
                  simp (config := {maxSteps := 3000000}) only [go_sem, Nat.reduceEqDiff, Nat.reduceAdd, Nat.reduceLT, Nat.reduceLeDiff, ↓reduceIte, reduceCtorEq, Nat.reduceBEq, hk2, dataV, hz, A2.bp, A2.bq]
                  have e4' := A2.wx.box rb _ e4 e2
                  rw [← hp1, ← hp2]
                  refine App.pushC (bytes := 32) (val := pcv d step) (x := j) e4' e5 e6 e7 (by unfold maxLen; omega) (by omega) ?_
                  intro b' cap' sp' q1 q2 q3 q4 q5
                  have hbp : pb ≠ b' := by
                    rcases q1 with rfl | q1
                    · exact e2.symm
                    · have := A2.lt.box pb _ A2.bp; omega
                  have hor : orb = some b' ∨ (orb = none ∨ True) ∧ st.sz ≤ b' := by
                    rcases q1 with rfl | q1
                    · exact .inl e1
                    · exact .inr ⟨.inr trivial, by have := A2.wx.sz; omega⟩
                  simp (config := {maxSteps := 3000000}) only [go_sem, Nat.reduceEqDiff, Nat.reduceAdd, Nat.reduceLT, Nat.reduceLeDiff, ↓reduceIte, put_box_ne hbp, A2.bp, dataV]
                  have hW := (A2.wx.both (c := b') (cs := rowc (pcv d step) (S ++ [j]) sp')).fin (hlt.put) (Y := [dataV b' (S ++ [j]).length cap', h1, h2, h3, h4, h5, h6, h7, h8, h9, .sc (.bool (decide (0 ∈ S ++ [j]))), .sc (.int .i64 (endV d n (S ++ [j]))), .sc (.int .i64 15), .sc (.int .i64 1)])
                  refine ⟨_, _, Wk.refl _, hW, (by first | rfl | rw [← hf]), b', _, _, hor, hbp.symm, rfl, ⟨_, _, _, _, _, _, _, _, _, _, put_box_same, hK, .inr ⟨b', cap', sp', rfl, hbp.symm, rfl, by rw [put_box_ne hbp.symm, put_box_same], by simp; omega, q5, q4⟩⟩⟩
          · simp (config := {maxSteps := 3000000}) only [go_sem, Nat.reduceEqDiff, ↓reduceIte, reduceCtorEq, Nat.reduceBEq, hk1, dataV, hnl, A1.bp, decide_eq_false h0]
            refine run_loop [8, 13, 76, 77, 78, 79, 80, 81, 82, 83, 84, 85, 86, 87, 88, 89, 90, 91, 92, 93, 94, 95, 96, 97, 98] (fun B s => ∃ i : Nat, i ≤ S.length ∧ B 76 = .sc (.int .i64 i) ∧ AddS st s pb q [c0, c1, c2, c3, c4, c5, c6, c7, .sl tk (bs (pDat d step j))] [dataV rb S.length cap, h1, h2, h3, h4, h5, h6, h7, h8, h9, .sc (.bool (decide (0 ∈ S))), .sc (.int .i64 (endV d n (S ++ [j]))), .sc (.int .i64 15), .sc (.int .i64 1)]) (fun B _ => S.length - vnat (B 76)) rfl ?_ ?_
            · exact ⟨0, by omega, rfl, A1⟩
            · clear A1
              rintro B2 s2 ⟨i, hi, hk2, A⟩
              by_cases cl : i < S.length
              · have e4' := A.wx.box rb _ e4 e2
                obtain ⟨x, hx, hxn, hxj⟩ := hxs cl
                have hg := rowc_get (val := pcv d step) (L := S) (sp := sp) (i := i) cl
                rw [hx, hpv hxn] at hg
                have hxe := h.le hxn
                simp (config := {maxSteps := 3000000}) only [go_sem, Nat.reduceEqDiff, Nat.reduceAdd, Nat.reduceLT, Nat.reduceLeDiff, ↓reduceIte, reduceCtorEq, Nat.reduceBEq, hk2, dataV, e4', hg, rowc_len, e6, decide_eq_true (show (i : Int) < (S.length : Int) by omega)]
                repeat (apply And.intro; focus (first | omega | (simp; done)))
                intro u hu
                have bpu : pb ≠ u := by have := A.lt.box pb _ A.bp; omega
                by_cases h0' : 0 ≤ endV d n (S ++ [j])
                · have hD' := hE1 h0'
                  simp (config := {maxSteps := 3000000}) only [go_sem, Nat.reduceEqDiff, Int.reduceNeg, ↓reduceIte, reduceCtorEq, Nat.reduceBEq, hk2, put_box_ne bpu, A.bp, bs_len, decide_eq_true h0', decide_eq_false (show ¬ endV d n (S ++ [j]) < ((x * step : Nat) : Int) + ((pDat d step x).length : Int) by rw [hD']; omega)]
                  repeat (apply And.intro; focus (first | omega | (simp; done)))
                  first | exact ⟨⟨i + 1, by omega, by simp, A.new hlt hu⟩, by omega⟩ | omega
                · simp (config := {maxSteps := 3000000}) only [go_sem, Nat.reduceEqDiff, Int.reduceNeg, ↓reduceIte, Nat.reduceBEq, hk2, put_box_ne bpu, A.bp, decide_eq_false h0']
                  repeat (apply And.intro; focus (first | omega | (simp; done)))
                  first | exact ⟨⟨i + 1, by omega, by simp, A.new hlt hu⟩, by omega⟩ | omega
              · obtain rfl : i = S.length := by omega
                by_cases hj0 : j = 0
                · have hz : decide (((j * step : Nat) : Int) = 0) = true := decide_eq_true (by rw [hj0]; simp)
                  have A2 := A.same (pd := [dataV rb S.length cap, c0, c1, c2, c3, c4, c5, c6, c7, .sl tk (bs (pDat d step j)), .sc (.bool true), .sc (.int .i64 (endV d n (S ++ [j]))), .sc (.int .i64 15), .sc (.int .i64 1)]) qp
                  simp (config := {maxSteps := 3000000}) only [go_sem, Nat.reduceEqDiff, Nat.reduceAdd, Nat.reduceLT, Nat.reduceLeDiff, ↓reduceIte, reduceCtorEq, Nat.reduceBEq, hk2, dataV, hz, A.bp, A.bq, put_box_ne qp]
                  have hf : (true : Bool) = decide (0 ∈ S ++ [j]) := (decide_eq_true (by simp [hj0])).symm
                  have hK : 0 ∈ S ++ [j] → H [c0, c1, c2, c3, c4, c5, c6, c7, .sl tk (bs (pDat d step j))] := fun _ => hH hj0
                  rw [hf] at A2
                  simp only [dataV] at A2
                  rw [hf]
                  generalize s2.put pb _ = s3 at A2 ⊢
                  try simp (config := {maxSteps := 3000000}) only [go_sem, Nat.reduceEqDiff, Nat.reduceAdd, Nat.reduceMul, Nat.reduceSub, Nat.reduceLT, Nat.reduceLeDiff, Int.reduceToNat, Int.reduceLE, Int.reduceLT, Int.reducePow, Int.reduceMul, Int.reduceAdd, Int.reduceSub, Int.reduceNeg, Int.reduceEq, Int.reduceMod, Int.reduceDiv, Nat.reducePow, Nat.reduceMod, Nat.reduceDiv, ↓reduceIte, reduceCtorEq, Nat.reduceBEq, A2.bp, A2.bq]
                  have e4' := A2.wx.box rb _ e4 e2
                  rw [← hp1, ← hp2]
                  refine App.pushC (bytes := 32) (val := pcv d step) (x := j) e4' e5 e6 e7 (by unfold maxLen; omega) (by omega) ?_
                  intro b' cap' sp' q1 q2 q3 q4 q5
                  have hbp : pb ≠ b' := by
                    rcases q1 with rfl | q1
                    · exact e2.symm
                    · have := A2.lt.box pb _ A2.bp; omega
                  have hor : orb = some b' ∨ (orb = none ∨ True) ∧ st.sz ≤ b' := by
                    rcases q1 with rfl | q1
                    · exact .inl e1
                    · exact .inr ⟨.inr trivial, by have := A2.wx.sz; omega⟩
                  simp (config := {maxSteps := 3000000}) only [go_sem, Nat.reduceEqDiff, Nat.reduceAdd, Nat.reduceLT, Nat.reduceLeDiff, ↓reduceIte, put_box_ne hbp, A2.bp, dataV]
                  have hW := (A2.wx.both (c := b') (cs := rowc (pcv d step) (S ++ [j]) sp')).fin (hlt.put) (Y := [dataV b' (S ++ [j]).length cap', c0, c1, c2, c3, c4, c5, c6, c7, .sl tk (bs (pDat d step j)), .sc (.bool (decide (0 ∈ S ++ [j]))), .sc (.int .i64 (endV d n (S ++ [j]))), .sc (.int .i64 15), .sc (.int .i64 1)])
                  refine ⟨_, _, Wk.refl _, hW, (by first | rfl | rw [← hf]), b', _, _, hor, hbp.symm, rfl, ⟨_, _, _, _, _, _, _, _, _, _, put_box_same, hK, .inr ⟨b', cap', sp', rfl, hbp.symm, rfl, by rw [put_box_ne hbp.symm, put_box_same], by simp; omega, q5, q4⟩⟩⟩
                · have hz : decide (((j * step : Nat) : Int) = 0) = false := decide_eq_false (by have := Nat.mul_pos (show 0 < j by omega) h.s0; omega)
                  have hf : decide (0 ∈ S) = decide (0 ∈ S ++ [j]) := by
                    refine decide_eq_decide.2 ⟨fun k => by simp [k], fun k => ?_⟩
                    simp only [List.mem_append, List.mem_singleton] at k
                    exact k.elim id (fun e => absurd e.symm hj0)
                  have hK : 0 ∈ S ++ [j] → H [h1, h2, h3, h4, h5, h6, h7, h8, h9] := fun k => hHd (by rw [decide_eq_decide] at hf; exact hf.2 k)
                  have A2 := A
                  rw [hf] at A2
                  simp (config := {maxSteps := 3000000}) only [go_sem, Nat.reduceEqDiff, Nat.reduceAdd, Nat.reduceLT, Nat.reduceLeDiff, ↓reduceIte, reduceCtorEq, Nat.reduceBEq, hk2, dataV, hz, A2.bp, A2.bq]
                  have e4' := A2.wx.box rb _ e4 e2
                  rw [← hp1, ← hp2]
                  refine App.pushC (bytes := 32) (val := pcv d step) (x := j) e4' e5 e6 e7 (by unfold maxLen; omega) (by omega) ?_
                  intro b' cap' sp' q1 q2 q3 q4 q5
                  have hbp : pb ≠ b' := by
                    rcases q1 with rfl | q1
                    · exact e2.symm
                    · have := A2.lt.box pb _ A2.bp; omega
                  have hor : orb = some b' ∨ (orb = none ∨ True) ∧ st.sz ≤ b' := by
                    rcases q1 with rfl | q1
                    · exact .inl e1
                    · exact .inr ⟨.inr trivial, by have := A2.wx.sz; omega⟩
                  simp (config := {maxSteps := 3000000}) only [go_sem, Nat.reduceEqDiff, Nat.reduceAdd, Nat.reduceLT, Nat.reduceLeDiff, ↓reduceIte, put_box_ne hbp, A2.bp, dataV]
                  have hW := (A2.wx.both (c := b') (cs := rowc (pcv d step) (S ++ [j]) sp')).fin (hlt.put) (Y := [dataV b' (S ++ [j]).length cap', h1, h2, h3, h4, h5, h6, h7, h8, h9, .sc (.bool (decide (0 ∈ S ++ [j]))), .sc (.int .i64 (endV d n (S ++ [j]))), .sc (.int .i64 15), .sc (.int .i64 1)])
                  refine ⟨_, _, Wk.refl _, hW, (by first | rfl | rw [← hf]), b', _, _, hor, hbp.symm, rfl, ⟨_, _, _, _, _, _, _, _, _, _, put_box_same, hK, .inr ⟨b', cap', sp', rfl, hbp.symm, rfl, by rw [put_box_ne hbp.symm, put_box_same], by simp; omega, q5, q4⟩⟩⟩
        · have hjn : j = n - 1 := by
            have : ¬ j + 1 < n := fun k => hm (hmore.2 k)
            omega
          have eS : endV d n S = -1 := by unfold endV; rw [if_neg (by rw [← hjn]; exact hjS)]
          have hee : ((j * step : Nat) : Int) + ((pDat d step j).length : Int) = endV d n (S ++ [j]) := by
            have h1 : endV d n (S ++ [j]) = d.D.length := by rw [hjn]; exact endV_last
            have h2 := pDat_len d step j
            have h3 := h.at.2 hj
            rw [h1]; omega
          have hil : decide (¬ j * step + step < d.D.length) = true := decide_eq_true hm
          have A1 := A.same (pd := [dataV rb S.length cap, h1, h2, h3, h4, h5, h6, h7, h8, h9, .sc (.bool (decide (0 ∈ S))), .sc (.int .i64 (endV d n (S ++ [j]))), .sc (.int .i64 15), .sc (.int .i64 1)]) qp
          simp (config := {maxSteps := 3000000}) only [go_sem, Nat.reduceEqDiff, Nat.reduceAdd, Nat.reduceLT, Nat.reduceLeDiff, Int.reduceLE, Int.reduceNeg, ↓reduceIte, reduceCtorEq, Nat.reduceBEq, hk1, dataV, hil, hee, eS, A.bp]
          simp only [dataV] at A1
          generalize s1.put pb _ = s1' at A1 ⊢
          try simp (config := {maxSteps := 3000000}) only [go_sem, Nat.reduceEqDiff, Nat.reduceAdd, Nat.reduceMul, Nat.reduceSub, Nat.reduceLT, Nat.reduceLeDiff, Int.reduceToNat, Int.reduceLE, Int.reduceLT, Int.reducePow, Int.reduceMul, Int.reduceAdd, Int.reduceSub, Int.reduceNeg, Int.reduceEq, Int.reduceMod, Int.reduceDiv, Nat.reducePow, Nat.reduceMod, Nat.reduceDiv, ↓reduceIte, reduceCtorEq, Nat.reduceBEq, A1.bp, dataV]
          refine run_loop [8, 13, 76, 77, 78, 79, 80, 81, 82, 83, 84, 85, 86, 87, 88, 89, 90, 91, 92, 93, 94, 95, 96, 97, 98] (fun B s => ∃ i : Nat, i ≤ S.length ∧ B 76 = .sc (.int .i64 i) ∧ AddS st s pb q [c0, c1, c2, c3, c4, c5, c6, c7, .sl tk (bs (pDat d step j))] [dataV rb S.length cap, h1, h2, h3, h4, h5, h6, h7, h8, h9, .sc (.bool (decide (0 ∈ S))), .sc (.int .i64 (endV d n (S ++ [j]))), .sc (.int .i64 15), .sc (.int .i64 1)]) (fun B _ => S.length - vnat (B 76)) rfl ?_ ?_
          · exact ⟨0, by omega, rfl, A1⟩
          · clear A1
            rintro B2 s2 ⟨i, hi, hk2, A⟩
            by_cases cl : i < S.length
            · have e4' := A.wx.box rb _ e4 e2
              obtain ⟨x, hx, hxn, hxj⟩ := hxs cl
              have hg := rowc_get (val := pcv d step) (L := S) (sp := sp) (i := i) cl
              rw [hx, hpv hxn] at hg
              have hxe := h.le hxn
              simp (config := {maxSteps := 3000000}) only [go_sem, Nat.reduceEqDiff, Nat.reduceAdd, Nat.reduceLT, Nat.reduceLeDiff, Int.reduceNeg, ↓reduceIte, reduceCtorEq, Nat.reduceBEq, hk2, dataV, e4', hg, rowc_len, e6, decide_eq_true (show (i : Int) < (S.length : Int) by omega)]
              repeat (apply And.intro; focus (first | omega | (simp; done)))
              intro u hu
              have bpu : pb ≠ u := by have := A.lt.box pb _ A.bp; omega
              by_cases h0' : 0 ≤ endV d n (S ++ [j])
              · have hD' := hE1 h0'
                simp (config := {maxSteps := 3000000}) only [go_sem, Nat.reduceEqDiff, Int.reduceNeg, ↓reduceIte, reduceCtorEq, Nat.reduceBEq, hk2, put_box_ne bpu, A.bp, bs_len, decide_eq_true h0', decide_eq_false (show ¬ endV d n (S ++ [j]) < ((x * step : Nat) : Int) + ((pDat d step x).length : Int) by rw [hD']; omega)]
                repeat (apply And.intro; focus (first | omega | (simp; done)))
                first | exact ⟨⟨i + 1, by omega, by simp, A.new hlt hu⟩, by omega⟩ | omega
              · simp (config := {maxSteps := 3000000}) only [go_sem, Nat.reduceEqDiff, Int.reduceNeg, ↓reduceIte, Nat.reduceBEq, hk2, put_box_ne bpu, A.bp, decide_eq_false h0']
                repeat (apply And.intro; focus (first | omega | (simp; done)))
                first | exact ⟨⟨i + 1, by omega, by simp, A.new hlt hu⟩, by omega⟩ | omega
            · obtain rfl : i = S.length := by omega
              by_cases hj0 : j = 0
              · have hz : decide (((j * step : Nat) : Int) = 0) = true := decide_eq_true (by rw [hj0]; simp)
                have A2 := A.same (pd := [dataV rb S.length cap, c0, c1, c2, c3, c4, c5, c6, c7, .sl tk (bs (pDat d step j)), .sc (.bool true), .sc (.int .i64 (endV d n (S ++ [j]))), .sc (.int .i64 15), .sc (.int .i64 1)]) qp
                simp (config := {maxSteps := 3000000}) only [go_sem, Nat.reduceEqDiff, Nat.reduceAdd, Nat.reduceLT, Nat.reduceLeDiff, Int.reduceNeg, ↓reduceIte, reduceCtorEq, Nat.reduceBEq, hk2, dataV, hz, A.bp, A.bq, put_box_ne qp]
                have hf : (true : Bool) = decide (0 ∈ S ++ [j]) := (decide_eq_true (by simp [hj0])).symm
                have hK : 0 ∈ S ++ [j] → H [c0, c1, c2, c3, c4, c5, c6, c7, .sl tk (bs (pDat d step j))] := fun _ => hH hj0
                rw [hf] at A2
                simp only [dataV] at A2
                rw [hf]
                generalize s2.put pb _ = s3 at A2 ⊢
                try simp (config := {maxSteps := 3000000}) only [go_sem, Nat.reduceEqDiff, Nat.reduceAdd, Nat.reduceMul, Nat.reduceSub, Nat.reduceLT, Nat.reduceLeDiff, Int.reduceToNat, Int.reduceLE, Int.reduceLT, Int.reducePow, Int.reduceMul, Int.reduceAdd, Int.reduceSub, Int.reduceNeg, Int.reduceEq, Int.reduceMod, Int.reduceDiv, Nat.reducePow, Nat.reduceMod, Nat.reduceDiv, ↓reduceIte, reduceCtorEq, Nat.reduceBEq, A2.bp, A2.bq]
                have e4' := A2.wx.box rb _ e4 e2
                rw [← hp1, ← hp2]
                refine App.pushC (bytes := 32) (val := pcv d step) (x := j) e4' e5 e6 e7 (by unfold maxLen; omega) (by omega) ?_
                intro b' cap' sp' q1 q2 q3 q4 q5
                have hbp : pb ≠ b' := by
                  rcases q1 with rfl | q1
                  · exact e2.symm
                  · have := A2.lt.box pb _ A2.bp; omega
                have hor : orb = some b' ∨ (orb = none ∨ True) ∧ st.sz ≤ b' := by
                  rcases q1 with rfl | q1
                  · exact .inl e1
                  · exact .inr ⟨.inr trivial, by have := A2.wx.sz; omega⟩
                simp (config := {maxSteps := 3000000}) only [go_sem, Nat.reduceEqDiff, Nat.reduceAdd, Nat.reduceLT, Nat.reduceLeDiff, Int.reduceNeg, ↓reduceIte, put_box_ne hbp, A2.bp, dataV]
                have hW := (A2.wx.both (c := b') (cs := rowc (pcv d step) (S ++ [j]) sp')).fin (hlt.put) (Y := [dataV b' (S ++ [j]).length cap', c0, c1, c2, c3, c4, c5, c6, c7, .sl tk (bs (pDat d step j)), .sc (.bool (decide (0 ∈ S ++ [j]))), .sc (.int .i64 (endV d n (S ++ [j]))), .sc (.int .i64 15), .sc (.int .i64 1)])
                refine ⟨_, _, Wk.refl _, hW, (by first | rfl | rw [← hf]), b', _, _, hor, hbp.symm, rfl, ⟨_, _, _, _, _, _, _, _, _, _, put_box_same, hK, .inr ⟨b', cap', sp', rfl, hbp.symm, rfl, by rw [put_box_ne hbp.symm, put_box_same], by simp; omega, q5, q4⟩⟩⟩
              · have hz : decide (((j * step : Nat) : Int) = 0) = false := decide_eq_false (by have := Nat.mul_pos (show 0 < j by omega) h.s0; omega)
                have hf : decide (0 ∈ S) = decide (0 ∈ S ++ [j]) := by
                  refine decide_eq_decide.2 ⟨fun k => by simp [k], fun k => ?_⟩
                  simp only [List.mem_append, List.mem_singleton] at k
                  exact k.elim id (fun e => absurd e.symm hj0)
                have hK : 0 ∈ S ++ [j] → H [h1, h2, h3, h4, h5, h6, h7, h8, h9] := fun k => hHd (by rw [decide_eq_decide] at hf; exact hf.2 k)
                have A2 := A
                rw [hf] at A2
                simp (config := {maxSteps := 3000000}) only [go_sem, Nat.reduceEqDiff, Nat.reduceAdd, Nat.reduceLT, Nat.reduceLeDiff, Int.reduceNeg, ↓reduceIte, reduceCtorEq, Nat.reduceBEq, hk2, dataV, hz, A2.bp, A2.bq]
                have e4' := A2.wx.box rb _ e4 e2
                rw [← hp1, ← hp2]
                refine App.pushC (bytes := 32) (val := pcv d step) (x := j) e4' e5 e6 e7 (by unfold maxLen; omega) (by omega) ?_
                intro b' cap' sp' q1 q2 q3 q4 q5
                have hbp : pb ≠ b' := by
                  rcases q1 with rfl | q1
                  · exact e2.symm
                  · have := A2.lt.box pb _ A2.bp; omega
                have hor : orb = some b' ∨ (orb = none ∨ True) ∧ st.sz ≤ b' := by
                  rcases q1 with rfl | q1
                  · exact .inl e1
                  · exact .inr ⟨.inr trivial, by have := A2.wx.sz; omega⟩
                simp (config := {maxSteps := 3000000}) only [go_sem, Nat.reduceEqDiff, Nat.reduceAdd, Nat.reduceLT, Nat.reduceLeDiff, Int.reduceNeg, ↓reduceIte, put_box_ne hbp, A2.bp, dataV]
                have hW := (A2.wx.both (c := b') (cs := rowc (pcv d step) (S ++ [j]) sp')).fin (hlt.put) (Y := [dataV b' (S ++ [j]).length cap', h1, h2, h3, h4, h5, h6, h7, h8, h9, .sc (.bool (decide (0 ∈ S ++ [j]))), .sc (.int .i64 (endV d n (S ++ [j]))), .sc (.int .i64 15), .sc (.int .i64 1)])
                refine ⟨_, _, Wk.refl _, hW, (by first | rfl | rw [← hf]), b', _, _, hor, hbp.symm, rfl, ⟨_, _, _, _, _, _, _, _, _, _, put_box_same, hK, .inr ⟨b', cap', sp', rfl, hbp.symm, rfl, by rw [put_box_ne hbp.symm, put_box_same], by simp; omega, q5, q4⟩⟩⟩
end
end
section
open Go

/-- The head of the first piece. -/
def HdP (d : DG) (step : Nat) (hs : List V) : Prop := ∃ tk1 tk2, hs = [.sc (.int .u8 d.tos), .sc (.int .u8 d.ttl), .sc (.int .u8 d.proto), .sc (.int .u16 d.id), .sc (.int .u16 8192), .sc (.int .u32 d.src), .sc (.int .u32 d.dst), .sl tk1 (bs d.O), .sl tk2 (bs (pDat d step 0))]
theorem flat_data (d : DG) (step : Nat) (L : List Nat) : (L.flatMap (pDat d step)).length = sumW (wl d step) L := by
  induction L with
  | nil => rfl
  | cons x L ih => simp only [List.flatMap_cons, List.length_append, ih, sumW, wl]
section
variable {st : St} {pb rb n step : Nat} {d : DG} {S : List Nat}
def WholeQ (st : St) (d : DG) (rb n : Nat) (S : List Nat) (v : V) (s : St) : Prop :=
  (S.length < n ∧ v = .tup [.sl .nil [], .sc (.bool false), .sc (.bool false)] ∧ st = s) ∨
  (S.length = n ∧ v = .tup [.sl .no (bs (ipB d)), .sc (.bool true), .sc (.bool true)] ∧ ∃ X, s = st.put rb X)
theorem Wk.tup3 {a a' : V} {x y : Value} (h : Wk a a') : Wk (.tup [a, .sc x, .sc y]) (.tup [a', .sc x, .sc y]) := fun G v hv => by
  cases hv with
  | tup _ vs hl hr =>
    refine .tup _ vs (by simpa using hl) fun i c u hc hu => ?_
    match i with
    | 0 => simp at hc; subst hc; exact h G u (hr 0 a u rfl hu)
    | 1 => simp at hc; subst hc; exact hr 1 _ u rfl hu
    | 2 => simp at hc; subst hc; exact hr 2 _ u rfl hu
    | i + 3 => simp at hc
set_option maxRecDepth 100000 in
set_option maxHeartbeats 16000000 in
theorem partWhole_v (h : CutD d step n) (hd : d.Ok) (hf : ipFits d) (hSd : S.Nodup) (hSn : ∀ i ∈ S, i < n) (P : PartB st pb d step n (HdP d step) S (some rb)) :
    VCalls Try.prog 109 [ptrV pb] st (WholeQ st d rb n S) := by
  have nc0 : ((0 : Nat) : Int) = 0 := rfl
  refine vcalls_enter vc109 (Nat.le_of_ble_eq_true rfl) fun hwf hok => ?_
  show Run _ Vc109.body (.fin (finQ Vc109.res _)) _ _
  unfold Vc109
  obtain ⟨rv, h1, h2, h3, h4, h5, h6, h7, h8, h9, hbp, hHd, hrow⟩ := P.ex
  have hlt := hwf.lt
  have hps := hlt.box pb _ hbp
  have hn5 := h.n63
  have hD5 := h.D
  have hSl : S.length ≤ n := by
    have := hSd.length_le_of_subset (l₂ := List.range n) (fun x hx => List.mem_range.2 (hSn x hx))
    simpa using this
  rcases hrow with ⟨f1, _⟩ | ⟨rb', cap, sp, e1, e2, e3, e4, e5, e6, e7⟩
  · cases f1
  simp only [Option.some.injEq] at e1
  subst e1
  subst e3
  have hrs := hlt.box rb _ e4
  have hpv : ∀ {x : Nat}, x < n → pcv d step x = (.sc (.int .i64 ((x * step : Nat) : Int)), .sl .no (bs (pDat d step x))) := fun {x} hx => by unfold pcv; rw [min511 (by omega)]
  simp (config := {maxSteps := 3000000}) only [go_sem, ↓reduceIte, reduceCtorEq, hbp, dataV]
  refine run_loop [5, 7, 18, 19, 20, 21, 22, 23, 24, 25, 26, 27] (fun B s => ∃ i : Nat, i ≤ S.length ∧ B 18 = .sc (.int .i64 i) ∧ B 5 = .sc (.int .i64 ((sumW (wl d step) (S.take i) : Nat) : Int)) ∧ st.weak s ∧ s.Lt) (fun B _ => S.length - vnat (B 18)) rfl ?_ ?_
  · exact ⟨0, by omega, rfl, rfl, hwf.weak, hlt⟩
  · rintro B s ⟨i, hi, h18, h5', hw, hl⟩
    have hsum := sumW_sub (w := wl d step) (T := S.take i) (hSd.sublist (List.take_sublist i S)) (fun x hx => hSn x (List.mem_of_mem_take hx))
    rw [sum_all h] at hsum
    by_cases cl : i < S.length
    · obtain ⟨x, hx⟩ := get_ex cl
      have hxn := hSn x (List.mem_of_getElem? hx)
      have hg := rowc_get (val := pcv d step) (L := S) (sp := sp) (i := i) cl
      rw [bang_eq hx, hpv hxn] at hg
      have e4' := (hw.box rb _ e4).1
      have htk : sumW (wl d step) (S.take (i + 1)) = sumW (wl d step) (S.take i) + (pDat d step x).length := by
        rw [List.take_add_one, hx, sumW_append]
        simp [sumW, wl]
      have hpl := h.le hxn
      simp (config := {maxSteps := 3000000}) only [go_sem, Nat.reduceEqDiff, Nat.reduceAdd, Nat.reduceLT, Nat.reduceLeDiff, Int.reduceNeg, ↓reduceIte, Nat.reduceBEq, h18, h5', e4', hg, rowc_len, e6, decide_eq_true (show (i : Int) < (S.length : Int) by omega)]
      repeat (apply And.intro; focus (first | omega | (simp; done)))
      intro u hu
      simp (config := {maxSteps := 3000000}) only [go_sem, Int.reduceNeg, bs_len]
      repeat (apply And.intro; focus (first | omega | (simp; done)))
      exact ⟨⟨i + 1, by omega, by simp, by rw [htk, Int.natCast_add], weak_put hw (by have := hw.sz; omega), hl.put⟩, by omega⟩
    · obtain rfl : i = S.length := by omega
      rw [List.take_length] at h5' hsum
      have hbp' := (hw.box pb _ hbp).1
      have e4' := (hw.box rb _ e4).1
      have hstop : decide ((S.length : Int) < (S.length : Int)) = false := decide_eq_false (by omega)
      by_cases hfull : S.length < n
      · have hless := sum_less h hSd hSn hfull
        have hfin : WholeQ st d rb n S (.tup [.sl .nil [], .sc (.bool false), .sc (.bool false)]) st := .inl ⟨hfull, rfl, rfl⟩
        by_cases hz : 0 ∈ S
        · have hne : decide (¬ ((sumW (wl d step) S : Nat) : Int) = endV d n S) = true := decide_eq_true (by
            unfold endV
            split <;> omega)
          simp (config := {maxSteps := 3000000}) only [go_sem, Nat.reduceEqDiff, ↓reduceIte, reduceCtorEq, Nat.reduceBEq, h18, h5', hbp', decide_eq_true hz, hne]
          exact ⟨_, _, Wk.refl _, hw, hfin⟩
        · simp (config := {maxSteps := 3000000}) only [go_sem, Nat.reduceEqDiff, ↓reduceIte, reduceCtorEq, Nat.reduceBEq, h18, hbp', decide_eq_false hz]
          exact ⟨_, _, Wk.refl _, hw, hfin⟩
      · have hSn' : S.length = n := by omega
        have hperm := full_perm hSd hSn hSn'
        have htwo := h.two
        have hz : 0 ∈ S := hperm.mem_iff.2 (List.mem_range.2 (by omega))
        have hl1 : n - 1 ∈ S := hperm.mem_iff.2 (List.mem_range.2 (by omega))
        have hend : endV d n S = d.D.length := by unfold endV; rw [if_pos hl1]
        have hsumD : sumW (wl d step) S = d.D.length := by rw [sumW_perm hperm, sum_all h]
        have hne : decide (¬ ((sumW (wl d step) S : Nat) : Int) = endV d n S) = false := decide_eq_false (by rw [hend, hsumD]; simp)
        simp (config := {maxSteps := 3000000}) only [go_sem, Nat.reduceEqDiff, ↓reduceIte, reduceCtorEq, Nat.reduceBEq, h18, h5', hbp', dataV, decide_eq_true hz, hne]
        have hself : s.put rb (rowc (pcv d step) S sp) = s := put_selfR e4' (hl.box rb _ e4')
        have cc := sortF_v (st := s) (b := rb) (cap := cap) (L := S) (sp := sp) (eltPc h) e6 (by omega)
        rw [hself, dataV, cmpV] at cc
        refine Cal.mk cc ?_
        rintro _ s1 ⟨M, m1, m2, rfl⟩ -
        have hM : M = List.range n := sorted_range (by omega) (m1.trans hperm) m2
        subst hM
        obtain ⟨tk1, tk2, hh⟩ := hHd hz
        simp only [List.cons.injEq, and_true] at hh
        obtain ⟨rfl, rfl, rfl, rfl, rfl, rfl, rfl, rfl, rfl⟩ := hh
        have hW1 : (st.put rb (rowc (pcv d step) (List.range n) sp)).weak (s.put rb (rowc (pcv d step) (List.range n) sp)) := weak_both hw
        have hbp1 : (s.put rb (rowc (pcv d step) (List.range n) sp)).box pb = some [dataV rb S.length cap, .sc (.int .u8 d.tos), .sc (.int .u8 d.ttl), .sc (.int .u8 d.proto), .sc (.int .u16 d.id), .sc (.int .u16 8192), .sc (.int .u32 d.src), .sc (.int .u32 d.dst), .sl tk1 (bs d.O), .sl tk2 (bs (pDat d step 0)), .sc (.bool (decide (0 ∈ S))), .sc (.int .i64 (endV d n S)), .sc (.int .i64 15), .sc (.int .i64 1)] := by
          rw [put_box_ne e2.symm]; exact hbp'
        have hrb1 : (s.put rb (rowc (pcv d step) (List.range n) sp)).box rb = some (rowc (pcv d step) (List.range n) sp) := put_box_same
        have hL1 : (s.put rb (rowc (pcv d step) (List.range n) sp)).Lt := hl.put
        have hmoR : mono (rowc (pcv d step) (List.range n) sp) := rowc_mono e6 (by simp [hSn'])
        generalize s.put rb (rowc (pcv d step) (List.range n) sp) = s1 at hW1 hbp1 hrb1 hL1 ⊢
        simp (config := {maxSteps := 3000000}) only [go_sem, Nat.reduceEqDiff, Nat.reduceAdd, Nat.reduceLT, Nat.reduceLeDiff, ↓reduceIte, reduceCtorEq, Nat.reduceBEq, hbp1, dataV]
        intro p8 hp8
        have b8 : pb ≠ p8 := by have := hL1.box pb _ hbp1; omega
        have r8 : rb ≠ p8 := by have := hL1.box rb _ hrb1; omega
        have hand : ibit .and .u16 8192 16384 = 0 := by decide
        have W8 : (st.put rb (rowc (pcv d step) (List.range n) sp)).sz ≤ p8 := by have := hW1.sz; omega
        simp (config := {maxSteps := 3000000}) only [go_sem, ↓reduceIte, hbp1, dataV, put_box_ne b8, hand]
        have hbp2 : (s1.put p8 [.sc (.int .u8 d.tos), .sc (.int .u8 d.ttl), .sc (.int .u8 d.proto), .sc (.int .u16 d.id), .sc (.int .u16 0), .sc (.int .u32 d.src), .sc (.int .u32 d.dst), .sl tk1 (bs d.O), .sl .nil []]).box pb = some [dataV rb S.length cap, .sc (.int .u8 d.tos), .sc (.int .u8 d.ttl), .sc (.int .u8 d.proto), .sc (.int .u16 d.id), .sc (.int .u16 8192), .sc (.int .u32 d.src), .sc (.int .u32 d.dst), .sl tk1 (bs d.O), .sl tk2 (bs (pDat d step 0)), .sc (.bool (decide (0 ∈ S))), .sc (.int .i64 (endV d n S)), .sc (.int .i64 15), .sc (.int .i64 1)] := by
          rw [put_box_ne b8]; exact hbp1
        have hrb2 : (s1.put p8 [.sc (.int .u8 d.tos), .sc (.int .u8 d.ttl), .sc (.int .u8 d.proto), .sc (.int .u16 d.id), .sc (.int .u16 0), .sc (.int .u32 d.src), .sc (.int .u32 d.dst), .sl tk1 (bs d.O), .sl .nil []]).box rb = some (rowc (pcv d step) (List.range n) sp) := by
          rw [put_box_ne r8]; exact hrb1
        have R0 : RO 1 (st.put rb (rowc (pcv d step) (List.range n) sp)) (s1.put p8 [.sc (.int .u8 d.tos), .sc (.int .u8 d.ttl), .sc (.int .u8 d.proto), .sc (.int .u16 d.id), .sc (.int .u16 0), .sc (.int .u32 d.src), .sc (.int .u32 d.dst), .sl tk1 (bs d.O), .sl .nil []]) (.sl .nil []) (bs ((List.range 0).flatMap (pDat d step))) := (RO.nil hW1 hL1).put W8
        have hp80 : (s1.put p8 [.sc (.int .u8 d.tos), .sc (.int .u8 d.ttl), .sc (.int .u8 d.proto), .sc (.int .u16 d.id), .sc (.int .u16 0), .sc (.int .u32 d.src), .sc (.int .u32 d.dst), .sl tk1 (bs d.O), .sl .nil []]).box p8 = some [.sc (.int .u8 d.tos), .sc (.int .u8 d.ttl), .sc (.int .u8 d.proto), .sc (.int .u16 d.id), .sc (.int .u16 0), .sc (.int .u32 d.src), .sc (.int .u32 d.dst), .sl tk1 (bs d.O), .sl .nil []] := put_box_same
        generalize s1.put p8 [.sc (.int .u8 d.tos), .sc (.int .u8 d.ttl), .sc (.int .u8 d.proto), .sc (.int .u16 d.id), .sc (.int .u16 0), .sc (.int .u32 d.src), .sc (.int .u32 d.dst), .sl tk1 (bs d.O), .sl .nil []] = s2 at hbp2 hrb2 R0 hp80 ⊢
        refine run_loop [10, 60, 61, 62, 63, 64, 65, 66, 67, 68, 69, 70] (fun C s' => ∃ (i : Nat) (Dv : V), i ≤ n ∧ C 60 = .sc (.int .i64 i) ∧ s'.box p8 = some [.sc (.int .u8 d.tos), .sc (.int .u8 d.ttl), .sc (.int .u8 d.proto), .sc (.int .u16 d.id), .sc (.int .u16 0), .sc (.int .u32 d.src), .sc (.int .u32 d.dst), .sl tk1 (bs d.O), Dv] ∧
          RO 1 (st.put rb (rowc (pcv d step) (List.range n) sp)) s' Dv (bs ((List.range i).flatMap (pDat d step))) ∧ s'.box rb = some (rowc (pcv d step) (List.range n) sp)) (fun C _ => n - vnat (C 60)) rfl ?_ ?_
        · exact ⟨0, .sl .nil [], by omega, rfl, hp80, R0, hrb2⟩
        · rintro C s3 ⟨i, Dv, hi, h60, hb8, R, hrb3⟩
          obtain ⟨tv, rfl⟩ := R.sl
          have hDl : ((List.range i).flatMap (pDat d step)).length ≤ 500 := by
            rw [flat_data, sum_range h i hi]; omega
          by_cases c2 : i < n
          · have hg := rowc_get (val := pcv d step) (L := List.range n) (sp := sp) (i := i) (by simpa using c2)
            have hbang : (List.range n)[i]! = i := by rw [getElem!_pos _ i (by simpa using c2)]; simp
            rw [hbang, hpv c2] at hg
            have hrl : (List.range n).length = n := by simp
            have hpl := h.le c2
            have htk : (List.range (i + 1)).flatMap (pDat d step) = (List.range i).flatMap (pDat d step) ++ pDat d step i := by rw [List.range_succ, List.flatMap_append]; simp
            simp (config := {maxSteps := 3000000}) only [go_sem, Nat.reduceEqDiff, Nat.reduceAdd, Nat.reduceLT, Nat.reduceLeDiff, ↓reduceIte, Nat.reduceBEq, h60, hSn', hrb3, hg, rowc_len, hrl, hmoR, decide_eq_true (show (i : Int) < (n : Int) by omega)]
            repeat (apply And.intro; focus (first | omega | (simp; done)))
            intro u hu
            have u8 : p8 ≠ u := by have := R.lt.box p8 _ hb8; omega
            have ur : rb ≠ u := by have := R.lt.box rb _ hrb3; omega
            have R1 := R.put (c := u) (cs := [.sc (.int .i64 ((i * step : Nat) : Int)), .sl .no (bs (pDat d step i))]) (by have := R.weak.sz; omega)
            simp (config := {maxSteps := 3000000}) only [go_sem, Nat.reduceEqDiff, ↓reduceIte, put_box_ne u8, hb8]
            refine App.mk (bytes := 1) (l := bs ((List.range i).flatMap (pDat d step))) (ys := bs (pDat d step i)) R1.own (allSz_bs _) (by simp only [bs_len, maxLen]; omega) (by simp only [bs_len]; omega) ?_
            intro r4 s4 k1 k2
            have R2 := R1.app k1 k2
            obtain ⟨Z, hZ⟩ : ∃ Z, Z = (List.range (i + 1)).flatMap (pDat d step) := ⟨_, rfl⟩
            rw [bs_append, ← htk, ← hZ] at R2
            have hb9 : s4.box p8 = some [.sc (.int .u8 d.tos), .sc (.int .u8 d.ttl), .sc (.int .u8 d.proto), .sc (.int .u16 d.id), .sc (.int .u16 0), .sc (.int .u32 d.src), .sc (.int .u32 d.dst), .sl tk1 (bs d.O), .sl tv (bs ((List.range i).flatMap (pDat d step)))] := by rw [k2.box, put_box_ne u8]; exact hb8
            have hr9 : s4.box rb = some (rowc (pcv d step) (List.range n) sp) := by rw [k2.box, put_box_ne ur]; exact hrb3
            obtain ⟨tw, rfl⟩ := R2.sl
            have R3 := R2.put (c := p8) (cs := [.sc (.int .u8 d.tos), .sc (.int .u8 d.ttl), .sc (.int .u8 d.proto), .sc (.int .u16 d.id), .sc (.int .u16 0), .sc (.int .u32 d.src), .sc (.int .u32 d.dst), .sl tk1 (bs d.O), .sl tw (bs Z)]) W8
            simp (config := {maxSteps := 3000000}) only [go_sem, Nat.reduceEqDiff, Nat.reduceAdd, Nat.reduceLT, Nat.reduceLeDiff, Int.reduceNeg, ↓reduceIte, Nat.reduceBEq, h60, hb9]
            repeat (apply And.intro; focus (first | omega | (simp; done)))
            exact ⟨⟨i + 1, .sl tw (bs Z), by omega, by simp, rfl, by rw [← hZ]; exact R3, by rw [put_box_ne r8]; exact hr9⟩, by omega⟩
          · obtain rfl : i = n := by omega
            have hcat : (List.range i).flatMap (pDat d step) = d.D := by
              rw [cat_take h i (Nat.le_refl _)]
              have := h.at (j := i)
              exact List.take_of_length_le (by omega)
            rw [hcat] at R hb8
            have hfr := h.f
            have hlim := h.lim
            simp (config := {maxSteps := 3000000}) only [go_sem, Nat.reduceEqDiff, Nat.reduceAdd, Nat.reduceLeDiff, ↓reduceIte, Nat.reduceBEq, h60, hSn', hb8]
            have cb := ipBuild_v (st := s3) (tk := tk1) (tk' := tv) d hd (by have := hlim.O40; omega) (by omega)
            rw [if_pos hf, DG.v, hfr] at cb
            refine Cal.mk cb ?_
            rintro _ _ ⟨rfl, rfl⟩ -
            simp (config := {maxSteps := 3000000}) only [go_sem, Nat.reduceEqDiff, ↓reduceIte]
            exact ⟨_, _, Wk.refl _, R.weak, .inr ⟨hSn', rfl, _, rfl⟩⟩
end
end
section
open Go

section
variable {κ ν : Type} [DecidableEq κ]
/-- What a list has under a key. -/
def aget (a : κ) : List (κ × ν) → Option ν
  | [] => none
  | p :: l => if a = p.1 then some p.2 else aget a l
def aset (a : κ) (v : ν) : List (κ × ν) → List (κ × ν)
  | [] => [(a, v)]
  | p :: l => if a = p.1 then (a, v) :: l else p :: aset a v l
def adel (a : κ) : List (κ × ν) → List (κ × ν)
  | [] => []
  | p :: l => if a = p.1 then l else p :: adel a l
theorem aget_none {a : κ} : ∀ {l : List (κ × ν)}, aget a l = none ↔ ∀ p ∈ l, p.1 ≠ a
  | [] => by simp [aget]
  | p :: l => by
    simp only [aget]
    split
    · rename_i h; simp [h]
    · rename_i h
      rw [aget_none]
      simp only [List.mem_cons, forall_eq_or_imp, ne_eq]
      exact ⟨fun h' => ⟨fun e => h e.symm, h'⟩, fun h' => h'.2⟩
theorem aget_mem {a : κ} {v : ν} : ∀ {l : List (κ × ν)}, aget a l = some v → (a, v) ∈ l
  | [], h => by cases h
  | p :: l, h => by
    simp only [aget] at h
    split at h
    · rename_i e
      simp only [Option.some.injEq] at h
      subst h; subst e
      simp
    · exact List.mem_cons_of_mem _ (aget_mem h)
theorem aget_some {a : κ} : ∀ {l : List (κ × ν)}, (∃ p ∈ l, p.1 = a) → ∃ v, aget a l = some v := fun {l} h => by
  cases e : aget a l with
  | none =>
    obtain ⟨p, hp, hpa⟩ := h
    exact absurd hpa (aget_none.1 e p hp)
  | some v => exact ⟨v, rfl⟩
theorem aget_of_mem {a : κ} {v : ν} : ∀ {l : List (κ × ν)}, (l.map (·.1)).Nodup → (a, v) ∈ l → aget a l = some v
  | [], _, h => by cases h
  | p :: l, hn, h => by
    simp only [List.map_cons, List.nodup_cons, List.mem_map, not_exists, not_and] at hn
    simp only [aget]
    rcases List.mem_cons.1 h with rfl | h
    · simp
    · rw [if_neg (fun e => hn.1 (a, v) h e), aget_of_mem hn.2 h]
theorem aset_new {a : κ} {v : ν} : ∀ {l : List (κ × ν)}, aget a l = none → aset a v l = l ++ [(a, v)]
  | [], _ => rfl
  | p :: l, h => by
    simp only [aget] at h
    split at h
    · cases h
    · rename_i e
      simp only [aset, if_neg e, aset_new h, List.cons_append]
theorem adel_same {a : κ} : ∀ {l : List (κ × ν)}, aget a l = none → adel a l = l
  | [], _ => rfl
  | p :: l, h => by
    simp only [aget] at h
    split at h
    · cases h
    · rename_i e
      simp only [adel, if_neg e, adel_same h]
theorem adel_filter {a : κ} : ∀ {l : List (κ × ν)}, (l.map (·.1)).Nodup → adel a l = l.filter fun p => p.1 ≠ a
  | [], _ => rfl
  | p :: l, hn => by
    simp only [List.map_cons, List.nodup_cons, List.mem_map, not_exists, not_and] at hn
    simp only [adel, List.filter_cons]
    by_cases e : a = p.1
    · rw [if_pos e, if_neg (by simp [e])]
      refine (List.filter_eq_self.2 fun q hq => ?_).symm
      simp only [decide_eq_true_eq]
      exact fun h => hn.1 q hq (h.trans e)
    · rw [if_neg e, if_pos (by simp; exact fun h => e h.symm), adel_filter hn.2]
theorem adel_nodup {a : κ} {l : List (κ × ν)} (hn : (l.map (·.1)).Nodup) : ((adel a l).map (·.1)).Nodup := by
  rw [adel_filter hn]
  exact hn.sublist (List.filter_sublist.map _)
theorem aset_nodup {a : κ} {v : ν} : ∀ {l : List (κ × ν)}, (l.map (·.1)).Nodup → ((aset a v l).map (·.1)).Nodup
  | [], _ => by simp [aset]
  | p :: l, hn => by
    simp only [aset]
    split
    · rename_i e; simpa [e] using hn
    · rename_i e
      simp only [List.map_cons, List.nodup_cons] at hn ⊢
      refine ⟨fun h => ?_, aset_nodup hn.2⟩
      obtain ⟨q, hq, hqe⟩ := List.mem_map.1 h
      by_cases hc : aget a l = none
      · rw [aset_new hc] at hq
        rcases List.mem_append.1 hq with hq | hq
        · exact hn.1 (List.mem_map.2 ⟨q, hq, hqe⟩)
        · simp at hq; subst hq; exact e hqe
      · have hk : ∀ {l : List (κ × ν)}, aget a l ≠ none → (aset a v l).map (·.1) = l.map (·.1) := fun {l} => by
          induction l with
          | nil => intro h; exact absurd rfl h
          | cons p l ih =>
            intro h
            simp only [aget] at h
            simp only [aset]
            split
            · rename_i e; simp [e]
            · rename_i e; rw [if_neg e] at h; simp [ih h]
        rw [hk hc] at h
        exact hn.1 h
theorem aget_set {a b : κ} {v : ν} : ∀ {l : List (κ × ν)}, aget b (aset a v l) = if b = a then some v else aget b l
  | [] => by simp only [aset, aget]
  | p :: l => by
    simp only [aset]
    split
    · rename_i e
      simp only [aget]
      split
      · rfl
      · rename_i h; rw [if_neg (fun h' => h (h'.trans e.symm))]
    · rename_i e
      simp only [aget, aget_set]
      split
      · rename_i h
        rw [if_neg (fun h' => e (h'.symm.trans h))]
      · rfl
theorem aget_del {a b : κ} {l : List (κ × ν)} (hn : (l.map (·.1)).Nodup) : aget b (adel a l) = if b = a then none else aget b l := by
  rw [adel_filter hn]
  clear hn
  induction l with
  | nil => simp [aget]
  | cons p l ih =>
    simp only [List.filter_cons]
    by_cases h : p.1 = a
    · rw [if_neg (by simp [h]), ih]
      simp only [aget]
      split
      · rfl
      · rename_i hb; rw [if_neg (fun e => hb (e.trans h))]
    · rw [if_pos (by simpa using h)]
      simp only [aget, ih]
      split
      · rename_i hb; rw [if_neg (fun e => h (hb.symm.trans e))]
      · rfl

end
section
variable {κ ν : Type}
/-- The entries of a map are this list's. -/
structure Mp (kf : κ → V) (vf : ν → V) (es : List (V × V × Nat)) (c : Nat) (l : List (κ × ν)) : Prop where
  eq : es.map (fun e => (e.1, e.2.1)) = l.map fun p => (kf p.1, vf p.2)
  inc : (es.map (·.2.2)).Pairwise (· < ·)
  lt : ∀ e ∈ es, e.2.2 < c
variable {kf : κ → V} {vf : ν → V} {es : List (V × V × Nat)} {c : Nat} {l : List (κ × ν)}
theorem Mp.nil : Mp kf vf [] c ([] : List (κ × ν)) := ⟨rfl, .nil, fun e he => by cases he⟩
theorem Mp.len (h : Mp kf vf es c l) : es.length = l.length := by simpa using congrArg List.length h.eq
theorem Mp.at (h : Mp kf vf es c l) {i : Nat} {e : V × V × Nat} (he : es[i]? = some e) : ∃ p, l[i]? = some p ∧ e.1 = kf p.1 ∧ e.2.1 = vf p.2 := by
  have h1 : (es.map (fun e => (e.1, e.2.1)))[i]? = some (e.1, e.2.1) := by simp [he]
  rw [h.eq, List.getElem?_map, Option.map_eq_some_iff] at h1
  obtain ⟨p, hp, hpe⟩ := h1
  simp only [Prod.mk.injEq] at hpe
  exact ⟨p, hp, hpe.1.symm, hpe.2.symm⟩
end
section
variable {κ ν : Type} [DecidableEq κ] {kf : κ → V} {vf : ν → V} {es : List (V × V × Nat)} {c : Nat} {l : List (κ × ν)}
theorem mfind_eq (hk : ∀ a b, eqV (kf a).cells (kf b).cells = decide (a = b)) (a : κ) : ∀ (es : List (V × V × Nat)) (l : List (κ × ν)), es.map (fun e => (e.1, e.2.1)) = l.map (fun p => (kf p.1, vf p.2)) → mfind (kf a) es = (aget a l).map vf
  | [], [], _ => rfl
  | e :: es, p :: l, h => by
    simp only [List.map_cons, List.cons.injEq, Prod.mk.injEq] at h
    simp only [mfind, aget, h.1.1, hk, decide_eq_true_eq]
    split
    · simp [h.1.2]
    · exact mfind_eq hk a es l h.2
  | [], _ :: _, h => by simp at h
  | _ :: _, [], h => by simp at h
theorem Mp.find (hk : ∀ a b, eqV (kf a).cells (kf b).cells = decide (a = b)) (h : Mp kf vf es c l) (a : κ) : mfind (kf a) es = (aget a l).map vf := mfind_eq hk a es l h.eq
theorem mset_eq (hk : ∀ a b, eqV (kf a).cells (kf b).cells = decide (a = b)) (a : κ) (v : ν) (c : Nat) : ∀ (es : List (V × V × Nat)) (l : List (κ × ν)), es.map (fun e => (e.1, e.2.1)) = l.map (fun p => (kf p.1, vf p.2)) →
    (mset (kf a) (vf v) c es).map (fun e => (e.1, e.2.1)) = (aset a v l).map (fun p => (kf p.1, vf p.2)) ∧ (mset (kf a) (vf v) c es).map (·.2.2) = if (aget a l).isSome = true then es.map (·.2.2) else es.map (·.2.2) ++ [c]
  | [], [], _ => by simp [mset, aset, aget]
  | e :: es, p :: l, h => by
    simp only [List.map_cons, List.cons.injEq, Prod.mk.injEq] at h
    simp only [mset, aset, aget, h.1.1, hk, decide_eq_true_eq]
    split
    · simp [h.2]
    · obtain ⟨h1, h2⟩ := mset_eq hk a v c es l h.2
      simp only [List.map_cons, h1, h2, h.1.1, h.1.2, true_and]
      split <;> simp
  | [], _ :: _, h => by simp at h
  | _ :: _, [], h => by simp at h
theorem Mp.set (hk : ∀ a b, eqV (kf a).cells (kf b).cells = decide (a = b)) (h : Mp kf vf es c l) (a : κ) (v : ν) : Mp kf vf (mset (kf a) (vf v) c es) (mclk es (kf a) c) (aset a v l) := by
  obtain ⟨h1, h2⟩ := mset_eq hk a v c es l h.eq
  have hf := Mp.find hk h a
  have hlt : ∀ x ∈ es.map (·.2.2), x < c := fun x hx => by
    obtain ⟨e, he, rfl⟩ := List.mem_map.1 hx
    exact h.lt e he
  refine ⟨h1, ?_, fun e he => ?_⟩
  · rw [h2]
    split
    · exact h.inc
    · rw [List.pairwise_append]
      exact ⟨h.inc, by simp, fun x hx y hy => by simp at hy; subst hy; exact hlt x hx⟩
  · have he' : e.2.2 ∈ (mset (kf a) (vf v) c es).map (·.2.2) := List.mem_map.2 ⟨e, he, rfl⟩
    rw [h2] at he'
    unfold mclk
    rw [hf]
    cases hg : aget a l with
    | none =>
      rw [hg, if_neg (by simp)] at he'
      simp only [Option.isSome_none, Bool.false_eq_true, ↓reduceIte, Option.map_none]
      rcases List.mem_append.1 he' with h' | h'
      · have := hlt _ h'; omega
      · simp at h'; omega
    | some v =>
      rw [hg, if_pos (by simp)] at he'
      simp only [Option.isSome_some, ↓reduceIte, Option.map_some]
      exact hlt _ he'
theorem mdel_eq (hk : ∀ a b, eqV (kf a).cells (kf b).cells = decide (a = b)) (a : κ) : ∀ (es : List (V × V × Nat)) (l : List (κ × ν)), es.map (fun e => (e.1, e.2.1)) = l.map (fun p => (kf p.1, vf p.2)) →
    (mdel (kf a) es).map (fun e => (e.1, e.2.1)) = (adel a l).map (fun p => (kf p.1, vf p.2)) ∧ (mdel (kf a) es).Sublist es
  | [], [], _ => by simp [mdel, adel]
  | e :: es, p :: l, h => by
    simp only [List.map_cons, List.cons.injEq, Prod.mk.injEq] at h
    simp only [mdel, adel, h.1.1, hk, decide_eq_true_eq]
    split
    · exact ⟨h.2, List.sublist_cons_self _ _⟩
    · obtain ⟨h1, h2⟩ := mdel_eq hk a es l h.2
      exact ⟨by simp only [List.map_cons, h1, h.1.1, h.1.2], h2.cons_cons _⟩
  | [], _ :: _, h => by simp at h
  | _ :: _, [], h => by simp at h
theorem Mp.del (hk : ∀ a b, eqV (kf a).cells (kf b).cells = decide (a = b)) (h : Mp kf vf es c l) (a : κ) : Mp kf vf (mdel (kf a) es) c (adel a l) := by
  obtain ⟨h1, h2⟩ := mdel_eq hk a es l h.eq
  exact ⟨h1, h.inc.sublist (h2.map _), fun e he => h.lt e (h2.subset he)⟩
/-- 'm[k] = v' in two steps: the entry, then its value. -/
theorem mborn_eq (hk : ∀ a b, eqV (kf a).cells (kf b).cells = decide (a = b)) (a : κ) (v w : ν) (c : Nat) : ∀ (es : List (V × V × Nat)) (l : List (κ × ν)), es.map (fun e => (e.1, e.2.1)) = l.map (fun p => (kf p.1, vf p.2)) → (es.map (·.2.2)).Pairwise (· < ·) → (∀ e ∈ es, e.2.2 < c) →
    mstamp (mborn (kf a) c es) (vf v) (mset (kf a) (vf w) c es) = mset (kf a) (vf v) c es ∧ ∃ e ∈ mset (kf a) (vf w) c es, e.2.2 = mborn (kf a) c es
  | [], [], _, _, _ => by simp [mset, mborn, mstamp]
  | e :: es, p :: l, h, hi, hl => by
    simp only [List.map_cons, List.cons.injEq, Prod.mk.injEq] at h
    simp only [List.map_cons, List.pairwise_cons] at hi
    simp only [mset, mborn, h.1.1, hk, decide_eq_true_eq]
    split
    · simp [mstamp]
    · obtain ⟨h1, e', he', h2⟩ := mborn_eq hk a v w c es l h.2 hi.2 (fun x hx => hl x (List.mem_cons_of_mem _ hx))
      have hne : e.2.2 ≠ mborn (kf a) c es := by
        have : mborn (kf a) c es = c ∨ mborn (kf a) c es ∈ es.map (·.2.2) := by
          clear h1 he' h2 hi hl h
          induction es with
          | nil => left; rfl
          | cons x es ih =>
            simp only [mborn]
            split
            · right; simp
            · rcases ih with h | h
              · exact .inl h
              · right; simp only [List.map_cons, List.mem_cons]; exact .inr h
        rcases this with h | h
        · rw [h]; have := hl e (by simp); omega
        · have := hi.1 _ h; omega
      refine ⟨?_, e', List.mem_cons_of_mem _ he', h2⟩
      simp only [mstamp, if_neg hne, h1]
  | [], _ :: _, h, _, _ => by simp at h
  | _ :: _, [], h, _, _ => by simp at h
theorem Mp.two (hk : ∀ a b, eqV (kf a).cells (kf b).cells = decide (a = b)) (h : Mp kf vf es c l) (a : κ) (v w : ν) : mstamp (mborn (kf a) c es) (vf v) (mset (kf a) (vf w) c es) = mset (kf a) (vf v) c es ∧ ∃ e ∈ mset (kf a) (vf w) c es, e.2.2 = mborn (kf a) c es := mborn_eq hk a v w c es l h.eq h.inc h.lt
end
section
variable {κ ν : Type} {kf : κ → V} {vf : ν → V} {es : List (V × V × Nat)} {c : Nat} {l : List (κ × ν)}

/-! ### Going through a map -/
structure Going (es : List (V × V × Nat)) (seen ix : List Nat) : Prop where
  nd : ix.Nodup
  lt : ∀ i ∈ ix, i < es.length
  eq : seen = ix.map fun i => ((es[i]?).map (·.2.2)).getD 0
theorem Going.nil : Going es [] [] := ⟨.nil, fun i hi => (by cases hi), rfl⟩
theorem pairwise_inj {l : List Nat} (h : l.Pairwise (· < ·)) {i j : Nat} {x : Nat} (hi : l[i]? = some x) (hj : l[j]? = some x) : i = j := by
  have h1 := (List.getElem?_eq_some_iff.1 hi)
  have h2 := (List.getElem?_eq_some_iff.1 hj)
  obtain ⟨hi1, hi2⟩ := h1
  obtain ⟨hj1, hj2⟩ := h2
  rcases Nat.lt_trichotomy i j with hlt | rfl | hlt
  · have := List.pairwise_iff_getElem.1 h i j hi1 hj1 hlt; omega
  · rfl
  · have := List.pairwise_iff_getElem.1 h j i hj1 hi1 hlt; omega
theorem Going.step {seen ix : List Nat} (h : Mp kf vf es c l) (g : Going es seen ix) {e : V × V × Nat} (he : e ∈ es) (hs : e.2.2 ∉ seen) :
    ∃ i p, i ∉ ix ∧ es[i]? = some e ∧ l[i]? = some p ∧ e.1 = kf p.1 ∧ e.2.1 = vf p.2 ∧ Going es (seen ++ [e.2.2]) (ix ++ [i]) := by
  obtain ⟨i, hi⟩ := List.mem_iff_getElem?.1 he
  obtain ⟨p, hp, h1, h2⟩ := h.at hi
  have hn : i ∉ ix := fun hx => hs (by rw [g.eq]; exact List.mem_map.2 ⟨i, hx, by rw [hi]; rfl⟩)
  refine ⟨i, p, hn, hi, hp, h1, h2, ?_, fun j hj => ?_, ?_⟩
  · rw [List.nodup_append]
    exact ⟨g.nd, by simp, fun x hx y hy => by simp at hy; subst hy; exact fun e => hn (e ▸ hx)⟩
  · rcases List.mem_append.1 hj with hj | hj
    · exact g.lt j hj
    · simp at hj; subst hj; exact (List.getElem?_eq_some_iff.1 hi).1
  · rw [g.eq, List.map_append]
    simp [hi]
theorem Going.done {seen ix : List Nat} (h : Mp kf vf es c l) (g : Going es seen ix) (hall : ∀ e ∈ es, e.2.2 ∈ seen) : ∀ i, i < l.length → i ∈ ix := fun i hi => by
  rw [← h.len] at hi
  have hi' := List.getElem?_eq_getElem hi
  have := hall _ (List.mem_of_getElem? hi')
  rw [g.eq] at this
  obtain ⟨j, hj, hje⟩ := List.mem_map.1 this
  have hjl := g.lt j hj
  have hj' := List.getElem?_eq_getElem hjl
  rw [hj'] at hje
  simp only [Option.map_some, Option.getD_some] at hje
  have : i = j := pairwise_inj h.inc (x := es[i].2.2) (by simp [hi']) (by simp [hj', hje])
  exact this ▸ hj
theorem Going.perm {seen ix : List Nat} (h : Mp kf vf es c l) (g : Going es seen ix) (hall : ∀ e ∈ es, e.2.2 ∈ seen) : ix.Perm (List.range l.length) := by
  refine (List.perm_ext_iff_of_nodup g.nd List.nodup_range).2 fun i => ?_
  rw [List.mem_range]
  exact ⟨fun hi => by have := g.lt i hi; rw [h.len] at this; exact this, g.done h hall i⟩
theorem Going.len {seen ix : List Nat} (g : Going es seen ix) : ix.length ≤ es.length := by
  have := g.nd.length_le_of_subset (l₂ := List.range es.length) (fun i hi => List.mem_range.2 (g.lt i hi))
  simpa using this
theorem Going.seenLen {seen ix : List Nat} (g : Going es seen ix) : seen.length = ix.length := by rw [g.eq]; simp
/-- The entry that one is at. -/
theorem Mp.ent (h : Mp kf vf es c l) {e : V × V × Nat} (he : e ∈ es) {seen : List Nat} : es.find? (fun x => some x.2.2 == (seen ++ [e.2.2]).getLast?) = some e := by
  obtain ⟨i, hi⟩ := List.mem_iff_getElem?.1 he
  obtain ⟨hi1, hi2⟩ := List.getElem?_eq_some_iff.1 hi
  rw [List.getLast?_concat]
  refine List.find?_eq_some_iff_getElem.2 ⟨by simp, i, hi1, hi2, fun j hj => ?_⟩
  have := List.pairwise_iff_getElem.1 h.inc j i (by simp; omega) (by simpa using hi1) hj
  simp only [List.getElem_map, hi2] at this
  simp only [Option.some_beq_some, Bool.not_eq_true', beq_eq_false_iff_ne, ne_eq]
  omega
end
end
end Go.Proofs.Ytlngegoamfklgaa
