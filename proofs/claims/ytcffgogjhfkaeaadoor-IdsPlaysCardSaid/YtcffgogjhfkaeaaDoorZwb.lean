/- Steps of the proof, joined: VSortO6, VSortB0, VSortB, VSortO7, VSortU, VIdsP, VRowB, VSortN, VIdsPL, Open, VEnter, VSeat, VIdsSeat, VOpenB. -/
import Derived.Test.YtcffgogjhfkaeaaDoorZwa
import Derived.Test.YtcffgogjhfkaeaaDoorZec
import Derived.Test.YtcffgogjhfkaeaaDoorVc
import Derived.ProofKit
import Derived.OpenShut
import Derived.Deep.Slices
import Derived.Test.YtcffgogjhfkaeaaDoorRows
import Derived.Lib.LaidTab
import Derived.LaidMore
import Derived.MakeChecks
import Derived.Test.YtcffgogjhfkaeaaDoorPc
namespace Go.Proofs.YtcffgogjhfkaeaaDoor
open Go
attribute [local go_sem] run_skip run_reg run_seq run_blk run_exit run_ret run_cond if_true if_false at_code_n at_code_x at_code_r at_blk_n at_blk_x at_blk_r at_rnd_n at_rnd_x at_rnd_r at_fin_n at_fin_r ops_nil ops_grd grd_und grd_tt grd_ff grd_tf grd_ft ops_mv ops_pick ops_bin ops_un ops_binb ops_eqs ops_isnil ops_pnil ops_b2s ops_s2b ops_b2sB ops_s2a ops_slcA ops_aidx vaidx vb2sB vs2a vslcA ops_sidx vs2b vsidx srcX ops_appx apx_mk ops_mks ops_mko mks_int mko_int vbinb veqs visnil vpnil vb2s ops_conv ops_fld ops_ix ops_ixa ops_load ops_nilck ops_ext ops_len ops_slen ops_mn ops_mx ops_bld ops_bsl ops_slc ops_sslc ops_box ops_alc ops_alcX ops_boxX ops_bslo ops_store ops_app ops_call ev_t ev_c put_get put_none opv_mk stb_some sto_ptr over_get rel_mk vnat Bx Stp vbld vbsl put_box_same put_box_ne put_sz put_own use_box use_sz put_put args0 List.getD_cons_zero List.getD_cons_succ List.getD_nil vpick vbin vbinI vbinS vun vconv norm vfld vnil vlen vslen vext vmm vix vixa vload takeV takeB mono_nil mono_two mono_sc mono_any mono_und mono_sl mono_agg mono_ep vmlk vmlen vmnil vent vmfn allSc vslc3 kOk fitsV ops_mlk ops_mlen ops_mnil ops_ent ops_mfn ops_slc3 ops_mkm ops_mup mup_map mub_some ops_mdel mdl_nil mdl_map mdb_some ops_rng rng_none rng_map rgb_some ops_nxt ops_ment met_map meb_some ops_est est_map esb_some ops_clr clr_nil clr_box clb_some ops_calv clv_func vslc vsslc fillV splice V.cells strip strip1 allLen ptrV obsOk shAmt IntKind.bits List.map_cons List.map_nil List.length_cons List.length_nil List.getElem?_cons_zero List.getElem?_cons_succ List.take_succ_cons List.take_zero List.drop_succ_cons List.drop_zero List.cons_append List.nil_append List.append_nil List.take_nil List.drop_nil Option.map_some Option.map_none and_true true_and Int.toNat_natCast Nat.min_def Nat.zero_add Nat.add_zero Nat.zero_mul Nat.mul_one Nat.one_mul vret rvAll rvVal resv_1 resv_2 decide_true decide_false Int.lt_irrefl Bool.not_true Bool.not_false ne_eq not_true_eq_false not_false_eq_true eq_self Bool.true_eq_false Bool.false_eq_true List.contains_cons List.contains_nil Bool.false_or Bool.true_or Bool.or_false Bool.or_true List.mem_cons List.not_mem_nil or_false or_true true_or false_or mono_bs ops_aidxn vaidxn ops_fv vfv ops_mki vmki ops_inv ops_cpy cpy_box cpb_some at_finp_n at_finp_r vretp rpAll rpVal vpv resp_0 resp_1 resp_2 Nat.reduceEqDiff Nat.reduceAdd Nat.reduceMul Nat.reduceSub Nat.reduceLT Nat.reduceLeDiff Int.reduceToNat Int.reduceLE Int.reduceLT Int.reducePow Int.reduceMul Int.reduceAdd Int.reduceSub Int.reduceNeg Int.reduceEq Int.reduceMod Int.reduceDiv Nat.reducePow Nat.reduceMod Nat.reduceDiv reduceCtorEq Nat.reduceBEq
section
open Go
structure SortsO (P : Program) (f less fins fheap fbreak fpivot frev fpart fequal fsplit fsift fa fm fo fpow fnext : FuncId) : Prop where
  pdq : cFun P f = some (OPdq fins fheap fbreak fpivot frev fpart less fequal fsplit f)
  ins : cFun P fins = some (OIns less)
  heap : cFun P fheap = some (OHeap fsift)
  sift : cFun P fsift = some (OSift less)
  brk : cFun P fbreak = some (OBreak fpow fnext)
  pivot : cFun P fpivot = some (OPivot fa fm)
  meda : cFun P fa = some (OMedA fm)
  med : cFun P fm = some (OMed fo)
  ord2 : cFun P fo = some (OOrd2 less)
  rev : cFun P frev = some ORev
  part : cFun P fpart = some (OPart less)
  equal : cFun P fequal = some (OEqual less)
  split : cFun P fsplit = some (OSplit less)
  pow : ∀ (st : St) (n : Nat), 0 < n → n < 4611686018427387904 → VCalls P fpow [.sc (.int .i64 n)] st fun v s => st = s ∧ ∃ m : Nat, n < m ∧ m ≤ 2 * n ∧ v = .sc (.int .u64 m)
  next : ∀ (st : St) (r : Nat) (x : Int), VCalls P fnext [ptrV r] (st.put r [.sc (.int .u64 x)]) fun v s => ∃ y, v = .sc (.int .u64 y) ∧ s = st.put r [.sc (.int .u64 y)]
section
variable {P : Program} {α : Type} [Inhabited α] {val : α → Value} {lt : α → α → Bool} {less f fsift : FuncId} {st : St} {b cap a c : Nat} {L : List α} {sp : List V}
variable {fins fheap fbreak fpivot frev fpart fequal fsplit fa fm fo fpow fnext : FuncId}
set_option maxRecDepth 100000 in
set_option maxHeartbeats 64000000 in
theorem opdq_v (hc : SortsO P f less fins fheap fbreak fpivot frev fpart fequal fsplit fsift fa fm fo fpow fnext) (E : Elt P less val lt) : ∀ (n a c : Nat) (L : List α) (lim : Int), c - a ≤ n → a ≤ c → c ≤ L.length → L.length < 4611686018427387904 → 0 ≤ lim → lim < 4611686018427387904 → LB lt a c L → mono (row val L sp) →
    VCalls P f [dataV b L.length cap, .sc (.int .i64 a), .sc (.int .i64 c), .sc (.int .i64 lim)] (st.put b (row val L sp)) fun _ s => ∃ M, Mix a c L M ∧ Srt lt a c M ∧ s = st.put b (row val M sp) := by
  intro n
  induction n using Nat.strongRecOn with
  | _ n ih =>
  intro a c L lim hn h1 h2 hl hl0 hl1 hLB hmo
  refine vcalls_enter hc.pdq (Nat.le_of_ble_eq_true rfl) fun hwf hok => ?_
  show Run _ (OPdq fins fheap fbreak fpivot frev fpart less fequal fsplit f).body (.fin (finQ (OPdq fins fheap fbreak fpivot frev fpart less fequal fsplit f).res _)) _ _
  unfold OPdq
  simp (maxSteps := 3000000) only [go_sem, dataV]
  refine run_loop [1, 2, 3, 8, 9, 10, 11, 12, 13, 14, 15, 16, 17, 18, 19, 20, 21, 22, 23, 24, 25, 26, 27, 28, 29, 30, 31, 32, 33, 34, 35, 36, 37, 38, 39, 40, 41, 42, 43, 44, 45, 46, 47, 48, 49, 50, 51, 52, 53, 54, 55, 56, 57, 58, 59, 60, 61, 62, 63, 64, 65, 66, 67, 68, 69, 70, 71, 72, 73, 74, 75, 76, 77, 78, 79, 80, 81, 82, 83, 84, 85, 86, 87, 88, 89, 90, 91, 92, 93, 94, 95, 96, 97, 98, 99, 100, 101, 102, 103, 104, 105, 106, 107, 108, 109, 110, 111, 112, 113, 114, 115, 116, 117, 118, 119, 120, 121, 122, 123, 124, 125, 126, 127, 128, 129, 130, 131, 132, 133] (fun B s => ∃ (x y : Nat) (M : List α) (lim : Int) (B1 B2 : Bool), B 1 = .sc (.int .i64 x) ∧ B 2 = .sc (.int .i64 y) ∧ B 3 = .sc (.int .i64 lim) ∧ B 8 = .sc (.bool B1) ∧ B 9 = .sc (.bool B2) ∧ a ≤ x ∧ x ≤ y ∧ y ≤ c ∧ 0 ≤ lim ∧ lim < 4611686018427387904 ∧ Mix a c L M ∧ Fence lt a c x y M ∧ s = st.put b (row val M sp)) (fun B _ => vnat (B 2) - vnat (B 1)) rfl ?_ ?_
  · simp (maxSteps := 3000000) only [go_sem, ↓reduceIte]
    exact ⟨a, c, L, lim, true, true, rfl, rfl, rfl, rfl, rfl, by omega, by omega, by omega, hl0, hl1, .refl, Fence.nil, rfl⟩
  · clear hl0 hl1
    rintro B s ⟨x, y, M, lim, B1, B2, q1, q2, q3, q8, q9, hax, hxy, hyc, hl0, hl1, hM, hF, rfl⟩
    have hlen := hM.len
    have e0 : (y : Int) - (x : Int) = ((y - x : Nat) : Int) := by omega
    by_cases c12 : ((y - x : Nat) : Int) ≤ 12
    · simp (maxSteps := 3000000) only [go_sem, ↓reduceIte, q1, q2, e0, decide_eq_true c12]
      repeat (apply And.intro; focus (first | omega | (simp; done)))
      have cc := oins_v (st := st) (b := b) (cap := cap) (sp := sp) hc.ins E (row_mono hmo hlen) (L := M) (a := x) (c := y) (by omega) (by omega) (by omega)
      rw [hlen, dataV] at cc
      refine Cal.mk cc ?_
      rintro _ _ ⟨N, n1, n2, rfl⟩ -
      clear cc
      simp (maxSteps := 3000000) only [go_sem]
      have hfin := hF.fin hM hax hyc h2 n1 n2
      exact ⟨_, _, Wk.refl _, weak_re hwf, N, hfin.1, hfin.2, rfl⟩
    · by_cases cl : lim = 0
      · simp (maxSteps := 3000000) only [go_sem, ↓reduceIte, q1, q2, q3, e0, decide_eq_false c12, decide_eq_true cl]
        repeat (apply And.intro; focus (first | omega | (simp; done)))
        have cc := oheap_v (st := st) (b := b) (cap := cap) (sp := sp) hc.heap hc.sift E (row_mono hmo hlen) (L := M) (a := x) (c := y) (by omega) (by omega) (by omega)
        rw [hlen, dataV] at cc
        refine Cal.mk cc ?_
        rintro _ _ ⟨N, n1, n2, rfl⟩ -
        clear cc
        simp (maxSteps := 3000000) only [go_sem]
        have hfin := hF.fin hM hax hyc h2 n1 n2
        exact ⟨_, _, Wk.refl _, weak_re hwf, N, hfin.1, hfin.2, rfl⟩
      · cases B1
        · simp (maxSteps := 3000000) only [go_sem, ↓reduceIte, q1, q2, q3, q8, e0, decide_eq_false c12, decide_eq_false cl]
          repeat (apply And.intro; focus (first | omega | (simp; done)))
          have cc := obreak_v (st := st) (b := b) (cap := cap) (sp := sp) hc.brk hc.pow hc.next (L := M) (a := x) (c := y) (by omega) (by omega) (row_mono hmo hlen) (by omega)
          rw [hlen, dataV] at cc
          refine Cal.mk cc ?_
          rintro _ _ ⟨N, n1, rfl⟩ -
          clear cc
          simp (maxSteps := 3000000) only [go_sem, ↓reduceIte, q1, q2, q3]
          repeat (apply And.intro; focus (first | omega | (simp; done)))
          have hF := hF.mix n1 hax hyc (by omega)
          have hM := hM.trans (n1.wide hax hyc)
          have hlen := hM.len
          obtain ⟨lim', el⟩ : ∃ l, l = lim - 1 := ⟨_, rfl⟩
          rw [← el]
          have hl0 : 0 ≤ lim' := by omega
          have hl1 : lim' < 4611686018427387904 := by omega
          clear n1
          generalize N = M at hF hM hlen ⊢
          have cc := opivot_v (st := st) (b := b) (cap := cap) (sp := sp) hc.pivot hc.meda hc.med hc.ord2 E (L := M) (a := x) (c := y) (by omega) (by omega) (row_mono hmo hlen) (by omega)
          rw [hlen, dataV] at cc
          refine Cal.mk cc ?_
          rintro _ _ ⟨pv, hint, p1, p2, rfl, rfl⟩ -
          clear cc
          by_cases k2 : hint = 2
          · simp (maxSteps := 3000000) only [go_sem, ↓reduceIte, q1, q2, decide_eq_true k2]
            repeat (apply And.intro; focus (first | omega | (simp; done)))
            have cc := orev_v (st := st) (b := b) (cap := cap) (sp := sp) hc.rev (row_mono hmo hlen) (L := M) (a := x) (c := y) (by omega) (by omega) (by omega)
            rw [hlen, dataV] at cc
            refine Cal.mk cc ?_
            rintro _ _ ⟨N, n1, rfl⟩ -
            clear cc
            have hF := hF.mix n1 hax hyc (by omega)
            have hM := hM.trans (n1.wide hax hyc)
            have hlen := hM.len
            have ep : (y : Int) - 1 - ((pv : Int) - (x : Int)) = ((y - 1 - (pv - x) : Nat) : Int) := by omega
            obtain ⟨pw, epw⟩ : ∃ pw, pw = y - 1 - (pv - x) := ⟨_, rfl⟩
            have p1 : x ≤ pw := by omega
            have p2 : pw < y := by omega
            rw [← epw] at ep
            clear n1 epw
            generalize N = M at hF hM hlen ⊢
            simp (maxSteps := 3000000) only [go_sem, ↓reduceIte, q1, q2, q8, ep]
            repeat (apply And.intro; focus (first | omega | (simp; done)))
            clear ep
            generalize pw = pv at p1 p2 ⊢
            have hLM := hLB.mix hM h2
            have hLx := hF.lb hLM hax hyc
            by_cases cx : 0 < x
            · have ex : ((x : Int) - 1).toNat = x - 1 := by omega
              simp (maxSteps := 3000000) only [go_sem, ↓reduceIte, q1, ex, decide_eq_true (show (0 : Int) < (x : Int) by omega), row_get (show x - 1 < M.length by omega), row_get (show pv < M.length by omega)]
              repeat (apply And.intro; focus (first | omega | (simp; done)))
              refine Cal.mk (E.less _ _ _) ?_
              rintro _ _ ⟨rfl, rfl⟩ -
              cases cq : lt M[x - 1]! M[pv]!
              · simp (maxSteps := 3000000) only [go_sem, ↓reduceIte, q1, q2]
                have cc := oequal_v (st := st) (b := b) (cap := cap) (sp := sp) hc.equal E (row_mono hmo hlen) (p := pv) (by omega) (by omega) (by omega) (by omega) (L := M) (a := x) (c := y)
                rw [hlen, dataV] at cc
                refine Cal.mk cc ?_
                rintro _ _ ⟨m, N, n1, n2, n3, n4, n5, rfl, rfl⟩ -
                clear cc
                simp (maxSteps := 3000000) only [go_sem, ↓reduceIte, q2, q8, q9]
                repeat (apply And.intro; focus (first | omega | (simp; done)))
                exact ⟨⟨m, y, N, lim', _, _, rfl, rfl, rfl, rfl, rfl, by omega, by omega, by omega, hl0, hl1, hM.trans (n3.wide hax hyc), hF.goE E.ord hLx cx cq hax hyc n1 n2 (by omega) n3 n4, rfl⟩, by omega⟩
              · simp (maxSteps := 3000000) only [go_sem, ↓reduceIte, q1, q2]
                have cc := osplit_v (st := st) (b := b) (cap := cap) (sp := sp) hc.split E (row_mono hmo hlen) (p := pv) (by omega) (by omega) (by omega) (by omega) (L := M) (a := x) (c := y)
                rw [hlen, dataV] at cc
                refine Cal.mk cc ?_
                rintro _ _ ⟨m, B3, N, n1, n2, n3, n4, n5, rfl, rfl⟩ -
                clear cc
                have hlN : N.length = L.length := n3.len.trans hlen
                have hMN : Mix a c L N := hM.trans (n3.wide hax hyc)
                have hFN := hF.mix n3 hax hyc (by omega)
                have hLN := hLx.mix n3 (by omega)
                have e4 : (m : Int) - (x : Int) = ((m - x : Nat) : Int) := by omega
                have e5 : (y : Int) - (m : Int) = ((y - m : Nat) : Int) := by omega
                have e6 : (m : Int) + 1 = ((m + 1 : Nat) : Int) := by simp
                clear hM hF hLx hLM n3
                by_cases cl : ((m - x : Nat) : Int) < ((y - m : Nat) : Int)
                · simp (maxSteps := 3000000) only [go_sem, ↓reduceIte, q1, q2, e4, e5, decide_eq_true cl]
                  repeat (apply And.intro; focus (first | omega | (simp; done)))
                  have cc := ih (m - x) (by omega) x m N lim' (Nat.le_refl _) (by omega) (by omega) (by omega) hl0 hl1 (hLN.part (by omega)) (row_mono hmo hlN)
                  rw [hlN, dataV] at cc
                  refine Cal.mk cc ?_
                  rintro _ _ ⟨R, r1, r2, rfl⟩ -
                  clear cc
                  simp (maxSteps := 3000000) only [go_sem, ↓reduceIte, q2, e6]
                  repeat (apply And.intro; focus (first | omega | (simp; done)))
                  exact ⟨⟨m + 1, y, R, lim', _, _, rfl, rfl, rfl, rfl, rfl, by omega, by omega, by omega, hl0, hl1, hMN.trans (r1.wide (by omega) (by omega)), hFN.goL E.ord hax hyc (by omega) (by omega) (by omega) n4 n5 r1 r2, rfl⟩, by omega⟩
                · simp (maxSteps := 3000000) only [go_sem, ↓reduceIte, q1, q2, e4, e5, e6, decide_eq_false cl]
                  repeat (apply And.intro; focus (first | omega | (simp; done)))
                  have cc := ih (y - (m + 1)) (by omega) (m + 1) y N lim' (Nat.le_refl _) (by omega) (by omega) (by omega) hl0 hl1 (LB.next n5) (row_mono hmo hlN)
                  rw [hlN, dataV] at cc
                  refine Cal.mk cc ?_
                  rintro _ _ ⟨R, r1, r2, rfl⟩ -
                  clear cc
                  simp (maxSteps := 3000000) only [go_sem, ↓reduceIte, q1]
                  repeat (apply And.intro; focus (first | omega | (simp; done)))
                  exact ⟨⟨x, m, R, lim', _, _, rfl, rfl, rfl, rfl, rfl, by omega, by omega, by omega, hl0, hl1, hMN.trans (r1.wide (by omega) (by omega)), hFN.goR E.ord hax hyc (by omega) (by omega) (by omega) n4 n5 r1 r2, rfl⟩, by omega⟩
            · simp (maxSteps := 3000000) only [go_sem, ↓reduceIte, q1, q2, decide_eq_false (show ¬ (0 : Int) < (x : Int) by omega)]
              have cc := osplit_v (st := st) (b := b) (cap := cap) (sp := sp) hc.split E (row_mono hmo hlen) (p := pv) (by omega) (by omega) (by omega) (by omega) (L := M) (a := x) (c := y)
              rw [hlen, dataV] at cc
              refine Cal.mk cc ?_
              rintro _ _ ⟨m, B3, N, n1, n2, n3, n4, n5, rfl, rfl⟩ -
              clear cc
              have hlN : N.length = L.length := n3.len.trans hlen
              have hMN : Mix a c L N := hM.trans (n3.wide hax hyc)
              have hFN := hF.mix n3 hax hyc (by omega)
              have hLN := hLx.mix n3 (by omega)
              have e4 : (m : Int) - (x : Int) = ((m - x : Nat) : Int) := by omega
              have e5 : (y : Int) - (m : Int) = ((y - m : Nat) : Int) := by omega
              have e6 : (m : Int) + 1 = ((m + 1 : Nat) : Int) := by simp
              clear hM hF hLx hLM n3
              by_cases cl : ((m - x : Nat) : Int) < ((y - m : Nat) : Int)
              · simp (maxSteps := 3000000) only [go_sem, ↓reduceIte, q1, q2, e4, e5, decide_eq_true cl]
                repeat (apply And.intro; focus (first | omega | (simp; done)))
                have cc := ih (m - x) (by omega) x m N lim' (Nat.le_refl _) (by omega) (by omega) (by omega) hl0 hl1 (hLN.part (by omega)) (row_mono hmo hlN)
                rw [hlN, dataV] at cc
                refine Cal.mk cc ?_
                rintro _ _ ⟨R, r1, r2, rfl⟩ -
                clear cc
                simp (maxSteps := 3000000) only [go_sem, ↓reduceIte, q2, e6]
                repeat (apply And.intro; focus (first | omega | (simp; done)))
                exact ⟨⟨m + 1, y, R, lim', _, _, rfl, rfl, rfl, rfl, rfl, by omega, by omega, by omega, hl0, hl1, hMN.trans (r1.wide (by omega) (by omega)), hFN.goL E.ord hax hyc (by omega) (by omega) (by omega) n4 n5 r1 r2, rfl⟩, by omega⟩
              · simp (maxSteps := 3000000) only [go_sem, ↓reduceIte, q1, q2, e4, e5, e6, decide_eq_false cl]
                repeat (apply And.intro; focus (first | omega | (simp; done)))
                have cc := ih (y - (m + 1)) (by omega) (m + 1) y N lim' (Nat.le_refl _) (by omega) (by omega) (by omega) hl0 hl1 (LB.next n5) (row_mono hmo hlN)
                rw [hlN, dataV] at cc
                refine Cal.mk cc ?_
                rintro _ _ ⟨R, r1, r2, rfl⟩ -
                clear cc
                simp (maxSteps := 3000000) only [go_sem, ↓reduceIte, q1]
                repeat (apply And.intro; focus (first | omega | (simp; done)))
                exact ⟨⟨x, m, R, lim', _, _, rfl, rfl, rfl, rfl, rfl, by omega, by omega, by omega, hl0, hl1, hMN.trans (r1.wide (by omega) (by omega)), hFN.goR E.ord hax hyc (by omega) (by omega) (by omega) n4 n5 r1 r2, rfl⟩, by omega⟩
          · simp (maxSteps := 3000000) only [go_sem, ↓reduceIte, q1, q8, decide_eq_false k2]
            repeat (apply And.intro; focus (first | omega | (simp; done)))
            have hLM := hLB.mix hM h2
            have hLx := hF.lb hLM hax hyc
            by_cases cx : 0 < x
            · have ex : ((x : Int) - 1).toNat = x - 1 := by omega
              simp (maxSteps := 3000000) only [go_sem, ↓reduceIte, q1, ex, decide_eq_true (show (0 : Int) < (x : Int) by omega), row_get (show x - 1 < M.length by omega), row_get (show pv < M.length by omega)]
              repeat (apply And.intro; focus (first | omega | (simp; done)))
              refine Cal.mk (E.less _ _ _) ?_
              rintro _ _ ⟨rfl, rfl⟩ -
              cases cq : lt M[x - 1]! M[pv]!
              · simp (maxSteps := 3000000) only [go_sem, ↓reduceIte, q1, q2]
                have cc := oequal_v (st := st) (b := b) (cap := cap) (sp := sp) hc.equal E (row_mono hmo hlen) (p := pv) (by omega) (by omega) (by omega) (by omega) (L := M) (a := x) (c := y)
                rw [hlen, dataV] at cc
                refine Cal.mk cc ?_
                rintro _ _ ⟨m, N, n1, n2, n3, n4, n5, rfl, rfl⟩ -
                clear cc
                simp (maxSteps := 3000000) only [go_sem, ↓reduceIte, q2, q8, q9]
                repeat (apply And.intro; focus (first | omega | (simp; done)))
                exact ⟨⟨m, y, N, lim', _, _, rfl, rfl, rfl, rfl, rfl, by omega, by omega, by omega, hl0, hl1, hM.trans (n3.wide hax hyc), hF.goE E.ord hLx cx cq hax hyc n1 n2 (by omega) n3 n4, rfl⟩, by omega⟩
              · simp (maxSteps := 3000000) only [go_sem, ↓reduceIte, q1, q2]
                have cc := osplit_v (st := st) (b := b) (cap := cap) (sp := sp) hc.split E (row_mono hmo hlen) (p := pv) (by omega) (by omega) (by omega) (by omega) (L := M) (a := x) (c := y)
                rw [hlen, dataV] at cc
                refine Cal.mk cc ?_
                rintro _ _ ⟨m, B3, N, n1, n2, n3, n4, n5, rfl, rfl⟩ -
                clear cc
                have hlN : N.length = L.length := n3.len.trans hlen
                have hMN : Mix a c L N := hM.trans (n3.wide hax hyc)
                have hFN := hF.mix n3 hax hyc (by omega)
                have hLN := hLx.mix n3 (by omega)
                have e4 : (m : Int) - (x : Int) = ((m - x : Nat) : Int) := by omega
                have e5 : (y : Int) - (m : Int) = ((y - m : Nat) : Int) := by omega
                have e6 : (m : Int) + 1 = ((m + 1 : Nat) : Int) := by simp
                clear hM hF hLx hLM n3
                by_cases cl : ((m - x : Nat) : Int) < ((y - m : Nat) : Int)
                · simp (maxSteps := 3000000) only [go_sem, ↓reduceIte, q1, q2, e4, e5, decide_eq_true cl]
                  repeat (apply And.intro; focus (first | omega | (simp; done)))
                  have cc := ih (m - x) (by omega) x m N lim' (Nat.le_refl _) (by omega) (by omega) (by omega) hl0 hl1 (hLN.part (by omega)) (row_mono hmo hlN)
                  rw [hlN, dataV] at cc
                  refine Cal.mk cc ?_
                  rintro _ _ ⟨R, r1, r2, rfl⟩ -
                  clear cc
                  simp (maxSteps := 3000000) only [go_sem, ↓reduceIte, q2, e6]
                  repeat (apply And.intro; focus (first | omega | (simp; done)))
                  exact ⟨⟨m + 1, y, R, lim', _, _, rfl, rfl, rfl, rfl, rfl, by omega, by omega, by omega, hl0, hl1, hMN.trans (r1.wide (by omega) (by omega)), hFN.goL E.ord hax hyc (by omega) (by omega) (by omega) n4 n5 r1 r2, rfl⟩, by omega⟩
                · simp (maxSteps := 3000000) only [go_sem, ↓reduceIte, q1, q2, e4, e5, e6, decide_eq_false cl]
                  repeat (apply And.intro; focus (first | omega | (simp; done)))
                  have cc := ih (y - (m + 1)) (by omega) (m + 1) y N lim' (Nat.le_refl _) (by omega) (by omega) (by omega) hl0 hl1 (LB.next n5) (row_mono hmo hlN)
                  rw [hlN, dataV] at cc
                  refine Cal.mk cc ?_
                  rintro _ _ ⟨R, r1, r2, rfl⟩ -
                  clear cc
                  simp (maxSteps := 3000000) only [go_sem, ↓reduceIte, q1]
                  repeat (apply And.intro; focus (first | omega | (simp; done)))
                  exact ⟨⟨x, m, R, lim', _, _, rfl, rfl, rfl, rfl, rfl, by omega, by omega, by omega, hl0, hl1, hMN.trans (r1.wide (by omega) (by omega)), hFN.goR E.ord hax hyc (by omega) (by omega) (by omega) n4 n5 r1 r2, rfl⟩, by omega⟩
            · simp (maxSteps := 3000000) only [go_sem, ↓reduceIte, q1, q2, decide_eq_false (show ¬ (0 : Int) < (x : Int) by omega)]
              have cc := osplit_v (st := st) (b := b) (cap := cap) (sp := sp) hc.split E (row_mono hmo hlen) (p := pv) (by omega) (by omega) (by omega) (by omega) (L := M) (a := x) (c := y)
              rw [hlen, dataV] at cc
              refine Cal.mk cc ?_
              rintro _ _ ⟨m, B3, N, n1, n2, n3, n4, n5, rfl, rfl⟩ -
              clear cc
              have hlN : N.length = L.length := n3.len.trans hlen
              have hMN : Mix a c L N := hM.trans (n3.wide hax hyc)
              have hFN := hF.mix n3 hax hyc (by omega)
              have hLN := hLx.mix n3 (by omega)
              have e4 : (m : Int) - (x : Int) = ((m - x : Nat) : Int) := by omega
              have e5 : (y : Int) - (m : Int) = ((y - m : Nat) : Int) := by omega
              have e6 : (m : Int) + 1 = ((m + 1 : Nat) : Int) := by simp
              clear hM hF hLx hLM n3
              by_cases cl : ((m - x : Nat) : Int) < ((y - m : Nat) : Int)
              · simp (maxSteps := 3000000) only [go_sem, ↓reduceIte, q1, q2, e4, e5, decide_eq_true cl]
                repeat (apply And.intro; focus (first | omega | (simp; done)))
                have cc := ih (m - x) (by omega) x m N lim' (Nat.le_refl _) (by omega) (by omega) (by omega) hl0 hl1 (hLN.part (by omega)) (row_mono hmo hlN)
                rw [hlN, dataV] at cc
                refine Cal.mk cc ?_
                rintro _ _ ⟨R, r1, r2, rfl⟩ -
                clear cc
                simp (maxSteps := 3000000) only [go_sem, ↓reduceIte, q2, e6]
                repeat (apply And.intro; focus (first | omega | (simp; done)))
                exact ⟨⟨m + 1, y, R, lim', _, _, rfl, rfl, rfl, rfl, rfl, by omega, by omega, by omega, hl0, hl1, hMN.trans (r1.wide (by omega) (by omega)), hFN.goL E.ord hax hyc (by omega) (by omega) (by omega) n4 n5 r1 r2, rfl⟩, by omega⟩
              · simp (maxSteps := 3000000) only [go_sem, ↓reduceIte, q1, q2, e4, e5, e6, decide_eq_false cl]
                repeat (apply And.intro; focus (first | omega | (simp; done)))
                have cc := ih (y - (m + 1)) (by omega) (m + 1) y N lim' (Nat.le_refl _) (by omega) (by omega) (by omega) hl0 hl1 (LB.next n5) (row_mono hmo hlN)
                rw [hlN, dataV] at cc
                refine Cal.mk cc ?_
                rintro _ _ ⟨R, r1, r2, rfl⟩ -
                clear cc
                simp (maxSteps := 3000000) only [go_sem, ↓reduceIte, q1]
                repeat (apply And.intro; focus (first | omega | (simp; done)))
                exact ⟨⟨x, m, R, lim', _, _, rfl, rfl, rfl, rfl, rfl, by omega, by omega, by omega, hl0, hl1, hMN.trans (r1.wide (by omega) (by omega)), hFN.goR E.ord hax hyc (by omega) (by omega) (by omega) n4 n5 r1 r2, rfl⟩, by omega⟩
        · simp (maxSteps := 3000000) only [go_sem, ↓reduceIte, q1, q2, q3, q8, e0, decide_eq_false c12, decide_eq_false cl]
          repeat (apply And.intro; focus (first | omega | (simp; done)))
          obtain ⟨lim', el⟩ : ∃ l, l = lim := ⟨_, rfl⟩
          rw [← el] at q3 hl0 hl1
          have cc := opivot_v (st := st) (b := b) (cap := cap) (sp := sp) hc.pivot hc.meda hc.med hc.ord2 E (L := M) (a := x) (c := y) (by omega) (by omega) (row_mono hmo hlen) (by omega)
          rw [hlen, dataV] at cc
          refine Cal.mk cc ?_
          rintro _ _ ⟨pv, hint, p1, p2, rfl, rfl⟩ -
          clear cc
          by_cases k2 : hint = 2
          · simp (maxSteps := 3000000) only [go_sem, ↓reduceIte, q1, q2, decide_eq_true k2]
            repeat (apply And.intro; focus (first | omega | (simp; done)))
            have cc := orev_v (st := st) (b := b) (cap := cap) (sp := sp) hc.rev (row_mono hmo hlen) (L := M) (a := x) (c := y) (by omega) (by omega) (by omega)
            rw [hlen, dataV] at cc
            refine Cal.mk cc ?_
            rintro _ _ ⟨N, n1, rfl⟩ -
            clear cc
            have hF := hF.mix n1 hax hyc (by omega)
            have hM := hM.trans (n1.wide hax hyc)
            have hlen := hM.len
            have ep : (y : Int) - 1 - ((pv : Int) - (x : Int)) = ((y - 1 - (pv - x) : Nat) : Int) := by omega
            obtain ⟨pw, epw⟩ : ∃ pw, pw = y - 1 - (pv - x) := ⟨_, rfl⟩
            have p1 : x ≤ pw := by omega
            have p2 : pw < y := by omega
            rw [← epw] at ep
            clear n1 epw
            generalize N = M at hF hM hlen ⊢
            cases B2
            · simp (maxSteps := 3000000) only [go_sem, ↓reduceIte, q1, q2, q8, q9, ep]
              repeat (apply And.intro; focus (first | omega | (simp; done)))
              clear ep
              generalize pw = pv at p1 p2 ⊢
              have hLM := hLB.mix hM h2
              have hLx := hF.lb hLM hax hyc
              by_cases cx : 0 < x
              · have ex : ((x : Int) - 1).toNat = x - 1 := by omega
                simp (maxSteps := 3000000) only [go_sem, ↓reduceIte, q1, ex, decide_eq_true (show (0 : Int) < (x : Int) by omega), row_get (show x - 1 < M.length by omega), row_get (show pv < M.length by omega)]
                repeat (apply And.intro; focus (first | omega | (simp; done)))
                refine Cal.mk (E.less _ _ _) ?_
                rintro _ _ ⟨rfl, rfl⟩ -
                cases cq : lt M[x - 1]! M[pv]!
                · simp (maxSteps := 3000000) only [go_sem, ↓reduceIte, q1, q2]
                  have cc := oequal_v (st := st) (b := b) (cap := cap) (sp := sp) hc.equal E (row_mono hmo hlen) (p := pv) (by omega) (by omega) (by omega) (by omega) (L := M) (a := x) (c := y)
                  rw [hlen, dataV] at cc
                  refine Cal.mk cc ?_
                  rintro _ _ ⟨m, N, n1, n2, n3, n4, n5, rfl, rfl⟩ -
                  clear cc
                  simp (maxSteps := 3000000) only [go_sem, ↓reduceIte, q2, q3, q8, q9]
                  repeat (apply And.intro; focus (first | omega | (simp; done)))
                  exact ⟨⟨m, y, N, lim', _, _, rfl, rfl, rfl, rfl, rfl, by omega, by omega, by omega, hl0, hl1, hM.trans (n3.wide hax hyc), hF.goE E.ord hLx cx cq hax hyc n1 n2 (by omega) n3 n4, rfl⟩, by omega⟩
                · simp (maxSteps := 3000000) only [go_sem, ↓reduceIte, q1, q2]
                  have cc := osplit_v (st := st) (b := b) (cap := cap) (sp := sp) hc.split E (row_mono hmo hlen) (p := pv) (by omega) (by omega) (by omega) (by omega) (L := M) (a := x) (c := y)
                  rw [hlen, dataV] at cc
                  refine Cal.mk cc ?_
                  rintro _ _ ⟨m, B3, N, n1, n2, n3, n4, n5, rfl, rfl⟩ -
                  clear cc
                  have hlN : N.length = L.length := n3.len.trans hlen
                  have hMN : Mix a c L N := hM.trans (n3.wide hax hyc)
                  have hFN := hF.mix n3 hax hyc (by omega)
                  have hLN := hLx.mix n3 (by omega)
                  have e4 : (m : Int) - (x : Int) = ((m - x : Nat) : Int) := by omega
                  have e5 : (y : Int) - (m : Int) = ((y - m : Nat) : Int) := by omega
                  have e6 : (m : Int) + 1 = ((m + 1 : Nat) : Int) := by simp
                  clear hM hF hLx hLM n3
                  by_cases cl : ((m - x : Nat) : Int) < ((y - m : Nat) : Int)
                  · simp (maxSteps := 3000000) only [go_sem, ↓reduceIte, q1, q2, q3, e4, e5, decide_eq_true cl]
                    repeat (apply And.intro; focus (first | omega | (simp; done)))
                    have cc := ih (m - x) (by omega) x m N lim' (Nat.le_refl _) (by omega) (by omega) (by omega) hl0 hl1 (hLN.part (by omega)) (row_mono hmo hlN)
                    rw [hlN, dataV] at cc
                    refine Cal.mk cc ?_
                    rintro _ _ ⟨R, r1, r2, rfl⟩ -
                    clear cc
                    simp (maxSteps := 3000000) only [go_sem, ↓reduceIte, q2, q3, e6]
                    repeat (apply And.intro; focus (first | omega | (simp; done)))
                    exact ⟨⟨m + 1, y, R, lim', _, _, rfl, rfl, rfl, rfl, rfl, by omega, by omega, by omega, hl0, hl1, hMN.trans (r1.wide (by omega) (by omega)), hFN.goL E.ord hax hyc (by omega) (by omega) (by omega) n4 n5 r1 r2, rfl⟩, by omega⟩
                  · simp (maxSteps := 3000000) only [go_sem, ↓reduceIte, q1, q2, q3, e4, e5, e6, decide_eq_false cl]
                    repeat (apply And.intro; focus (first | omega | (simp; done)))
                    have cc := ih (y - (m + 1)) (by omega) (m + 1) y N lim' (Nat.le_refl _) (by omega) (by omega) (by omega) hl0 hl1 (LB.next n5) (row_mono hmo hlN)
                    rw [hlN, dataV] at cc
                    refine Cal.mk cc ?_
                    rintro _ _ ⟨R, r1, r2, rfl⟩ -
                    clear cc
                    simp (maxSteps := 3000000) only [go_sem, ↓reduceIte, q1, q3]
                    repeat (apply And.intro; focus (first | omega | (simp; done)))
                    exact ⟨⟨x, m, R, lim', _, _, rfl, rfl, rfl, rfl, rfl, by omega, by omega, by omega, hl0, hl1, hMN.trans (r1.wide (by omega) (by omega)), hFN.goR E.ord hax hyc (by omega) (by omega) (by omega) n4 n5 r1 r2, rfl⟩, by omega⟩
              · simp (maxSteps := 3000000) only [go_sem, ↓reduceIte, q1, q2, decide_eq_false (show ¬ (0 : Int) < (x : Int) by omega)]
                have cc := osplit_v (st := st) (b := b) (cap := cap) (sp := sp) hc.split E (row_mono hmo hlen) (p := pv) (by omega) (by omega) (by omega) (by omega) (L := M) (a := x) (c := y)
                rw [hlen, dataV] at cc
                refine Cal.mk cc ?_
                rintro _ _ ⟨m, B3, N, n1, n2, n3, n4, n5, rfl, rfl⟩ -
                clear cc
                have hlN : N.length = L.length := n3.len.trans hlen
                have hMN : Mix a c L N := hM.trans (n3.wide hax hyc)
                have hFN := hF.mix n3 hax hyc (by omega)
                have hLN := hLx.mix n3 (by omega)
                have e4 : (m : Int) - (x : Int) = ((m - x : Nat) : Int) := by omega
                have e5 : (y : Int) - (m : Int) = ((y - m : Nat) : Int) := by omega
                have e6 : (m : Int) + 1 = ((m + 1 : Nat) : Int) := by simp
                clear hM hF hLx hLM n3
                by_cases cl : ((m - x : Nat) : Int) < ((y - m : Nat) : Int)
                · simp (maxSteps := 3000000) only [go_sem, ↓reduceIte, q1, q2, q3, e4, e5, decide_eq_true cl]
                  repeat (apply And.intro; focus (first | omega | (simp; done)))
                  have cc := ih (m - x) (by omega) x m N lim' (Nat.le_refl _) (by omega) (by omega) (by omega) hl0 hl1 (hLN.part (by omega)) (row_mono hmo hlN)
                  rw [hlN, dataV] at cc
                  refine Cal.mk cc ?_
                  rintro _ _ ⟨R, r1, r2, rfl⟩ -
                  clear cc
                  simp (maxSteps := 3000000) only [go_sem, ↓reduceIte, q2, q3, e6]
                  repeat (apply And.intro; focus (first | omega | (simp; done)))
                  exact ⟨⟨m + 1, y, R, lim', _, _, rfl, rfl, rfl, rfl, rfl, by omega, by omega, by omega, hl0, hl1, hMN.trans (r1.wide (by omega) (by omega)), hFN.goL E.ord hax hyc (by omega) (by omega) (by omega) n4 n5 r1 r2, rfl⟩, by omega⟩
                · simp (maxSteps := 3000000) only [go_sem, ↓reduceIte, q1, q2, q3, e4, e5, e6, decide_eq_false cl]
                  repeat (apply And.intro; focus (first | omega | (simp; done)))
                  have cc := ih (y - (m + 1)) (by omega) (m + 1) y N lim' (Nat.le_refl _) (by omega) (by omega) (by omega) hl0 hl1 (LB.next n5) (row_mono hmo hlN)
                  rw [hlN, dataV] at cc
                  refine Cal.mk cc ?_
                  rintro _ _ ⟨R, r1, r2, rfl⟩ -
                  clear cc
                  simp (maxSteps := 3000000) only [go_sem, ↓reduceIte, q1, q3]
                  repeat (apply And.intro; focus (first | omega | (simp; done)))
                  exact ⟨⟨x, m, R, lim', _, _, rfl, rfl, rfl, rfl, rfl, by omega, by omega, by omega, hl0, hl1, hMN.trans (r1.wide (by omega) (by omega)), hFN.goR E.ord hax hyc (by omega) (by omega) (by omega) n4 n5 r1 r2, rfl⟩, by omega⟩
            · simp (maxSteps := 3000000) only [go_sem, ↓reduceIte, q1, q2, q8, q9, ep]
              repeat (apply And.intro; focus (first | omega | (simp; done)))
              clear ep
              generalize pw = pv at p1 p2 ⊢
              have cc := opart_v (st := st) (b := b) (cap := cap) (sp := sp) hc.part E (row_mono hmo hlen) (L := M) (a := x) (c := y) (by omega) (by omega) (by omega) (hF.lb (hLB.mix hM h2) hax hyc)
              rw [hlen, dataV] at cc
              refine Cal.mk cc ?_
              rintro _ _ ⟨B3, N, n1, n2, rfl, rfl⟩ -
              clear cc
              cases B3
              · simp (maxSteps := 3000000) only [go_sem, ↓reduceIte, q1]
                have hF := hF.mix n1 hax hyc (by omega)
                have hM := hM.trans (n1.wide hax hyc)
                have hlen := hM.len
                clear n1 n2
                generalize N = M at hF hM hlen ⊢
                have hLM := hLB.mix hM h2
                have hLx := hF.lb hLM hax hyc
                by_cases cx : 0 < x
                · have ex : ((x : Int) - 1).toNat = x - 1 := by omega
                  simp (maxSteps := 3000000) only [go_sem, ↓reduceIte, q1, ex, decide_eq_true (show (0 : Int) < (x : Int) by omega), row_get (show x - 1 < M.length by omega), row_get (show pv < M.length by omega)]
                  repeat (apply And.intro; focus (first | omega | (simp; done)))
                  refine Cal.mk (E.less _ _ _) ?_
                  rintro _ _ ⟨rfl, rfl⟩ -
                  cases cq : lt M[x - 1]! M[pv]!
                  · simp (maxSteps := 3000000) only [go_sem, ↓reduceIte, q1, q2]
                    have cc := oequal_v (st := st) (b := b) (cap := cap) (sp := sp) hc.equal E (row_mono hmo hlen) (p := pv) (by omega) (by omega) (by omega) (by omega) (L := M) (a := x) (c := y)
                    rw [hlen, dataV] at cc
                    refine Cal.mk cc ?_
                    rintro _ _ ⟨m, N, n1, n2, n3, n4, n5, rfl, rfl⟩ -
                    clear cc
                    simp (maxSteps := 3000000) only [go_sem, ↓reduceIte, q2, q3, q8, q9]
                    repeat (apply And.intro; focus (first | omega | (simp; done)))
                    exact ⟨⟨m, y, N, lim', _, _, rfl, rfl, rfl, rfl, rfl, by omega, by omega, by omega, hl0, hl1, hM.trans (n3.wide hax hyc), hF.goE E.ord hLx cx cq hax hyc n1 n2 (by omega) n3 n4, rfl⟩, by omega⟩
                  · simp (maxSteps := 3000000) only [go_sem, ↓reduceIte, q1, q2]
                    have cc := osplit_v (st := st) (b := b) (cap := cap) (sp := sp) hc.split E (row_mono hmo hlen) (p := pv) (by omega) (by omega) (by omega) (by omega) (L := M) (a := x) (c := y)
                    rw [hlen, dataV] at cc
                    refine Cal.mk cc ?_
                    rintro _ _ ⟨m, B3, N, n1, n2, n3, n4, n5, rfl, rfl⟩ -
                    clear cc
                    have hlN : N.length = L.length := n3.len.trans hlen
                    have hMN : Mix a c L N := hM.trans (n3.wide hax hyc)
                    have hFN := hF.mix n3 hax hyc (by omega)
                    have hLN := hLx.mix n3 (by omega)
                    have e4 : (m : Int) - (x : Int) = ((m - x : Nat) : Int) := by omega
                    have e5 : (y : Int) - (m : Int) = ((y - m : Nat) : Int) := by omega
                    have e6 : (m : Int) + 1 = ((m + 1 : Nat) : Int) := by simp
                    clear hM hF hLx hLM n3
                    by_cases cl : ((m - x : Nat) : Int) < ((y - m : Nat) : Int)
                    · simp (maxSteps := 3000000) only [go_sem, ↓reduceIte, q1, q2, q3, e4, e5, decide_eq_true cl]
                      repeat (apply And.intro; focus (first | omega | (simp; done)))
                      have cc := ih (m - x) (by omega) x m N lim' (Nat.le_refl _) (by omega) (by omega) (by omega) hl0 hl1 (hLN.part (by omega)) (row_mono hmo hlN)
                      rw [hlN, dataV] at cc
                      refine Cal.mk cc ?_
                      rintro _ _ ⟨R, r1, r2, rfl⟩ -
                      clear cc
                      simp (maxSteps := 3000000) only [go_sem, ↓reduceIte, q2, q3, e6]
                      repeat (apply And.intro; focus (first | omega | (simp; done)))
                      exact ⟨⟨m + 1, y, R, lim', _, _, rfl, rfl, rfl, rfl, rfl, by omega, by omega, by omega, hl0, hl1, hMN.trans (r1.wide (by omega) (by omega)), hFN.goL E.ord hax hyc (by omega) (by omega) (by omega) n4 n5 r1 r2, rfl⟩, by omega⟩
                    · simp (maxSteps := 3000000) only [go_sem, ↓reduceIte, q1, q2, q3, e4, e5, e6, decide_eq_false cl]
                      repeat (apply And.intro; focus (first | omega | (simp; done)))
                      have cc := ih (y - (m + 1)) (by omega) (m + 1) y N lim' (Nat.le_refl _) (by omega) (by omega) (by omega) hl0 hl1 (LB.next n5) (row_mono hmo hlN)
                      rw [hlN, dataV] at cc
                      refine Cal.mk cc ?_
                      rintro _ _ ⟨R, r1, r2, rfl⟩ -
                      clear cc
                      simp (maxSteps := 3000000) only [go_sem, ↓reduceIte, q1, q3]
                      repeat (apply And.intro; focus (first | omega | (simp; done)))
                      exact ⟨⟨x, m, R, lim', _, _, rfl, rfl, rfl, rfl, rfl, by omega, by omega, by omega, hl0, hl1, hMN.trans (r1.wide (by omega) (by omega)), hFN.goR E.ord hax hyc (by omega) (by omega) (by omega) n4 n5 r1 r2, rfl⟩, by omega⟩
                · simp (maxSteps := 3000000) only [go_sem, ↓reduceIte, q1, q2, decide_eq_false (show ¬ (0 : Int) < (x : Int) by omega)]
                  have cc := osplit_v (st := st) (b := b) (cap := cap) (sp := sp) hc.split E (row_mono hmo hlen) (p := pv) (by omega) (by omega) (by omega) (by omega) (L := M) (a := x) (c := y)
                  rw [hlen, dataV] at cc
                  refine Cal.mk cc ?_
                  rintro _ _ ⟨m, B3, N, n1, n2, n3, n4, n5, rfl, rfl⟩ -
                  clear cc
                  have hlN : N.length = L.length := n3.len.trans hlen
                  have hMN : Mix a c L N := hM.trans (n3.wide hax hyc)
                  have hFN := hF.mix n3 hax hyc (by omega)
                  have hLN := hLx.mix n3 (by omega)
                  have e4 : (m : Int) - (x : Int) = ((m - x : Nat) : Int) := by omega
                  have e5 : (y : Int) - (m : Int) = ((y - m : Nat) : Int) := by omega
                  have e6 : (m : Int) + 1 = ((m + 1 : Nat) : Int) := by simp
                  clear hM hF hLx hLM n3
                  by_cases cl : ((m - x : Nat) : Int) < ((y - m : Nat) : Int)
                  · simp (maxSteps := 3000000) only [go_sem, ↓reduceIte, q1, q2, q3, e4, e5, decide_eq_true cl]
                    repeat (apply And.intro; focus (first | omega | (simp; done)))
                    have cc := ih (m - x) (by omega) x m N lim' (Nat.le_refl _) (by omega) (by omega) (by omega) hl0 hl1 (hLN.part (by omega)) (row_mono hmo hlN)
                    rw [hlN, dataV] at cc
                    refine Cal.mk cc ?_
                    rintro _ _ ⟨R, r1, r2, rfl⟩ -
                    clear cc
                    simp (maxSteps := 3000000) only [go_sem, ↓reduceIte, q2, q3, e6]
                    repeat (apply And.intro; focus (first | omega | (simp; done)))
                    exact ⟨⟨m + 1, y, R, lim', _, _, rfl, rfl, rfl, rfl, rfl, by omega, by omega, by omega, hl0, hl1, hMN.trans (r1.wide (by omega) (by omega)), hFN.goL E.ord hax hyc (by omega) (by omega) (by omega) n4 n5 r1 r2, rfl⟩, by omega⟩
                  · simp (maxSteps := 3000000) only [go_sem, ↓reduceIte, q1, q2, q3, e4, e5, e6, decide_eq_false cl]
                    repeat (apply And.intro; focus (first | omega | (simp; done)))
                    have cc := ih (y - (m + 1)) (by omega) (m + 1) y N lim' (Nat.le_refl _) (by omega) (by omega) (by omega) hl0 hl1 (LB.next n5) (row_mono hmo hlN)
                    rw [hlN, dataV] at cc
                    refine Cal.mk cc ?_
                    rintro _ _ ⟨R, r1, r2, rfl⟩ -
                    clear cc
                    simp (maxSteps := 3000000) only [go_sem, ↓reduceIte, q1, q3]
                    repeat (apply And.intro; focus (first | omega | (simp; done)))
                    exact ⟨⟨x, m, R, lim', _, _, rfl, rfl, rfl, rfl, rfl, by omega, by omega, by omega, hl0, hl1, hMN.trans (r1.wide (by omega) (by omega)), hFN.goR E.ord hax hyc (by omega) (by omega) (by omega) n4 n5 r1 r2, rfl⟩, by omega⟩
              · simp (maxSteps := 3000000) only [go_sem, ↓reduceIte]
                have hfin := hF.fin hM hax hyc h2 n1 (n2 rfl)
                exact ⟨_, _, Wk.refl _, weak_re hwf, N, hfin.1, hfin.2, rfl⟩
          · cases B2
            · simp (maxSteps := 3000000) only [go_sem, ↓reduceIte, q1, q8, q9, decide_eq_false k2]
              repeat (apply And.intro; focus (first | omega | (simp; done)))
              have hLM := hLB.mix hM h2
              have hLx := hF.lb hLM hax hyc
              by_cases cx : 0 < x
              · have ex : ((x : Int) - 1).toNat = x - 1 := by omega
                simp (maxSteps := 3000000) only [go_sem, ↓reduceIte, q1, ex, decide_eq_true (show (0 : Int) < (x : Int) by omega), row_get (show x - 1 < M.length by omega), row_get (show pv < M.length by omega)]
                repeat (apply And.intro; focus (first | omega | (simp; done)))
                refine Cal.mk (E.less _ _ _) ?_
                rintro _ _ ⟨rfl, rfl⟩ -
                cases cq : lt M[x - 1]! M[pv]!
                · simp (maxSteps := 3000000) only [go_sem, ↓reduceIte, q1, q2]
                  have cc := oequal_v (st := st) (b := b) (cap := cap) (sp := sp) hc.equal E (row_mono hmo hlen) (p := pv) (by omega) (by omega) (by omega) (by omega) (L := M) (a := x) (c := y)
                  rw [hlen, dataV] at cc
                  refine Cal.mk cc ?_
                  rintro _ _ ⟨m, N, n1, n2, n3, n4, n5, rfl, rfl⟩ -
                  clear cc
                  simp (maxSteps := 3000000) only [go_sem, ↓reduceIte, q2, q3, q8, q9]
                  repeat (apply And.intro; focus (first | omega | (simp; done)))
                  exact ⟨⟨m, y, N, lim', _, _, rfl, rfl, rfl, rfl, rfl, by omega, by omega, by omega, hl0, hl1, hM.trans (n3.wide hax hyc), hF.goE E.ord hLx cx cq hax hyc n1 n2 (by omega) n3 n4, rfl⟩, by omega⟩
                · simp (maxSteps := 3000000) only [go_sem, ↓reduceIte, q1, q2]
                  have cc := osplit_v (st := st) (b := b) (cap := cap) (sp := sp) hc.split E (row_mono hmo hlen) (p := pv) (by omega) (by omega) (by omega) (by omega) (L := M) (a := x) (c := y)
                  rw [hlen, dataV] at cc
                  refine Cal.mk cc ?_
                  rintro _ _ ⟨m, B3, N, n1, n2, n3, n4, n5, rfl, rfl⟩ -
                  clear cc
                  have hlN : N.length = L.length := n3.len.trans hlen
                  have hMN : Mix a c L N := hM.trans (n3.wide hax hyc)
                  have hFN := hF.mix n3 hax hyc (by omega)
                  have hLN := hLx.mix n3 (by omega)
                  have e4 : (m : Int) - (x : Int) = ((m - x : Nat) : Int) := by omega
                  have e5 : (y : Int) - (m : Int) = ((y - m : Nat) : Int) := by omega
                  have e6 : (m : Int) + 1 = ((m + 1 : Nat) : Int) := by simp
                  clear hM hF hLx hLM n3
                  by_cases cl : ((m - x : Nat) : Int) < ((y - m : Nat) : Int)
                  · simp (maxSteps := 3000000) only [go_sem, ↓reduceIte, q1, q2, q3, e4, e5, decide_eq_true cl]
                    repeat (apply And.intro; focus (first | omega | (simp; done)))
                    have cc := ih (m - x) (by omega) x m N lim' (Nat.le_refl _) (by omega) (by omega) (by omega) hl0 hl1 (hLN.part (by omega)) (row_mono hmo hlN)
                    rw [hlN, dataV] at cc
                    refine Cal.mk cc ?_
                    rintro _ _ ⟨R, r1, r2, rfl⟩ -
                    clear cc
                    simp (maxSteps := 3000000) only [go_sem, ↓reduceIte, q2, q3, e6]
                    repeat (apply And.intro; focus (first | omega | (simp; done)))
                    exact ⟨⟨m + 1, y, R, lim', _, _, rfl, rfl, rfl, rfl, rfl, by omega, by omega, by omega, hl0, hl1, hMN.trans (r1.wide (by omega) (by omega)), hFN.goL E.ord hax hyc (by omega) (by omega) (by omega) n4 n5 r1 r2, rfl⟩, by omega⟩
                  · simp (maxSteps := 3000000) only [go_sem, ↓reduceIte, q1, q2, q3, e4, e5, e6, decide_eq_false cl]
                    repeat (apply And.intro; focus (first | omega | (simp; done)))
                    have cc := ih (y - (m + 1)) (by omega) (m + 1) y N lim' (Nat.le_refl _) (by omega) (by omega) (by omega) hl0 hl1 (LB.next n5) (row_mono hmo hlN)
                    rw [hlN, dataV] at cc
                    refine Cal.mk cc ?_
                    rintro _ _ ⟨R, r1, r2, rfl⟩ -
                    clear cc
                    simp (maxSteps := 3000000) only [go_sem, ↓reduceIte, q1, q3]
                    repeat (apply And.intro; focus (first | omega | (simp; done)))
                    exact ⟨⟨x, m, R, lim', _, _, rfl, rfl, rfl, rfl, rfl, by omega, by omega, by omega, hl0, hl1, hMN.trans (r1.wide (by omega) (by omega)), hFN.goR E.ord hax hyc (by omega) (by omega) (by omega) n4 n5 r1 r2, rfl⟩, by omega⟩
              · simp (maxSteps := 3000000) only [go_sem, ↓reduceIte, q1, q2, decide_eq_false (show ¬ (0 : Int) < (x : Int) by omega)]
                have cc := osplit_v (st := st) (b := b) (cap := cap) (sp := sp) hc.split E (row_mono hmo hlen) (p := pv) (by omega) (by omega) (by omega) (by omega) (L := M) (a := x) (c := y)
                rw [hlen, dataV] at cc
                refine Cal.mk cc ?_
                rintro _ _ ⟨m, B3, N, n1, n2, n3, n4, n5, rfl, rfl⟩ -
                clear cc
                have hlN : N.length = L.length := n3.len.trans hlen
                have hMN : Mix a c L N := hM.trans (n3.wide hax hyc)
                have hFN := hF.mix n3 hax hyc (by omega)
                have hLN := hLx.mix n3 (by omega)
                have e4 : (m : Int) - (x : Int) = ((m - x : Nat) : Int) := by omega
                have e5 : (y : Int) - (m : Int) = ((y - m : Nat) : Int) := by omega
                have e6 : (m : Int) + 1 = ((m + 1 : Nat) : Int) := by simp
                clear hM hF hLx hLM n3
                by_cases cl : ((m - x : Nat) : Int) < ((y - m : Nat) : Int)
                · simp (maxSteps := 3000000) only [go_sem, ↓reduceIte, q1, q2, q3, e4, e5, decide_eq_true cl]
                  repeat (apply And.intro; focus (first | omega | (simp; done)))
                  have cc := ih (m - x) (by omega) x m N lim' (Nat.le_refl _) (by omega) (by omega) (by omega) hl0 hl1 (hLN.part (by omega)) (row_mono hmo hlN)
                  rw [hlN, dataV] at cc
                  refine Cal.mk cc ?_
                  rintro _ _ ⟨R, r1, r2, rfl⟩ -
                  clear cc
                  simp (maxSteps := 3000000) only [go_sem, ↓reduceIte, q2, q3, e6]
                  repeat (apply And.intro; focus (first | omega | (simp; done)))
                  exact ⟨⟨m + 1, y, R, lim', _, _, rfl, rfl, rfl, rfl, rfl, by omega, by omega, by omega, hl0, hl1, hMN.trans (r1.wide (by omega) (by omega)), hFN.goL E.ord hax hyc (by omega) (by omega) (by omega) n4 n5 r1 r2, rfl⟩, by omega⟩
                · simp (maxSteps := 3000000) only [go_sem, ↓reduceIte, q1, q2, q3, e4, e5, e6, decide_eq_false cl]
                  repeat (apply And.intro; focus (first | omega | (simp; done)))
                  have cc := ih (y - (m + 1)) (by omega) (m + 1) y N lim' (Nat.le_refl _) (by omega) (by omega) (by omega) hl0 hl1 (LB.next n5) (row_mono hmo hlN)
                  rw [hlN, dataV] at cc
                  refine Cal.mk cc ?_
                  rintro _ _ ⟨R, r1, r2, rfl⟩ -
                  clear cc
                  simp (maxSteps := 3000000) only [go_sem, ↓reduceIte, q1, q3]
                  repeat (apply And.intro; focus (first | omega | (simp; done)))
                  exact ⟨⟨x, m, R, lim', _, _, rfl, rfl, rfl, rfl, rfl, by omega, by omega, by omega, hl0, hl1, hMN.trans (r1.wide (by omega) (by omega)), hFN.goR E.ord hax hyc (by omega) (by omega) (by omega) n4 n5 r1 r2, rfl⟩, by omega⟩
            · by_cases k1 : hint = 1
              · simp (maxSteps := 3000000) only [go_sem, ↓reduceIte, q1, q2, q8, q9, decide_eq_false k2, decide_eq_true k1]
                repeat (apply And.intro; focus (first | omega | (simp; done)))
                have cc := opart_v (st := st) (b := b) (cap := cap) (sp := sp) hc.part E (row_mono hmo hlen) (L := M) (a := x) (c := y) (by omega) (by omega) (by omega) (hF.lb (hLB.mix hM h2) hax hyc)
                rw [hlen, dataV] at cc
                refine Cal.mk cc ?_
                rintro _ _ ⟨B3, N, n1, n2, rfl, rfl⟩ -
                clear cc
                cases B3
                · simp (maxSteps := 3000000) only [go_sem, ↓reduceIte, q1]
                  have hF := hF.mix n1 hax hyc (by omega)
                  have hM := hM.trans (n1.wide hax hyc)
                  have hlen := hM.len
                  clear n1 n2
                  generalize N = M at hF hM hlen ⊢
                  have hLM := hLB.mix hM h2
                  have hLx := hF.lb hLM hax hyc
                  by_cases cx : 0 < x
                  · have ex : ((x : Int) - 1).toNat = x - 1 := by omega
                    simp (maxSteps := 3000000) only [go_sem, ↓reduceIte, q1, ex, decide_eq_true (show (0 : Int) < (x : Int) by omega), row_get (show x - 1 < M.length by omega), row_get (show pv < M.length by omega)]
                    repeat (apply And.intro; focus (first | omega | (simp; done)))
                    refine Cal.mk (E.less _ _ _) ?_
                    rintro _ _ ⟨rfl, rfl⟩ -
                    cases cq : lt M[x - 1]! M[pv]!
                    · simp (maxSteps := 3000000) only [go_sem, ↓reduceIte, q1, q2]
                      have cc := oequal_v (st := st) (b := b) (cap := cap) (sp := sp) hc.equal E (row_mono hmo hlen) (p := pv) (by omega) (by omega) (by omega) (by omega) (L := M) (a := x) (c := y)
                      rw [hlen, dataV] at cc
                      refine Cal.mk cc ?_
                      rintro _ _ ⟨m, N, n1, n2, n3, n4, n5, rfl, rfl⟩ -
                      clear cc
                      simp (maxSteps := 3000000) only [go_sem, ↓reduceIte, q2, q3, q8, q9]
                      repeat (apply And.intro; focus (first | omega | (simp; done)))
                      exact ⟨⟨m, y, N, lim', _, _, rfl, rfl, rfl, rfl, rfl, by omega, by omega, by omega, hl0, hl1, hM.trans (n3.wide hax hyc), hF.goE E.ord hLx cx cq hax hyc n1 n2 (by omega) n3 n4, rfl⟩, by omega⟩
                    · simp (maxSteps := 3000000) only [go_sem, ↓reduceIte, q1, q2]
                      have cc := osplit_v (st := st) (b := b) (cap := cap) (sp := sp) hc.split E (row_mono hmo hlen) (p := pv) (by omega) (by omega) (by omega) (by omega) (L := M) (a := x) (c := y)
                      rw [hlen, dataV] at cc
                      refine Cal.mk cc ?_
                      rintro _ _ ⟨m, B3, N, n1, n2, n3, n4, n5, rfl, rfl⟩ -
                      clear cc
                      have hlN : N.length = L.length := n3.len.trans hlen
                      have hMN : Mix a c L N := hM.trans (n3.wide hax hyc)
                      have hFN := hF.mix n3 hax hyc (by omega)
                      have hLN := hLx.mix n3 (by omega)
                      have e4 : (m : Int) - (x : Int) = ((m - x : Nat) : Int) := by omega
                      have e5 : (y : Int) - (m : Int) = ((y - m : Nat) : Int) := by omega
                      have e6 : (m : Int) + 1 = ((m + 1 : Nat) : Int) := by simp
                      clear hM hF hLx hLM n3
                      by_cases cl : ((m - x : Nat) : Int) < ((y - m : Nat) : Int)
                      · simp (maxSteps := 3000000) only [go_sem, ↓reduceIte, q1, q2, q3, e4, e5, decide_eq_true cl]
                        repeat (apply And.intro; focus (first | omega | (simp; done)))
                        have cc := ih (m - x) (by omega) x m N lim' (Nat.le_refl _) (by omega) (by omega) (by omega) hl0 hl1 (hLN.part (by omega)) (row_mono hmo hlN)
                        rw [hlN, dataV] at cc
                        refine Cal.mk cc ?_
                        rintro _ _ ⟨R, r1, r2, rfl⟩ -
                        clear cc
                        simp (maxSteps := 3000000) only [go_sem, ↓reduceIte, q2, q3, e6]
                        repeat (apply And.intro; focus (first | omega | (simp; done)))
                        exact ⟨⟨m + 1, y, R, lim', _, _, rfl, rfl, rfl, rfl, rfl, by omega, by omega, by omega, hl0, hl1, hMN.trans (r1.wide (by omega) (by omega)), hFN.goL E.ord hax hyc (by omega) (by omega) (by omega) n4 n5 r1 r2, rfl⟩, by omega⟩
                      · simp (maxSteps := 3000000) only [go_sem, ↓reduceIte, q1, q2, q3, e4, e5, e6, decide_eq_false cl]
                        repeat (apply And.intro; focus (first | omega | (simp; done)))
                        have cc := ih (y - (m + 1)) (by omega) (m + 1) y N lim' (Nat.le_refl _) (by omega) (by omega) (by omega) hl0 hl1 (LB.next n5) (row_mono hmo hlN)
                        rw [hlN, dataV] at cc
                        refine Cal.mk cc ?_
                        rintro _ _ ⟨R, r1, r2, rfl⟩ -
                        clear cc
                        simp (maxSteps := 3000000) only [go_sem, ↓reduceIte, q1, q3]
                        repeat (apply And.intro; focus (first | omega | (simp; done)))
                        exact ⟨⟨x, m, R, lim', _, _, rfl, rfl, rfl, rfl, rfl, by omega, by omega, by omega, hl0, hl1, hMN.trans (r1.wide (by omega) (by omega)), hFN.goR E.ord hax hyc (by omega) (by omega) (by omega) n4 n5 r1 r2, rfl⟩, by omega⟩
                  · simp (maxSteps := 3000000) only [go_sem, ↓reduceIte, q1, q2, decide_eq_false (show ¬ (0 : Int) < (x : Int) by omega)]
                    have cc := osplit_v (st := st) (b := b) (cap := cap) (sp := sp) hc.split E (row_mono hmo hlen) (p := pv) (by omega) (by omega) (by omega) (by omega) (L := M) (a := x) (c := y)
                    rw [hlen, dataV] at cc
                    refine Cal.mk cc ?_
                    rintro _ _ ⟨m, B3, N, n1, n2, n3, n4, n5, rfl, rfl⟩ -
                    clear cc
                    have hlN : N.length = L.length := n3.len.trans hlen
                    have hMN : Mix a c L N := hM.trans (n3.wide hax hyc)
                    have hFN := hF.mix n3 hax hyc (by omega)
                    have hLN := hLx.mix n3 (by omega)
                    have e4 : (m : Int) - (x : Int) = ((m - x : Nat) : Int) := by omega
                    have e5 : (y : Int) - (m : Int) = ((y - m : Nat) : Int) := by omega
                    have e6 : (m : Int) + 1 = ((m + 1 : Nat) : Int) := by simp
                    clear hM hF hLx hLM n3
                    by_cases cl : ((m - x : Nat) : Int) < ((y - m : Nat) : Int)
                    · simp (maxSteps := 3000000) only [go_sem, ↓reduceIte, q1, q2, q3, e4, e5, decide_eq_true cl]
                      repeat (apply And.intro; focus (first | omega | (simp; done)))
                      have cc := ih (m - x) (by omega) x m N lim' (Nat.le_refl _) (by omega) (by omega) (by omega) hl0 hl1 (hLN.part (by omega)) (row_mono hmo hlN)
                      rw [hlN, dataV] at cc
                      refine Cal.mk cc ?_
                      rintro _ _ ⟨R, r1, r2, rfl⟩ -
                      clear cc
                      simp (maxSteps := 3000000) only [go_sem, ↓reduceIte, q2, q3, e6]
                      repeat (apply And.intro; focus (first | omega | (simp; done)))
                      exact ⟨⟨m + 1, y, R, lim', _, _, rfl, rfl, rfl, rfl, rfl, by omega, by omega, by omega, hl0, hl1, hMN.trans (r1.wide (by omega) (by omega)), hFN.goL E.ord hax hyc (by omega) (by omega) (by omega) n4 n5 r1 r2, rfl⟩, by omega⟩
                    · simp (maxSteps := 3000000) only [go_sem, ↓reduceIte, q1, q2, q3, e4, e5, e6, decide_eq_false cl]
                      repeat (apply And.intro; focus (first | omega | (simp; done)))
                      have cc := ih (y - (m + 1)) (by omega) (m + 1) y N lim' (Nat.le_refl _) (by omega) (by omega) (by omega) hl0 hl1 (LB.next n5) (row_mono hmo hlN)
                      rw [hlN, dataV] at cc
                      refine Cal.mk cc ?_
                      rintro _ _ ⟨R, r1, r2, rfl⟩ -
                      clear cc
                      simp (maxSteps := 3000000) only [go_sem, ↓reduceIte, q1, q3]
                      repeat (apply And.intro; focus (first | omega | (simp; done)))
                      exact ⟨⟨x, m, R, lim', _, _, rfl, rfl, rfl, rfl, rfl, by omega, by omega, by omega, hl0, hl1, hMN.trans (r1.wide (by omega) (by omega)), hFN.goR E.ord hax hyc (by omega) (by omega) (by omega) n4 n5 r1 r2, rfl⟩, by omega⟩
                · simp (maxSteps := 3000000) only [go_sem, ↓reduceIte]
                  have hfin := hF.fin hM hax hyc h2 n1 (n2 rfl)
                  exact ⟨_, _, Wk.refl _, weak_re hwf, N, hfin.1, hfin.2, rfl⟩
              · simp (maxSteps := 3000000) only [go_sem, ↓reduceIte, q1, q8, q9, decide_eq_false k2, decide_eq_false k1]
                repeat (apply And.intro; focus (first | omega | (simp; done)))
                have hLM := hLB.mix hM h2
                have hLx := hF.lb hLM hax hyc
                by_cases cx : 0 < x
                · have ex : ((x : Int) - 1).toNat = x - 1 := by omega
                  simp (maxSteps := 3000000) only [go_sem, ↓reduceIte, q1, ex, decide_eq_true (show (0 : Int) < (x : Int) by omega), row_get (show x - 1 < M.length by omega), row_get (show pv < M.length by omega)]
                  repeat (apply And.intro; focus (first | omega | (simp; done)))
                  refine Cal.mk (E.less _ _ _) ?_
                  rintro _ _ ⟨rfl, rfl⟩ -
                  cases cq : lt M[x - 1]! M[pv]!
                  · simp (maxSteps := 3000000) only [go_sem, ↓reduceIte, q1, q2]
                    have cc := oequal_v (st := st) (b := b) (cap := cap) (sp := sp) hc.equal E (row_mono hmo hlen) (p := pv) (by omega) (by omega) (by omega) (by omega) (L := M) (a := x) (c := y)
                    rw [hlen, dataV] at cc
                    refine Cal.mk cc ?_
                    rintro _ _ ⟨m, N, n1, n2, n3, n4, n5, rfl, rfl⟩ -
                    clear cc
                    simp (maxSteps := 3000000) only [go_sem, ↓reduceIte, q2, q3, q8, q9]
                    repeat (apply And.intro; focus (first | omega | (simp; done)))
                    exact ⟨⟨m, y, N, lim', _, _, rfl, rfl, rfl, rfl, rfl, by omega, by omega, by omega, hl0, hl1, hM.trans (n3.wide hax hyc), hF.goE E.ord hLx cx cq hax hyc n1 n2 (by omega) n3 n4, rfl⟩, by omega⟩
                  · simp (maxSteps := 3000000) only [go_sem, ↓reduceIte, q1, q2]
                    have cc := osplit_v (st := st) (b := b) (cap := cap) (sp := sp) hc.split E (row_mono hmo hlen) (p := pv) (by omega) (by omega) (by omega) (by omega) (L := M) (a := x) (c := y)
                    rw [hlen, dataV] at cc
                    refine Cal.mk cc ?_
                    rintro _ _ ⟨m, B3, N, n1, n2, n3, n4, n5, rfl, rfl⟩ -
                    clear cc
                    have hlN : N.length = L.length := n3.len.trans hlen
                    have hMN : Mix a c L N := hM.trans (n3.wide hax hyc)
                    have hFN := hF.mix n3 hax hyc (by omega)
                    have hLN := hLx.mix n3 (by omega)
                    have e4 : (m : Int) - (x : Int) = ((m - x : Nat) : Int) := by omega
                    have e5 : (y : Int) - (m : Int) = ((y - m : Nat) : Int) := by omega
                    have e6 : (m : Int) + 1 = ((m + 1 : Nat) : Int) := by simp
                    clear hM hF hLx hLM n3
                    by_cases cl : ((m - x : Nat) : Int) < ((y - m : Nat) : Int)
                    · simp (maxSteps := 3000000) only [go_sem, ↓reduceIte, q1, q2, q3, e4, e5, decide_eq_true cl]
                      repeat (apply And.intro; focus (first | omega | (simp; done)))
                      have cc := ih (m - x) (by omega) x m N lim' (Nat.le_refl _) (by omega) (by omega) (by omega) hl0 hl1 (hLN.part (by omega)) (row_mono hmo hlN)
                      rw [hlN, dataV] at cc
                      refine Cal.mk cc ?_
                      rintro _ _ ⟨R, r1, r2, rfl⟩ -
                      clear cc
                      simp (maxSteps := 3000000) only [go_sem, ↓reduceIte, q2, q3, e6]
                      repeat (apply And.intro; focus (first | omega | (simp; done)))
                      exact ⟨⟨m + 1, y, R, lim', _, _, rfl, rfl, rfl, rfl, rfl, by omega, by omega, by omega, hl0, hl1, hMN.trans (r1.wide (by omega) (by omega)), hFN.goL E.ord hax hyc (by omega) (by omega) (by omega) n4 n5 r1 r2, rfl⟩, by omega⟩
                    · simp (maxSteps := 3000000) only [go_sem, ↓reduceIte, q1, q2, q3, e4, e5, e6, decide_eq_false cl]
                      repeat (apply And.intro; focus (first | omega | (simp; done)))
                      have cc := ih (y - (m + 1)) (by omega) (m + 1) y N lim' (Nat.le_refl _) (by omega) (by omega) (by omega) hl0 hl1 (LB.next n5) (row_mono hmo hlN)
                      rw [hlN, dataV] at cc
                      refine Cal.mk cc ?_
                      rintro _ _ ⟨R, r1, r2, rfl⟩ -
                      clear cc
                      simp (maxSteps := 3000000) only [go_sem, ↓reduceIte, q1, q3]
                      repeat (apply And.intro; focus (first | omega | (simp; done)))
                      exact ⟨⟨x, m, R, lim', _, _, rfl, rfl, rfl, rfl, rfl, by omega, by omega, by omega, hl0, hl1, hMN.trans (r1.wide (by omega) (by omega)), hFN.goR E.ord hax hyc (by omega) (by omega) (by omega) n4 n5 r1 r2, rfl⟩, by omega⟩
                · simp (maxSteps := 3000000) only [go_sem, ↓reduceIte, q1, q2, decide_eq_false (show ¬ (0 : Int) < (x : Int) by omega)]
                  have cc := osplit_v (st := st) (b := b) (cap := cap) (sp := sp) hc.split E (row_mono hmo hlen) (p := pv) (by omega) (by omega) (by omega) (by omega) (L := M) (a := x) (c := y)
                  rw [hlen, dataV] at cc
                  refine Cal.mk cc ?_
                  rintro _ _ ⟨m, B3, N, n1, n2, n3, n4, n5, rfl, rfl⟩ -
                  clear cc
                  have hlN : N.length = L.length := n3.len.trans hlen
                  have hMN : Mix a c L N := hM.trans (n3.wide hax hyc)
                  have hFN := hF.mix n3 hax hyc (by omega)
                  have hLN := hLx.mix n3 (by omega)
                  have e4 : (m : Int) - (x : Int) = ((m - x : Nat) : Int) := by omega
                  have e5 : (y : Int) - (m : Int) = ((y - m : Nat) : Int) := by omega
                  have e6 : (m : Int) + 1 = ((m + 1 : Nat) : Int) := by simp
                  clear hM hF hLx hLM n3
                  by_cases cl : ((m - x : Nat) : Int) < ((y - m : Nat) : Int)
                  · simp (maxSteps := 3000000) only [go_sem, ↓reduceIte, q1, q2, q3, e4, e5, decide_eq_true cl]
                    repeat (apply And.intro; focus (first | omega | (simp; done)))
                    have cc := ih (m - x) (by omega) x m N lim' (Nat.le_refl _) (by omega) (by omega) (by omega) hl0 hl1 (hLN.part (by omega)) (row_mono hmo hlN)
                    rw [hlN, dataV] at cc
                    refine Cal.mk cc ?_
                    rintro _ _ ⟨R, r1, r2, rfl⟩ -
                    clear cc
                    simp (maxSteps := 3000000) only [go_sem, ↓reduceIte, q2, q3, e6]
                    repeat (apply And.intro; focus (first | omega | (simp; done)))
                    exact ⟨⟨m + 1, y, R, lim', _, _, rfl, rfl, rfl, rfl, rfl, by omega, by omega, by omega, hl0, hl1, hMN.trans (r1.wide (by omega) (by omega)), hFN.goL E.ord hax hyc (by omega) (by omega) (by omega) n4 n5 r1 r2, rfl⟩, by omega⟩
                  · simp (maxSteps := 3000000) only [go_sem, ↓reduceIte, q1, q2, q3, e4, e5, e6, decide_eq_false cl]
                    repeat (apply And.intro; focus (first | omega | (simp; done)))
                    have cc := ih (y - (m + 1)) (by omega) (m + 1) y N lim' (Nat.le_refl _) (by omega) (by omega) (by omega) hl0 hl1 (LB.next n5) (row_mono hmo hlN)
                    rw [hlN, dataV] at cc
                    refine Cal.mk cc ?_
                    rintro _ _ ⟨R, r1, r2, rfl⟩ -
                    clear cc
                    simp (maxSteps := 3000000) only [go_sem, ↓reduceIte, q1, q3]
                    repeat (apply And.intro; focus (first | omega | (simp; done)))
                    exact ⟨⟨x, m, R, lim', _, _, rfl, rfl, rfl, rfl, rfl, by omega, by omega, by omega, hl0, hl1, hMN.trans (r1.wide (by omega) (by omega)), hFN.goR E.ord hax hyc (by omega) (by omega) (by omega) n4 n5 r1 r2, rfl⟩, by omega⟩
end
end
section
open Go
def bitsTab : ByteArray := ({ data := (([0, 1, 2, 2, 3, 3, 3, 3, 4, 4, 4, 4, 4, 4, 4, 4, 5, 5, 5, 5, 5, 5, 5, 5, 5, 5, 5, 5, 5, 5, 5, 5, 6, 6, 6, 6, 6, 6, 6, 6, 6, 6, 6, 6, 6, 6, 6, 6, 6, 6, 6, 6, 6, 6, 6, 6, 6, 6, 6, 6, 6, 6, 6, 6].append [7, 7, 7, 7, 7, 7, 7, 7, 7, 7, 7, 7, 7, 7, 7, 7, 7, 7, 7, 7, 7, 7, 7, 7, 7, 7, 7, 7, 7, 7, 7, 7, 7, 7, 7, 7, 7, 7, 7, 7, 7, 7, 7, 7, 7, 7, 7, 7, 7, 7, 7, 7, 7, 7, 7, 7, 7, 7, 7, 7, 7, 7, 7, 7]).append ([8, 8, 8, 8, 8, 8, 8, 8, 8, 8, 8, 8, 8, 8, 8, 8, 8, 8, 8, 8, 8, 8, 8, 8, 8, 8, 8, 8, 8, 8, 8, 8, 8, 8, 8, 8, 8, 8, 8, 8, 8, 8, 8, 8, 8, 8, 8, 8, 8, 8, 8, 8, 8, 8, 8, 8, 8, 8, 8, 8, 8, 8, 8, 8].append [8, 8, 8, 8, 8, 8, 8, 8, 8, 8, 8, 8, 8, 8, 8, 8, 8, 8, 8, 8, 8, 8, 8, 8, 8, 8, 8, 8, 8, 8, 8, 8, 8, 8, 8, 8, 8, 8, 8, 8, 8, 8, 8, 8, 8, 8, 8, 8, 8, 8, 8, 8, 8, 8, 8, 8, 8, 8, 8, 8, 8, 8, 8, 8])).toArray })
def BLen64 (T : ByteArray) : FC := ⟨25, .seq (.reg [⟨some 2, .mv (.c (.sc (.int .i64 0))), none, []⟩]) (.seq (.seq (.reg [⟨some 3, .mv (.t 0), none, []⟩, ⟨some 4, .bin .geq (.t 3) (.c (.sc (.int .u64 4294967296))), none, []⟩]) (.cond (.t 4) (.seq (.reg [⟨some 5, .mv (.t 0), none, []⟩, ⟨some 6, .bin .shr (.t 5) (.c (.sc (.int .u64 32))), none, []⟩, ⟨some 0, .mv (.t 6), none, []⟩]) (.reg [⟨some 2, .mv (.c (.sc (.int .i64 32))), none, []⟩])) .skip)) (.seq (.seq (.reg [⟨some 7, .mv (.t 0), none, []⟩, ⟨some 8, .bin .geq (.t 7) (.c (.sc (.int .u64 65536))), none, []⟩]) (.cond (.t 8) (.seq (.reg [⟨some 9, .mv (.t 0), none, []⟩, ⟨some 10, .bin .shr (.t 9) (.c (.sc (.int .u64 16))), none, []⟩, ⟨some 0, .mv (.t 10), none, []⟩]) (.reg [⟨some 11, .mv (.t 2), none, []⟩, ⟨some 12, .bin .add (.t 11) (.c (.sc (.int .i64 16))), none, []⟩, ⟨some 2, .mv (.t 12), none, []⟩])) .skip)) (.seq (.seq (.reg [⟨some 13, .mv (.t 0), none, []⟩, ⟨some 14, .bin .geq (.t 13) (.c (.sc (.int .u64 256))), none, []⟩]) (.cond (.t 14) (.seq (.reg [⟨some 15, .mv (.t 0), none, []⟩, ⟨some 16, .bin .shr (.t 15) (.c (.sc (.int .u64 8))), none, []⟩, ⟨some 0, .mv (.t 16), none, []⟩]) (.reg [⟨some 17, .mv (.t 2), none, []⟩, ⟨some 18, .bin .add (.t 17) (.c (.sc (.int .i64 8))), none, []⟩, ⟨some 2, .mv (.t 18), none, []⟩])) .skip)) (.seq (.reg [⟨some 19, .mv (.t 2), none, []⟩, ⟨some 20, .mv (.t 0), none, []⟩, ⟨some 21, .conv .u8 (.t 20), none, []⟩, ⟨some 22, .sidx (.c (.sc (.string T))) (.t 21), none, []⟩, ⟨some 23, .conv .i64 (.t 22), none, []⟩, ⟨some 24, .bin .add (.t 19) (.t 23), none, []⟩, ⟨some 2, .mv (.t 24), none, []⟩]) .ret)))), [.tmp 2]⟩
def BLen (flen32 flen64 : FuncId) : FC := ⟨8, .seq (.reg [⟨some 2, .mv (.c (.sc (.int .i64 0))), none, []⟩]) (.seq (.cond (.c (.sc (.bool false))) (.seq (.reg [⟨some 3, .mv (.t 0), none, []⟩, ⟨some 4, .conv .u32 (.t 3), none, []⟩, ⟨some 5, .call flen32 [.t 4], none, []⟩, ⟨some 2, .mv (.t 5), none, []⟩]) .ret) .skip) (.seq (.reg [⟨some 6, .mv (.t 0), none, []⟩, ⟨some 7, .call flen64 [.t 6], none, []⟩, ⟨some 2, .mv (.t 7), none, []⟩]) .ret)), [.tmp 2]⟩
def BPow (flen : FuncId) : FC := ⟨7, .seq (.reg [⟨some 2, .mv (.c (.sc (.int .u64 0))), none, []⟩]) (.seq (.reg [⟨some 3, .mv (.t 0), none, []⟩, ⟨some 4, .conv .u64 (.t 3), none, []⟩, ⟨some 5, .call flen [.t 4], none, []⟩, ⟨some 6, .bin .shl (.c (.sc (.int .u64 1))) (.t 5), none, []⟩, ⟨some 2, .mv (.t 6), none, []⟩]) .ret), [.tmp 2]⟩
def BNext : FC := ⟨33, .seq (.reg [⟨some 2, .mv (.c (.sc (.int .u64 0))), none, []⟩]) (.seq (.reg [⟨some 3, .mv (.t 0), none, []⟩, ⟨some 4, .nilck (.t 3), none, []⟩, ⟨some 5, .load none (.t 4), none, []⟩, ⟨some 6, .mv (.t 0), none, []⟩, ⟨some 7, .nilck (.t 6), none, []⟩, ⟨some 8, .load none (.t 7), none, []⟩, ⟨some 9, .bin .shl (.t 8) (.c (.sc (.int .u64 13))), none, []⟩, ⟨some 10, .bin .xor (.t 5) (.t 9), none, []⟩, ⟨some 11, .nilck (.t 3), none, []⟩, ⟨none, .store 1 (.t 11) (.t 10), none, []⟩]) (.seq (.reg [⟨some 12, .mv (.t 0), none, []⟩, ⟨some 13, .nilck (.t 12), none, []⟩, ⟨some 14, .load none (.t 13), none, []⟩, ⟨some 15, .mv (.t 0), none, []⟩, ⟨some 16, .nilck (.t 15), none, []⟩, ⟨some 17, .load none (.t 16), none, []⟩, ⟨some 18, .bin .shr (.t 17) (.c (.sc (.int .u64 7))), none, []⟩, ⟨some 19, .bin .xor (.t 14) (.t 18), none, []⟩, ⟨some 20, .nilck (.t 12), none, []⟩, ⟨none, .store 1 (.t 20) (.t 19), none, []⟩]) (.seq (.reg [⟨some 21, .mv (.t 0), none, []⟩, ⟨some 22, .nilck (.t 21), none, []⟩, ⟨some 23, .load none (.t 22), none, []⟩, ⟨some 24, .mv (.t 0), none, []⟩, ⟨some 25, .nilck (.t 24), none, []⟩, ⟨some 26, .load none (.t 25), none, []⟩, ⟨some 27, .bin .shl (.t 26) (.c (.sc (.int .u64 17))), none, []⟩, ⟨some 28, .bin .xor (.t 23) (.t 27), none, []⟩, ⟨some 29, .nilck (.t 21), none, []⟩, ⟨none, .store 1 (.t 29) (.t 28), none, []⟩]) (.seq (.reg [⟨some 30, .mv (.t 0), none, []⟩, ⟨some 31, .nilck (.t 30), none, []⟩, ⟨some 32, .load none (.t 31), none, []⟩, ⟨some 2, .mv (.t 32), none, []⟩]) .ret)))), [.tmp 2]⟩
end
section
open Go
def TabOk (T : ByteArray) : Prop := ∀ x : Nat, x < 256 → ∃ t : Nat, (bytesOf T)[x]? = some (t : Int) ∧ t ≤ 8 ∧ x < 2 ^ t ∧ (x = 0 ∨ 2 ^ t ≤ 2 * x)
theorem tab_all : (List.range 256).all (fun x => match (bytesOf bitsTab)[x]? with | some t => decide (0 ≤ t ∧ t ≤ 8 ∧ x < 2 ^ t.toNat ∧ (x = 0 ∨ 2 ^ t.toNat ≤ 2 * x)) | none => false) = true := by kernel_rfl
theorem tab_ok : TabOk bitsTab := fun x hx => by
  have h := List.all_eq_true.1 tab_all x (List.mem_range.2 hx)
  cases e : (bytesOf bitsTab)[x]? with
  | none => simp [e] at h
  | some t =>
    simp only [e, decide_eq_true_eq] at h
    exact ⟨t.toNat, by rw [show ((t.toNat : Nat) : Int) = t by omega], by omega, h.2.2.1, h.2.2.2⟩
theorem pow_in {k n t x y : Nat} (hk : k = n + t) {p : Nat} (hp : p = 2 ^ n) (h1 : y * p ≤ x) (h2 : x < (y + 1) * p) (h3 : y < 2 ^ t) (h4 : y = 0 ∨ 2 ^ t ≤ 2 * y) : x < 2 ^ k ∧ (y = 0 ∨ 2 ^ k ≤ 2 * x) := by
  subst hk hp
  rw [Nat.pow_add]
  refine ⟨Nat.lt_of_lt_of_le h2 (by rw [Nat.mul_comm]; exact Nat.mul_le_mul_left _ h3), ?_⟩
  rcases h4 with h4 | h4
  · exact .inl h4
  · refine .inr (Nat.le_trans (Nat.mul_le_mul_left (2 ^ n) h4) ?_)
    rw [← Nat.mul_assoc, Nat.mul_comm (2 ^ n) 2, Nat.mul_assoc]
    exact Nat.mul_le_mul_left 2 (by rw [Nat.mul_comm]; exact h1)
theorem weak_ne {st : St} {b : Nat} {X Y : List V} (h : (st.put b X).Wf) : (st.put b Y).weak (st.put b Y) := by
  have := (h.lt.put (b := b) (cs := Y)).weak
  rwa [put_put] at this
section
variable {P : Program} {st : St} {f flen flen32 flen64 : FuncId} {T : ByteArray}
set_option maxRecDepth 100000 in
set_option maxHeartbeats 16000000 in
theorem blen64_v (hf : cFun P f = some (BLen64 T)) (hT : TabOk T) {x : Nat} (hx : x < 18446744073709551616) :
    VCalls P f [.sc (.int .u64 x)] st fun v s => st = s ∧ ∃ k : Nat, k ≤ 64 ∧ x < 2 ^ k ∧ (x = 0 ∨ 2 ^ k ≤ 2 * x) ∧ v = .sc (.int .i64 k) := by
  refine vcalls_enter hf (Nat.le_of_ble_eq_true rfl) fun hwf hok => ?_
  show Run _ (BLen64 T).body (.fin (finQ (BLen64 T).res _)) _ _
  unfold BLen64
  by_cases c0 : (4294967296 : Int) ≤ (x : Int)
  · obtain ⟨a, ea⟩ : ∃ y : Nat, y = x / 4294967296 := ⟨_, rfl⟩
    have ia : (x : Int) / 4294967296 = (a : Int) := by omega
    by_cases c1 : (65536 : Int) ≤ (a : Int)
    · obtain ⟨b, eb⟩ : ∃ y : Nat, y = a / 65536 := ⟨_, rfl⟩
      have ib : (a : Int) / 65536 = (b : Int) := by omega
      by_cases c2 : (256 : Int) ≤ (b : Int)
      · obtain ⟨c, ec⟩ : ∃ y : Nat, y = b / 256 := ⟨_, rfl⟩
        have ic : (b : Int) / 256 = (c : Int) := by omega
        obtain ⟨t, ht, t8, t1, t2⟩ := hT c (by omega)
        have em : (c : Int) % 256 = (c : Int) := by omega
        simp (maxSteps := 3000000) only [go_sem, ↓reduceIte, decide_eq_true c0, ia, decide_eq_true c1, ib, decide_eq_true c2, ic, em, ht]
        repeat (apply And.intro; focus (first | omega | (simp; done)))
        have hp := pow_in (k := 56 + t) (n := 56) (x := x) (y := c) rfl (p := 72057594037927936) (by decide) (by omega) (by omega) t1 t2
        exact ⟨_, _, Wk.refl _, hwf.weak, rfl, 56 + t, by omega, hp.1, by omega, by simp⟩
      · obtain ⟨t, ht, t8, t1, t2⟩ := hT b (by omega)
        have em : (b : Int) % 256 = (b : Int) := by omega
        simp (maxSteps := 3000000) only [go_sem, ↓reduceIte, decide_eq_true c0, ia, decide_eq_true c1, ib, decide_eq_false c2, em, ht]
        repeat (apply And.intro; focus (first | omega | (simp; done)))
        have hp := pow_in (k := 48 + t) (n := 48) (x := x) (y := b) rfl (p := 281474976710656) (by decide) (by omega) (by omega) t1 t2
        exact ⟨_, _, Wk.refl _, hwf.weak, rfl, 48 + t, by omega, hp.1, by omega, by simp⟩
    · by_cases c2 : (256 : Int) ≤ (a : Int)
      · obtain ⟨c, ec⟩ : ∃ y : Nat, y = a / 256 := ⟨_, rfl⟩
        have ic : (a : Int) / 256 = (c : Int) := by omega
        obtain ⟨t, ht, t8, t1, t2⟩ := hT c (by omega)
        have em : (c : Int) % 256 = (c : Int) := by omega
        simp (maxSteps := 3000000) only [go_sem, ↓reduceIte, decide_eq_true c0, ia, decide_eq_false c1, decide_eq_true c2, ic, em, ht]
        repeat (apply And.intro; focus (first | omega | (simp; done)))
        have hp := pow_in (k := 40 + t) (n := 40) (x := x) (y := c) rfl (p := 1099511627776) (by decide) (by omega) (by omega) t1 t2
        exact ⟨_, _, Wk.refl _, hwf.weak, rfl, 40 + t, by omega, hp.1, by omega, by simp⟩
      · obtain ⟨t, ht, t8, t1, t2⟩ := hT a (by omega)
        have em : (a : Int) % 256 = (a : Int) := by omega
        simp (maxSteps := 3000000) only [go_sem, ↓reduceIte, decide_eq_true c0, ia, decide_eq_false c1, decide_eq_false c2, em, ht]
        repeat (apply And.intro; focus (first | omega | (simp; done)))
        have hp := pow_in (k := 32 + t) (n := 32) (x := x) (y := a) rfl (p := 4294967296) (by decide) (by omega) (by omega) t1 t2
        exact ⟨_, _, Wk.refl _, hwf.weak, rfl, 32 + t, by omega, hp.1, by omega, by simp⟩
  · by_cases c1 : (65536 : Int) ≤ (x : Int)
    · obtain ⟨b, eb⟩ : ∃ y : Nat, y = x / 65536 := ⟨_, rfl⟩
      have ib : (x : Int) / 65536 = (b : Int) := by omega
      by_cases c2 : (256 : Int) ≤ (b : Int)
      · obtain ⟨c, ec⟩ : ∃ y : Nat, y = b / 256 := ⟨_, rfl⟩
        have ic : (b : Int) / 256 = (c : Int) := by omega
        obtain ⟨t, ht, t8, t1, t2⟩ := hT c (by omega)
        have em : (c : Int) % 256 = (c : Int) := by omega
        simp (maxSteps := 3000000) only [go_sem, ↓reduceIte, decide_eq_false c0, decide_eq_true c1, ib, decide_eq_true c2, ic, em, ht]
        repeat (apply And.intro; focus (first | omega | (simp; done)))
        have hp := pow_in (k := 24 + t) (n := 24) (x := x) (y := c) rfl (p := 16777216) (by decide) (by omega) (by omega) t1 t2
        exact ⟨_, _, Wk.refl _, hwf.weak, rfl, 24 + t, by omega, hp.1, by omega, by simp⟩
      · obtain ⟨t, ht, t8, t1, t2⟩ := hT b (by omega)
        have em : (b : Int) % 256 = (b : Int) := by omega
        simp (maxSteps := 3000000) only [go_sem, ↓reduceIte, decide_eq_false c0, decide_eq_true c1, ib, decide_eq_false c2, em, ht]
        repeat (apply And.intro; focus (first | omega | (simp; done)))
        have hp := pow_in (k := 16 + t) (n := 16) (x := x) (y := b) rfl (p := 65536) (by decide) (by omega) (by omega) t1 t2
        exact ⟨_, _, Wk.refl _, hwf.weak, rfl, 16 + t, by omega, hp.1, by omega, by simp⟩
    · by_cases c2 : (256 : Int) ≤ (x : Int)
      · obtain ⟨c, ec⟩ : ∃ y : Nat, y = x / 256 := ⟨_, rfl⟩
        have ic : (x : Int) / 256 = (c : Int) := by omega
        obtain ⟨t, ht, t8, t1, t2⟩ := hT c (by omega)
        have em : (c : Int) % 256 = (c : Int) := by omega
        simp (maxSteps := 3000000) only [go_sem, ↓reduceIte, decide_eq_false c0, decide_eq_false c1, decide_eq_true c2, ic, em, ht]
        repeat (apply And.intro; focus (first | omega | (simp; done)))
        have hp := pow_in (k := 8 + t) (n := 8) (x := x) (y := c) rfl (p := 256) (by decide) (by omega) (by omega) t1 t2
        exact ⟨_, _, Wk.refl _, hwf.weak, rfl, 8 + t, by omega, hp.1, by omega, by simp⟩
      · obtain ⟨t, ht, t8, t1, t2⟩ := hT x (by omega)
        have em : (x : Int) % 256 = (x : Int) := by omega
        simp (maxSteps := 3000000) only [go_sem, ↓reduceIte, decide_eq_false c0, decide_eq_false c1, decide_eq_false c2, em, ht]
        repeat (apply And.intro; focus (first | omega | (simp; done)))
        have hp := pow_in (k := 0 + t) (n := 0) (x := x) (y := x) rfl (p := 1) (by decide) (by omega) (by omega) t1 t2
        exact ⟨_, _, Wk.refl _, hwf.weak, rfl, 0 + t, by omega, hp.1, by omega, by simp⟩
set_option maxRecDepth 100000 in
set_option maxHeartbeats 4000000 in
theorem blen_v (hf : cFun P f = some (BLen flen32 flen64)) (h64 : cFun P flen64 = some (BLen64 T)) (hT : TabOk T) {x : Nat} (hx : x < 18446744073709551616) :
    VCalls P f [.sc (.int .u64 x)] st fun v s => st = s ∧ ∃ k : Nat, k ≤ 64 ∧ x < 2 ^ k ∧ (x = 0 ∨ 2 ^ k ≤ 2 * x) ∧ v = .sc (.int .i64 k) := by
  refine vcalls_enter hf (Nat.le_of_ble_eq_true rfl) fun hwf hok => ?_
  show Run _ (BLen flen32 flen64).body (.fin (finQ (BLen flen32 flen64).res _)) _ _
  unfold BLen
  simp (maxSteps := 3000000) only [go_sem, ↓reduceIte]
  refine Cal.mk (blen64_v h64 hT hx) ?_
  rintro _ _ ⟨rfl, k, h1, h2, h3, rfl⟩ -
  simp (maxSteps := 3000000) only [go_sem, ↓reduceIte]
  exact ⟨_, _, Wk.refl _, hwf.weak, rfl, k, h1, h2, h3, rfl⟩
set_option maxRecDepth 100000 in
set_option maxHeartbeats 4000000 in
theorem bpow_v (hf : cFun P f = some (BPow flen)) (hfl : cFun P flen = some (BLen flen32 flen64)) (h64 : cFun P flen64 = some (BLen64 T)) (hT : TabOk T) {n : Nat} (h0 : 0 < n) (hn : n < 4611686018427387904) :
    VCalls P f [.sc (.int .i64 n)] st fun v s => st = s ∧ ∃ m : Nat, n < m ∧ m ≤ 2 * n ∧ v = .sc (.int .u64 m) := by
  have en : (n : Int) % 18446744073709551616 = (n : Int) := by omega
  refine vcalls_enter hf (Nat.le_of_ble_eq_true rfl) fun hwf hok => ?_
  show Run _ (BPow flen).body (.fin (finQ (BPow flen).res _)) _ _
  unfold BPow
  simp (maxSteps := 3000000) only [go_sem, ↓reduceIte, en]
  refine Cal.mk (blen_v hfl h64 hT (x := n) (by omega)) ?_
  rintro _ _ ⟨rfl, k, h1, h2, h3, rfl⟩ -
  have h4 : 2 ^ k ≤ 2 * n := by omega
  have em : ((1 : Int) * 2 ^ min ((k : Int)).toNat 64) % 18446744073709551616 = ((2 ^ k : Nat) : Int) := by
    rw [Int.toNat_natCast, Nat.min_eq_left h1, Int.one_mul]
    have e2 : (2 : Int) ^ k = ((2 ^ k : Nat) : Int) := by simp
    rw [e2]
    have : 2 ^ k < 18446744073709551616 := by omega
    generalize 2 ^ k = q at this ⊢
    omega
  simp only [Int.toNat_natCast, Int.one_mul, Nat.min_eq_left h1] at em
  simp (maxSteps := 3000000) only [go_sem, ↓reduceIte, em, Int.one_mul, Nat.min_eq_left h1]
  repeat (apply And.intro; focus (first | omega | (simp; done)))
  exact ⟨_, _, Wk.refl _, hwf.weak, rfl, 2 ^ k, h2, h4, by first | rfl | simp⟩
set_option maxRecDepth 100000 in
set_option maxHeartbeats 4000000 in
theorem bnext_v (hf : cFun P f = some BNext) (st : St) (r : Nat) (x : Int) : VCalls P f [ptrV r] (st.put r [.sc (.int .u64 x)]) fun v s => ∃ y, v = .sc (.int .u64 y) ∧ s = st.put r [.sc (.int .u64 y)] := by
  refine vcalls_enter hf (Nat.le_of_ble_eq_true rfl) fun hwf hok => ?_
  show Run _ (BNext).body (.fin (finQ (BNext).res _)) _ _
  unfold BNext
  simp (maxSteps := 3000000) only [go_sem, ↓reduceIte]
  exact ⟨_, _, Wk.refl _, weak_ne hwf, _, rfl, rfl⟩
end
end
section
open Go
section
variable {P : Program} {α : Type} [Inhabited α] {val : α → Value} {lt : α → α → Bool} {less f fsift : FuncId} {st : St} {b cap a c : Nat} {L : List α} {sp : List V}
variable {fins fheap fbreak fpivot frev fpart fequal fsplit fa fm fo fpow fnext fpdq flen flen32 flen64 fnan : FuncId} {T : ByteArray}
set_option maxRecDepth 100000 in
set_option maxHeartbeats 4000000 in
theorem osort_v (hf : cFun P f = some (OSorts flen fpdq)) (hfl : cFun P flen = some (BLen flen32 flen64)) (h64 : cFun P flen64 = some (BLen64 T)) (hT : TabOk T) (hc : SortsO P fpdq less fins fheap fbreak fpivot frev fpart fequal fsplit fsift fa fm fo fpow fnext) (E : Elt P less val lt) (hmo : mono (row val L sp)) (hl : L.length < 4611686018427387904) :
    VCalls P f [dataV b L.length cap] (st.put b (row val L sp)) fun _ s => ∃ M : List α, M.Perm L ∧ M.Pairwise (fun x y => lt y x = false) ∧ s = st.put b (row val M sp) := by
  have en : (L.length : Int) % 18446744073709551616 = (L.length : Int) := by omega
  refine vcalls_enter hf (Nat.le_of_ble_eq_true rfl) fun hwf hok => ?_
  show Run _ (OSorts flen fpdq).body (.fin (finQ (OSorts flen fpdq).res _)) _ _
  unfold OSorts
  simp (maxSteps := 3000000) only [go_sem, ↓reduceIte, dataV, en]
  refine Cal.mk (blen_v hfl h64 hT (x := L.length) (by omega)) ?_
  rintro _ _ ⟨rfl, k, k1, k2, k3, rfl⟩ -
  simp (maxSteps := 3000000) only [go_sem, ↓reduceIte]
  have cc := opdq_v (st := st) (b := b) (cap := cap) (sp := sp) hc E L.length 0 L.length L k (by omega) (by omega) (by omega) hl (by omega) (by omega) (fun h0 => by omega) hmo
  rw [dataV] at cc
  refine Cal.mk cc ?_
  rintro _ _ ⟨M, m1, m2, rfl⟩ -
  simp (maxSteps := 3000000) only [go_sem]
  exact ⟨_, _, Wk.refl _, weak_re hwf, M, (Srt.all m1 m2).1, (Srt.all m1 m2).2, rfl⟩
set_option maxRecDepth 100000 in
set_option maxHeartbeats 4000000 in
theorem oless_int (hf : cFun P f = some (OLess fnan)) (hn : cFun P fnan = some ONan) (kk : IntKind) (x y : Int) : VCalls P f [.sc (.int kk x), .sc (.int kk y)] st fun v s => v = .sc (.bool (decide (x < y))) ∧ st = s := by
  have nan : ∀ (st : St) (x : Int), VCalls P fnan [.sc (.int kk x)] st fun v s => v = .sc (.bool false) ∧ st = s := fun st x => by
    have hf := hn
    refine vcalls_enter hf (Nat.le_of_ble_eq_true rfl) fun hwf hok => ?_
    show Run _ (ONan).body (.fin (finQ (ONan).res _)) _ _
    unfold ONan
    simp (maxSteps := 3000000) only [go_sem, ↓reduceIte]
    exact ⟨_, _, Wk.refl _, hwf.weak, rfl, rfl⟩
  refine vcalls_enter hf (Nat.le_of_ble_eq_true rfl) fun hwf hok => ?_
  show Run _ (OLess fnan).body (.fin (finQ (OLess fnan).res _)) _ _
  unfold OLess
  simp (maxSteps := 3000000) only [go_sem, ↓reduceIte]
  refine Cal.mk (nan _ _) ?_
  rintro _ _ ⟨rfl, rfl⟩ -
  simp (maxSteps := 3000000) only [go_sem, ↓reduceIte]
  exact ⟨_, _, Wk.refl _, hwf.weak, rfl, rfl⟩
def ltI (x y : Int) : Bool := decide (x < y)
theorem ltI_ord : Ord' ltI := ⟨fun {x y} h => by simp only [ltI, decide_eq_true_eq, decide_eq_false_iff_not] at h ⊢; omega, fun {x y z} h k => by simp only [ltI, decide_eq_false_iff_not] at h k ⊢; omega⟩
theorem elt_int (hf : cFun P less = some (OLess fnan)) (hn : cFun P fnan = some ONan) (kk : IntKind) : Elt P less (fun x : Int => .int kk x) ltI := ⟨fun _ x y => oless_int hf hn kk x y, ltI_ord⟩
end
end
section
open Go
set_option maxRecDepth 100000 in
theorem sortsU : SortsO Tryd.prog 21 31 25 26 27 28 29 30 32 33 37 40 41 43 38 39 :=
  ⟨vc21, vc25, vc26, vc37, vc27, vc28, vc40, vc41, vc43, vc29, vc30, vc32, vc33,
    fun _ _ h0 hn => bpow_v vc38 vc22 vc35 tab_ok h0 hn, fun st r x => bnext_v vc39 st r x⟩
theorem sortU_v {st : St} {b cap : Nat} {L : List Int} {sp : List V} (hmo : mono (row (fun x : Int => .int .u16 x) L sp)) (hl : L.length < 4611686018427387904) :
    VCalls Tryd.prog 12 [dataV b L.length cap] (st.put b (row (fun x : Int => .int .u16 x) L sp)) fun _ s => ∃ M : List Int, M.Perm L ∧ M.Pairwise (fun x y => ltI y x = false) ∧ s = st.put b (row (fun x : Int => .int .u16 x) M sp) :=
  osort_v vc12 vc22 vc35 tab_ok sortsU (elt_int vc31 vc42 .u16) hmo hl
end
section
open Go
def memS (l : List Nat) : Nat → Bool := fun j => decide (j ∈ l)
section
variable {l : List Nat} {x i : Nat}
theorem memS_add : memS (l ++ [x]) = updS (memS l) x true := by
  funext j
  by_cases e : j = x
  · subst e; rw [updS_same]; exact decide_eq_true (by simp)
  · rw [updS_ne e]; exact decide_eq_decide.2 (by simp [e])
theorem memS_cons : memS (x :: l) = updS (memS l) x true := by
  funext j
  by_cases e : j = x
  · subst e; rw [updS_same]; exact decide_eq_true (by simp)
  · rw [updS_ne e]; exact decide_eq_decide.2 (by simp [e])
theorem memS_del (hn : l.Nodup) (hi : l[i]? = some x) : memS (l.take i ++ l.drop (i + 1)) = updS (memS l) x false := by
  funext j
  have hl := (List.getElem?_eq_some_iff.1 hi).1
  have hx := (List.getElem?_eq_some_iff.1 hi).2
  have e1 : l = l.take i ++ x :: l.drop (i + 1) := by rw [← hx, List.getElem_cons_drop, List.take_append_drop]
  have hn2 := hn
  rw [e1, List.nodup_append] at hn2
  obtain ⟨_, h2, h3⟩ := hn2
  by_cases e : j = x
  · subst e
    rw [updS_same]
    refine decide_eq_false fun h => ?_
    rcases List.mem_append.1 h with h | h
    · exact h3 _ h _ List.mem_cons_self rfl
    · exact (List.nodup_cons.1 h2).1 h
  · rw [updS_ne e]
    refine decide_eq_decide.2 ⟨fun h => ?_, fun h => ?_⟩
    · rw [e1]
      rcases List.mem_append.1 h with h | h
      · exact List.mem_append_left _ h
      · exact List.mem_append_right _ (List.mem_cons_of_mem _ h)
    · rw [e1] at h
      rcases List.mem_append.1 h with h | h
      · exact List.mem_append_left _ h
      · rcases List.mem_cons.1 h with h | h
        · exact absurd h e
        · exact List.mem_append_right _ h
theorem memS_nil : memS [] = fun _ => false := funext fun j => decide_eq_false (by simp)
theorem cnt_mem : ∀ {l : List Nat}, l.Nodup → (∀ n ∈ l, n < 65536) → cntS (memS l) 65536 = l.length
  | [], _, _ => by rw [memS_nil, cntS_none]; rfl
  | x :: l, h1, h2 => by
    have h3 := List.nodup_cons.1 h1
    rw [memS_cons, cntS_take (h2 x List.mem_cons_self) (decide_eq_false h3.1), cnt_mem h3.2 (fun n hn => h2 n (List.mem_cons_of_mem _ hn)), List.length_cons]
theorem Frs.one {S : Nat → Bool} {f a b : Nat} (h : Frs S f a) (k : Frs S f b) : a = b := by
  have h1 := h.key b k.g1 k.lt k.no
  have h2 := k.key a h.g1 h.lt h.no
  exact key_inj (f := f) h.lt k.lt (by omega)
end
section
variable {st : St} {b x i : Nat} {W : Nat → Nat} {l : List Nat} {tk : Tk}
set_option maxRecDepth 100000 in
set_option maxHeartbeats 1000000 in
theorem fresh08_v (hz : 0 ∉ l) (hc : cntS (memS l) 65536 < 65535) (hx : x < 65536) : VCalls Tryd.prog 20 [.sl tk (u16s l), .sc (.int .u16 x)] st fun r s => st = s ∧ ∃ n : Nat, r = .sc (.int .u16 n) ∧ Frs (memS l) x n := by
  refine vcalls_enterq pc20 (Nat.le_of_ble_eq_true rfl) rfl fun hwf hok => ?_
  show Run _ Pc20.body (.fin (finP Pc20.res _)) _ _
  unfold Pc20 zg zo
  obtain ⟨j0, g1, g2, g3⟩ := cntS_lt (S := memS l) (k := 65535) (decide_eq_false hz) hc
  obtain ⟨y, hy⟩ : ∃ y, (if x = 0 then 1 else x) = y := ⟨_, rfl⟩
  simp (maxSteps := 3000000) only [go_sem]
  refine run_loop [1, 4, 5, 6, 8, 10, 12, 14, 16, 18, 20, 21, 22, 23, 24, 25, 27] (fun B s => s = st ∧ ∃ k z : Nat, B 5 = .sc (.int .i64 k) ∧ B 1 = .sc (.int .u16 z) ∧ ((k = 0 ∧ z = x) ∨ (k = 1 ∧ z = 1 ∧ ∀ j, y ≤ j → j < 65536 → memS l j = true))) (fun B _ => 2 - vnat (B 5)) rfl ?_ ?_
  · exact ⟨rfl, 0, x, by first | (simp (maxSteps := 3000000) only [go_sem, ↓reduceIte]; done) | (simp (maxSteps := 3000000) only [go_sem, ↓reduceIte]; rfl), by first | (simp (maxSteps := 3000000) only [go_sem, ↓reduceIte]; done) | (simp (maxSteps := 3000000) only [go_sem, ↓reduceIte]; rfl), .inl ⟨rfl, rfl⟩⟩
  · rintro B s ⟨rfl, k, z, h5, h1, hkz⟩
    have c8 : decide ((k : Int) < 2) = true := decide_eq_true (by omega)
    have hz1 : z < 65536 := by omega
    have hzy : k = 0 → ∀ j, y ≤ j → z ≤ j := fun hk j h => by
      rw [← hy] at h
      split at h <;> omega
    simp (maxSteps := 3000000) only [go_sem, ↓reduceIte, h5, h1, c8]
    repeat (apply And.intro; focus (first | omega | (simp; done)))
    refine run_loop [4, 6, 14, 16, 18, 20, 21, 22, 23, 24, 25, 27] (fun D s' => s' = s ∧ ∃ n : Nat, z ≤ n ∧ n ≤ 65536 ∧ D 6 = .sc (.int .i64 n) ∧ ∀ j, 1 ≤ j → z ≤ j → j < n → memS l j = true) (fun D _ => 65536 - vnat (D 6)) rfl ?_ ?_
    · exact ⟨rfl, z, Nat.le_refl _, by omega, by simp (maxSteps := 3000000) only [go_sem, ↓reduceIte], fun j h0 h1 h2 => by omega⟩
    · rintro D s' ⟨rfl, n, n1, n2, h6, hno⟩
      by_cases c : n ≤ 65535
      · have c1 : decide ((n : Int) ≤ 65535) = true := decide_eq_true (by omega)
        have e1 : (n : Int) % 65536 = n := by omega
        by_cases c0 : n = 0
        · have c2 : decide ((0 : Int) < (n : Int)) = false := decide_eq_false (by omega)
          repeat' first | simp (maxSteps := 3000000) only [go_sem, ↓reduceIte, h6, c1, c2] | (refine If.dec (fun h => ?_) (fun h => ?_) <;> first | simp only [decide_eq_true h] | simp only [decide_eq_false h] | skip) | (refine Grd.decd (fun h => ?_) (fun h => ?_) <;> first | simp only [decide_eq_true h] | simp only [decide_eq_false h] | skip) | (refine If.mk (fun h => ?_) (fun h => ?_) <;> first | simp only [h] | skip) | (refine Grd.two (fun h => ?_) (fun h => ?_) <;> first | simp only [h] | skip) | (apply And.intro; focus (first | omega | (simp; done)))
          exact ⟨⟨n + 1, by omega, by omega, by simp, fun j h0 h1 h2 => by omega⟩, by omega⟩
        · have c2 : decide ((0 : Int) < (n : Int)) = true := decide_eq_true (by omega)
          by_cases c3 : n ∈ l
          · have c4 : decide (n ∈ l) = true := decide_eq_true c3
            repeat' first | simp (maxSteps := 3000000) only [go_sem, ↓reduceIte, h6, c1, c2, e1, c4] | (refine If.dec (fun h => ?_) (fun h => ?_) <;> first | simp only [decide_eq_true h] | simp only [decide_eq_false h] | skip) | (refine Grd.decd (fun h => ?_) (fun h => ?_) <;> first | simp only [decide_eq_true h] | simp only [decide_eq_false h] | skip) | (refine If.mk (fun h => ?_) (fun h => ?_) <;> first | simp only [h] | skip) | (refine Grd.two (fun h => ?_) (fun h => ?_) <;> first | simp only [h] | skip) | (apply And.intro; focus (first | omega | (simp; done))) | (refine Cal.mk (contains16_v) ?_; rintro _ _ ⟨rfl, rfl⟩ -)
            refine ⟨⟨n + 1, by omega, by omega, by simp, fun j h0 h1 h2 => ?_⟩, by omega⟩
            by_cases e : j = n
            · subst e; exact c4
            · exact hno j h0 h1 (by omega)
          · have c4 : decide (n ∈ l) = false := decide_eq_false c3
            repeat' first | simp (maxSteps := 3000000) only [go_sem, ↓reduceIte, h6, c1, c2, e1, c4] | (refine If.dec (fun h => ?_) (fun h => ?_) <;> first | simp only [decide_eq_true h] | simp only [decide_eq_false h] | skip) | (refine Grd.decd (fun h => ?_) (fun h => ?_) <;> first | simp only [decide_eq_true h] | simp only [decide_eq_false h] | skip) | (refine If.mk (fun h => ?_) (fun h => ?_) <;> first | simp only [h] | skip) | (refine Grd.two (fun h => ?_) (fun h => ?_) <;> first | simp only [h] | skip) | (apply And.intro; focus (first | omega | (simp; done))) | (refine Cal.mk (contains16_v) ?_; rintro _ _ ⟨rfl, rfl⟩ -)
            refine ⟨_, _, Wk.refl _, hwf.weak, rfl, n, rfl, ?_⟩
            rcases hkz with ⟨rfl, rfl⟩ | ⟨rfl, rfl, hall⟩
            · refine Frs.up ⟨?_, by omega, c4, fun j h1 h2 => hno j ?_ (hzy rfl j ?_) h2⟩
              · rw [hy, ← hy]; split <;> omega
              · split at h1 <;> omega
              · rw [← hy]; exact h1
            · exact Frs.round hx (fun j h1 h2 => hall j (by rw [← hy]; exact h1) h2) ⟨by omega, by omega, c4, fun j h1 h2 => hno j h1 h1 h2⟩
      · obtain rfl : n = 65536 := by omega
        have c1 : decide (((65536 : Nat) : Int) ≤ 65535) = false := decide_eq_false (by omega)
        rcases hkz with ⟨rfl, rfl⟩ | ⟨rfl, rfl, hall⟩
        · simp (maxSteps := 3000000) only [go_sem, ↓reduceIte, h5, h6, c1]
          repeat (apply And.intro; focus (first | omega | (simp; done)))
          refine ⟨⟨1, 1, by simp, by simp, .inr ⟨rfl, rfl, fun j h1 h2 => hno j ?_ (hzy rfl j h1) h2⟩⟩, by omega⟩
          rw [← hy] at h1
          split at h1 <;> omega
        · have := hno j0 g1 g1 (by omega)
          rw [g3] at this; cases this
def TokN (tk : Tk) (l : List Nat) : Prop := tk = .nn ∨ tk = .nil ∧ l = []
theorem Wk.nn {g k : Nat} {l : List V} : Wk (.sl (.own g k) l) (.sl .nn l) := fun G v h => by
  cases h with
  | nil _ ho _ => exact absurd rfl (ho g k)
  | emp a cap hm _ he => rcases he with h | h | h <;> simp at h
  | sl _ _ b o k cap u hk hF h1 h2 hcap hm ho hown hfull => exact .sl .nn l b o k cap u hk hF h1 h2 hcap hm (by simp) (fun g k e => by cases e) (by simp)
theorem allSz_u16s : allSz 1 (u16s l) = True := by
  refine eq_true fun d hd => ?_
  obtain ⟨x, _, rfl⟩ := List.mem_map.1 hd; rfl
theorem u16s_take : List.take i (u16s l) = u16s (l.take i) := by simp [u16s]
theorem u16s_drop : List.drop i (u16s l) = u16s (l.drop i) := by simp [u16s]
theorem u16s_app {m : List Nat} : u16s l ++ u16s m = u16s (l ++ m) := by simp [u16s]
theorem allSz_u16' : allSz 1 (u16s l) := by rw [allSz_u16s]; trivial
theorem nodup_add {l : List Nat} {x : Nat} (h : l.Nodup) (hx : x ∉ l) : (l ++ [x]).Nodup := by
  rw [List.nodup_append]
  exact ⟨h, by simp, fun a ha b hb e => hx (by rw [List.mem_singleton.1 hb] at e; exact e ▸ ha)⟩
theorem fin08 {base s : St} {r : V} {m : List Nat} (R : RO 1 base s r (u16s m)) : ∃ tk', TokN tk' m ∧ Wk r (.sl tk' (u16s m)) := by
  rcases R.own with ⟨rfl, h⟩ | ⟨g, rfl, _⟩
  · have : m = [] := by cases m with
      | nil => rfl
      | cons x m => simp [u16s] at h
    subst this
    exact ⟨.nil, .inr ⟨rfl, rfl⟩, Wk.refl _⟩
  · exact ⟨.nn, .inl rfl, Wk.nn⟩
theorem RO.fullApp {size : Nat} {base s s' : St} {r : V} {m m' : List V} (hw : base.weak s) (hl : s.Lt) (ho : Own size s' r m') (k : AppSt s (.sl .full m) s' r) : RO size base s' r m' :=
  ⟨ho, app_keeps k hw (fun g k l e => by cases e), hl.app k, app_fresh k hw.sz (fun g k l e => by cases e)⟩
structure LSet (s : St) (b : Nat) (l : List Nat) : Prop where
  set : ∃ W, SetI s b W (memS l)
  nd : l.Nodup
  lt : ∀ n ∈ l, n < 65536
theorem LSet.nz {s : St} (h : LSet s b l) : 0 ∉ l := by
  obtain ⟨W, I⟩ := h.set
  exact fun h0 => by have := I.z; rw [show memS l 0 = true from decide_eq_true h0] at this; cases this
theorem LSet.cnt {s : St} (h : LSet s b l) : cntS (memS l) 65536 = l.length := cnt_mem h.nd h.lt
def StepQ (st : St) (b : Nat) (l : List Nat) (r : V) (s : St) : Prop := ∃ l' tk' cs, r = .tup [.sl tk' (u16s l'), .sc (.bool true)] ∧ TokN tk' l' ∧ s = st.put b cs ∧ LSet s b l' ∧ l'.length ≤ l.length + 1
set_option maxRecDepth 100000 in
set_option maxHeartbeats 2000000 in
theorem step08_v (L : LSet st b l) (ht : TokN tk l) (hlen : l.length ≤ 1000) {kind : Int} (hk : 0 ≤ kind) (hx : x < 65536) : VCalls Tryd.prog 10 [ptrV b, .sl tk (u16s l), .agg [.sc (.int .i64 kind), .sc (.int .u16 x)]] st (StepQ st b l) := by
  refine vcalls_enterq pc10 (Nat.le_of_ble_eq_true rfl) rfl fun hwf hok => ?_
  show Run _ Pc10.body (.fin (finP Pc10.res _)) _ _
  unfold Pc10 zg zn zo
  obtain ⟨W, I⟩ := L.set
  have hself : st.put b (wc W (cntS (memS l) 65536 : Nat)) = st := put_selfR I.box (hwf.lt.box b _ I.box)
  have hcnt := L.cnt
  have bT : (true == true) = true := rfl
  have bF : (false == false) = true := rfl
  have same : StepQ st b l (.tup [.sl tk (u16s l), .sc (.bool true)]) st := ⟨l, tk, _, rfl, ht, hself.symm, L, by omega⟩
  have c5 : (kind % 5 = 2 ∨ kind % 5 = 3 ∨ kind % 5 = 4) ∨ kind % 5 = 0 ∨ kind % 5 = 1 := by omega
  obtain ⟨q, hq⟩ : ∃ q, kind % 5 = q := ⟨_, rfl⟩
  rw [hq] at c5
  rcases c5 with (rfl | rfl | rfl) | c5
  · by_cases c1 : x ∈ l
    · have d1 : decide (x ∈ l) = true := decide_eq_true c1
      have hidx : idxN l x = (l.idxOf x : Nat) := if_pos c1
      obtain ⟨i, hi⟩ : ∃ i, l.idxOf x = i := ⟨_, rfl⟩
      rw [hi] at hidx
      have hlt : i < l.length := by rw [← hi]; exact List.idxOf_lt_length_of_mem c1
      have hli : l[i]? = some x := by
        rw [List.getElem?_eq_getElem hlt]
        congr 1
        have := List.getElem_idxOf (x := x) (xs := l) (by rw [hi]; exact hlt)
        simpa only [hi] using this
      repeat' first | simp (maxSteps := 3000000) only [go_sem, ↓reduceIte, hq, d1, hidx] | (refine If.dec (fun h => ?_) (fun h => ?_) <;> first | simp only [decide_eq_true h] | simp only [decide_eq_false h] | skip) | (refine Grd.decd (fun h => ?_) (fun h => ?_) <;> first | simp only [decide_eq_true h] | simp only [decide_eq_false h] | skip) | (refine If.mk (fun h => ?_) (fun h => ?_) <;> first | simp only [h] | skip) | (refine Grd.two (fun h => ?_) (fun h => ?_) <;> first | simp only [h] | skip) | (apply And.intro; focus (first | omega | (simp; done))) | (refine Cal.mk (contains16_v) ?_; rintro _ _ ⟨rfl, rfl⟩ -) | (refine Cal.mk (index16_v) ?_; rintro _ _ ⟨rfl, rfl⟩ -)
      refine Cal.mk (give_v I hx) ?_
      rintro _ s2 (⟨rfl, rfl, h1⟩ | ⟨rfl, h1, h2⟩) -
      · rw [show memS l x = true from d1] at h1; cases h1
      obtain ⟨W2, cs2, rfl, I2⟩ := h1
      have q1 : ((i : Int) + 1).toNat = i + 1 := by omega
      have hdel := memS_del L.nd hli
      rw [← hdel] at I2
      simp (maxSteps := 3000000) only [go_sem, ↓reduceIte, bT, allSz_u16s, u16s_len, q1, u16s_take, u16s_drop]
      repeat (apply And.intro; focus (first | omega | (simp; done)))
      refine Bo.own (by simp [allLen]) ?_
      intro g hg
      have R := RO.use0' (size := 1) hwf.lt.put.weak (hwf.lt.put (b := b) (cs := cs2)) hg
      have ll : (l.take i).length + (l.drop (i + 1)).length + 1 = l.length := by rw [List.length_take, List.length_drop]; omega
      have m0 : ([] : List V).length = 0 := rfl
      simp (maxSteps := 3000000) only [go_sem, ↓reduceIte, m0]
      refine App.mk (size := 1) (bytes := 2) (l := []) (ys := u16s (l.take i)) R.own allSz_u16' (by simp only [u16s_len, List.length_nil, maxLen]; omega) (by simp only [u16s_len, List.length_nil]; omega) ?_
      intro r2 s2 k1 k2
      have R2 := R.app k1 k2
      rw [List.nil_append] at R2
      simp (maxSteps := 3000000) only [go_sem, ↓reduceIte]
      refine App.mk (size := 1) (bytes := 2) (l := u16s (l.take i)) (ys := u16s (l.drop (i + 1))) R2.own allSz_u16' (by simp only [u16s_len, maxLen]; omega) (by simp only [u16s_len]; omega) ?_
      intro r3 s3 k3 k4
      have R3 := R2.app k3 k4
      rw [u16s_app] at R3
      simp (maxSteps := 3000000) only [go_sem, ↓reduceIte]
      obtain ⟨tk', f1, f2⟩ := fin08 R3
      have hsub : (l.take i ++ l.drop (i + 1)).Sublist l := by rw [← List.eraseIdx_eq_take_drop_succ]; exact List.eraseIdx_sublist l i
      exact ⟨_, _, Wk.tupT f2, R3.weak, _, tk', cs2, rfl, f1, rfl, ⟨⟨W2, I2⟩, hsub.nodup L.nd, fun n hn => L.lt n (hsub.subset hn)⟩, by rw [List.length_append]; omega⟩
    · have d1 : decide (x ∈ l) = false := decide_eq_false c1
      repeat' first | simp (maxSteps := 3000000) only [go_sem, ↓reduceIte, hq, d1] | (refine If.dec (fun h => ?_) (fun h => ?_) <;> first | simp only [decide_eq_true h] | simp only [decide_eq_false h] | skip) | (refine Grd.decd (fun h => ?_) (fun h => ?_) <;> first | simp only [decide_eq_true h] | simp only [decide_eq_false h] | skip) | (refine If.mk (fun h => ?_) (fun h => ?_) <;> first | simp only [h] | skip) | (refine Grd.two (fun h => ?_) (fun h => ?_) <;> first | simp only [h] | skip) | (apply And.intro; focus (first | omega | (simp; done))) | (refine Cal.mk (contains16_v) ?_; rintro _ _ ⟨rfl, rfl⟩ -) | (refine Cal.mk (index16_v) ?_; rintro _ _ ⟨rfl, rfl⟩ -)
      refine Cal.mk (give_v I hx) ?_
      rintro _ s2 (⟨rfl, rfl, h1⟩ | ⟨rfl, h1, h2⟩) -
      · simp (maxSteps := 3000000) only [go_sem, ↓reduceIte, bF]
        exact ⟨_, _, Wk.refl _, hwf.weak, same⟩
      · rw [show memS l x = false from d1] at h2; cases h2
  · repeat' first | simp (maxSteps := 3000000) only [go_sem, ↓reduceIte, hq] | (refine If.dec (fun h => ?_) (fun h => ?_) <;> first | simp only [decide_eq_true h] | simp only [decide_eq_false h] | skip) | (refine Grd.decd (fun h => ?_) (fun h => ?_) <;> first | simp only [decide_eq_true h] | simp only [decide_eq_false h] | skip) | (refine If.mk (fun h => ?_) (fun h => ?_) <;> first | simp only [h] | skip) | (refine Grd.two (fun h => ?_) (fun h => ?_) <;> first | simp only [h] | skip) | (apply And.intro; focus (first | omega | (simp; done))) | (refine Cal.mk (contains16_v) ?_; rintro _ _ ⟨rfl, rfl⟩ -)
    refine Cal.mk (fresh_v I hx) ?_
    rintro _ s2 (⟨h2, -, -⟩ | ⟨h2, n, rfl, F, h3⟩) -
    · omega
    obtain ⟨W2, cs2, rfl, I2⟩ := h3
    rw [← memS_add] at I2
    simp (maxSteps := 3000000) only [go_sem, ↓reduceIte]
    refine Cal.mk (fresh08_v L.nz h2 hx) ?_
    rintro _ _ ⟨rfl, m, rfl, F2⟩ -
    obtain rfl := F.one F2
    have hnl : n ∉ l := of_decide_eq_false F.no
    have m1 : l.length ≤ l.length := Nat.le_refl _
    have m2 : ((l.length : Nat) : Int) ≤ ((l.length : Nat) : Int) := Int.le_refl _
    have m3 : (0 : Int) ≤ ((l.length : Nat) : Int) := by omega
    have m4 : u16s (l.take l.length) = u16s l := by rw [List.take_length]
    have m5 : [V.sc (.int .u16 (n : Nat))] = u16s [n] := rfl
    have m6 : decide (((n : Nat) : Int) = ((n : Nat) : Int)) = true := decide_eq_true rfl
    simp (maxSteps := 3000000) only [go_sem, ↓reduceIte, allSz_u16s, u16s_len, m1, m2, m3, u16s_take, m4]
    refine App.full (size := 1) (bytes := 2) (l := u16s l) (ys := u16s [n]) allSz_u16' allSz_u16' (by rw [u16s_len]; simp) (by simp only [u16s_len, List.length_cons, List.length_nil, maxLen]; omega) (by simp only [u16s_len, List.length_cons, List.length_nil]; omega) ?_
    intro r2 s2 k1 k2
    have R2 := RO.fullApp (hwf.lt.put (b := b) (cs := cs2)).weak hwf.lt.put k1 k2
    rw [u16s_app] at R2
    simp (maxSteps := 3000000) only [go_sem, ↓reduceIte]
    obtain ⟨tk', f1, f2⟩ := fin08 R2
    exact ⟨_, _, Wk.tupT f2, R2.weak, _, tk', cs2, rfl, f1, rfl, ⟨⟨W2, I2⟩, nodup_add L.nd hnl, fun y hy => by
      rcases List.mem_append.1 hy with h | h
      · exact L.lt y h
      · rw [List.mem_singleton.1 h]; exact F.lt⟩, by simp⟩
  · have e1 : memS l x = decide (x ∈ l) := rfl
    have e2 : (decide (x ∈ l) == decide (x ∈ l)) = true := by cases decide (x ∈ l) <;> rfl
    repeat' first | simp (maxSteps := 3000000) only [go_sem, ↓reduceIte, hq, e1, e2] | (refine If.dec (fun h => ?_) (fun h => ?_) <;> first | simp only [decide_eq_true h] | simp only [decide_eq_false h] | skip) | (refine Grd.decd (fun h => ?_) (fun h => ?_) <;> first | simp only [decide_eq_true h] | simp only [decide_eq_false h] | skip) | (refine If.mk (fun h => ?_) (fun h => ?_) <;> first | simp only [h] | skip) | (refine Grd.two (fun h => ?_) (fun h => ?_) <;> first | simp only [h] | skip) | (apply And.intro; focus (first | omega | (simp; done))) | (refine Cal.mk (contains16_v) ?_; rintro _ _ ⟨rfl, rfl⟩ -) | (refine Cal.mk (has_v I hx) ?_; rintro _ _ ⟨rfl, rfl⟩ -)
    exact ⟨_, _, Wk.refl _, hwf.weak, same⟩
  · have q2 : decide (q = 2) = false := decide_eq_false (by omega)
    have q3 : decide (q = 3) = false := decide_eq_false (by omega)
    have q4 : decide (q = 4) = false := decide_eq_false (by omega)
    by_cases c1 : x ∈ l
    · have d1 : decide (x ∈ l) = true := decide_eq_true c1
      repeat' first | simp (maxSteps := 3000000) only [go_sem, ↓reduceIte, hq, q2, q3, q4, d1] | (refine If.dec (fun h => ?_) (fun h => ?_) <;> first | simp only [decide_eq_true h] | simp only [decide_eq_false h] | skip) | (refine Grd.decd (fun h => ?_) (fun h => ?_) <;> first | simp only [decide_eq_true h] | simp only [decide_eq_false h] | skip) | (refine If.mk (fun h => ?_) (fun h => ?_) <;> first | simp only [h] | skip) | (refine Grd.two (fun h => ?_) (fun h => ?_) <;> first | simp only [h] | skip) | (apply And.intro; focus (first | omega | (simp; done))) | (refine Cal.mk (contains16_v) ?_; rintro _ _ ⟨rfl, rfl⟩ -)
      refine Cal.mk (take_v I hx) ?_
      rintro _ s2 (⟨rfl, rfl, h1⟩ | ⟨rfl, h1, h2, h3⟩) -
      · simp (maxSteps := 3000000) only [go_sem, ↓reduceIte, bF]
        exact ⟨_, _, Wk.refl _, hwf.weak, same⟩
      · rw [show memS l x = true from d1] at h3; cases h3
    · have d1 : decide (x ∈ l) = false := decide_eq_false c1
      by_cases c0 : x = 0
      · have d2 : decide ((0 : Int) < (x : Int)) = false := decide_eq_false (by omega)
        repeat' first | simp (maxSteps := 3000000) only [go_sem, ↓reduceIte, hq, q2, q3, q4, d1] | (refine If.dec (fun h => ?_) (fun h => ?_) <;> first | simp only [decide_eq_true h] | simp only [decide_eq_false h] | skip) | (refine Grd.decd (fun h => ?_) (fun h => ?_) <;> first | simp only [decide_eq_true h] | simp only [decide_eq_false h] | skip) | (refine If.mk (fun h => ?_) (fun h => ?_) <;> first | simp only [h] | skip) | (refine Grd.two (fun h => ?_) (fun h => ?_) <;> first | simp only [h] | skip) | (apply And.intro; focus (first | omega | (simp; done))) | (refine Cal.mk (contains16_v) ?_; rintro _ _ ⟨rfl, rfl⟩ -)
        refine Cal.mk (take_v I hx) ?_
        rintro _ s2 (⟨rfl, rfl, h1⟩ | ⟨rfl, h1, h2, h3⟩) -
        · simp (maxSteps := 3000000) only [go_sem, ↓reduceIte, d2, bF]
          exact ⟨_, _, Wk.refl _, hwf.weak, same⟩
        · exact absurd c0 h2
      · have d2 : decide ((0 : Int) < (x : Int)) = true := decide_eq_true (by omega)
        repeat' first | simp (maxSteps := 3000000) only [go_sem, ↓reduceIte, hq, q2, q3, q4, d1] | (refine If.dec (fun h => ?_) (fun h => ?_) <;> first | simp only [decide_eq_true h] | simp only [decide_eq_false h] | skip) | (refine Grd.decd (fun h => ?_) (fun h => ?_) <;> first | simp only [decide_eq_true h] | simp only [decide_eq_false h] | skip) | (refine If.mk (fun h => ?_) (fun h => ?_) <;> first | simp only [h] | skip) | (refine Grd.two (fun h => ?_) (fun h => ?_) <;> first | simp only [h] | skip) | (apply And.intro; focus (first | omega | (simp; done))) | (refine Cal.mk (contains16_v) ?_; rintro _ _ ⟨rfl, rfl⟩ -)
        refine Cal.mk (take_v I hx) ?_
        rintro _ s2 (⟨rfl, rfl, h1⟩ | ⟨rfl, h1, h2, h3⟩) -
        · rcases h1 with h1 | h1
          · exact absurd h1 c0
          · rw [show memS l x = false from d1] at h1; cases h1
        · obtain ⟨W2, cs2, rfl, I2⟩ := h1
          rw [← memS_add] at I2
          have m1 : l.length ≤ l.length := Nat.le_refl _
          have m2 : ((l.length : Nat) : Int) ≤ ((l.length : Nat) : Int) := Int.le_refl _
          have m3 : (0 : Int) ≤ ((l.length : Nat) : Int) := by omega
          have m4 : u16s (l.take l.length) = u16s l := by rw [List.take_length]
          simp (maxSteps := 3000000) only [go_sem, ↓reduceIte, d2, bT, allSz_u16s, u16s_len, m1, m2, m3, u16s_take, m4]
          refine App.full (size := 1) (bytes := 2) (l := u16s l) (ys := u16s [x]) allSz_u16' allSz_u16' (by rw [u16s_len]; simp) (by simp only [u16s_len, List.length_cons, List.length_nil, maxLen]; omega) (by simp only [u16s_len, List.length_cons, List.length_nil]; omega) ?_
          intro r2 s2 k1 k2
          have R2 := RO.fullApp (hwf.lt.put (b := b) (cs := cs2)).weak hwf.lt.put k1 k2
          rw [u16s_app] at R2
          simp (maxSteps := 3000000) only [go_sem, ↓reduceIte]
          obtain ⟨tk', f1, f2⟩ := fin08 R2
          exact ⟨_, _, Wk.tupT f2, R2.weak, _, tk', cs2, rfl, f1, rfl, ⟨⟨W2, I2⟩, nodup_add L.nd c1, fun y hy => by
            rcases List.mem_append.1 hy with h | h
            · exact L.lt y h
            · rw [List.mem_singleton.1 h]; exact hx⟩, by simp⟩
end
end
section
open Go
section
variable {α : Type} {val : α → Value} {L : List α} {sp : List V} {P : Program} {st : St} {A : Nat → V} {k : Kt} {d : Option Nat} {obs : List (Option Nat × X × Nat)} {rest : List VO}
theorem row_push {x : α} {sp' : List V} : (row val L sp).take (L.length * 1) ++ [V.sc (val x)].flatMap V.cells ++ sp' = row val (L ++ [x]) sp' := by
  unfold row
  rw [Nat.mul_one, List.take_left' (by simp)]
  simp [V.cells]
theorem App.push {bytes b cap : Nat} {tk : Tk} {x : α} (hb : st.box b = some (row val L sp)) (hl : L.length + sp.length = cap) (hmo : mono (row val L sp)) (hc : cap ≤ maxLen) (h1 : L.length + 1 ≤ maxLen) (h2 : (L.length + 1) * bytes ≤ 140737488355328)
    (hk : ∀ b' cap' sp', (b' = b ∨ st.sz ≤ b') → (L.length < cap → b' = b ∧ cap' = cap) → L.length + 1 + sp'.length = cap' → cap' ≤ maxLen → mono (row val (L ++ [x]) sp') → obsOk (st.put b' (row val (L ++ [x]) sp')) A obs ∧
      Ops P rest k (putV A d (dataV b' (L ++ [x]).length cap')) (st.put b' (row val (L ++ [x]) sp'))) : App P 1 bytes (dataV b L.length cap) (.sl tk [.sc (val x)]) d obs rest k A st := by
  refine App.mut hb (by rw [row_len]; omega) hmo (by omega) hc (by intro d hd; simp only [List.mem_singleton] at hd; subst hd; rfl) (by simpa using h1) (by simpa using h2) fun b' cap' spare k1 k2 k3 k4 k5 k6 => ?_
  rw [row_push] at k6 ⊢
  have hlen : L.length + [V.sc (val x)].length = (L ++ [x]).length := by simp
  rw [hlen]
  simp only [List.length_cons, List.length_nil] at k2 k4 k5
  exact hk b' cap' spare k1 (fun h => ⟨(k5 (by omega)).1, (k5 (by omega)).2.1⟩) (by omega) k3 k6
structure RB (val : α → Value) (base s : St) (b cap : Nat) (L : List α) (sp : List V) : Prop where
  box : s.box b = some (row val L sp)
  len : L.length + sp.length = cap
  mono : mono (row val L sp)
  max : cap ≤ maxLen
  weak : base.weak s
  lt : s.Lt
  fresh : base.sz ≤ b
theorem RB.self {base s : St} {b cap : Nat} (h : RB val base s b cap L sp) : s.put b (row val L sp) = s := put_selfR h.box (h.lt.box b _ h.box)
theorem RB.push {base s : St} {b cap b' cap' : Nat} {x : α} {sp' : List V} (h : RB val base s b cap L sp) (k1 : b' = b ∨ s.sz ≤ b') (k2 : L.length + 1 + sp'.length = cap') (k3 : cap' ≤ maxLen) (k4 : _root_.Go.Proofs.YtcffgogjhfkaeaaDoor.mono (row val (L ++ [x]) sp')) :
    RB val base (s.put b' (row val (L ++ [x]) sp')) b' cap' (L ++ [x]) sp' := by
  have hf : base.sz ≤ b' := by
    have := h.fresh; have := h.weak.sz
    rcases k1 with rfl | k1 <;> omega
  exact ⟨put_box_same, by simpa using k2, k4, k3, weak_put h.weak hf, h.lt.put, hf⟩
theorem RB.put {base s : St} {b cap c : Nat} {cs : List V} (h : RB val base s b cap L sp) (hb : b ≠ c) (hc : base.sz ≤ c) : RB val base (s.put c cs) b cap L sp :=
  ⟨by rw [put_box_ne hb]; exact h.box, h.len, h.mono, h.max, weak_put h.weak hc, h.lt.put, h.fresh⟩
theorem RB.mix {base s : St} {b cap : Nat} {M : List α} (h : RB val base s b cap L sp) (hM : M.length = L.length) : RB val base (s.put b (row val M sp)) b cap M sp :=
  ⟨put_box_same, by rw [hM]; exact h.len, row_mono h.mono hM, h.max, weak_put h.weak h.fresh, h.lt.put, h.fresh⟩
end
end
section
open Go
section
variable {P : Program} {less f fsift fins fheap fbreak fpivot frev fpart fequal fsplit fa fm fo fpow fnext fpdq flen flen32 flen64 : FuncId} {st : St} {T : ByteArray}
set_option maxRecDepth 100000 in
set_option maxHeartbeats 4000000 in
theorem oins0_v (hf : cFun P f = some (OIns less)) : VCalls P f [.sl .nil [], .sc (.int .i64 0), .sc (.int .i64 0)] st fun _ s => st = s := by
  refine vcalls_enter hf (Nat.le_of_ble_eq_true rfl) fun hwf hok => ?_
  show Run _ (OIns less).body (.fin (finQ (OIns less).res _)) _ _
  unfold OIns
  simp (maxSteps := 3000000) only [go_sem, ↓reduceIte]
  refine run_loop [6, 7, 10, 11, 12, 13, 14, 15, 16, 17, 18, 19, 20, 21, 22, 23, 24, 25, 26, 27, 28, 29, 30, 31, 32, 33, 34, 35, 36, 37, 38, 39, 40, 41, 42, 43, 44, 45, 46, 47, 48] (fun B s => B 6 = .sc (.int .i64 1) ∧ s = st) (fun B _ => 0) rfl ?_ ?_
  · simp (maxSteps := 3000000) only [go_sem, ↓reduceIte]
  · rintro B s ⟨h6, rfl⟩
    simp (maxSteps := 3000000) only [go_sem, ↓reduceIte, h6]
    exact ⟨_, _, Wk.refl _, hwf.weak, rfl⟩
set_option maxRecDepth 100000 in
set_option maxHeartbeats 4000000 in
theorem opdq0_v (hc : SortsO P f less fins fheap fbreak fpivot frev fpart fequal fsplit fsift fa fm fo fpow fnext) {lim : Int} : VCalls P f [.sl .nil [], .sc (.int .i64 0), .sc (.int .i64 0), .sc (.int .i64 lim)] st fun _ s => st = s := by
  refine vcalls_enter hc.pdq (Nat.le_of_ble_eq_true rfl) fun hwf hok => ?_
  show Run _ (OPdq fins fheap fbreak fpivot frev fpart less fequal fsplit f).body (.fin (finQ (OPdq fins fheap fbreak fpivot frev fpart less fequal fsplit f).res _)) _ _
  unfold OPdq
  simp (maxSteps := 3000000) only [go_sem]
  refine run_loop [1, 2, 3, 8, 9, 10, 11, 12, 13, 14, 15, 16, 17, 18, 19, 20, 21, 22, 23, 24, 25, 26, 27, 28, 29, 30, 31, 32, 33, 34, 35, 36, 37, 38, 39, 40, 41, 42, 43, 44, 45, 46, 47, 48, 49, 50, 51, 52, 53, 54, 55, 56, 57, 58, 59, 60, 61, 62, 63, 64, 65, 66, 67, 68, 69, 70, 71, 72, 73, 74, 75, 76, 77, 78, 79, 80, 81, 82, 83, 84, 85, 86, 87, 88, 89, 90, 91, 92, 93, 94, 95, 96, 97, 98, 99, 100, 101, 102, 103, 104, 105, 106, 107, 108, 109, 110, 111, 112, 113, 114, 115, 116, 117, 118, 119, 120, 121, 122, 123, 124, 125, 126, 127, 128, 129, 130, 131, 132, 133] (fun B s => B 1 = .sc (.int .i64 0) ∧ B 2 = .sc (.int .i64 0) ∧ s = st) (fun B _ => 0) rfl ?_ ?_
  · simp (maxSteps := 3000000) only [go_sem, ↓reduceIte]
  · rintro B s ⟨h1, h2, rfl⟩
    simp (maxSteps := 3000000) only [go_sem, ↓reduceIte, h1, h2]
    refine Cal.mk (oins0_v hc.ins) ?_
    rintro _ _ rfl -
    simp (maxSteps := 3000000) only [go_sem]
    exact ⟨_, _, Wk.refl _, hwf.weak, rfl⟩
set_option maxRecDepth 100000 in
set_option maxHeartbeats 4000000 in
theorem osort0_v (hf : cFun P f = some (OSorts flen fpdq)) (hfl : cFun P flen = some (BLen flen32 flen64)) (h64 : cFun P flen64 = some (BLen64 T)) (hT : TabOk T) (hc : SortsO P fpdq less fins fheap fbreak fpivot frev fpart fequal fsplit fsift fa fm fo fpow fnext) :
    VCalls P f [.sl .nil []] st fun _ s => st = s := by
  refine vcalls_enter hf (Nat.le_of_ble_eq_true rfl) fun hwf hok => ?_
  show Run _ (OSorts flen fpdq).body (.fin (finQ (OSorts flen fpdq).res _)) _ _
  unfold OSorts
  simp (maxSteps := 3000000) only [go_sem, ↓reduceIte]
  refine Cal.mk (blen_v hfl h64 hT (x := 0) (by omega)) ?_
  rintro _ _ ⟨rfl, k, k1, k2, k3, rfl⟩ -
  simp (maxSteps := 3000000) only [go_sem, ↓reduceIte]
  refine Cal.mk (opdq0_v hc) ?_
  rintro _ _ rfl -
  simp (maxSteps := 3000000) only [go_sem]
  exact ⟨_, _, Wk.refl _, hwf.weak, rfl⟩
end
end
section
open Go
structure OpU where
  kind : Int
  id : Nat
def OpU.v (o : OpU) : V := .agg [.sc (.int .i64 o.kind), .sc (.int .u16 (o.id : Nat))]
def opsU (l : List OpU) : List V := l.map OpU.v
theorem opu_len (l : List OpU) : (opsU l).length = l.length := by simp [opsU]
theorem opu_get {l : List OpU} {i : Nat} {o : OpU} (h : l[i]? = some o) : (opsU l)[i]? = some (.agg [.sc (.int .i64 o.kind), .sc (.int .u16 (o.id : Nat))]) := by simp [opsU, h, OpU.v]
def u16I : Int → Value := fun x => .int .u16 x
def ints (l : List Nat) : List Int := l.map fun n : Nat => (n : Int)
theorem ints_row {l : List Nat} {sp : List V} : u16s l ++ sp = row u16I (ints l) sp := by simp [u16s, row, ints, u16I]
theorem ints_len {l : List Nat} : (ints l).length = l.length := List.length_map ..
section
variable {st : St} {b : Nat} {l : List Nat} {tk : Tk}
def CloneU (st : St) (L : List Int) (v : V) (s : St) : Prop := ∃ ob cap sp, v = dataV ob L.length cap ∧ RB u16I st s ob cap L sp
theorem u16s_cells : (u16s l).flatMap V.cells = u16s l := u16s_flat
set_option maxRecDepth 100000 in
theorem clone16_v (hl : l.length ≤ 1000) : VCalls Tryd.prog 11 [.sl .nn (u16s l)] st (CloneU st (ints l)) := by
  refine vcalls_enter vc11 (Nat.le_of_ble_eq_true rfl) fun hwf hok => ?_
  show Run _ Vc11.body (.fin (finQ Vc11.res _)) _ _
  unfold Vc11 zo
  simp (maxSteps := 3000000) only [go_sem, ↓reduceIte]
  refine Bo.mut trivial ?_
  intro b hb
  simp (maxSteps := 3000000) only [go_sem, ↓reduceIte, List.flatMap_nil]
  refine App.mut (size := 1) (bytes := 2) (ys := u16s l) (b := b) (n := 0) (cap := 0) (cs := []) put_box_same rfl (mono_nil ▸ trivial) (Nat.le_refl _) (by unfold maxLen; omega) allSz_u16' (by rw [u16s_len]; unfold maxLen; omega) (by rw [u16s_len]; omega) ?_
  intro b' cap' spare k1 k2 k3 k4 k5 k6
  rw [u16s_len] at k2 k4 ⊢
  have e : ([] : List V).take (0 * 1) ++ (u16s l).flatMap V.cells ++ spare = row u16I (ints l) spare := by rw [u16s_cells, ← ints_row]; rfl
  rw [e] at k6 ⊢
  have hb' : st.sz ≤ b' := by
    rcases k1 with rfl | k1
    · exact hb
    · simp only [put_sz] at k1; omega
  have W := weak_put (b := b') (cs := row u16I (ints l) spare) (weak_put (b := b) (cs := []) hwf.weak hb) hb'
  rw [Nat.zero_add] at k4 ⊢
  simp (maxSteps := 3000000) only [go_sem, ↓reduceIte]
  exact ⟨_, _, Wk.refl _, hwf.lt.put.put.weak, b', cap', spare, by rw [ints_len]; rfl, ⟨put_box_same, by rw [ints_len]; omega, k6, k3, W, hwf.lt.put.put, hb'⟩⟩
theorem clone160_v : VCalls Tryd.prog 11 [.sl .nil []] st fun v s => v = .sl .nil [] ∧ st = s := by
  refine vcalls_enter vc11 (Nat.le_of_ble_eq_true rfl) fun hwf hok => ?_
  show Run _ Vc11.body (.fin (finQ Vc11.res _)) _ _
  unfold Vc11 zo
  simp (maxSteps := 3000000) only [go_sem, ↓reduceIte]
  exact ⟨_, _, Wk.refl _, hwf.weak, rfl, rfl⟩
theorem sortU0_v : VCalls Tryd.prog 12 [.sl .nil []] st fun _ s => st = s :=
  osort0_v vc12 vc22 vc35 tab_ok sortsU
set_option maxRecDepth 100000 in
theorem eq16_v {ob cap : Nat} {sp : List V} (hb : st.box ob = some (row u16I (ints l) sp)) (hmo : mono (row u16I (ints l) sp)) (hl : l.length ≤ 100000) : VCalls Tryd.prog 13 [.sl tk (u16s l), dataV ob (ints l).length cap] st fun r s => r = .sc (.bool true) ∧ st = s := by
  refine vcalls_enter vc13 (Nat.le_of_ble_eq_true rfl) fun hwf hok => ?_
  show Run _ Vc13.body (.fin (finQ Vc13.res _)) _ _
  unfold Vc13 zo
  simp (maxSteps := 3000000) only [go_sem, ↓reduceIte, dataV, u16s_len, ints_len]
  refine run_loop [4, 5, 13, 14, 15, 16, 17, 18, 19, 20, 21, 22, 23, 24, 25] (fun B s => ∃ i : Nat, i ≤ l.length ∧ B 13 = .sc (.int .i64 i) ∧ s = st) (fun B _ => l.length - vnat (B 13)) rfl ?_ ?_
  · simp (maxSteps := 3000000) only [go_sem, ↓reduceIte]
    exact ⟨0, by omega, rfl⟩
  · rintro B s ⟨i, hi, h13, rfl⟩
    by_cases c1 : i < l.length
    · have g1 : l[i]? = some l[i] := List.getElem?_eq_getElem c1
      have g2 : (row u16I (ints l) sp)[i]? = some (.sc (.int .u16 (l[i] : Nat))) := by
        rw [← ints_row, List.getElem?_append_left (by rw [u16s_len]; exact c1)]
        exact u16s_at g1
      have g4 : i < (row u16I (ints l) sp).length := (List.getElem?_eq_some_iff.1 g2).1
      have g3 : decide (¬ ((l[i] : Nat) : Int) = ((l[i] : Nat) : Int)) = false := decide_eq_false (by simp)
      simp (maxSteps := 3000000) only [go_sem, ↓reduceIte, h13, hb, u16s_at g1, g2, decide_eq_true (show (i : Int) < (l.length : Int) by omega)]
      repeat (apply And.intro; focus (first | omega | (simp; done)))
      exact ⟨⟨i + 1, by omega, by simp⟩, by omega⟩
    · simp (maxSteps := 3000000) only [go_sem, ↓reduceIte, h13, decide_eq_false (show ¬ (i : Int) < (l.length : Int) by omega)]
      exact ⟨_, _, Wk.refl _, hwf.weak, rfl, rfl⟩
theorem eq160_v {t2 : Tk} : VCalls Tryd.prog 13 [.sl tk (u16s []), .sl t2 []] st fun r s => r = .sc (.bool true) ∧ st = s := by
  have nc0 : ((0 : Nat) : Int) = 0 := rfl
  refine vcalls_enter vc13 (Nat.le_of_ble_eq_true rfl) fun hwf hok => ?_
  show Run _ Vc13.body (.fin (finQ Vc13.res _)) _ _
  unfold Vc13 zo
  simp (maxSteps := 3000000) only [go_sem, ↓reduceIte, u16s_len, nc0]
  refine run_loop [4, 5, 13, 14, 15, 16, 17, 18, 19, 20, 21, 22, 23, 24, 25] (fun B s => B 13 = .sc (.int .i64 0) ∧ s = st) (fun B _ => 0) rfl ?_ ?_
  · simp (maxSteps := 3000000) only [go_sem, ↓reduceIte]
  · rintro B s ⟨h13, rfl⟩
    simp (maxSteps := 3000000) only [go_sem, ↓reduceIte, h13]
    exact ⟨_, _, Wk.refl _, hwf.weak, rfl, rfl⟩
theorem rising {W : Nat → Nat} {M : List Int} (hd : Wds W (memS l)) (hn : l.Nodup) (hl : ∀ n ∈ l, n < 65536) (hp : M.Perm (ints l)) (hs : M.Pairwise fun x y => ltI y x = false) : M = ints (upW W 1024) := by
  have h0 : ∀ x ∈ M, ((x.toNat : Nat) : Int) = x := fun x hx => by
    obtain ⟨n, h1, rfl⟩ := List.mem_map.1 (hp.mem_iff.1 hx)
    simp
  have hM : ints (M.map Int.toNat) = M := by
    unfold ints
    rw [List.map_map]
    exact (List.map_congr_left h0).trans (List.map_id' M)
  have hN : (M.map Int.toNat).Perm l := by
    have := hp.map Int.toNat
    unfold ints at this
    rw [List.map_map] at this
    exact this.trans (by rw [show (Int.toNat ∘ fun n : Nat => (n : Int)) = id from funext fun n => by simp, List.map_id])
  obtain ⟨N, hNe⟩ : ∃ N, M.map Int.toNat = N := ⟨_, rfl⟩
  rw [hNe] at hM hN
  subst hM
  have h1 : N.Pairwise fun x y => x ≤ y := by
    unfold ints at hs
    rw [List.pairwise_map] at hs
    exact hs.imp fun {a b} h => by simp only [ltI, decide_eq_false_iff_not] at h; omega
  have h2 : N.Pairwise fun x y => x < y := (h1.and (hN.nodup_iff.2 hn)).imp fun {a b} h => by have := h.1; have := h.2; omega
  rw [rise_eq h2 (upW_rise (W := W) (i := 1024)) fun x => ?_]
  rw [hN.mem_iff, upW_mem, hd.bit _ _ (Nat.mod_lt _ (by decide)), Nat.div_add_mod]
  exact ⟨fun h => ⟨by have := hl x h; omega, decide_eq_true h⟩, fun h => of_decide_eq_true h.2⟩
theorem SetI.at {s : St} {W : Nat → Nat} {S : Nat → Bool} (I : SetI st b W S) (h : s.box b = st.box b) : SetI s b W S := ⟨I.wds, h.trans I.box, I.z⟩
set_option maxRecDepth 100000 in
set_option maxHeartbeats 4000000 in
theorem idsPlays_v {C : List OpU} (hC : ∀ o ∈ C, o.id < 65536) : VCalls Tryd.prog 4 [.sl tk (opsU C)] st fun r s => r = .sc (.bool true) := by
  refine vcalls_enterq pc4 (Nat.le_of_ble_eq_true rfl) rfl fun hwf hok => ?_
  show Run _ Pc4.body (.fin (finP Pc4.res _)) _ _
  unfold Pc4 zg zo
  by_cases c : 60 < C.length
  · have c1 : decide ((60 : Int) < (C.length : Int)) = true := decide_eq_true (by omega)
    repeat' first | simp (maxSteps := 3000000) only [go_sem, ↓reduceIte, opu_len, c1] | (refine If.dec (fun h => ?_) (fun h => ?_) <;> first | simp only [decide_eq_true h] | simp only [decide_eq_false h] | skip) | (refine Grd.decd (fun h => ?_) (fun h => ?_) <;> first | simp only [decide_eq_true h] | simp only [decide_eq_false h] | skip) | (refine If.mk (fun h => ?_) (fun h => ?_) <;> first | simp only [h] | skip) | (refine Grd.two (fun h => ?_) (fun h => ?_) <;> first | simp only [h] | skip) | (apply And.intro; focus (first | omega | (simp; done)))
    exact ⟨_, _, Wk.refl _, hwf.weak, rfl⟩
  have c1 : decide ((60 : Int) < (C.length : Int)) = false := decide_eq_false (by omega)
  simp (maxSteps := 3000000) only [go_sem, ↓reduceIte, opu_len, c1]
  rw [show List.replicate 1024 (V.sc (Value.int IntKind.u64 0)) ++ [V.sc (Value.int IntKind.i64 0)] = wz from rfl]
  refine ⟨by rw [wz_wc, wc_len]; decide, fun b hb => ?_⟩
  refine run_loop [2, 4, 5, 6, 7, 16, 17, 19, 22, 23, 24, 25, 31, 32, 33, 34, 35, 38, 40, 41, 42, 43, 44, 45] (fun B s => ∃ (i : Nat) (l : List Nat) (tv : Tk) (cs : List V), i ≤ C.length ∧ l.length ≤ i ∧ B 5 = .sc (.int .i64 i) ∧ B 4 = .sl tv (u16s l) ∧ TokN tv l ∧ s = st.put b cs ∧ LSet s b l) (fun B _ => C.length - vnat (B 5)) rfl ?_ ?_
  · refine ⟨0, [], .nil, wz, by omega, by simp, by first | (simp (maxSteps := 3000000) only [go_sem, ↓reduceIte]; done) | (simp (maxSteps := 3000000) only [go_sem, ↓reduceIte]; rfl), by first | (simp (maxSteps := 3000000) only [go_sem, ↓reduceIte]; done) | (simp (maxSteps := 3000000) only [go_sem, ↓reduceIte]; rfl), .inr ⟨rfl, rfl⟩, rfl, ⟨⟨fun _ => 0, ?_⟩, List.nodup_nil, fun n hn => by cases hn⟩⟩
    rw [memS_nil]; exact SetI.start put_box_same
  · rintro B s ⟨i, l, tv, cs, hi, hll, h5, h4, ht, rfl, L⟩
    by_cases c2 : i < C.length
    · have c3 : decide ((i : Int) < (C.length : Int)) = true := decide_eq_true (by omega)
      obtain ⟨o, ho⟩ : ∃ o, C[i]? = some o := ⟨_, List.getElem?_eq_getElem c2⟩
      have g1 := opu_get ho
      have hid := hC o (List.mem_of_getElem? ho)
      by_cases c4 : o.kind < 0
      · have c5 : decide (o.kind < 0) = true := decide_eq_true c4
        repeat' first | simp (maxSteps := 3000000) only [go_sem, ↓reduceIte, h5, opu_len, g1, c3, c5] | (refine If.dec (fun h => ?_) (fun h => ?_) <;> first | simp only [decide_eq_true h] | simp only [decide_eq_false h] | skip) | (refine Grd.decd (fun h => ?_) (fun h => ?_) <;> first | simp only [decide_eq_true h] | simp only [decide_eq_false h] | skip) | (refine If.mk (fun h => ?_) (fun h => ?_) <;> first | simp only [h] | skip) | (refine Grd.two (fun h => ?_) (fun h => ?_) <;> first | simp only [h] | skip) | (apply And.intro; focus (first | omega | (simp; done)))
        exact ⟨_, _, Wk.refl _, weak_put hwf.weak hb, rfl⟩
      · have c5 : decide (o.kind < 0) = false := decide_eq_false c4
        have hwfs := hwf.lt.put (b := b) (cs := cs)
        repeat' first | simp (maxSteps := 3000000) only [go_sem, ↓reduceIte, h5, h4, opu_len, g1, c3, c5] | (refine If.dec (fun h => ?_) (fun h => ?_) <;> first | simp only [decide_eq_true h] | simp only [decide_eq_false h] | skip) | (refine Grd.decd (fun h => ?_) (fun h => ?_) <;> first | simp only [decide_eq_true h] | simp only [decide_eq_false h] | skip) | (refine If.mk (fun h => ?_) (fun h => ?_) <;> first | simp only [h] | skip) | (refine Grd.two (fun h => ?_) (fun h => ?_) <;> first | simp only [h] | skip) | (apply And.intro; focus (first | omega | (simp; done)))
        refine Cal.mk (step08_v L ht (by omega) (by omega) hid) ?_
        rintro _ s2 ⟨l2, tk2, cs2, rfl, ht2, hs, L2, hl2⟩ -
        rw [put_put] at hs
        subst hs
        obtain ⟨W2, I2⟩ := L2.set
        have hcnt := L2.cnt
        simp (maxSteps := 3000000) only [go_sem, ↓reduceIte]
        refine Cal.mk (len_v I2) ?_
        rintro _ _ ⟨rfl, rfl⟩ -
        have q1 : decide (¬ ((l2.length : Nat) : Int) = ((l2.length : Nat) : Int)) = false := decide_eq_false (by simp)
        rw [hcnt]
        simp (maxSteps := 3000000) only [go_sem, ↓reduceIte, h5, u16s_len]
        repeat (apply And.intro; focus (first | omega | (simp; done)))
        exact ⟨⟨i + 1, l2, tk2, cs2, by omega, by omega, by simp, rfl, ht2, rfl, L2⟩, by omega⟩
    · have c3 : decide ((i : Int) < (C.length : Int)) = false := decide_eq_false (by omega)
      obtain ⟨W2, I2⟩ := L.set
      rcases ht with rfl | ⟨rfl, rfl⟩
      · simp (maxSteps := 3000000) only [go_sem, ↓reduceIte, h5, h4, opu_len, c3]
        refine Cal.mk (clone16_v (by omega)) ?_
        rintro _ s2 ⟨ob, cap, sp, rfl, R⟩ -
        simp (maxSteps := 3000000) only [go_sem, ↓reduceIte]
        have cc := sortU_v (st := s2) (b := ob) (cap := cap) (L := ints l) (sp := sp) R.mono (by rw [ints_len]; omega)
        have hself := R.self
        unfold u16I at hself
        rw [hself] at cc
        refine Cal.mk cc ?_
        rintro _ s3 ⟨M, hp, hs, rfl⟩ -
        have hMl := hp.length_eq
        have R2 := R.mix hMl
        have hob : b ≠ ob := by have h1 := R.fresh; simp only [put_sz] at h1; omega
        have I3 : SetI (s2.put ob (row u16I M sp)) b W2 (memS l) := I2.at (by rw [put_box_ne hob]; exact (R.weak.box b _ I2.box).1.trans I2.box.symm)
        have hsz : (st.put b cs).sz ≤ ob := R.fresh
        have hwk : st.weak (s2.put ob (row u16I M sp)) := weak_put (weak_tr (weak_put hwf.weak hb) R.weak) (by simp only [put_sz] at hsz; omega)
        have hM := rising I2.wds L.nd L.lt hp hs
        have hU : (upW W2 1024).length ≤ 100000 := by have := upW_len (W := W2) (i := 1024); omega
        subst hM
        simp (maxSteps := 3000000) only [go_sem, ↓reduceIte]
        refine Cal.mk (all08_v I3) ?_
        rintro _ _ ⟨⟨t2, rfl⟩, rfl⟩ -
        have ce := eq16_v (tk := t2) (cap := cap) R2.box R2.mono hU
        rw [hMl] at ce
        simp (maxSteps := 3000000) only [go_sem, ↓reduceIte]
        refine Cal.mk ce ?_
        rintro _ _ ⟨rfl, rfl⟩ -
        simp (maxSteps := 3000000) only [go_sem, ↓reduceIte]
        refine Cal.mk alive08_v ?_
        rintro _ _ ⟨rfl, rfl⟩ -
        simp (maxSteps := 3000000) only [go_sem, ↓reduceIte]
        exact ⟨_, _, Wk.refl _, hwk, rfl⟩
      · simp (maxSteps := 3000000) only [go_sem, ↓reduceIte, h5, h4, opu_len, c3]
        have u0 : u16s [] = [] := rfl
        rw [u0]
        refine Cal.mk clone160_v ?_
        rintro _ _ ⟨rfl, rfl⟩ -
        simp (maxSteps := 3000000) only [go_sem, ↓reduceIte]
        refine Cal.mk sortU0_v ?_
        rintro _ _ rfl -
        simp (maxSteps := 3000000) only [go_sem, ↓reduceIte]
        refine Cal.mk (all08_v I2) ?_
        rintro _ _ ⟨⟨t2, rfl⟩, rfl⟩ -
        have he : upW W2 1024 = [] := List.eq_nil_iff_forall_not_mem.2 fun x hx => by
          have h1 := upW_mem.1 hx
          rw [I2.wds.bit _ _ (Nat.mod_lt _ (by decide)), Nat.div_add_mod, memS_nil] at h1
          cases h1.2
        rw [he]
        simp (maxSteps := 3000000) only [go_sem, ↓reduceIte]
        refine Cal.mk eq160_v ?_
        rintro _ _ ⟨rfl, rfl⟩ -
        simp (maxSteps := 3000000) only [go_sem, ↓reduceIte]
        refine Cal.mk alive08_v ?_
        rintro _ _ ⟨rfl, rfl⟩ -
        simp (maxSteps := 3000000) only [go_sem, ↓reduceIte]
        exact ⟨_, _, Wk.refl _, weak_put hwf.weak hb, rfl⟩
end
end
section
open Go Go.RowKit Go.ChangeShapes Go.WideShapes Go.Deep
section
variable {H : Type} {enc : TypeId × Value → H} {P : Program} {w : World} {base : Nat} {spare : Nat → Bool} {held : Bool} {fuel : Nat} {t : TypeId} {cs : List Value} {x : DataW H × List MemPlace}
theorem trod_len {fs : Array Field} (ht : P.underlying t = some (.struct fs)) (h : DataW.trod enc P w base spare held fuel t cs = some x) : cs.length = P.cellsOf t := by
  obtain ⟨_, _, _, _, hl, _⟩ := DataW.trod_struct ht h
  exact hl
theorem trod_field {fs : Array Field} (ht : P.underlying t = some (.struct fs)) (h : DataW.trod enc P w base spare held fuel t cs = some x) (j : Nat) (f : Field) (hj : fs[j]? = some f) :
    ∃ n y, DataW.trod enc P w base spare held n f.type ((cs.drop f.offset).take (P.cellsOf f.type)) = some y := by
  obtain ⟨xs, n, _, _, _, hlen, hf⟩ := DataW.trod_struct ht h
  have h1 := hf j f hj
  have hjl : j < xs.length := by rw [hlen]; exact (Array.getElem?_eq_some_iff.1 hj).1
  exact ⟨n, xs[j], h1.trans (List.getElem?_eq_getElem hjl)⟩
theorem open_struct {r : Reach} {b0 : Nat} {v : Value} {d : DataW H} {p : List MemPlace} {fs : Array Field} (ht : P.underlying t = some (.struct fs)) (hv : Value.okWide P w r b0 t v) (h : DataW.Trod enc P w base spare held t v d p) :
    ∃ (cs : List Value) (fuel : Nat), v = .agg cs.toArray ∧ DataW.trod enc P w base spare held fuel t cs = some (d, p) := by
  obtain ⟨cs, rfl, _⟩ := okWide_struct ht hv
  obtain ⟨fuel, hf⟩ := h
  exact ⟨cs.toList, fuel, rfl, hf⟩
theorem list_of {α : Type} {Q : Nat → α → Prop} : ∀ (n : Nat), (∀ i, i < n → ∃ r, Q i r) → ∃ l : List α, l.length = n ∧ ∀ (i : Nat) (r : α), l[i]? = some r → Q i r
  | 0, _ => ⟨[], rfl, by simp⟩
  | n + 1, h => by
    obtain ⟨l, hl, hq⟩ := list_of n (fun i hi => h i (by omega))
    obtain ⟨r, hr⟩ := h n (by omega)
    refine ⟨l ++ [r], by simp [hl], fun i r' hi => ?_⟩
    rw [List.getElem?_append] at hi
    split at hi
    · exact hq i r' hi
    · rename_i hge
      obtain rfl : i = n := by
        have := (List.getElem?_eq_some_iff.1 hi).1
        simp at this
        omega
      simp [hl] at hi
      subst hi
      exact hr
theorem open_elems {e : TypeId} {size : Nat} {v : Value} (ht : P.underlying t = some (.slice e)) (hc : P.cellsOf e = size) (hs : 0 < size) (h : DataW.trod enc P w base spare held fuel t [v] = some x) :
    ∃ A len cap, v = .slice A len cap ∧ len ≤ cap ∧ cap ≤ maxLen ∧ (A = none → len = 0 ∧ cap = 0) ∧
      ∀ i, i < len → ∃ b o cs n y, A = some ⟨b, o, none⟩ ∧ cs.length = size ∧ Holds w (elemL b (o + i * size) cs) ∧ DataW.trod enc P w base spare held n e cs = some y := by
  rcases open_slice ht h with ⟨e1, _⟩ | ⟨a, len, cap, m, n, D, Pl, e1, hb, hl, hm, hmm, _, hi⟩
  · cases e1
    exact ⟨none, 0, 0, rfl, by omega, by omega, fun _ => ⟨rfl, rfl⟩, fun i hi => by omega⟩
  · cases e1
    refine ⟨some a, len, cap, rfl, hl, hm, (by intro h; cases h), fun i hil => ?_⟩
    obtain ⟨cs', hcs, ht'⟩ := hi i (by rw [hmm]; split <;> omega)
    rw [hc] at hcs
    obtain ⟨_, hlen, hcell⟩ := World.cells?_some hcs
    have h0 := hcell 0 hs
    have hlt0 : 0 < cs'.length := by omega
    rw [List.getElem?_eq_getElem hlt0] at h0
    have hspot := World.cell?_spot h0
    obtain ⟨b, o, sp⟩ := a
    have hsp : sp = none := by
      by_cases hz : i * size = 0
      · simpa [Addr.add, hz] using hspot
      · rcases Nat.eq_zero_or_pos i with h0' | h0'
        · simp [h0'] at hz
        · obtain ⟨cs0, hcs0, _⟩ := hi 0 (by rw [hmm]; split <;> omega)
          rw [hc] at hcs0
          obtain ⟨_, hlen0, hcell0⟩ := World.cells?_some hcs0
          have h00 := hcell0 0 hs
          rw [List.getElem?_eq_getElem (by omega)] at h00
          simpa [Addr.add] using World.cell?_spot h00
    subst hsp
    refine ⟨b, o, cs', n, _, rfl, hlen, elemL_holds _ _ fun j u hu => ?_, ht'⟩
    have hj : j < size := by have := (List.getElem?_eq_some_iff.1 hu).1; omega
    have := (hcell j hj).trans hu
    have ea : ((⟨b, o, none⟩ : Addr).add (i * size)).add j = ⟨b, o + i * size + j, none⟩ := by
      unfold Addr.add
      by_cases h1 : i * size = 0 <;> by_cases h2 : j = 0 <;> simp [h1, h2]
    rwa [ea] at this
end
structure ArgIn {H : Type} (enc : TypeId × Value → H) (P : Program) (W : World) (base : Nat) (t : TypeId) (v : Value) (d : DataW H) (p : List MemPlace) : Prop where
  wide : Value.okWide P W .any base t v
  trod : DataW.Trod enc P W 0 (fun _ => true) true t v d p
section
variable {H : Type} {enc : TypeId × Value → H} {P : Program} {W : World} {base : Nat} {t : TypeId} {v : Value} {d : DataW H} {p : List MemPlace}
theorem ArgIn.slice {e : TypeId} (h : ArgIn enc P W base t v d p) (ht : P.underlying t = some (.slice e)) :
    ∃ A l c fuel, v = .slice A l c ∧ DataW.trod enc P W 0 (fun _ => true) true fuel t [.slice A l c] = some (d, p) := by
  obtain ⟨A, l, c, rfl⟩ := okWide_slice ht h.wide
  obtain ⟨fuel, hf⟩ := h.trod
  exact ⟨A, l, c, fuel, rfl, hf⟩
theorem ArgIn.struct {fs : Array Field} (h : ArgIn enc P W base t v d p) (ht : P.underlying t = some (.struct fs)) :
    ∃ (cs : List Value) (fuel : Nat), v = .agg cs.toArray ∧ DataW.trod enc P W 0 (fun _ => true) true fuel t cs = some (d, p) :=
  open_struct ht h.wide h.trod
theorem ArgIn.int {k : IntKind} (h : ArgIn enc P W base t v d p) (ht : P.underlying t = some (.int k)) : ∃ n, v = .int k n ∧ (Lit.int k n).wf = true := by
  obtain ⟨n, rfl, _, _, hw⟩ := open_int ht h.wide h.trod
  exact ⟨n, rfl, hw⟩
theorem ArgIn.bool (h : ArgIn enc P W base t v d p) (ht : P.underlying t = some .bool) : ∃ b, v = .bool b := by
  obtain ⟨b, rfl, _⟩ := open_bool ht h.wide h.trod
  exact ⟨b, rfl⟩
theorem ArgIn.string (h : ArgIn enc P W base t v d p) (ht : P.underlying t = some .string) : ∃ s : ByteArray, v = .string s ∧ s.size ≤ maxLen := by
  obtain ⟨s, rfl, _, _, hs⟩ := Go.ChangeMaps.open_string ht h.wide h.trod
  exact ⟨s, rfl, hs⟩
end
end
section
open Go Go.RowKit Go.ChangeShapes Go.WideShapes Go.Deep
theorem elemL_get {w : World} {b : Nat} : ∀ {cs : List Value} {o : Nat} (_ : Holds w (elemL b o cs)) {j : Nat} {v : Value} (_ : cs[j]? = some v), w.cell? ⟨b, o + j, none⟩ = some v
  | [], _, _, _, _, h => by simp at h
  | c :: cs, o, hh, j, v, h => by
    rw [elemL, Holds.cons] at hh
    cases j with
    | zero => simp at h; subst h; exact hh.1
    | succ j => rw [show o + (j + 1) = o + 1 + j by omega]; exact elemL_get hh.2 (by simpa using h)
inductive Sh where
  | int (k : IntKind)
  | bool
  | str
  | sl (s : Sh)
  | st (l : List Sh)
def shFields (P : Program) (g : TypeId → Option Sh) : Nat → List Field → Option (List Sh)
  | _, [] => some []
  | o, f :: fs => if f.offset = o then do
      let s ← g f.type
      let l ← shFields P g (o + P.cellsOf f.type) fs
      pure (s :: l)
    else none
def fieldsEnd (P : Program) : Nat → List Field → Nat
  | o, [] => o
  | o, f :: fs => fieldsEnd P (o + P.cellsOf f.type) fs
def shOf (P : Program) : Nat → TypeId → Option Sh
  | 0, _ => none
  | n + 1, t => match P.underlying t with
    | some (.int k) => if P.cellsOf t = 1 then some (.int k) else none
    | some .bool => if P.cellsOf t = 1 then some .bool else none
    | some .string => if P.cellsOf t = 1 then some .str else none
    | some (.slice e) => if P.cellsOf t = 1 ∧ 0 < P.cellsOf e then (shOf P n e).map .sl else none
    | some (.struct fs) => if fieldsEnd P 0 fs.toList = P.cellsOf t then (shFields P (shOf P n) 0 fs.toList).map .st else none
    | some (.array k e) => if k * P.cellsOf e = P.cellsOf t then (shOf P n e).map fun s => .st (List.replicate k s) else none
    | _ => none
def Sh.pack : Sh → List V → V
  | .st _, ds => .agg ds
  | _, d :: _ => d
  | _, [] => .und
mutual
inductive Sh.Has : Sh → List V → Prop where
  | int (k : IntKind) (n : Int) (h : (Lit.int k n).wf = true) : Sh.Has (.int k) [.sc (.int k n)]
  | bool (b : Bool) : Sh.Has .bool [.sc (.bool b)]
  | str (s : ByteArray) (h : s.size ≤ maxLen) : Sh.Has .str [.sc (.string s)]
  | sl (s : Sh) (l : List V) (h : Sh.Hasl s l) : Sh.Has (.sl s) [.sl .no l]
  | st (l : List Sh) (ds : List V) (h : Sh.Hass l ds) : Sh.Has (.st l) ds
inductive Sh.Hasl : Sh → List V → Prop where
  | nil (s : Sh) : Sh.Hasl s []
  | cons (s : Sh) (ds l : List V) (h : Sh.Has s ds) (k : Sh.Hasl s l) : Sh.Hasl s (s.pack ds :: l)
inductive Sh.Hass : List Sh → List V → Prop where
  | nil : Sh.Hass [] []
  | cons (s : Sh) (l : List Sh) (a b : List V) (h : Sh.Has s a) (k : Sh.Hass l b) : Sh.Hass (s :: l) (a ++ b)
end
theorem hasl_of {s : Sh} : ∀ (l : List V), (∀ d, d ∈ l → ∃ ds, d = s.pack ds ∧ Sh.Has s ds) → Sh.Hasl s l
  | [], _ => .nil s
  | d :: l, h => by
    obtain ⟨ds, rfl, hd⟩ := h d (List.mem_cons_self ..)
    exact .cons s ds l hd (hasl_of l fun e he => h e (List.mem_cons_of_mem _ he))
def ghOf (w : World) : Gh := ⟨fun b o => w.cell? ⟨b, o, none⟩, fun _ => none⟩
def RepR (G : Gh) (ds : List V) (cs : List Value) : Prop := ds.length = cs.length ∧ (∀ v ∈ cs, v.oneCell' = true) ∧ (∀ (i : Nat) (d : V) (v : Value), ds[i]? = some d → cs[i]? = some v → Rep1 G d v) ∧ ∀ d ∈ ds, d.cells = [d]
theorem RepR.one {G : Gh} {d : V} {v : Value} (h : Rep1 G d v) (h1 : v.oneCell' = true) (h2 : d.cells = [d]) : RepR G [d] [v] :=
  ⟨rfl, by simpa using h1, fun i d' v' hd hv => by
    cases i with
    | zero => simp at hd hv; subst hd hv; exact h
    | succ i => simp at hd, by simpa using h2⟩
theorem RepR.append {G : Gh} {a b : List V} {c d : List Value} (h : RepR G a c) (k : RepR G b d) : RepR G (a ++ b) (c ++ d) :=
  ⟨by simp [h.1, k.1], fun v hv => by
    rcases List.mem_append.1 hv with h' | h'
    · exact h.2.1 v h'
    · exact k.2.1 v h', fun i x v hx hv => by
    rw [List.getElem?_append] at hx hv
    rw [← h.1] at hv
    split at hx
    · rename_i hlt
      rw [if_pos hlt] at hv
      exact h.2.2.1 i x v hx hv
    · rename_i hlt
      rw [if_neg hlt] at hv
      exact k.2.2.1 _ x v hx hv, fun x hx => by
    rcases List.mem_append.1 hx with h' | h'
    · exact h.2.2.2 x h'
    · exact k.2.2.2 x h'⟩
theorem pack_cells {s : Sh} {ds : List V} (h : s.Has ds) (hc : ∀ d ∈ ds, d.cells = [d]) : (s.pack ds).cells = ds := by
  cases h with
  | int => rfl
  | bool => rfl
  | str => rfl
  | sl => rfl
  | st => rfl
section
variable {H : Type} {enc : TypeId × Value → H} {P : Program} {w : World} {base : Nat} {spare : Nat → Bool} {held : Bool}
theorem open_sh : ∀ (n : Nat) {t : TypeId} {s : Sh} (_ : shOf P n t = some s) {fuel : Nat} {cs : List Value} {x : DataW H × List MemPlace} (_ : DataW.trod enc P w base spare held fuel t cs = some x),
    ∃ ds, s.Has ds ∧ RepR (ghOf w) ds cs ∧ cs.length = P.cellsOf t
  | 0, _, _, hs, _, _, _, _ => by simp [shOf] at hs
  | n + 1, t, s, hs, fuel, cs, x, h => by
    unfold shOf at hs
    split at hs
    · rename_i k hu
      split at hs
      · rename_i hc
        cases hs
        obtain ⟨m, rfl, _, hw⟩ := DataW.trod_int hu h
        exact ⟨_, .int k m hw, .one (.sc _ rfl) rfl rfl, by rw [hc]; rfl⟩
      · cases hs
    · rename_i hu
      split at hs
      · rename_i hc
        cases hs
        obtain ⟨m, rfl, _⟩ := DataW.trod_bool hu h
        exact ⟨_, .bool m, .one (.sc _ rfl) rfl rfl, by rw [hc]; rfl⟩
      · cases hs
    · rename_i hu
      split at hs
      · rename_i hc
        cases hs
        obtain ⟨m, rfl, _, hm⟩ := DataW.trod_string hu h
        exact ⟨_, .str m hm, .one (.sc _ rfl) rfl rfl, by rw [hc]; rfl⟩
      · cases hs
    · rename_i e hu
      split at hs
      · rename_i hc
        obtain ⟨s', hs', rfl⟩ := Option.map_eq_some_iff.1 hs
        have hlen1 : ∃ v, cs = [v] := by
          rcases DataW.trod_slice hu h with ⟨rfl, _⟩ | ⟨a, len, cap, _, _, _, _, rfl, _⟩
          · exact ⟨_, rfl⟩
          · exact ⟨_, rfl⟩
        obtain ⟨v, rfl⟩ := hlen1
        obtain ⟨A, len, cap, rfl, hle, hm, hA, hel⟩ := open_elems hu rfl hc.2 h
        obtain ⟨l, hl, hq⟩ := list_of (Q := fun i (p : V × List Value) => ∃ b o, A = some ⟨b, o, none⟩ ∧ p.2.length = P.cellsOf e ∧ Holds w (elemL b (o + i * P.cellsOf e) p.2) ∧ ∃ ds, p.1 = s'.pack ds ∧ s'.Has ds ∧ RepR (ghOf w) ds p.2) len (fun i hi => by
          obtain ⟨b, o, cs', n', y, hA', hlen, hh, ht⟩ := hel i hi
          obtain ⟨ds, k1, k2, k3⟩ := open_sh n hs' ht
          exact ⟨(s'.pack ds, cs'), b, o, hA', hlen, hh, ds, rfl, k1, k2⟩)
        refine ⟨[.sl .no (l.map (·.1))], .sl s' _ (hasl_of _ fun d hd => ?_), .one ?_ rfl rfl, by rw [hc.1]; rfl⟩
        · obtain ⟨p, hp, rfl⟩ := List.mem_map.1 hd
          obtain ⟨i, hi, rfl⟩ := List.mem_iff_getElem.1 hp
          obtain ⟨_, _, _, _, _, ds, k1, k2, _⟩ := hq i _ (List.getElem?_eq_getElem hi)
          exact ⟨ds, k1, k2⟩
        · cases A with
          | none =>
            obtain ⟨rfl, rfl⟩ := hA rfl
            obtain rfl := List.eq_nil_of_length_eq_zero hl
            exact .nil .no (fun g k e => by cases e)
          | some a =>
            by_cases h0 : len = 0
            · subst h0
              obtain rfl := List.eq_nil_of_length_eq_zero hl
              exact .emp a cap hm
            · obtain ⟨b, o, _, _, _, hA', _⟩ := hel 0 (by omega)
              cases hA'
              have hlm : len = (l.map (·.1)).length := by simp [hl]
              rw [hlm]
              refine .sl .no _ b o (P.cellsOf e) cap (fun i j => ((l[i]?.map (·.2)).getD []).getD j default) (fun i d hd => ?_) (fun i j hi hj => ?_) (fun i j hi hj => ?_) (fun i d j c hd hc' => ?_) (by simp; omega) hm (by simp) (fun g k e => by cases e)
              · rw [List.getElem?_map] at hd
                obtain ⟨p, hp, rfl⟩ := Option.map_eq_some_iff.1 hd
                obtain ⟨_, _, _, k1, _, ds, k2, k3, k4⟩ := hq i p hp
                rw [k2, pack_cells k3 k4.2.2.2, k4.1, k1]
              · obtain ⟨p, hp⟩ : ∃ p, l[i]? = some p := ⟨_, List.getElem?_eq_getElem (by simpa using hi)⟩
                obtain ⟨b', o', e', k1, k0, ds, k2, k3, k4⟩ := hq i p hp
                cases e'
                have hj' : j < p.2.length := by omega
                simp only [hp, Option.map_some, Option.getD_some, ghOf]
                have := elemL_get k0 (List.getElem?_eq_getElem hj')
                rw [this]
                simp [List.getD, hj']
              · obtain ⟨p, hp⟩ : ∃ p, l[i]? = some p := ⟨_, List.getElem?_eq_getElem (by simpa using hi)⟩
                obtain ⟨b', o', e', k1, k0, ds, k2, k3, k4⟩ := hq i p hp
                have hj' : j < p.2.length := by omega
                simp only [hp, Option.map_some, Option.getD_some]
                simp only [List.getD, List.getElem?_eq_getElem hj', Option.getD_some]
                exact k4.2.1 _ (List.getElem_mem hj')
              · rw [List.getElem?_map] at hd
                obtain ⟨p, hp, rfl⟩ := Option.map_eq_some_iff.1 hd
                obtain ⟨_, _, _, k1, _, ds, k2, k3, k4⟩ := hq i p hp
                rw [k2, pack_cells k3 k4.2.2.2] at hc'
                have hj' : j < p.2.length := by rw [← k4.1]; exact (List.getElem?_eq_some_iff.1 hc').1
                simp only [hp, Option.map_some, Option.getD_some]
                simp only [List.getD, List.getElem?_eq_getElem hj', Option.getD_some]
                exact k4.2.2.1 j c _ hc' (List.getElem?_eq_getElem hj')
      · cases hs
    · rename_i fs hu
      split at hs
      · rename_i hend
        obtain ⟨ss, hss, rfl⟩ := Option.map_eq_some_iff.1 hs
        have hl := trod_len hu h
        have key : ∀ (gs : List Field) (j0 o : Nat) (ss : List Sh), (∀ i f, gs[i]? = some f → fs[j0 + i]? = some f) → shFields P (shOf P n) o gs = some ss → fieldsEnd P o gs = cs.length →
            ∃ ds, Sh.Hass ss ds ∧ RepR (ghOf w) ds (cs.drop o) := by
          intro gs
          induction gs with
          | nil =>
            intro j0 o ss _ hss he
            simp only [shFields, Option.some.injEq] at hss
            subst hss
            simp only [fieldsEnd] at he
            exact ⟨[], .nil, by rw [List.drop_of_length_le (by omega)]; exact ⟨rfl, by simp, by simp, by simp⟩⟩
          | cons f gs ih =>
            intro j0 o ss hg hss he
            simp only [shFields] at hss
            split at hss
            · rename_i hof
              simp only [Option.bind_eq_bind, Option.bind_eq_some_iff] at hss
              obtain ⟨s0, h0, ss', h1, h2⟩ := hss
              cases h2
              simp only [fieldsEnd] at he
              obtain ⟨ds', k1, k2⟩ := ih (j0 + 1) _ ss' (fun i g hi => by rw [show j0 + 1 + i = j0 + (i + 1) by omega]; exact hg (i + 1) g (by simpa using hi)) h1 he
              obtain ⟨m, y, hy⟩ := trod_field hu h j0 f (by simpa using hg 0 f rfl)
              rw [hof] at hy
              obtain ⟨ds0, q1, q2, q3⟩ := open_sh n h0 hy
              refine ⟨ds0 ++ ds', .cons _ _ _ _ q1 k1, ?_⟩
              have := q2.append k2
              rwa [← List.drop_drop, List.take_append_drop] at this
            · cases hss
        obtain ⟨ds, k1, k2⟩ := key fs.toList 0 0 ss (fun i f hf => by simpa using hf) hss (by rw [hend, hl])
        exact ⟨ds, .st _ _ k1, by simpa using k2, hl⟩
      · cases hs
    · rename_i k e hu
      split at hs
      · rename_i hend
        obtain ⟨s', hs', rfl⟩ := Option.map_eq_some_iff.1 hs
        obtain ⟨xs, m, _, _, hl, hxl, hget⟩ := DataW.trod_array hu h
        have key : ∀ (j i : Nat), i + j = k → ∃ ds, Sh.Hass (List.replicate j s') ds ∧ RepR (ghOf w) ds (cs.drop (i * P.cellsOf e)) := by
          intro j
          induction j with
          | zero =>
            intro i hij
            refine ⟨[], .nil, ?_⟩
            have : i = k := by omega
            subst this
            rw [List.drop_of_length_le (by omega)]
            exact ⟨rfl, by simp, by simp, by simp⟩
          | succ j ih =>
            intro i hij
            obtain ⟨ds', k1, k2⟩ := ih (i + 1) (by omega)
            have hlt : i < xs.length := by omega
            have hy := hget i (by omega)
            rw [List.getElem?_eq_getElem hlt] at hy
            obtain ⟨ds0, q1, q2, q3⟩ := open_sh n hs' hy
            refine ⟨ds0 ++ ds', .cons _ _ _ _ q1 k1, ?_⟩
            have := q2.append k2
            rwa [Nat.add_mul, Nat.one_mul, ← List.drop_drop, List.take_append_drop] at this
        obtain ⟨ds, k1, k2⟩ := key k 0 (by omega)
        exact ⟨ds, .st _ _ k1, by simpa using k2, hl⟩
      · cases hs
    · cases hs
theorem RepR.agg {G : Gh} {ds : List V} {cs : List Value} (h : RepR G ds cs) : Rep1 G (.agg ds) (.agg cs.toArray) :=
  .agg ds _ (by simp [h.1]) (fun i v hv => h.2.1 v (List.mem_of_getElem? (by simpa using hv))) (fun i c v hc hv => h.2.2.1 i c v hc (by simpa using hv))
theorem RepR.head {G : Gh} {d : V} {v : Value} (h : RepR G [d] [v]) : Rep1 G d v := h.2.2.1 0 d v rfl rfl
theorem arg_sh {W : World} (n : Nat) {t : TypeId} {s : Sh} {v : Value} {d : DataW H} {p : List MemPlace} (hs : shOf P n t = some s) (h : ArgIn enc P W base t v d p) : ∃ ds, s.Has ds ∧ Rep1 (ghOf W) (s.pack ds) v := by
  cases n with
  | zero => simp [shOf] at hs
  | succ n =>
  have hs0 := hs
  unfold shOf at hs
  split at hs
  · rename_i k hu
    split at hs
    · cases hs
      obtain ⟨m, rfl, hw⟩ := h.int hu
      exact ⟨_, .int k m hw, .sc _ rfl⟩
    · cases hs
  · rename_i hu
    split at hs
    · cases hs
      obtain ⟨b, rfl⟩ := h.bool hu
      exact ⟨_, .bool b, .sc _ rfl⟩
    · cases hs
  · rename_i hu
    split at hs
    · cases hs
      obtain ⟨b, rfl, hm⟩ := h.string hu
      exact ⟨_, .str b hm, .sc _ rfl⟩
    · cases hs
  · rename_i e hu
    split at hs
    · obtain ⟨s', hs', rfl⟩ := Option.map_eq_some_iff.1 hs
      obtain ⟨A, l, c, fuel, rfl, ht⟩ := h.slice hu
      obtain ⟨ds, k1, k2, _⟩ := open_sh _ hs0 ht
      refine ⟨ds, k1, ?_⟩
      cases k1 with
      | sl _ l' h' => exact k2.head
    · cases hs
  · rename_i fs hu
    split at hs
    · obtain ⟨ss, hss, rfl⟩ := Option.map_eq_some_iff.1 hs
      obtain ⟨cs, fuel, rfl, ht⟩ := h.struct hu
      obtain ⟨ds, k1, k2, _⟩ := open_sh _ hs0 ht
      exact ⟨ds, k1, k2.agg⟩
    · cases hs
  · rename_i k e hu
    split at hs
    · obtain ⟨s', hs', rfl⟩ := Option.map_eq_some_iff.1 hs
      have hwd := h.wide
      simp only [Value.okWide, hu] at hwd
      obtain ⟨cs, rfl, _⟩ := hwd
      obtain ⟨fuel, ht⟩ := h.trod
      obtain ⟨ds, k1, k2, _⟩ := open_sh _ hs0 ht
      have ha := k2.agg
      rw [show (Value.agg cs).cells.toList.toArray = cs from by simp [Value.cells]] at ha
      exact ⟨ds, k1, ha⟩
    · cases hs
  · cases hs
end
def st0 (w : World) : St := ⟨fun _ => none, fun _ => none, w.heap.size⟩
theorem repW0 (w : World) (hT : Tabs w) : RepW (Fr.of w hT) (ghOf w) (st0 w) w :=
  ⟨fun _ _ _ h => h, fun _ _ h => (by cases h), fun _ _ h => (by cases h), fun _ _ h => (by cases h), Nat.le_refl _, Below.refl _ _, fun _ _ h => (by cases h)⟩
theorem v_calls {P : Program} {f : FuncId} {args : List V} {us : Array Value} {w : World} (h : VCalls P f args (st0 w) fun r _ => r = .sc (.bool true)) (hl : us.size = args.length)
    (hr : ∀ (i : Nat) (d : V) (u : Value), args[i]? = some d → us[i]? = some u → Rep1 (ghOf w) d u) (hT : Tabs w := by intro _ _ _ h; cases h) : Calls P f us w (Pure w (.bool true)) :=
  (h (Fr.of w hT) (ghOf w) w us (repW0 w hT) hl hr).mono fun e w' ⟨u, r, st', G', h1, h2, h3, _, h5⟩ => by
    subst h2
    cases h3
    exact ⟨h1, h5.bel⟩
theorem reps1 {G : Gh} {d : V} {u : Value} (h : Rep1 G d u) : ∀ (i : Nat) (x : V) (v : Value), [d][i]? = some x → #[u][i]? = some v → Rep1 G x v := fun i x v hx hv => by
  cases i with
  | zero => simp at hx hv; subst hx hv; exact h
  | succ i => simp at hx
end
section
open Go Go.RowKit
theorem own : ownKnob Tryd.prog.godebug = none := by kernel_rfl
theorem laidOut : laidOutB Tryd.prog = true := by kernel_rfl
end
section
open Go Go.RowKit
theorem gTab : Tryd.prog.globalNamed "math/bits.deBruijn64tab" = some 0 := by kernel_rfl
theorem gTabType : (Tryd.prog.globals[0]?).map (·.type) = some 67 := by kernel_rfl
theorem cells_u8 : Tryd.prog.cellsOf 5 = 1 := by kernel_rfl
theorem cells_tab : Tryd.prog.cellsOf 67 = 64 := by kernel_rfl
theorem tab_datum {H : Type} : (Rows.laid_math_bits_deBruijn64tab : DataW H) = Lib.tabData .u8 (dbTab.map fun n : Nat => (n : Int)) := rfl
abbrev laidL : List (String × DataW Unit) := [("math/bits.deBruijn64tab", Rows.laid_math_bits_deBruijn64tab)]
theorem tabs_of {W : World} (h : laidMetH Tryd.prog laidL W) : Tabs W := by
  rw [MakeChecks.laidMetH_plain _ _ _ (by kernel_rfl)] at h
  unfold laidL at h
  rw [tab_datum] at h
  have hT := Lib.tabIs_of_head gTab gTabType Tryd.underlying67 Tryd.underlying5 cells_u8 cells_tab h
  intro b j v hv
  have hv' : (if b = 0 then (dbTab[j]?).map (fun n : Nat => Value.int .u8 (n : Nat)) else none) = some v := hv
  split at hv'
  · rename_i hb
    subst hb
    obtain ⟨n, hn, rfl⟩ := Option.map_eq_some_iff.1 hv'
    have hj := (List.getElem?_eq_some_iff.1 hn).1
    have := hT.cell gTab j (by simpa using hj)
    rw [this]
    simp [List.getD, List.getElem?_map, hn]
  · cases hv'
theorem door_met (os : Os) (args : Array Value) : laidMetH Tryd.prog laidL ((World.doorLaid Tryd.prog 400 os).forCall (fun _ _ => 0) ⟨#[], args, []⟩).memory :=
  laidMetH_of_parts3 (fuel := 8) (laidMet_of_run' 8 (by kernel_rfl) (by kernel_rfl)) (by kernel_rfl) (by kernel_rfl)
end
section
open Go Go.RowKit
theorem hass_nil {ds : List V} (h : Sh.Hass [] ds) : ds = [] := by cases h; rfl
theorem hass_int {k : IntKind} {l : List Sh} {ds : List V} (h : Sh.Hass (.int k :: l) ds) : ∃ n b, ds = .sc (.int k n) :: b ∧ (Lit.int k n).wf = true ∧ Sh.Hass l b := by
  cases h with
  | cons _ _ a b h0 h1 =>
    cases h0 with
    | int _ n hw => exact ⟨n, b, rfl, hw, h1⟩
theorem has_st {l : List Sh} {ds : List V} (h : Sh.Has (.st l) ds) : Sh.Hass l ds := by
  cases h with
  | st _ _ h => exact h
theorem hasl_map {α : Type} {s : Sh} (f : α → V) (ok : α → Prop) (h1 : ∀ ds, Sh.Has s ds → ∃ a, ok a ∧ s.pack ds = f a) : ∀ {l : List V}, Sh.Hasl s l → ∃ L : List α, (∀ a ∈ L, ok a) ∧ l = L.map f := by
  intro l
  induction l with
  | nil => exact fun _ => ⟨[], by intro x hx; (cases hx), rfl⟩
  | cons d l ih =>
    intro h
    cases h with
    | cons _ ds _ h k =>
      obtain ⟨L, hB, rfl⟩ := ih k
      obtain ⟨a, ha, e⟩ := h1 ds h
      exact ⟨a :: L, by
          intro x hx
          rcases List.mem_cons.1 hx with rfl | hx
          · exact ha
          · exact hB x hx, by rw [e]; rfl⟩
theorem has_slmap {α : Type} {s : Sh} {f : α → V} {ok : α → Prop} (h1 : ∀ ds, Sh.Has s ds → ∃ a, ok a ∧ s.pack ds = f a) {ds : List V} (h : Sh.Has (.sl s) ds) : ∃ L : List α, (∀ a ∈ L, ok a) ∧ ds = [.sl .no (L.map f)] := by
  cases h with
  | sl _ l h =>
    obtain ⟨L, hB, rfl⟩ := hasl_map f ok h1 h
    exact ⟨L, hB, rfl⟩
end
end Go.Proofs.YtcffgogjhfkaeaaDoor
