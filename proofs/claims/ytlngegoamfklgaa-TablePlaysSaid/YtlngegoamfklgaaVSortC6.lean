/- Go's own sort by a function: contract. Printed by a program (gen_sort6.py). No program here. -/
import Derived.Test.YtlngegoamfklgaaVSortC3
import Derived.Test.YtlngegoamfklgaaVSortC4
import Derived.Test.YtlngegoamfklgaaVSortC5
namespace Go.Proofs.Ytlngegoamfklgaa
open Go

/-- The sort's functions of one instance. -/
structure SortsC (P : Program) (f fins fheap fbreak fpivot frev fpart fequal fsplit fsift fa fm fo fpow fnext : FuncId) : Prop where
  pdq : cFun P f = some (CPdq fins fheap fbreak fpivot frev fpart fequal fsplit f)
  ins : cFun P fins = some (CIns)
  heap : cFun P fheap = some (CHeap fsift)
  sift : cFun P fsift = some (CSift)
  brk : cFun P fbreak = some (CBreak fpow fnext)
  pivot : cFun P fpivot = some (CPivot fa fm)
  meda : cFun P fa = some (CMedA fm)
  med : cFun P fm = some (CMed fo)
  ord2 : cFun P fo = some (COrd2)
  rev : cFun P frev = some CRev
  part : cFun P fpart = some (CPart)
  equal : cFun P fequal = some (CEqual)
  split : cFun P fsplit = some (CSplit)
  pow : ∀ (st : St) (n : Nat), 0 < n → n < 4611686018427387904 → VCalls P fpow [.sc (.int .i64 n)] st fun v s => st = s ∧ ∃ m : Nat, n < m ∧ m ≤ 2 * n ∧ v = .sc (.int .u64 m)
  next : ∀ (st : St) (r : Nat) (x : Int), VCalls P fnext [ptrV r] (st.put r [.sc (.int .u64 x)]) fun v s => ∃ y, v = .sc (.int .u64 y) ∧ s = st.put r [.sc (.int .u64 y)]
section
variable {P : Program} {α : Type} [Inhabited α] {val : α → V × V} {lt : α → α → Bool} {g f fsift : FuncId} {st : St} {b cap a c : Nat} {L : List α} {sp : List V}
variable {fins fheap fbreak fpivot frev fpart fequal fsplit fa fm fo fpow fnext : FuncId}
set_option maxRecDepth 100000 in
set_option maxHeartbeats 64000000 in
theorem cpdq_v (hc : SortsC P f fins fheap fbreak fpivot frev fpart fequal fsplit fsift fa fm fo fpow fnext) (E : EltC P g val lt) : ∀ (n a c : Nat) (L : List α) (lim : Int), c - a ≤ n → a ≤ c → c ≤ L.length → L.length < 4611686018427387904 → 0 ≤ lim → lim < 4611686018427387904 → LB lt a c L → mono (rowc val L sp) →
    VCalls P f [dataV b L.length cap, .sc (.int .i64 a), .sc (.int .i64 c), .sc (.int .i64 lim), cmpV g] (st.put b (rowc val L sp)) fun _ s => ∃ M, Mix a c L M ∧ Srt lt a c M ∧ s = st.put b (rowc val M sp) := by
  intro n
  induction n using Nat.strongRecOn with
  | _ n ih =>
  intro a c L lim hn h1 h2 hl hl0 hl1 hLB hmo
  refine vcalls_enter hc.pdq (Nat.le_of_ble_eq_true rfl) fun hwf hok => ?_
  show Run _ (CPdq fins fheap fbreak fpivot frev fpart fequal fsplit f).body (.fin (finQ (CPdq fins fheap fbreak fpivot frev fpart fequal fsplit f).res _)) _ _
  unfold CPdq
  simp (config := {maxSteps := 3000000}) only [run_reg, run_seq, run_blk, at_code_n, ops_nil, ops_mv, ev_c, opv_mk, true_and, dataV, cmpV]
  refine run_loop [1, 2, 3, 10, 11, 12, 13, 14, 15, 16, 17, 18, 19, 20, 21, 22, 23, 24, 25, 26, 27, 28, 29, 30, 31, 32, 33, 34, 35, 36, 37, 38, 39, 40, 41, 42, 43, 44, 45, 46, 47, 48, 49, 50, 51, 52, 53, 54, 55, 56, 57, 58, 59, 60, 61, 62, 63, 64, 65, 66, 67, 68, 69, 70, 71, 72, 73, 74, 75, 76, 77, 78, 79, 80, 81, 82, 83, 84, 85, 86, 87, 88, 89, 90, 91, 92, 93, 94, 95, 96, 97, 98, 99, 100, 101, 102, 103, 104, 105, 106, 107, 108, 109, 110, 111, 112, 113, 114, 115, 116, 117, 118, 119, 120, 121, 122, 123, 124, 125, 126, 127, 128, 129, 130, 131, 132, 133, 134, 135, 136, 137, 138, 139, 140, 141, 142, 143, 144, 145, 146, 147] (fun B s => ∃ (x y : Nat) (M : List α) (lim : Int) (B1 B2 : Bool), B 1 = .sc (.int .i64 x) ∧ B 2 = .sc (.int .i64 y) ∧ B 3 = .sc (.int .i64 lim) ∧ B 10 = .sc (.bool B1) ∧ B 11 = .sc (.bool B2) ∧ a ≤ x ∧ x ≤ y ∧ y ≤ c ∧ 0 ≤ lim ∧ lim < 4611686018427387904 ∧ Mix a c L M ∧ Fence lt a c x y M ∧ s = st.put b (rowc val M sp)) (fun B _ => vnat (B 2) - vnat (B 1)) rfl ?_ ?_
  · simp (config := {maxSteps := 3000000}) only [put_get, args0, List.getD_cons_zero, List.getD_cons_succ, Nat.reduceEqDiff, ↓reduceIte, eq_self]
    exact ⟨a, c, L, lim, true, true, rfl, rfl, rfl, rfl, rfl, by omega, by omega, by omega, hl0, hl1, .refl, Fence.nil, rfl⟩
  · clear hl0 hl1
    rintro B s ⟨x, y, M, lim, B1, B2, q1, q2, q3, q8, q9, hax, hxy, hyc, hl0, hl1, hM, hF, rfl⟩
    have hlen := hM.len
    have e0 : (y : Int) - (x : Int) = ((y - x : Nat) : Int) := by omega
    by_cases c12 : ((y - x : Nat) : Int) ≤ 12
    · simp (config := {maxSteps := 3000000}) only [run_reg, run_seq, run_blk, run_cond, if_true, at_code_n, ops_nil, ops_mv, ops_bin, ops_call, ev_t, ev_c, put_get, opv_mk, over_get, vnat, args0, List.getD_cons_zero, List.getD_cons_succ, vbin, vbinI, norm, List.map_cons, List.map_nil, true_and, Nat.reduceEqDiff, Int.toNat_natCast, Int.reduceNeg, ↓reduceIte, eq_self, reduceCtorEq, Bool.false_eq_true, List.contains_cons, List.contains_nil, Nat.reduceBEq, Bool.or_false, Bool.or_true, q1, q2, e0, decide_eq_true c12]
      repeat (apply And.intro; focus (first | omega | (simp; done)))
      have cc := cins_v (st := st) (b := b) (cap := cap) (sp := sp) hc.ins E (rowc_mono hmo hlen) (L := M) (a := x) (c := y) (by omega) (by omega) (by omega)
      rw [hlen, dataV] at cc
      refine Cal.mk cc ?_
      rintro _ _ ⟨N, n1, n2, rfl⟩ -
      clear cc
      simp (config := {maxSteps := 3000000}) only [run_ret, at_code_n, at_code_r, at_blk_r, at_rnd_r, at_fin_r, ops_nil, obsOk, true_and, vret, rvAll]
      have hfin := hF.fin hM hax hyc h2 n1 n2
      exact ⟨_, _, Wk.refl _, weak_re hwf, N, hfin.1, hfin.2, rfl⟩
    · by_cases cl : lim = 0
      · simp (config := {maxSteps := 3000000}) only [run_skip, run_reg, run_seq, run_blk, run_cond, if_true, if_false, at_code_n, ops_nil, ops_mv, ops_bin, ops_call, ev_t, ev_c, put_get, opv_mk, over_get, vnat, args0, List.getD_cons_zero, List.getD_cons_succ, vbin, vbinI, norm, List.map_cons, List.map_nil, true_and, Nat.reduceEqDiff, Int.toNat_natCast, Int.reduceNeg, ↓reduceIte, eq_self, reduceCtorEq, Bool.false_eq_true, List.contains_cons, List.contains_nil, Nat.reduceBEq, Bool.or_false, Bool.or_true, q1, q2, q3, e0, decide_eq_false c12, decide_eq_true cl]
        repeat (apply And.intro; focus (first | omega | (simp; done)))
        have cc := cheap_v (st := st) (b := b) (cap := cap) (sp := sp) hc.heap hc.sift E (rowc_mono hmo hlen) (L := M) (a := x) (c := y) (by omega) (by omega) (by omega)
        rw [hlen, dataV] at cc
        refine Cal.mk cc ?_
        rintro _ _ ⟨N, n1, n2, rfl⟩ -
        clear cc
        simp (config := {maxSteps := 3000000}) only [run_ret, at_code_n, at_code_r, at_blk_r, at_rnd_r, at_fin_r, ops_nil, obsOk, true_and, vret, rvAll]
        have hfin := hF.fin hM hax hyc h2 n1 n2
        exact ⟨_, _, Wk.refl _, weak_re hwf, N, hfin.1, hfin.2, rfl⟩
      · cases B1
        · simp (config := {maxSteps := 3000000}) only [run_skip, run_reg, run_seq, run_blk, run_cond, if_true, if_false, at_code_n, ops_nil, ops_mv, ops_bin, ops_un, ops_call, ev_t, ev_c, put_get, opv_mk, over_get, vnat, args0, List.getD_cons_zero, List.getD_cons_succ, vbin, vbinI, vun, norm, List.map_cons, List.map_nil, true_and, Nat.reduceEqDiff, Int.toNat_natCast, Int.reduceNeg, ↓reduceIte, Bool.not_false, eq_self, reduceCtorEq, Bool.false_eq_true, List.contains_cons, List.contains_nil, Nat.reduceBEq, Bool.or_false, Bool.or_true, q1, q2, q3, q8, e0, decide_eq_false c12, decide_eq_false cl]
          repeat (apply And.intro; focus (first | omega | (simp; done)))
          have cc := cbreak_v (st := st) (b := b) (cap := cap) (sp := sp) hc.brk (g := g) hc.pow hc.next (L := M) (a := x) (c := y) (by omega) (by omega) (rowc_mono hmo hlen) (by omega)
          rw [hlen, dataV] at cc
          refine Cal.mk cc ?_
          rintro _ _ ⟨N, n1, rfl⟩ -
          clear cc
          simp (config := {maxSteps := 3000000}) only [run_reg, run_seq, at_code_n, ops_nil, ops_mv, ops_bin, ops_call, ev_t, ev_c, put_get, opv_mk, over_get, args0, List.getD_cons_zero, List.getD_cons_succ, vbin, vbinI, norm, obsOk, List.map_cons, List.map_nil, true_and, Nat.reduceEqDiff, Int.reduceNeg, ↓reduceIte, eq_self, reduceCtorEq, Bool.false_eq_true, List.contains_cons, List.contains_nil, Nat.reduceBEq, Bool.or_false, Bool.or_true, q1, q2, q3]
          repeat (apply And.intro; focus (first | omega | (simp; done)))
          have hF := hF.mix n1 hax hyc (by omega)
          have hM := hM.trans (n1.wide hax hyc)
          have hlen := hM.len
          obtain ⟨lim', el⟩ : ∃ l, l = lim - 1 := ⟨_, rfl⟩
          rw [← el]
          have hl0 : 0 ≤ lim' := by omega
          have hl1 : lim' < 4611686018427387904 := by omega
          clear n1
          generalize N = M at hF hM hlen ⊢
          have cc := cpivot_v (st := st) (b := b) (cap := cap) (sp := sp) hc.pivot hc.meda hc.med hc.ord2 E (L := M) (a := x) (c := y) (by omega) (by omega) (rowc_mono hmo hlen) (by omega)
          rw [hlen, dataV] at cc
          refine Cal.mk cc ?_
          rintro _ _ ⟨pv, hint, p1, p2, rfl, rfl⟩ -
          clear cc
          by_cases k2 : hint = 2
          · simp (config := {maxSteps := 3000000}) only [run_reg, run_seq, run_cond, if_true, at_code_n, ops_nil, ops_mv, ops_bin, ops_ext, ops_call, ev_t, ev_c, put_get, opv_mk, over_get, args0, List.getD_cons_zero, List.getD_cons_succ, vbin, vbinI, vext, obsOk, List.map_cons, List.map_nil, List.getElem?_cons_zero, List.getElem?_cons_succ, true_and, Nat.reduceEqDiff, ↓reduceIte, eq_self, reduceCtorEq, Bool.false_eq_true, List.contains_cons, List.contains_nil, Nat.reduceBEq, Bool.or_false, Bool.or_true, q1, q2, decide_eq_true k2]
            repeat (apply And.intro; focus (first | omega | (simp; done)))
            have cc := crev_v (st := st) (b := b) (cap := cap) (sp := sp) hc.rev (g := g) (rowc_mono hmo hlen) (L := M) (a := x) (c := y) (by omega) (by omega) (by omega)
            rw [hlen, dataV] at cc
            refine Cal.mk cc ?_
            rintro _ _ ⟨N, n1, rfl⟩ -
            clear cc
            have hF := hF.mix n1 hax hyc (by omega)
            have hM := hM.trans (n1.wide hax hyc)
            have hlen := hM.len
            have ep : (y : Int) - 1 - ((pv : Int) - (x : Int)) = ((y - 1 - (pv - x) : Nat) : Int) := by omega
            obtain ⟨pw, epw⟩ : ∃ pw, pw = y - 1 - (pv - x) := ⟨_, rfl⟩
            have p1 : x ≤ pw := by omega
            have p2 : pw < y := by omega
            rw [← epw] at ep
            clear n1 epw
            generalize N = M at hF hM hlen ⊢
            simp (config := {maxSteps := 3000000}) only [run_skip, run_reg, run_seq, run_cond, if_false, at_code_n, ops_nil, ops_grd, grd_ft, ops_mv, ops_pick, ops_bin, ev_t, ev_c, put_get, opv_mk, over_get, vpick, vbin, vbinI, norm, obsOk, true_and, Nat.reduceEqDiff, Int.reduceNeg, ↓reduceIte, eq_self, Bool.false_eq_true, List.contains_cons, List.contains_nil, Nat.reduceBEq, Bool.or_false, Bool.or_true, q1, q2, q8, ep]
            repeat (apply And.intro; focus (first | omega | (simp; done)))
            clear ep
            generalize pw = pv at p1 p2 ⊢
            have hLM := hLB.mix hM h2
            have hLx := hF.lb hLM hax hyc
            by_cases cx : 0 < x
            · have ex : ((x : Int) - 1).toNat = x - 1 := by omega
              simp (config := {maxSteps := 3000000}) only [ops_grd, grd_tt, ops_mv, ops_bin, ops_ix, ops_load, ev_t, ev_c, put_get, opv_mk, over_get, put_box_same, args0, List.getD_cons_zero, List.getD_cons_succ, vbin, vbinI, norm, vix, vload, takeV, takeB, ops_calv, clv_func, List.map_cons, List.map_nil, List.nil_append, List.append_nil, and_true, true_and, Nat.reduceEqDiff, Int.toNat_natCast, Int.reduceNeg, Nat.zero_add, ↓reduceIte, eq_self, reduceCtorEq, Bool.false_eq_true, List.contains_cons, List.contains_nil, Nat.reduceBEq, Bool.or_false, List.not_mem_nil, q1, ex, decide_eq_true (show (0 : Int) < (x : Int) by omega), rowc_get (show x - 1 < M.length by omega), rowc_get (show pv < M.length by omega), rowc_len, rowc_mono hmo hlen, E.call, List.map_nil]
              repeat (apply And.intro; focus (first | omega | (simp; done)))
              refine Cal.mk (E.less _ _ _) ?_
              rintro _ _ ⟨z1, hz1, rfl, rfl⟩ -
              simp (config := {maxSteps := 3000000}) only [run_cond, at_code_n, ops_nil, ops_grd, grd_tt, ops_pick, ops_bin, ops_un, ev_t, ev_c, put_get, opv_mk, vpick, vbin, vbinI, vun, obsOk, true_and, Nat.reduceEqDiff, ↓reduceIte, eq_self, hz1]
              cases cq : lt M[x - 1]! M[pv]!
              · simp (config := {maxSteps := 3000000}) only [run_reg, run_seq, if_true, ops_mv, ops_call, ev_t, put_get, opv_mk, over_get, args0, List.getD_cons_zero, List.getD_cons_succ, List.map_cons, List.map_nil, true_and, Nat.reduceEqDiff, ↓reduceIte, Bool.not_false, eq_self, reduceCtorEq, Bool.false_eq_true, List.contains_cons, List.contains_nil, Nat.reduceBEq, Bool.or_false, Bool.or_true, q1, q2]
                have cc := cequal_v (st := st) (b := b) (cap := cap) (sp := sp) hc.equal E (rowc_mono hmo hlen) (p := pv) (by omega) (by omega) (by omega) (by omega) (L := M) (a := x) (c := y)
                rw [hlen, dataV] at cc
                refine Cal.mk cc ?_
                rintro _ _ ⟨m, N, n1, n2, n3, n4, n5, rfl, rfl⟩ -
                clear cc
                simp (config := {maxSteps := 3000000}) only [run_reg, run_seq, run_exit, at_code_n, at_code_x, at_blk_x, at_rnd_n, ops_nil, ops_mv, ev_t, put_get, opv_mk, over_get, rel_mk, obsOk, true_and, Nat.reduceEqDiff, Int.toNat_natCast, ↓reduceIte, eq_self, List.contains_cons, List.contains_nil, Nat.reduceBEq, Bool.or_false, Bool.or_true, q2, q8, q9]
                repeat (apply And.intro; focus (first | omega | (simp; done)))
                exact ⟨⟨m, y, N, lim', _, _, rfl, rfl, rfl, rfl, rfl, by omega, by omega, by omega, hl0, hl1, hM.trans (n3.wide hax hyc), hF.goE E.ord hLx cx cq hax hyc n1 n2 (by omega) n3 n4, rfl⟩, by omega⟩
              · simp (config := {maxSteps := 3000000}) only [run_skip, run_reg, run_seq, if_false, at_code_n, ops_mv, ops_call, ev_t, put_get, opv_mk, over_get, args0, List.getD_cons_zero, List.getD_cons_succ, List.map_cons, List.map_nil, true_and, Nat.reduceEqDiff, ↓reduceIte, Bool.not_true, eq_self, reduceCtorEq, Bool.false_eq_true, List.contains_cons, List.contains_nil, Nat.reduceBEq, Bool.or_false, Bool.or_true, q1, q2]
                have cc := csplit_v (st := st) (b := b) (cap := cap) (sp := sp) hc.split E (rowc_mono hmo hlen) (p := pv) (by omega) (by omega) (by omega) (by omega) (L := M) (a := x) (c := y)
                rw [hlen, dataV] at cc
                refine Cal.mk cc ?_
                rintro _ _ ⟨m, B3, N, n1, n2, n3, n4, n5, rfl, rfl⟩ -
                clear cc
                have hlN : N.length = L.length := n3.len.trans hlen
                have hMN : Mix a c L N := hM.trans (n3.wide hax hyc)
                have hFN := hF.mix n3 hax hyc (by omega)
                have hLN := hLx.mix n3 (by omega)
                have e4 : (m : Int) - (x : Int) = ((m - x : Nat) : Int) := by omega
                have e5 : (y : Int) - (m : Int) = ((y - m : Nat) : Int) := by omega
                have e6 : (m : Int) + 1 = ((m + 1 : Nat) : Int) := by simp
                clear hM hF hLx hLM n3
                by_cases cl : ((m - x : Nat) : Int) < ((y - m : Nat) : Int)
                · simp (config := {maxSteps := 3000000}) only [run_reg, run_seq, run_cond, if_true, at_code_n, ops_nil, ops_mv, ops_bin, ops_ext, ops_call, ev_t, ev_c, put_get, opv_mk, over_get, args0, List.getD_cons_zero, List.getD_cons_succ, vbin, vbinI, norm, vext, obsOk, List.map_cons, List.map_nil, List.getElem?_cons_zero, List.getElem?_cons_succ, true_and, Nat.reduceEqDiff, Int.reduceLT, Int.reduceNeg, ↓reduceIte, eq_self, reduceCtorEq, Bool.false_eq_true, List.contains_cons, List.contains_nil, Nat.reduceBEq, Bool.or_false, Bool.or_true, q1, q2, e4, e5, decide_eq_true cl]
                  repeat (apply And.intro; focus (first | omega | (simp; done)))
                  have cc := ih (m - x) (by omega) x m N lim' (Nat.le_refl _) (by omega) (by omega) (by omega) hl0 hl1 (hLN.part (by omega)) (rowc_mono hmo hlN)
                  rw [hlN, dataV] at cc
                  refine Cal.mk cc ?_
                  rintro _ _ ⟨R, r1, r2, rfl⟩ -
                  clear cc
                  simp (config := {maxSteps := 3000000}) only [run_reg, at_code_n, at_blk_n, at_rnd_n, ops_nil, ops_mv, ops_bin, ev_t, ev_c, put_get, opv_mk, over_get, rel_mk, vbin, vbinI, norm, obsOk, true_and, Nat.reduceEqDiff, Int.toNat_natCast, Int.reduceNeg, ↓reduceIte, eq_self, List.contains_cons, List.contains_nil, Nat.reduceBEq, Bool.or_false, Bool.or_true, q2, e6]
                  repeat (apply And.intro; focus (first | omega | (simp; done)))
                  exact ⟨⟨m + 1, y, R, lim', _, _, rfl, rfl, rfl, rfl, rfl, by omega, by omega, by omega, hl0, hl1, hMN.trans (r1.wide (by omega) (by omega)), hFN.goL E.ord hax hyc (by omega) (by omega) (by omega) n4 n5 r1 r2, rfl⟩, by omega⟩
                · simp (config := {maxSteps := 3000000}) only [run_reg, run_seq, run_cond, if_false, at_code_n, ops_nil, ops_mv, ops_bin, ops_ext, ops_call, ev_t, ev_c, put_get, opv_mk, over_get, args0, List.getD_cons_zero, List.getD_cons_succ, vbin, vbinI, norm, vext, obsOk, List.map_cons, List.map_nil, List.getElem?_cons_zero, List.getElem?_cons_succ, true_and, Nat.reduceEqDiff, Int.reduceLT, Int.reduceNeg, ↓reduceIte, eq_self, reduceCtorEq, Bool.false_eq_true, List.contains_cons, List.contains_nil, Nat.reduceBEq, Bool.or_false, Bool.or_true, q1, q2, e4, e5, e6, decide_eq_false cl]
                  repeat (apply And.intro; focus (first | omega | (simp; done)))
                  have cc := ih (y - (m + 1)) (by omega) (m + 1) y N lim' (Nat.le_refl _) (by omega) (by omega) (by omega) hl0 hl1 (LB.next n5) (rowc_mono hmo hlN)
                  rw [hlN, dataV] at cc
                  refine Cal.mk cc ?_
                  rintro _ _ ⟨R, r1, r2, rfl⟩ -
                  clear cc
                  simp (config := {maxSteps := 3000000}) only [run_reg, at_code_n, at_blk_n, at_rnd_n, ops_nil, ops_mv, ev_t, put_get, opv_mk, over_get, rel_mk, obsOk, true_and, Nat.reduceEqDiff, Int.toNat_natCast, ↓reduceIte, eq_self, List.contains_cons, List.contains_nil, Nat.reduceBEq, Bool.or_false, q1]
                  repeat (apply And.intro; focus (first | omega | (simp; done)))
                  exact ⟨⟨x, m, R, lim', _, _, rfl, rfl, rfl, rfl, rfl, by omega, by omega, by omega, hl0, hl1, hMN.trans (r1.wide (by omega) (by omega)), hFN.goR E.ord hax hyc (by omega) (by omega) (by omega) n4 n5 r1 r2, rfl⟩, by omega⟩
            · simp (config := {maxSteps := 3000000}) only [run_skip, run_reg, run_seq, run_cond, if_false, at_code_n, ops_nil, ops_grd, grd_ft, ops_mv, ops_pick, ops_call, ev_t, ev_c, put_get, opv_mk, over_get, args0, List.getD_cons_zero, List.getD_cons_succ, vpick, List.map_cons, List.map_nil, true_and, Nat.reduceEqDiff, ↓reduceIte, eq_self, reduceCtorEq, Bool.false_eq_true, List.contains_cons, List.contains_nil, Nat.reduceBEq, Bool.or_false, Bool.or_true, q1, q2, decide_eq_false (show ¬ (0 : Int) < (x : Int) by omega)]
              have cc := csplit_v (st := st) (b := b) (cap := cap) (sp := sp) hc.split E (rowc_mono hmo hlen) (p := pv) (by omega) (by omega) (by omega) (by omega) (L := M) (a := x) (c := y)
              rw [hlen, dataV] at cc
              refine Cal.mk cc ?_
              rintro _ _ ⟨m, B3, N, n1, n2, n3, n4, n5, rfl, rfl⟩ -
              clear cc
              have hlN : N.length = L.length := n3.len.trans hlen
              have hMN : Mix a c L N := hM.trans (n3.wide hax hyc)
              have hFN := hF.mix n3 hax hyc (by omega)
              have hLN := hLx.mix n3 (by omega)
              have e4 : (m : Int) - (x : Int) = ((m - x : Nat) : Int) := by omega
              have e5 : (y : Int) - (m : Int) = ((y - m : Nat) : Int) := by omega
              have e6 : (m : Int) + 1 = ((m + 1 : Nat) : Int) := by simp
              clear hM hF hLx hLM n3
              by_cases cl : ((m - x : Nat) : Int) < ((y - m : Nat) : Int)
              · simp (config := {maxSteps := 3000000}) only [run_reg, run_seq, run_cond, if_true, at_code_n, ops_nil, ops_mv, ops_bin, ops_ext, ops_call, ev_t, ev_c, put_get, opv_mk, over_get, args0, List.getD_cons_zero, List.getD_cons_succ, vbin, vbinI, norm, vext, obsOk, List.map_cons, List.map_nil, List.getElem?_cons_zero, List.getElem?_cons_succ, true_and, Nat.reduceEqDiff, Int.reduceLT, Int.reduceNeg, ↓reduceIte, eq_self, reduceCtorEq, Bool.false_eq_true, List.contains_cons, List.contains_nil, Nat.reduceBEq, Bool.or_false, Bool.or_true, q1, q2, e4, e5, decide_eq_true cl]
                repeat (apply And.intro; focus (first | omega | (simp; done)))
                have cc := ih (m - x) (by omega) x m N lim' (Nat.le_refl _) (by omega) (by omega) (by omega) hl0 hl1 (hLN.part (by omega)) (rowc_mono hmo hlN)
                rw [hlN, dataV] at cc
                refine Cal.mk cc ?_
                rintro _ _ ⟨R, r1, r2, rfl⟩ -
                clear cc
                simp (config := {maxSteps := 3000000}) only [run_reg, at_code_n, at_blk_n, at_rnd_n, ops_nil, ops_mv, ops_bin, ev_t, ev_c, put_get, opv_mk, over_get, rel_mk, vbin, vbinI, norm, obsOk, true_and, Nat.reduceEqDiff, Int.toNat_natCast, Int.reduceNeg, ↓reduceIte, eq_self, List.contains_cons, List.contains_nil, Nat.reduceBEq, Bool.or_false, Bool.or_true, q2, e6]
                repeat (apply And.intro; focus (first | omega | (simp; done)))
                exact ⟨⟨m + 1, y, R, lim', _, _, rfl, rfl, rfl, rfl, rfl, by omega, by omega, by omega, hl0, hl1, hMN.trans (r1.wide (by omega) (by omega)), hFN.goL E.ord hax hyc (by omega) (by omega) (by omega) n4 n5 r1 r2, rfl⟩, by omega⟩
              · simp (config := {maxSteps := 3000000}) only [run_reg, run_seq, run_cond, if_false, at_code_n, ops_nil, ops_mv, ops_bin, ops_ext, ops_call, ev_t, ev_c, put_get, opv_mk, over_get, args0, List.getD_cons_zero, List.getD_cons_succ, vbin, vbinI, norm, vext, obsOk, List.map_cons, List.map_nil, List.getElem?_cons_zero, List.getElem?_cons_succ, true_and, Nat.reduceEqDiff, Int.reduceLT, Int.reduceNeg, ↓reduceIte, eq_self, reduceCtorEq, Bool.false_eq_true, List.contains_cons, List.contains_nil, Nat.reduceBEq, Bool.or_false, Bool.or_true, q1, q2, e4, e5, e6, decide_eq_false cl]
                repeat (apply And.intro; focus (first | omega | (simp; done)))
                have cc := ih (y - (m + 1)) (by omega) (m + 1) y N lim' (Nat.le_refl _) (by omega) (by omega) (by omega) hl0 hl1 (LB.next n5) (rowc_mono hmo hlN)
                rw [hlN, dataV] at cc
                refine Cal.mk cc ?_
                rintro _ _ ⟨R, r1, r2, rfl⟩ -
                clear cc
                simp (config := {maxSteps := 3000000}) only [run_reg, at_code_n, at_blk_n, at_rnd_n, ops_nil, ops_mv, ev_t, put_get, opv_mk, over_get, rel_mk, obsOk, true_and, Nat.reduceEqDiff, Int.toNat_natCast, ↓reduceIte, eq_self, List.contains_cons, List.contains_nil, Nat.reduceBEq, Bool.or_false, q1]
                repeat (apply And.intro; focus (first | omega | (simp; done)))
                exact ⟨⟨x, m, R, lim', _, _, rfl, rfl, rfl, rfl, rfl, by omega, by omega, by omega, hl0, hl1, hMN.trans (r1.wide (by omega) (by omega)), hFN.goR E.ord hax hyc (by omega) (by omega) (by omega) n4 n5 r1 r2, rfl⟩, by omega⟩
          · simp (config := {maxSteps := 3000000}) only [run_skip, run_reg, run_seq, run_cond, if_false, at_code_n, ops_nil, ops_grd, grd_ft, ops_mv, ops_pick, ops_bin, ops_ext, ev_t, ev_c, put_get, opv_mk, over_get, vpick, vbin, vbinI, vext, obsOk, List.getElem?_cons_zero, List.getElem?_cons_succ, true_and, Nat.reduceEqDiff, ↓reduceIte, eq_self, Bool.false_eq_true, List.contains_cons, List.contains_nil, Nat.reduceBEq, Bool.or_false, Bool.or_true, q1, q8, decide_eq_false k2]
            repeat (apply And.intro; focus (first | omega | (simp; done)))
            have hLM := hLB.mix hM h2
            have hLx := hF.lb hLM hax hyc
            by_cases cx : 0 < x
            · have ex : ((x : Int) - 1).toNat = x - 1 := by omega
              simp (config := {maxSteps := 3000000}) only [ops_grd, grd_tt, ops_mv, ops_bin, ops_ix, ops_load, ev_t, ev_c, put_get, opv_mk, over_get, put_box_same, args0, List.getD_cons_zero, List.getD_cons_succ, vbin, vbinI, norm, vix, vload, takeV, takeB, ops_calv, clv_func, List.map_cons, List.map_nil, List.nil_append, List.append_nil, and_true, true_and, Nat.reduceEqDiff, Int.toNat_natCast, Int.reduceNeg, Nat.zero_add, ↓reduceIte, eq_self, reduceCtorEq, Bool.false_eq_true, List.contains_cons, List.contains_nil, Nat.reduceBEq, Bool.or_false, List.not_mem_nil, q1, ex, decide_eq_true (show (0 : Int) < (x : Int) by omega), rowc_get (show x - 1 < M.length by omega), rowc_get (show pv < M.length by omega), rowc_len, rowc_mono hmo hlen, E.call, List.map_nil]
              repeat (apply And.intro; focus (first | omega | (simp; done)))
              refine Cal.mk (E.less _ _ _) ?_
              rintro _ _ ⟨z2, hz2, rfl, rfl⟩ -
              simp (config := {maxSteps := 3000000}) only [run_cond, at_code_n, ops_nil, ops_grd, grd_tt, ops_pick, ops_bin, ops_un, ev_t, ev_c, put_get, opv_mk, vpick, vbin, vbinI, vun, obsOk, true_and, Nat.reduceEqDiff, ↓reduceIte, eq_self, hz2]
              cases cq : lt M[x - 1]! M[pv]!
              · simp (config := {maxSteps := 3000000}) only [run_reg, run_seq, if_true, ops_mv, ops_call, ev_t, put_get, opv_mk, over_get, args0, List.getD_cons_zero, List.getD_cons_succ, List.map_cons, List.map_nil, true_and, Nat.reduceEqDiff, ↓reduceIte, Bool.not_false, eq_self, reduceCtorEq, Bool.false_eq_true, List.contains_cons, List.contains_nil, Nat.reduceBEq, Bool.or_false, Bool.or_true, q1, q2]
                have cc := cequal_v (st := st) (b := b) (cap := cap) (sp := sp) hc.equal E (rowc_mono hmo hlen) (p := pv) (by omega) (by omega) (by omega) (by omega) (L := M) (a := x) (c := y)
                rw [hlen, dataV] at cc
                refine Cal.mk cc ?_
                rintro _ _ ⟨m, N, n1, n2, n3, n4, n5, rfl, rfl⟩ -
                clear cc
                simp (config := {maxSteps := 3000000}) only [run_reg, run_seq, run_exit, at_code_n, at_code_x, at_blk_x, at_rnd_n, ops_nil, ops_mv, ev_t, put_get, opv_mk, over_get, rel_mk, obsOk, true_and, Nat.reduceEqDiff, Int.toNat_natCast, ↓reduceIte, eq_self, List.contains_cons, List.contains_nil, Nat.reduceBEq, Bool.or_false, Bool.or_true, q2, q8, q9]
                repeat (apply And.intro; focus (first | omega | (simp; done)))
                exact ⟨⟨m, y, N, lim', _, _, rfl, rfl, rfl, rfl, rfl, by omega, by omega, by omega, hl0, hl1, hM.trans (n3.wide hax hyc), hF.goE E.ord hLx cx cq hax hyc n1 n2 (by omega) n3 n4, rfl⟩, by omega⟩
              · simp (config := {maxSteps := 3000000}) only [run_skip, run_reg, run_seq, if_false, at_code_n, ops_mv, ops_call, ev_t, put_get, opv_mk, over_get, args0, List.getD_cons_zero, List.getD_cons_succ, List.map_cons, List.map_nil, true_and, Nat.reduceEqDiff, ↓reduceIte, Bool.not_true, eq_self, reduceCtorEq, Bool.false_eq_true, List.contains_cons, List.contains_nil, Nat.reduceBEq, Bool.or_false, Bool.or_true, q1, q2]
                have cc := csplit_v (st := st) (b := b) (cap := cap) (sp := sp) hc.split E (rowc_mono hmo hlen) (p := pv) (by omega) (by omega) (by omega) (by omega) (L := M) (a := x) (c := y)
                rw [hlen, dataV] at cc
                refine Cal.mk cc ?_
                rintro _ _ ⟨m, B3, N, n1, n2, n3, n4, n5, rfl, rfl⟩ -
                clear cc
                have hlN : N.length = L.length := n3.len.trans hlen
                have hMN : Mix a c L N := hM.trans (n3.wide hax hyc)
                have hFN := hF.mix n3 hax hyc (by omega)
                have hLN := hLx.mix n3 (by omega)
                have e4 : (m : Int) - (x : Int) = ((m - x : Nat) : Int) := by omega
                have e5 : (y : Int) - (m : Int) = ((y - m : Nat) : Int) := by omega
                have e6 : (m : Int) + 1 = ((m + 1 : Nat) : Int) := by simp
                clear hM hF hLx hLM n3
                by_cases cl : ((m - x : Nat) : Int) < ((y - m : Nat) : Int)
                · simp (config := {maxSteps := 3000000}) only [run_reg, run_seq, run_cond, if_true, at_code_n, ops_nil, ops_mv, ops_bin, ops_ext, ops_call, ev_t, ev_c, put_get, opv_mk, over_get, args0, List.getD_cons_zero, List.getD_cons_succ, vbin, vbinI, norm, vext, obsOk, List.map_cons, List.map_nil, List.getElem?_cons_zero, List.getElem?_cons_succ, true_and, Nat.reduceEqDiff, Int.reduceLT, Int.reduceNeg, ↓reduceIte, eq_self, reduceCtorEq, Bool.false_eq_true, List.contains_cons, List.contains_nil, Nat.reduceBEq, Bool.or_false, Bool.or_true, q1, q2, e4, e5, decide_eq_true cl]
                  repeat (apply And.intro; focus (first | omega | (simp; done)))
                  have cc := ih (m - x) (by omega) x m N lim' (Nat.le_refl _) (by omega) (by omega) (by omega) hl0 hl1 (hLN.part (by omega)) (rowc_mono hmo hlN)
                  rw [hlN, dataV] at cc
                  refine Cal.mk cc ?_
                  rintro _ _ ⟨R, r1, r2, rfl⟩ -
                  clear cc
                  simp (config := {maxSteps := 3000000}) only [run_reg, at_code_n, at_blk_n, at_rnd_n, ops_nil, ops_mv, ops_bin, ev_t, ev_c, put_get, opv_mk, over_get, rel_mk, vbin, vbinI, norm, obsOk, true_and, Nat.reduceEqDiff, Int.toNat_natCast, Int.reduceNeg, ↓reduceIte, eq_self, List.contains_cons, List.contains_nil, Nat.reduceBEq, Bool.or_false, Bool.or_true, q2, e6]
                  repeat (apply And.intro; focus (first | omega | (simp; done)))
                  exact ⟨⟨m + 1, y, R, lim', _, _, rfl, rfl, rfl, rfl, rfl, by omega, by omega, by omega, hl0, hl1, hMN.trans (r1.wide (by omega) (by omega)), hFN.goL E.ord hax hyc (by omega) (by omega) (by omega) n4 n5 r1 r2, rfl⟩, by omega⟩
                · simp (config := {maxSteps := 3000000}) only [run_reg, run_seq, run_cond, if_false, at_code_n, ops_nil, ops_mv, ops_bin, ops_ext, ops_call, ev_t, ev_c, put_get, opv_mk, over_get, args0, List.getD_cons_zero, List.getD_cons_succ, vbin, vbinI, norm, vext, obsOk, List.map_cons, List.map_nil, List.getElem?_cons_zero, List.getElem?_cons_succ, true_and, Nat.reduceEqDiff, Int.reduceLT, Int.reduceNeg, ↓reduceIte, eq_self, reduceCtorEq, Bool.false_eq_true, List.contains_cons, List.contains_nil, Nat.reduceBEq, Bool.or_false, Bool.or_true, q1, q2, e4, e5, e6, decide_eq_false cl]
                  repeat (apply And.intro; focus (first | omega | (simp; done)))
                  have cc := ih (y - (m + 1)) (by omega) (m + 1) y N lim' (Nat.le_refl _) (by omega) (by omega) (by omega) hl0 hl1 (LB.next n5) (rowc_mono hmo hlN)
                  rw [hlN, dataV] at cc
                  refine Cal.mk cc ?_
                  rintro _ _ ⟨R, r1, r2, rfl⟩ -
                  clear cc
                  simp (config := {maxSteps := 3000000}) only [run_reg, at_code_n, at_blk_n, at_rnd_n, ops_nil, ops_mv, ev_t, put_get, opv_mk, over_get, rel_mk, obsOk, true_and, Nat.reduceEqDiff, Int.toNat_natCast, ↓reduceIte, eq_self, List.contains_cons, List.contains_nil, Nat.reduceBEq, Bool.or_false, q1]
                  repeat (apply And.intro; focus (first | omega | (simp; done)))
                  exact ⟨⟨x, m, R, lim', _, _, rfl, rfl, rfl, rfl, rfl, by omega, by omega, by omega, hl0, hl1, hMN.trans (r1.wide (by omega) (by omega)), hFN.goR E.ord hax hyc (by omega) (by omega) (by omega) n4 n5 r1 r2, rfl⟩, by omega⟩
            · simp (config := {maxSteps := 3000000}) only [run_skip, run_reg, run_seq, run_cond, if_false, at_code_n, ops_nil, ops_grd, grd_ft, ops_mv, ops_pick, ops_call, ev_t, ev_c, put_get, opv_mk, over_get, args0, List.getD_cons_zero, List.getD_cons_succ, vpick, List.map_cons, List.map_nil, true_and, Nat.reduceEqDiff, ↓reduceIte, eq_self, reduceCtorEq, Bool.false_eq_true, List.contains_cons, List.contains_nil, Nat.reduceBEq, Bool.or_false, Bool.or_true, q1, q2, decide_eq_false (show ¬ (0 : Int) < (x : Int) by omega)]
              have cc := csplit_v (st := st) (b := b) (cap := cap) (sp := sp) hc.split E (rowc_mono hmo hlen) (p := pv) (by omega) (by omega) (by omega) (by omega) (L := M) (a := x) (c := y)
              rw [hlen, dataV] at cc
              refine Cal.mk cc ?_
              rintro _ _ ⟨m, B3, N, n1, n2, n3, n4, n5, rfl, rfl⟩ -
              clear cc
              have hlN : N.length = L.length := n3.len.trans hlen
              have hMN : Mix a c L N := hM.trans (n3.wide hax hyc)
              have hFN := hF.mix n3 hax hyc (by omega)
              have hLN := hLx.mix n3 (by omega)
              have e4 : (m : Int) - (x : Int) = ((m - x : Nat) : Int) := by omega
              have e5 : (y : Int) - (m : Int) = ((y - m : Nat) : Int) := by omega
              have e6 : (m : Int) + 1 = ((m + 1 : Nat) : Int) := by simp
              clear hM hF hLx hLM n3
              by_cases cl : ((m - x : Nat) : Int) < ((y - m : Nat) : Int)
              · simp (config := {maxSteps := 3000000}) only [run_reg, run_seq, run_cond, if_true, at_code_n, ops_nil, ops_mv, ops_bin, ops_ext, ops_call, ev_t, ev_c, put_get, opv_mk, over_get, args0, List.getD_cons_zero, List.getD_cons_succ, vbin, vbinI, norm, vext, obsOk, List.map_cons, List.map_nil, List.getElem?_cons_zero, List.getElem?_cons_succ, true_and, Nat.reduceEqDiff, Int.reduceLT, Int.reduceNeg, ↓reduceIte, eq_self, reduceCtorEq, Bool.false_eq_true, List.contains_cons, List.contains_nil, Nat.reduceBEq, Bool.or_false, Bool.or_true, q1, q2, e4, e5, decide_eq_true cl]
                repeat (apply And.intro; focus (first | omega | (simp; done)))
                have cc := ih (m - x) (by omega) x m N lim' (Nat.le_refl _) (by omega) (by omega) (by omega) hl0 hl1 (hLN.part (by omega)) (rowc_mono hmo hlN)
                rw [hlN, dataV] at cc
                refine Cal.mk cc ?_
                rintro _ _ ⟨R, r1, r2, rfl⟩ -
                clear cc
                simp (config := {maxSteps := 3000000}) only [run_reg, at_code_n, at_blk_n, at_rnd_n, ops_nil, ops_mv, ops_bin, ev_t, ev_c, put_get, opv_mk, over_get, rel_mk, vbin, vbinI, norm, obsOk, true_and, Nat.reduceEqDiff, Int.toNat_natCast, Int.reduceNeg, ↓reduceIte, eq_self, List.contains_cons, List.contains_nil, Nat.reduceBEq, Bool.or_false, Bool.or_true, q2, e6]
                repeat (apply And.intro; focus (first | omega | (simp; done)))
                exact ⟨⟨m + 1, y, R, lim', _, _, rfl, rfl, rfl, rfl, rfl, by omega, by omega, by omega, hl0, hl1, hMN.trans (r1.wide (by omega) (by omega)), hFN.goL E.ord hax hyc (by omega) (by omega) (by omega) n4 n5 r1 r2, rfl⟩, by omega⟩
              · simp (config := {maxSteps := 3000000}) only [run_reg, run_seq, run_cond, if_false, at_code_n, ops_nil, ops_mv, ops_bin, ops_ext, ops_call, ev_t, ev_c, put_get, opv_mk, over_get, args0, List.getD_cons_zero, List.getD_cons_succ, vbin, vbinI, norm, vext, obsOk, List.map_cons, List.map_nil, List.getElem?_cons_zero, List.getElem?_cons_succ, true_and, Nat.reduceEqDiff, Int.reduceLT, Int.reduceNeg, ↓reduceIte, eq_self, reduceCtorEq, Bool.false_eq_true, List.contains_cons, List.contains_nil, Nat.reduceBEq, Bool.or_false, Bool.or_true, q1, q2, e4, e5, e6, decide_eq_false cl]
                repeat (apply And.intro; focus (first | omega | (simp; done)))
                have cc := ih (y - (m + 1)) (by omega) (m + 1) y N lim' (Nat.le_refl _) (by omega) (by omega) (by omega) hl0 hl1 (LB.next n5) (rowc_mono hmo hlN)
                rw [hlN, dataV] at cc
                refine Cal.mk cc ?_
                rintro _ _ ⟨R, r1, r2, rfl⟩ -
                clear cc
                simp (config := {maxSteps := 3000000}) only [run_reg, at_code_n, at_blk_n, at_rnd_n, ops_nil, ops_mv, ev_t, put_get, opv_mk, over_get, rel_mk, obsOk, true_and, Nat.reduceEqDiff, Int.toNat_natCast, ↓reduceIte, eq_self, List.contains_cons, List.contains_nil, Nat.reduceBEq, Bool.or_false, q1]
                repeat (apply And.intro; focus (first | omega | (simp; done)))
                exact ⟨⟨x, m, R, lim', _, _, rfl, rfl, rfl, rfl, rfl, by omega, by omega, by omega, hl0, hl1, hMN.trans (r1.wide (by omega) (by omega)), hFN.goR E.ord hax hyc (by omega) (by omega) (by omega) n4 n5 r1 r2, rfl⟩, by omega⟩
        · simp (config := {maxSteps := 3000000}) only [run_skip, run_reg, run_seq, run_blk, run_cond, if_false, at_code_n, ops_nil, ops_mv, ops_bin, ops_un, ops_call, ev_t, ev_c, put_get, opv_mk, over_get, vnat, args0, List.getD_cons_zero, List.getD_cons_succ, vbin, vbinI, vun, norm, List.map_cons, List.map_nil, true_and, Nat.reduceEqDiff, Int.toNat_natCast, Int.reduceNeg, ↓reduceIte, Bool.not_true, eq_self, reduceCtorEq, Bool.false_eq_true, List.contains_cons, List.contains_nil, Nat.reduceBEq, Bool.or_false, Bool.or_true, q1, q2, q3, q8, e0, decide_eq_false c12, decide_eq_false cl]
          repeat (apply And.intro; focus (first | omega | (simp; done)))
          obtain ⟨lim', el⟩ : ∃ l, l = lim := ⟨_, rfl⟩
          rw [← el] at q3 hl0 hl1
          have cc := cpivot_v (st := st) (b := b) (cap := cap) (sp := sp) hc.pivot hc.meda hc.med hc.ord2 E (L := M) (a := x) (c := y) (by omega) (by omega) (rowc_mono hmo hlen) (by omega)
          rw [hlen, dataV] at cc
          refine Cal.mk cc ?_
          rintro _ _ ⟨pv, hint, p1, p2, rfl, rfl⟩ -
          clear cc
          by_cases k2 : hint = 2
          · simp (config := {maxSteps := 3000000}) only [run_reg, run_seq, run_cond, if_true, at_code_n, ops_nil, ops_mv, ops_bin, ops_ext, ops_call, ev_t, ev_c, put_get, opv_mk, over_get, args0, List.getD_cons_zero, List.getD_cons_succ, vbin, vbinI, vext, obsOk, List.map_cons, List.map_nil, List.getElem?_cons_zero, List.getElem?_cons_succ, true_and, Nat.reduceEqDiff, ↓reduceIte, eq_self, reduceCtorEq, Bool.false_eq_true, List.contains_cons, List.contains_nil, Nat.reduceBEq, Bool.or_false, Bool.or_true, q1, q2, decide_eq_true k2]
            repeat (apply And.intro; focus (first | omega | (simp; done)))
            have cc := crev_v (st := st) (b := b) (cap := cap) (sp := sp) hc.rev (g := g) (rowc_mono hmo hlen) (L := M) (a := x) (c := y) (by omega) (by omega) (by omega)
            rw [hlen, dataV] at cc
            refine Cal.mk cc ?_
            rintro _ _ ⟨N, n1, rfl⟩ -
            clear cc
            have hF := hF.mix n1 hax hyc (by omega)
            have hM := hM.trans (n1.wide hax hyc)
            have hlen := hM.len
            have ep : (y : Int) - 1 - ((pv : Int) - (x : Int)) = ((y - 1 - (pv - x) : Nat) : Int) := by omega
            obtain ⟨pw, epw⟩ : ∃ pw, pw = y - 1 - (pv - x) := ⟨_, rfl⟩
            have p1 : x ≤ pw := by omega
            have p2 : pw < y := by omega
            rw [← epw] at ep
            clear n1 epw
            generalize N = M at hF hM hlen ⊢
            cases B2
            · simp (config := {maxSteps := 3000000}) only [run_skip, run_reg, run_seq, run_cond, if_false, at_code_n, ops_nil, ops_grd, grd_tt, grd_ft, ops_mv, ops_pick, ops_bin, ev_t, ev_c, put_get, opv_mk, over_get, vpick, vbin, vbinI, norm, obsOk, true_and, Nat.reduceEqDiff, Int.reduceNeg, ↓reduceIte, eq_self, Bool.false_eq_true, List.contains_cons, List.contains_nil, Nat.reduceBEq, Bool.or_false, Bool.or_true, q1, q2, q8, q9, ep]
              repeat (apply And.intro; focus (first | omega | (simp; done)))
              clear ep
              generalize pw = pv at p1 p2 ⊢
              have hLM := hLB.mix hM h2
              have hLx := hF.lb hLM hax hyc
              by_cases cx : 0 < x
              · have ex : ((x : Int) - 1).toNat = x - 1 := by omega
                simp (config := {maxSteps := 3000000}) only [ops_grd, grd_tt, ops_mv, ops_bin, ops_ix, ops_load, ev_t, ev_c, put_get, opv_mk, over_get, put_box_same, args0, List.getD_cons_zero, List.getD_cons_succ, vbin, vbinI, norm, vix, vload, takeV, takeB, ops_calv, clv_func, List.map_cons, List.map_nil, List.nil_append, List.append_nil, and_true, true_and, Nat.reduceEqDiff, Int.toNat_natCast, Int.reduceNeg, Nat.zero_add, ↓reduceIte, eq_self, reduceCtorEq, Bool.false_eq_true, List.contains_cons, List.contains_nil, Nat.reduceBEq, Bool.or_false, List.not_mem_nil, q1, ex, decide_eq_true (show (0 : Int) < (x : Int) by omega), rowc_get (show x - 1 < M.length by omega), rowc_get (show pv < M.length by omega), rowc_len, rowc_mono hmo hlen, E.call, List.map_nil]
                repeat (apply And.intro; focus (first | omega | (simp; done)))
                refine Cal.mk (E.less _ _ _) ?_
                rintro _ _ ⟨z3, hz3, rfl, rfl⟩ -
                simp (config := {maxSteps := 3000000}) only [run_cond, at_code_n, ops_nil, ops_grd, grd_tt, ops_pick, ops_bin, ops_un, ev_t, ev_c, put_get, opv_mk, vpick, vbin, vbinI, vun, obsOk, true_and, Nat.reduceEqDiff, ↓reduceIte, eq_self, hz3]
                cases cq : lt M[x - 1]! M[pv]!
                · simp (config := {maxSteps := 3000000}) only [run_reg, run_seq, if_true, ops_mv, ops_call, ev_t, put_get, opv_mk, over_get, args0, List.getD_cons_zero, List.getD_cons_succ, List.map_cons, List.map_nil, true_and, Nat.reduceEqDiff, ↓reduceIte, Bool.not_false, eq_self, reduceCtorEq, Bool.false_eq_true, List.contains_cons, List.contains_nil, Nat.reduceBEq, Bool.or_false, Bool.or_true, q1, q2]
                  have cc := cequal_v (st := st) (b := b) (cap := cap) (sp := sp) hc.equal E (rowc_mono hmo hlen) (p := pv) (by omega) (by omega) (by omega) (by omega) (L := M) (a := x) (c := y)
                  rw [hlen, dataV] at cc
                  refine Cal.mk cc ?_
                  rintro _ _ ⟨m, N, n1, n2, n3, n4, n5, rfl, rfl⟩ -
                  clear cc
                  simp (config := {maxSteps := 3000000}) only [run_reg, run_seq, run_exit, at_code_n, at_code_x, at_blk_x, at_rnd_n, ops_nil, ops_mv, ev_t, put_get, opv_mk, over_get, rel_mk, obsOk, true_and, Nat.reduceEqDiff, Int.toNat_natCast, ↓reduceIte, eq_self, List.contains_cons, List.contains_nil, Nat.reduceBEq, Bool.or_false, Bool.or_true, q2, q3, q8, q9]
                  repeat (apply And.intro; focus (first | omega | (simp; done)))
                  exact ⟨⟨m, y, N, lim', _, _, rfl, rfl, rfl, rfl, rfl, by omega, by omega, by omega, hl0, hl1, hM.trans (n3.wide hax hyc), hF.goE E.ord hLx cx cq hax hyc n1 n2 (by omega) n3 n4, rfl⟩, by omega⟩
                · simp (config := {maxSteps := 3000000}) only [run_skip, run_reg, run_seq, if_false, at_code_n, ops_mv, ops_call, ev_t, put_get, opv_mk, over_get, args0, List.getD_cons_zero, List.getD_cons_succ, List.map_cons, List.map_nil, true_and, Nat.reduceEqDiff, ↓reduceIte, Bool.not_true, eq_self, reduceCtorEq, Bool.false_eq_true, List.contains_cons, List.contains_nil, Nat.reduceBEq, Bool.or_false, Bool.or_true, q1, q2]
                  have cc := csplit_v (st := st) (b := b) (cap := cap) (sp := sp) hc.split E (rowc_mono hmo hlen) (p := pv) (by omega) (by omega) (by omega) (by omega) (L := M) (a := x) (c := y)
                  rw [hlen, dataV] at cc
                  refine Cal.mk cc ?_
                  rintro _ _ ⟨m, B3, N, n1, n2, n3, n4, n5, rfl, rfl⟩ -
                  clear cc
                  have hlN : N.length = L.length := n3.len.trans hlen
                  have hMN : Mix a c L N := hM.trans (n3.wide hax hyc)
                  have hFN := hF.mix n3 hax hyc (by omega)
                  have hLN := hLx.mix n3 (by omega)
                  have e4 : (m : Int) - (x : Int) = ((m - x : Nat) : Int) := by omega
                  have e5 : (y : Int) - (m : Int) = ((y - m : Nat) : Int) := by omega
                  have e6 : (m : Int) + 1 = ((m + 1 : Nat) : Int) := by simp
                  clear hM hF hLx hLM n3
                  by_cases cl : ((m - x : Nat) : Int) < ((y - m : Nat) : Int)
                  · simp (config := {maxSteps := 3000000}) only [run_reg, run_seq, run_cond, if_true, at_code_n, ops_nil, ops_mv, ops_bin, ops_ext, ops_call, ev_t, ev_c, put_get, opv_mk, over_get, args0, List.getD_cons_zero, List.getD_cons_succ, vbin, vbinI, norm, vext, obsOk, List.map_cons, List.map_nil, List.getElem?_cons_zero, List.getElem?_cons_succ, true_and, Nat.reduceEqDiff, Int.reduceLT, Int.reduceNeg, ↓reduceIte, eq_self, reduceCtorEq, Bool.false_eq_true, List.contains_cons, List.contains_nil, Nat.reduceBEq, Bool.or_false, Bool.or_true, q1, q2, q3, e4, e5, decide_eq_true cl]
                    repeat (apply And.intro; focus (first | omega | (simp; done)))
                    have cc := ih (m - x) (by omega) x m N lim' (Nat.le_refl _) (by omega) (by omega) (by omega) hl0 hl1 (hLN.part (by omega)) (rowc_mono hmo hlN)
                    rw [hlN, dataV] at cc
                    refine Cal.mk cc ?_
                    rintro _ _ ⟨R, r1, r2, rfl⟩ -
                    clear cc
                    simp (config := {maxSteps := 3000000}) only [run_reg, at_code_n, at_blk_n, at_rnd_n, ops_nil, ops_mv, ops_bin, ev_t, ev_c, put_get, opv_mk, over_get, rel_mk, vbin, vbinI, norm, obsOk, true_and, Nat.reduceEqDiff, Int.toNat_natCast, Int.reduceNeg, ↓reduceIte, eq_self, List.contains_cons, List.contains_nil, Nat.reduceBEq, Bool.or_false, Bool.or_true, q2, q3, e6]
                    repeat (apply And.intro; focus (first | omega | (simp; done)))
                    exact ⟨⟨m + 1, y, R, lim', _, _, rfl, rfl, rfl, rfl, rfl, by omega, by omega, by omega, hl0, hl1, hMN.trans (r1.wide (by omega) (by omega)), hFN.goL E.ord hax hyc (by omega) (by omega) (by omega) n4 n5 r1 r2, rfl⟩, by omega⟩
                  · simp (config := {maxSteps := 3000000}) only [run_reg, run_seq, run_cond, if_false, at_code_n, ops_nil, ops_mv, ops_bin, ops_ext, ops_call, ev_t, ev_c, put_get, opv_mk, over_get, args0, List.getD_cons_zero, List.getD_cons_succ, vbin, vbinI, norm, vext, obsOk, List.map_cons, List.map_nil, List.getElem?_cons_zero, List.getElem?_cons_succ, true_and, Nat.reduceEqDiff, Int.reduceLT, Int.reduceNeg, ↓reduceIte, eq_self, reduceCtorEq, Bool.false_eq_true, List.contains_cons, List.contains_nil, Nat.reduceBEq, Bool.or_false, Bool.or_true, q1, q2, q3, e4, e5, e6, decide_eq_false cl]
                    repeat (apply And.intro; focus (first | omega | (simp; done)))
                    have cc := ih (y - (m + 1)) (by omega) (m + 1) y N lim' (Nat.le_refl _) (by omega) (by omega) (by omega) hl0 hl1 (LB.next n5) (rowc_mono hmo hlN)
                    rw [hlN, dataV] at cc
                    refine Cal.mk cc ?_
                    rintro _ _ ⟨R, r1, r2, rfl⟩ -
                    clear cc
                    simp (config := {maxSteps := 3000000}) only [run_reg, at_code_n, at_blk_n, at_rnd_n, ops_nil, ops_mv, ev_t, put_get, opv_mk, over_get, rel_mk, obsOk, true_and, Nat.reduceEqDiff, Int.toNat_natCast, ↓reduceIte, eq_self, List.contains_cons, List.contains_nil, Nat.reduceBEq, Bool.or_false, Bool.or_true, q1, q3]
                    repeat (apply And.intro; focus (first | omega | (simp; done)))
                    exact ⟨⟨x, m, R, lim', _, _, rfl, rfl, rfl, rfl, rfl, by omega, by omega, by omega, hl0, hl1, hMN.trans (r1.wide (by omega) (by omega)), hFN.goR E.ord hax hyc (by omega) (by omega) (by omega) n4 n5 r1 r2, rfl⟩, by omega⟩
              · simp (config := {maxSteps := 3000000}) only [run_skip, run_reg, run_seq, run_cond, if_false, at_code_n, ops_nil, ops_grd, grd_ft, ops_mv, ops_pick, ops_call, ev_t, ev_c, put_get, opv_mk, over_get, args0, List.getD_cons_zero, List.getD_cons_succ, vpick, List.map_cons, List.map_nil, true_and, Nat.reduceEqDiff, ↓reduceIte, eq_self, reduceCtorEq, Bool.false_eq_true, List.contains_cons, List.contains_nil, Nat.reduceBEq, Bool.or_false, Bool.or_true, q1, q2, decide_eq_false (show ¬ (0 : Int) < (x : Int) by omega)]
                have cc := csplit_v (st := st) (b := b) (cap := cap) (sp := sp) hc.split E (rowc_mono hmo hlen) (p := pv) (by omega) (by omega) (by omega) (by omega) (L := M) (a := x) (c := y)
                rw [hlen, dataV] at cc
                refine Cal.mk cc ?_
                rintro _ _ ⟨m, B3, N, n1, n2, n3, n4, n5, rfl, rfl⟩ -
                clear cc
                have hlN : N.length = L.length := n3.len.trans hlen
                have hMN : Mix a c L N := hM.trans (n3.wide hax hyc)
                have hFN := hF.mix n3 hax hyc (by omega)
                have hLN := hLx.mix n3 (by omega)
                have e4 : (m : Int) - (x : Int) = ((m - x : Nat) : Int) := by omega
                have e5 : (y : Int) - (m : Int) = ((y - m : Nat) : Int) := by omega
                have e6 : (m : Int) + 1 = ((m + 1 : Nat) : Int) := by simp
                clear hM hF hLx hLM n3
                by_cases cl : ((m - x : Nat) : Int) < ((y - m : Nat) : Int)
                · simp (config := {maxSteps := 3000000}) only [run_reg, run_seq, run_cond, if_true, at_code_n, ops_nil, ops_mv, ops_bin, ops_ext, ops_call, ev_t, ev_c, put_get, opv_mk, over_get, args0, List.getD_cons_zero, List.getD_cons_succ, vbin, vbinI, norm, vext, obsOk, List.map_cons, List.map_nil, List.getElem?_cons_zero, List.getElem?_cons_succ, true_and, Nat.reduceEqDiff, Int.reduceLT, Int.reduceNeg, ↓reduceIte, eq_self, reduceCtorEq, Bool.false_eq_true, List.contains_cons, List.contains_nil, Nat.reduceBEq, Bool.or_false, Bool.or_true, q1, q2, q3, e4, e5, decide_eq_true cl]
                  repeat (apply And.intro; focus (first | omega | (simp; done)))
                  have cc := ih (m - x) (by omega) x m N lim' (Nat.le_refl _) (by omega) (by omega) (by omega) hl0 hl1 (hLN.part (by omega)) (rowc_mono hmo hlN)
                  rw [hlN, dataV] at cc
                  refine Cal.mk cc ?_
                  rintro _ _ ⟨R, r1, r2, rfl⟩ -
                  clear cc
                  simp (config := {maxSteps := 3000000}) only [run_reg, at_code_n, at_blk_n, at_rnd_n, ops_nil, ops_mv, ops_bin, ev_t, ev_c, put_get, opv_mk, over_get, rel_mk, vbin, vbinI, norm, obsOk, true_and, Nat.reduceEqDiff, Int.toNat_natCast, Int.reduceNeg, ↓reduceIte, eq_self, List.contains_cons, List.contains_nil, Nat.reduceBEq, Bool.or_false, Bool.or_true, q2, q3, e6]
                  repeat (apply And.intro; focus (first | omega | (simp; done)))
                  exact ⟨⟨m + 1, y, R, lim', _, _, rfl, rfl, rfl, rfl, rfl, by omega, by omega, by omega, hl0, hl1, hMN.trans (r1.wide (by omega) (by omega)), hFN.goL E.ord hax hyc (by omega) (by omega) (by omega) n4 n5 r1 r2, rfl⟩, by omega⟩
                · simp (config := {maxSteps := 3000000}) only [run_reg, run_seq, run_cond, if_false, at_code_n, ops_nil, ops_mv, ops_bin, ops_ext, ops_call, ev_t, ev_c, put_get, opv_mk, over_get, args0, List.getD_cons_zero, List.getD_cons_succ, vbin, vbinI, norm, vext, obsOk, List.map_cons, List.map_nil, List.getElem?_cons_zero, List.getElem?_cons_succ, true_and, Nat.reduceEqDiff, Int.reduceLT, Int.reduceNeg, ↓reduceIte, eq_self, reduceCtorEq, Bool.false_eq_true, List.contains_cons, List.contains_nil, Nat.reduceBEq, Bool.or_false, Bool.or_true, q1, q2, q3, e4, e5, e6, decide_eq_false cl]
                  repeat (apply And.intro; focus (first | omega | (simp; done)))
                  have cc := ih (y - (m + 1)) (by omega) (m + 1) y N lim' (Nat.le_refl _) (by omega) (by omega) (by omega) hl0 hl1 (LB.next n5) (rowc_mono hmo hlN)
                  rw [hlN, dataV] at cc
                  refine Cal.mk cc ?_
                  rintro _ _ ⟨R, r1, r2, rfl⟩ -
                  clear cc
                  simp (config := {maxSteps := 3000000}) only [run_reg, at_code_n, at_blk_n, at_rnd_n, ops_nil, ops_mv, ev_t, put_get, opv_mk, over_get, rel_mk, obsOk, true_and, Nat.reduceEqDiff, Int.toNat_natCast, ↓reduceIte, eq_self, List.contains_cons, List.contains_nil, Nat.reduceBEq, Bool.or_false, Bool.or_true, q1, q3]
                  repeat (apply And.intro; focus (first | omega | (simp; done)))
                  exact ⟨⟨x, m, R, lim', _, _, rfl, rfl, rfl, rfl, rfl, by omega, by omega, by omega, hl0, hl1, hMN.trans (r1.wide (by omega) (by omega)), hFN.goR E.ord hax hyc (by omega) (by omega) (by omega) n4 n5 r1 r2, rfl⟩, by omega⟩
            · simp (config := {maxSteps := 3000000}) only [run_reg, run_seq, run_cond, if_true, at_code_n, ops_nil, ops_grd, grd_tt, ops_mv, ops_pick, ops_bin, ops_call, ev_t, ev_c, put_get, opv_mk, over_get, args0, List.getD_cons_zero, List.getD_cons_succ, vpick, vbin, vbinI, norm, obsOk, List.map_cons, List.map_nil, true_and, Nat.reduceEqDiff, Int.reduceNeg, ↓reduceIte, decide_true, eq_self, reduceCtorEq, Bool.false_eq_true, List.contains_cons, List.contains_nil, Nat.reduceBEq, Bool.or_false, Bool.or_true, q1, q2, q8, q9, ep]
              repeat (apply And.intro; focus (first | omega | (simp; done)))
              clear ep
              generalize pw = pv at p1 p2 ⊢
              have cc := cpart_v (st := st) (b := b) (cap := cap) (sp := sp) hc.part E (rowc_mono hmo hlen) (L := M) (a := x) (c := y) (by omega) (by omega) (by omega) (hF.lb (hLB.mix hM h2) hax hyc)
              rw [hlen, dataV] at cc
              refine Cal.mk cc ?_
              rintro _ _ ⟨B3, N, n1, n2, rfl, rfl⟩ -
              clear cc
              cases B3
              · simp (config := {maxSteps := 3000000}) only [run_skip, run_reg, run_seq, run_cond, if_false, at_code_n, ops_nil, ops_grd, ops_mv, ops_bin, ev_t, ev_c, put_get, opv_mk, over_get, vbin, vbinI, obsOk, true_and, Nat.reduceEqDiff, ↓reduceIte, eq_self, List.contains_cons, List.contains_nil, Nat.reduceBEq, Bool.or_false, q1]
                have hF := hF.mix n1 hax hyc (by omega)
                have hM := hM.trans (n1.wide hax hyc)
                have hlen := hM.len
                clear n1 n2
                generalize N = M at hF hM hlen ⊢
                have hLM := hLB.mix hM h2
                have hLx := hF.lb hLM hax hyc
                by_cases cx : 0 < x
                · have ex : ((x : Int) - 1).toNat = x - 1 := by omega
                  simp (config := {maxSteps := 3000000}) only [ops_grd, grd_tt, ops_mv, ops_bin, ops_ix, ops_load, ev_t, ev_c, put_get, opv_mk, over_get, put_box_same, args0, List.getD_cons_zero, List.getD_cons_succ, vbin, vbinI, norm, vix, vload, takeV, takeB, ops_calv, clv_func, List.map_cons, List.map_nil, List.nil_append, List.append_nil, and_true, true_and, Nat.reduceEqDiff, Int.toNat_natCast, Int.reduceNeg, Nat.zero_add, ↓reduceIte, eq_self, reduceCtorEq, Bool.false_eq_true, List.contains_cons, List.contains_nil, Nat.reduceBEq, Bool.or_false, List.not_mem_nil, q1, ex, decide_eq_true (show (0 : Int) < (x : Int) by omega), rowc_get (show x - 1 < M.length by omega), rowc_get (show pv < M.length by omega), rowc_len, rowc_mono hmo hlen, E.call, List.map_nil]
                  repeat (apply And.intro; focus (first | omega | (simp; done)))
                  refine Cal.mk (E.less _ _ _) ?_
                  rintro _ _ ⟨z4, hz4, rfl, rfl⟩ -
                  simp (config := {maxSteps := 3000000}) only [run_cond, at_code_n, ops_nil, ops_grd, grd_tt, ops_pick, ops_bin, ops_un, ev_t, ev_c, put_get, opv_mk, vpick, vbin, vbinI, vun, obsOk, true_and, Nat.reduceEqDiff, ↓reduceIte, eq_self, hz4]
                  cases cq : lt M[x - 1]! M[pv]!
                  · simp (config := {maxSteps := 3000000}) only [run_reg, run_seq, if_true, ops_mv, ops_call, ev_t, put_get, opv_mk, over_get, args0, List.getD_cons_zero, List.getD_cons_succ, List.map_cons, List.map_nil, true_and, Nat.reduceEqDiff, ↓reduceIte, Bool.not_false, eq_self, reduceCtorEq, Bool.false_eq_true, List.contains_cons, List.contains_nil, Nat.reduceBEq, Bool.or_false, Bool.or_true, q1, q2]
                    have cc := cequal_v (st := st) (b := b) (cap := cap) (sp := sp) hc.equal E (rowc_mono hmo hlen) (p := pv) (by omega) (by omega) (by omega) (by omega) (L := M) (a := x) (c := y)
                    rw [hlen, dataV] at cc
                    refine Cal.mk cc ?_
                    rintro _ _ ⟨m, N, n1, n2, n3, n4, n5, rfl, rfl⟩ -
                    clear cc
                    simp (config := {maxSteps := 3000000}) only [run_reg, run_seq, run_exit, at_code_n, at_code_x, at_blk_x, at_rnd_n, ops_nil, ops_mv, ev_t, put_get, opv_mk, over_get, rel_mk, obsOk, true_and, Nat.reduceEqDiff, Int.toNat_natCast, ↓reduceIte, eq_self, List.contains_cons, List.contains_nil, Nat.reduceBEq, Bool.or_false, Bool.or_true, q2, q3, q8, q9]
                    repeat (apply And.intro; focus (first | omega | (simp; done)))
                    exact ⟨⟨m, y, N, lim', _, _, rfl, rfl, rfl, rfl, rfl, by omega, by omega, by omega, hl0, hl1, hM.trans (n3.wide hax hyc), hF.goE E.ord hLx cx cq hax hyc n1 n2 (by omega) n3 n4, rfl⟩, by omega⟩
                  · simp (config := {maxSteps := 3000000}) only [run_skip, run_reg, run_seq, if_false, at_code_n, ops_mv, ops_call, ev_t, put_get, opv_mk, over_get, args0, List.getD_cons_zero, List.getD_cons_succ, List.map_cons, List.map_nil, true_and, Nat.reduceEqDiff, ↓reduceIte, Bool.not_true, eq_self, reduceCtorEq, Bool.false_eq_true, List.contains_cons, List.contains_nil, Nat.reduceBEq, Bool.or_false, Bool.or_true, q1, q2]
                    have cc := csplit_v (st := st) (b := b) (cap := cap) (sp := sp) hc.split E (rowc_mono hmo hlen) (p := pv) (by omega) (by omega) (by omega) (by omega) (L := M) (a := x) (c := y)
                    rw [hlen, dataV] at cc
                    refine Cal.mk cc ?_
                    rintro _ _ ⟨m, B3, N, n1, n2, n3, n4, n5, rfl, rfl⟩ -
                    clear cc
                    have hlN : N.length = L.length := n3.len.trans hlen
                    have hMN : Mix a c L N := hM.trans (n3.wide hax hyc)
                    have hFN := hF.mix n3 hax hyc (by omega)
                    have hLN := hLx.mix n3 (by omega)
                    have e4 : (m : Int) - (x : Int) = ((m - x : Nat) : Int) := by omega
                    have e5 : (y : Int) - (m : Int) = ((y - m : Nat) : Int) := by omega
                    have e6 : (m : Int) + 1 = ((m + 1 : Nat) : Int) := by simp
                    clear hM hF hLx hLM n3
                    by_cases cl : ((m - x : Nat) : Int) < ((y - m : Nat) : Int)
                    · simp (config := {maxSteps := 3000000}) only [run_reg, run_seq, run_cond, if_true, at_code_n, ops_nil, ops_mv, ops_bin, ops_ext, ops_call, ev_t, ev_c, put_get, opv_mk, over_get, args0, List.getD_cons_zero, List.getD_cons_succ, vbin, vbinI, norm, vext, obsOk, List.map_cons, List.map_nil, List.getElem?_cons_zero, List.getElem?_cons_succ, true_and, Nat.reduceEqDiff, Int.reduceLT, Int.reduceNeg, ↓reduceIte, eq_self, reduceCtorEq, Bool.false_eq_true, List.contains_cons, List.contains_nil, Nat.reduceBEq, Bool.or_false, Bool.or_true, q1, q2, q3, e4, e5, decide_eq_true cl]
                      repeat (apply And.intro; focus (first | omega | (simp; done)))
                      have cc := ih (m - x) (by omega) x m N lim' (Nat.le_refl _) (by omega) (by omega) (by omega) hl0 hl1 (hLN.part (by omega)) (rowc_mono hmo hlN)
                      rw [hlN, dataV] at cc
                      refine Cal.mk cc ?_
                      rintro _ _ ⟨R, r1, r2, rfl⟩ -
                      clear cc
                      simp (config := {maxSteps := 3000000}) only [run_reg, at_code_n, at_blk_n, at_rnd_n, ops_nil, ops_mv, ops_bin, ev_t, ev_c, put_get, opv_mk, over_get, rel_mk, vbin, vbinI, norm, obsOk, true_and, Nat.reduceEqDiff, Int.toNat_natCast, Int.reduceNeg, ↓reduceIte, eq_self, List.contains_cons, List.contains_nil, Nat.reduceBEq, Bool.or_false, Bool.or_true, q2, q3, e6]
                      repeat (apply And.intro; focus (first | omega | (simp; done)))
                      exact ⟨⟨m + 1, y, R, lim', _, _, rfl, rfl, rfl, rfl, rfl, by omega, by omega, by omega, hl0, hl1, hMN.trans (r1.wide (by omega) (by omega)), hFN.goL E.ord hax hyc (by omega) (by omega) (by omega) n4 n5 r1 r2, rfl⟩, by omega⟩
                    · simp (config := {maxSteps := 3000000}) only [run_reg, run_seq, run_cond, if_false, at_code_n, ops_nil, ops_mv, ops_bin, ops_ext, ops_call, ev_t, ev_c, put_get, opv_mk, over_get, args0, List.getD_cons_zero, List.getD_cons_succ, vbin, vbinI, norm, vext, obsOk, List.map_cons, List.map_nil, List.getElem?_cons_zero, List.getElem?_cons_succ, true_and, Nat.reduceEqDiff, Int.reduceLT, Int.reduceNeg, ↓reduceIte, eq_self, reduceCtorEq, Bool.false_eq_true, List.contains_cons, List.contains_nil, Nat.reduceBEq, Bool.or_false, Bool.or_true, q1, q2, q3, e4, e5, e6, decide_eq_false cl]
                      repeat (apply And.intro; focus (first | omega | (simp; done)))
                      have cc := ih (y - (m + 1)) (by omega) (m + 1) y N lim' (Nat.le_refl _) (by omega) (by omega) (by omega) hl0 hl1 (LB.next n5) (rowc_mono hmo hlN)
                      rw [hlN, dataV] at cc
                      refine Cal.mk cc ?_
                      rintro _ _ ⟨R, r1, r2, rfl⟩ -
                      clear cc
                      simp (config := {maxSteps := 3000000}) only [run_reg, at_code_n, at_blk_n, at_rnd_n, ops_nil, ops_mv, ev_t, put_get, opv_mk, over_get, rel_mk, obsOk, true_and, Nat.reduceEqDiff, Int.toNat_natCast, ↓reduceIte, eq_self, List.contains_cons, List.contains_nil, Nat.reduceBEq, Bool.or_false, Bool.or_true, q1, q3]
                      repeat (apply And.intro; focus (first | omega | (simp; done)))
                      exact ⟨⟨x, m, R, lim', _, _, rfl, rfl, rfl, rfl, rfl, by omega, by omega, by omega, hl0, hl1, hMN.trans (r1.wide (by omega) (by omega)), hFN.goR E.ord hax hyc (by omega) (by omega) (by omega) n4 n5 r1 r2, rfl⟩, by omega⟩
                · simp (config := {maxSteps := 3000000}) only [run_skip, run_reg, run_seq, run_cond, if_false, at_code_n, ops_nil, ops_grd, grd_ft, ops_mv, ops_pick, ops_call, ev_t, ev_c, put_get, opv_mk, over_get, args0, List.getD_cons_zero, List.getD_cons_succ, vpick, List.map_cons, List.map_nil, true_and, Nat.reduceEqDiff, ↓reduceIte, eq_self, reduceCtorEq, Bool.false_eq_true, List.contains_cons, List.contains_nil, Nat.reduceBEq, Bool.or_false, Bool.or_true, q1, q2, decide_eq_false (show ¬ (0 : Int) < (x : Int) by omega)]
                  have cc := csplit_v (st := st) (b := b) (cap := cap) (sp := sp) hc.split E (rowc_mono hmo hlen) (p := pv) (by omega) (by omega) (by omega) (by omega) (L := M) (a := x) (c := y)
                  rw [hlen, dataV] at cc
                  refine Cal.mk cc ?_
                  rintro _ _ ⟨m, B3, N, n1, n2, n3, n4, n5, rfl, rfl⟩ -
                  clear cc
                  have hlN : N.length = L.length := n3.len.trans hlen
                  have hMN : Mix a c L N := hM.trans (n3.wide hax hyc)
                  have hFN := hF.mix n3 hax hyc (by omega)
                  have hLN := hLx.mix n3 (by omega)
                  have e4 : (m : Int) - (x : Int) = ((m - x : Nat) : Int) := by omega
                  have e5 : (y : Int) - (m : Int) = ((y - m : Nat) : Int) := by omega
                  have e6 : (m : Int) + 1 = ((m + 1 : Nat) : Int) := by simp
                  clear hM hF hLx hLM n3
                  by_cases cl : ((m - x : Nat) : Int) < ((y - m : Nat) : Int)
                  · simp (config := {maxSteps := 3000000}) only [run_reg, run_seq, run_cond, if_true, at_code_n, ops_nil, ops_mv, ops_bin, ops_ext, ops_call, ev_t, ev_c, put_get, opv_mk, over_get, args0, List.getD_cons_zero, List.getD_cons_succ, vbin, vbinI, norm, vext, obsOk, List.map_cons, List.map_nil, List.getElem?_cons_zero, List.getElem?_cons_succ, true_and, Nat.reduceEqDiff, Int.reduceLT, Int.reduceNeg, ↓reduceIte, eq_self, reduceCtorEq, Bool.false_eq_true, List.contains_cons, List.contains_nil, Nat.reduceBEq, Bool.or_false, Bool.or_true, q1, q2, q3, e4, e5, decide_eq_true cl]
                    repeat (apply And.intro; focus (first | omega | (simp; done)))
                    have cc := ih (m - x) (by omega) x m N lim' (Nat.le_refl _) (by omega) (by omega) (by omega) hl0 hl1 (hLN.part (by omega)) (rowc_mono hmo hlN)
                    rw [hlN, dataV] at cc
                    refine Cal.mk cc ?_
                    rintro _ _ ⟨R, r1, r2, rfl⟩ -
                    clear cc
                    simp (config := {maxSteps := 3000000}) only [run_reg, at_code_n, at_blk_n, at_rnd_n, ops_nil, ops_mv, ops_bin, ev_t, ev_c, put_get, opv_mk, over_get, rel_mk, vbin, vbinI, norm, obsOk, true_and, Nat.reduceEqDiff, Int.toNat_natCast, Int.reduceNeg, ↓reduceIte, eq_self, List.contains_cons, List.contains_nil, Nat.reduceBEq, Bool.or_false, Bool.or_true, q2, q3, e6]
                    repeat (apply And.intro; focus (first | omega | (simp; done)))
                    exact ⟨⟨m + 1, y, R, lim', _, _, rfl, rfl, rfl, rfl, rfl, by omega, by omega, by omega, hl0, hl1, hMN.trans (r1.wide (by omega) (by omega)), hFN.goL E.ord hax hyc (by omega) (by omega) (by omega) n4 n5 r1 r2, rfl⟩, by omega⟩
                  · simp (config := {maxSteps := 3000000}) only [run_reg, run_seq, run_cond, if_false, at_code_n, ops_nil, ops_mv, ops_bin, ops_ext, ops_call, ev_t, ev_c, put_get, opv_mk, over_get, args0, List.getD_cons_zero, List.getD_cons_succ, vbin, vbinI, norm, vext, obsOk, List.map_cons, List.map_nil, List.getElem?_cons_zero, List.getElem?_cons_succ, true_and, Nat.reduceEqDiff, Int.reduceLT, Int.reduceNeg, ↓reduceIte, eq_self, reduceCtorEq, Bool.false_eq_true, List.contains_cons, List.contains_nil, Nat.reduceBEq, Bool.or_false, Bool.or_true, q1, q2, q3, e4, e5, e6, decide_eq_false cl]
                    repeat (apply And.intro; focus (first | omega | (simp; done)))
                    have cc := ih (y - (m + 1)) (by omega) (m + 1) y N lim' (Nat.le_refl _) (by omega) (by omega) (by omega) hl0 hl1 (LB.next n5) (rowc_mono hmo hlN)
                    rw [hlN, dataV] at cc
                    refine Cal.mk cc ?_
                    rintro _ _ ⟨R, r1, r2, rfl⟩ -
                    clear cc
                    simp (config := {maxSteps := 3000000}) only [run_reg, at_code_n, at_blk_n, at_rnd_n, ops_nil, ops_mv, ev_t, put_get, opv_mk, over_get, rel_mk, obsOk, true_and, Nat.reduceEqDiff, Int.toNat_natCast, ↓reduceIte, eq_self, List.contains_cons, List.contains_nil, Nat.reduceBEq, Bool.or_false, Bool.or_true, q1, q3]
                    repeat (apply And.intro; focus (first | omega | (simp; done)))
                    exact ⟨⟨x, m, R, lim', _, _, rfl, rfl, rfl, rfl, rfl, by omega, by omega, by omega, hl0, hl1, hMN.trans (r1.wide (by omega) (by omega)), hFN.goR E.ord hax hyc (by omega) (by omega) (by omega) n4 n5 r1 r2, rfl⟩, by omega⟩
              · simp (config := {maxSteps := 3000000}) only [run_ret, run_cond, if_true, at_code_n, at_code_r, at_blk_r, at_rnd_r, at_fin_r, ops_nil, ev_t, put_get, obsOk, true_and, ↓reduceIte, vret, rvAll, eq_self]
                have hfin := hF.fin hM hax hyc h2 n1 (n2 rfl)
                exact ⟨_, _, Wk.refl _, weak_re hwf, N, hfin.1, hfin.2, rfl⟩
          · cases B2
            · simp (config := {maxSteps := 3000000}) only [run_skip, run_reg, run_seq, run_cond, if_false, at_code_n, ops_nil, ops_grd, grd_tt, grd_ft, ops_mv, ops_pick, ops_bin, ops_ext, ev_t, ev_c, put_get, opv_mk, over_get, vpick, vbin, vbinI, vext, obsOk, List.getElem?_cons_zero, List.getElem?_cons_succ, true_and, Nat.reduceEqDiff, ↓reduceIte, eq_self, Bool.false_eq_true, List.contains_cons, List.contains_nil, Nat.reduceBEq, Bool.or_false, Bool.or_true, q1, q8, q9, decide_eq_false k2]
              repeat (apply And.intro; focus (first | omega | (simp; done)))
              have hLM := hLB.mix hM h2
              have hLx := hF.lb hLM hax hyc
              by_cases cx : 0 < x
              · have ex : ((x : Int) - 1).toNat = x - 1 := by omega
                simp (config := {maxSteps := 3000000}) only [ops_grd, grd_tt, ops_mv, ops_bin, ops_ix, ops_load, ev_t, ev_c, put_get, opv_mk, over_get, put_box_same, args0, List.getD_cons_zero, List.getD_cons_succ, vbin, vbinI, norm, vix, vload, takeV, takeB, ops_calv, clv_func, List.map_cons, List.map_nil, List.nil_append, List.append_nil, and_true, true_and, Nat.reduceEqDiff, Int.toNat_natCast, Int.reduceNeg, Nat.zero_add, ↓reduceIte, eq_self, reduceCtorEq, Bool.false_eq_true, List.contains_cons, List.contains_nil, Nat.reduceBEq, Bool.or_false, List.not_mem_nil, q1, ex, decide_eq_true (show (0 : Int) < (x : Int) by omega), rowc_get (show x - 1 < M.length by omega), rowc_get (show pv < M.length by omega), rowc_len, rowc_mono hmo hlen, E.call, List.map_nil]
                repeat (apply And.intro; focus (first | omega | (simp; done)))
                refine Cal.mk (E.less _ _ _) ?_
                rintro _ _ ⟨z5, hz5, rfl, rfl⟩ -
                simp (config := {maxSteps := 3000000}) only [run_cond, at_code_n, ops_nil, ops_grd, grd_tt, ops_pick, ops_bin, ops_un, ev_t, ev_c, put_get, opv_mk, vpick, vbin, vbinI, vun, obsOk, true_and, Nat.reduceEqDiff, ↓reduceIte, eq_self, hz5]
                cases cq : lt M[x - 1]! M[pv]!
                · simp (config := {maxSteps := 3000000}) only [run_reg, run_seq, if_true, ops_mv, ops_call, ev_t, put_get, opv_mk, over_get, args0, List.getD_cons_zero, List.getD_cons_succ, List.map_cons, List.map_nil, true_and, Nat.reduceEqDiff, ↓reduceIte, Bool.not_false, eq_self, reduceCtorEq, Bool.false_eq_true, List.contains_cons, List.contains_nil, Nat.reduceBEq, Bool.or_false, Bool.or_true, q1, q2]
                  have cc := cequal_v (st := st) (b := b) (cap := cap) (sp := sp) hc.equal E (rowc_mono hmo hlen) (p := pv) (by omega) (by omega) (by omega) (by omega) (L := M) (a := x) (c := y)
                  rw [hlen, dataV] at cc
                  refine Cal.mk cc ?_
                  rintro _ _ ⟨m, N, n1, n2, n3, n4, n5, rfl, rfl⟩ -
                  clear cc
                  simp (config := {maxSteps := 3000000}) only [run_reg, run_seq, run_exit, at_code_n, at_code_x, at_blk_x, at_rnd_n, ops_nil, ops_mv, ev_t, put_get, opv_mk, over_get, rel_mk, obsOk, true_and, Nat.reduceEqDiff, Int.toNat_natCast, ↓reduceIte, eq_self, List.contains_cons, List.contains_nil, Nat.reduceBEq, Bool.or_false, Bool.or_true, q2, q3, q8, q9]
                  repeat (apply And.intro; focus (first | omega | (simp; done)))
                  exact ⟨⟨m, y, N, lim', _, _, rfl, rfl, rfl, rfl, rfl, by omega, by omega, by omega, hl0, hl1, hM.trans (n3.wide hax hyc), hF.goE E.ord hLx cx cq hax hyc n1 n2 (by omega) n3 n4, rfl⟩, by omega⟩
                · simp (config := {maxSteps := 3000000}) only [run_skip, run_reg, run_seq, if_false, at_code_n, ops_mv, ops_call, ev_t, put_get, opv_mk, over_get, args0, List.getD_cons_zero, List.getD_cons_succ, List.map_cons, List.map_nil, true_and, Nat.reduceEqDiff, ↓reduceIte, Bool.not_true, eq_self, reduceCtorEq, Bool.false_eq_true, List.contains_cons, List.contains_nil, Nat.reduceBEq, Bool.or_false, Bool.or_true, q1, q2]
                  have cc := csplit_v (st := st) (b := b) (cap := cap) (sp := sp) hc.split E (rowc_mono hmo hlen) (p := pv) (by omega) (by omega) (by omega) (by omega) (L := M) (a := x) (c := y)
                  rw [hlen, dataV] at cc
                  refine Cal.mk cc ?_
                  rintro _ _ ⟨m, B3, N, n1, n2, n3, n4, n5, rfl, rfl⟩ -
                  clear cc
                  have hlN : N.length = L.length := n3.len.trans hlen
                  have hMN : Mix a c L N := hM.trans (n3.wide hax hyc)
                  have hFN := hF.mix n3 hax hyc (by omega)
                  have hLN := hLx.mix n3 (by omega)
                  have e4 : (m : Int) - (x : Int) = ((m - x : Nat) : Int) := by omega
                  have e5 : (y : Int) - (m : Int) = ((y - m : Nat) : Int) := by omega
                  have e6 : (m : Int) + 1 = ((m + 1 : Nat) : Int) := by simp
                  clear hM hF hLx hLM n3
                  by_cases cl : ((m - x : Nat) : Int) < ((y - m : Nat) : Int)
                  · simp (config := {maxSteps := 3000000}) only [run_reg, run_seq, run_cond, if_true, at_code_n, ops_nil, ops_mv, ops_bin, ops_ext, ops_call, ev_t, ev_c, put_get, opv_mk, over_get, args0, List.getD_cons_zero, List.getD_cons_succ, vbin, vbinI, norm, vext, obsOk, List.map_cons, List.map_nil, List.getElem?_cons_zero, List.getElem?_cons_succ, true_and, Nat.reduceEqDiff, Int.reduceLT, Int.reduceNeg, ↓reduceIte, eq_self, reduceCtorEq, Bool.false_eq_true, List.contains_cons, List.contains_nil, Nat.reduceBEq, Bool.or_false, Bool.or_true, q1, q2, q3, e4, e5, decide_eq_true cl]
                    repeat (apply And.intro; focus (first | omega | (simp; done)))
                    have cc := ih (m - x) (by omega) x m N lim' (Nat.le_refl _) (by omega) (by omega) (by omega) hl0 hl1 (hLN.part (by omega)) (rowc_mono hmo hlN)
                    rw [hlN, dataV] at cc
                    refine Cal.mk cc ?_
                    rintro _ _ ⟨R, r1, r2, rfl⟩ -
                    clear cc
                    simp (config := {maxSteps := 3000000}) only [run_reg, at_code_n, at_blk_n, at_rnd_n, ops_nil, ops_mv, ops_bin, ev_t, ev_c, put_get, opv_mk, over_get, rel_mk, vbin, vbinI, norm, obsOk, true_and, Nat.reduceEqDiff, Int.toNat_natCast, Int.reduceNeg, ↓reduceIte, eq_self, List.contains_cons, List.contains_nil, Nat.reduceBEq, Bool.or_false, Bool.or_true, q2, q3, e6]
                    repeat (apply And.intro; focus (first | omega | (simp; done)))
                    exact ⟨⟨m + 1, y, R, lim', _, _, rfl, rfl, rfl, rfl, rfl, by omega, by omega, by omega, hl0, hl1, hMN.trans (r1.wide (by omega) (by omega)), hFN.goL E.ord hax hyc (by omega) (by omega) (by omega) n4 n5 r1 r2, rfl⟩, by omega⟩
                  · simp (config := {maxSteps := 3000000}) only [run_reg, run_seq, run_cond, if_false, at_code_n, ops_nil, ops_mv, ops_bin, ops_ext, ops_call, ev_t, ev_c, put_get, opv_mk, over_get, args0, List.getD_cons_zero, List.getD_cons_succ, vbin, vbinI, norm, vext, obsOk, List.map_cons, List.map_nil, List.getElem?_cons_zero, List.getElem?_cons_succ, true_and, Nat.reduceEqDiff, Int.reduceLT, Int.reduceNeg, ↓reduceIte, eq_self, reduceCtorEq, Bool.false_eq_true, List.contains_cons, List.contains_nil, Nat.reduceBEq, Bool.or_false, Bool.or_true, q1, q2, q3, e4, e5, e6, decide_eq_false cl]
                    repeat (apply And.intro; focus (first | omega | (simp; done)))
                    have cc := ih (y - (m + 1)) (by omega) (m + 1) y N lim' (Nat.le_refl _) (by omega) (by omega) (by omega) hl0 hl1 (LB.next n5) (rowc_mono hmo hlN)
                    rw [hlN, dataV] at cc
                    refine Cal.mk cc ?_
                    rintro _ _ ⟨R, r1, r2, rfl⟩ -
                    clear cc
                    simp (config := {maxSteps := 3000000}) only [run_reg, at_code_n, at_blk_n, at_rnd_n, ops_nil, ops_mv, ev_t, put_get, opv_mk, over_get, rel_mk, obsOk, true_and, Nat.reduceEqDiff, Int.toNat_natCast, ↓reduceIte, eq_self, List.contains_cons, List.contains_nil, Nat.reduceBEq, Bool.or_false, Bool.or_true, q1, q3]
                    repeat (apply And.intro; focus (first | omega | (simp; done)))
                    exact ⟨⟨x, m, R, lim', _, _, rfl, rfl, rfl, rfl, rfl, by omega, by omega, by omega, hl0, hl1, hMN.trans (r1.wide (by omega) (by omega)), hFN.goR E.ord hax hyc (by omega) (by omega) (by omega) n4 n5 r1 r2, rfl⟩, by omega⟩
              · simp (config := {maxSteps := 3000000}) only [run_skip, run_reg, run_seq, run_cond, if_false, at_code_n, ops_nil, ops_grd, grd_ft, ops_mv, ops_pick, ops_call, ev_t, ev_c, put_get, opv_mk, over_get, args0, List.getD_cons_zero, List.getD_cons_succ, vpick, List.map_cons, List.map_nil, true_and, Nat.reduceEqDiff, ↓reduceIte, eq_self, reduceCtorEq, Bool.false_eq_true, List.contains_cons, List.contains_nil, Nat.reduceBEq, Bool.or_false, Bool.or_true, q1, q2, decide_eq_false (show ¬ (0 : Int) < (x : Int) by omega)]
                have cc := csplit_v (st := st) (b := b) (cap := cap) (sp := sp) hc.split E (rowc_mono hmo hlen) (p := pv) (by omega) (by omega) (by omega) (by omega) (L := M) (a := x) (c := y)
                rw [hlen, dataV] at cc
                refine Cal.mk cc ?_
                rintro _ _ ⟨m, B3, N, n1, n2, n3, n4, n5, rfl, rfl⟩ -
                clear cc
                have hlN : N.length = L.length := n3.len.trans hlen
                have hMN : Mix a c L N := hM.trans (n3.wide hax hyc)
                have hFN := hF.mix n3 hax hyc (by omega)
                have hLN := hLx.mix n3 (by omega)
                have e4 : (m : Int) - (x : Int) = ((m - x : Nat) : Int) := by omega
                have e5 : (y : Int) - (m : Int) = ((y - m : Nat) : Int) := by omega
                have e6 : (m : Int) + 1 = ((m + 1 : Nat) : Int) := by simp
                clear hM hF hLx hLM n3
                by_cases cl : ((m - x : Nat) : Int) < ((y - m : Nat) : Int)
                · simp (config := {maxSteps := 3000000}) only [run_reg, run_seq, run_cond, if_true, at_code_n, ops_nil, ops_mv, ops_bin, ops_ext, ops_call, ev_t, ev_c, put_get, opv_mk, over_get, args0, List.getD_cons_zero, List.getD_cons_succ, vbin, vbinI, norm, vext, obsOk, List.map_cons, List.map_nil, List.getElem?_cons_zero, List.getElem?_cons_succ, true_and, Nat.reduceEqDiff, Int.reduceLT, Int.reduceNeg, ↓reduceIte, eq_self, reduceCtorEq, Bool.false_eq_true, List.contains_cons, List.contains_nil, Nat.reduceBEq, Bool.or_false, Bool.or_true, q1, q2, q3, e4, e5, decide_eq_true cl]
                  repeat (apply And.intro; focus (first | omega | (simp; done)))
                  have cc := ih (m - x) (by omega) x m N lim' (Nat.le_refl _) (by omega) (by omega) (by omega) hl0 hl1 (hLN.part (by omega)) (rowc_mono hmo hlN)
                  rw [hlN, dataV] at cc
                  refine Cal.mk cc ?_
                  rintro _ _ ⟨R, r1, r2, rfl⟩ -
                  clear cc
                  simp (config := {maxSteps := 3000000}) only [run_reg, at_code_n, at_blk_n, at_rnd_n, ops_nil, ops_mv, ops_bin, ev_t, ev_c, put_get, opv_mk, over_get, rel_mk, vbin, vbinI, norm, obsOk, true_and, Nat.reduceEqDiff, Int.toNat_natCast, Int.reduceNeg, ↓reduceIte, eq_self, List.contains_cons, List.contains_nil, Nat.reduceBEq, Bool.or_false, Bool.or_true, q2, q3, e6]
                  repeat (apply And.intro; focus (first | omega | (simp; done)))
                  exact ⟨⟨m + 1, y, R, lim', _, _, rfl, rfl, rfl, rfl, rfl, by omega, by omega, by omega, hl0, hl1, hMN.trans (r1.wide (by omega) (by omega)), hFN.goL E.ord hax hyc (by omega) (by omega) (by omega) n4 n5 r1 r2, rfl⟩, by omega⟩
                · simp (config := {maxSteps := 3000000}) only [run_reg, run_seq, run_cond, if_false, at_code_n, ops_nil, ops_mv, ops_bin, ops_ext, ops_call, ev_t, ev_c, put_get, opv_mk, over_get, args0, List.getD_cons_zero, List.getD_cons_succ, vbin, vbinI, norm, vext, obsOk, List.map_cons, List.map_nil, List.getElem?_cons_zero, List.getElem?_cons_succ, true_and, Nat.reduceEqDiff, Int.reduceLT, Int.reduceNeg, ↓reduceIte, eq_self, reduceCtorEq, Bool.false_eq_true, List.contains_cons, List.contains_nil, Nat.reduceBEq, Bool.or_false, Bool.or_true, q1, q2, q3, e4, e5, e6, decide_eq_false cl]
                  repeat (apply And.intro; focus (first | omega | (simp; done)))
                  have cc := ih (y - (m + 1)) (by omega) (m + 1) y N lim' (Nat.le_refl _) (by omega) (by omega) (by omega) hl0 hl1 (LB.next n5) (rowc_mono hmo hlN)
                  rw [hlN, dataV] at cc
                  refine Cal.mk cc ?_
                  rintro _ _ ⟨R, r1, r2, rfl⟩ -
                  clear cc
                  simp (config := {maxSteps := 3000000}) only [run_reg, at_code_n, at_blk_n, at_rnd_n, ops_nil, ops_mv, ev_t, put_get, opv_mk, over_get, rel_mk, obsOk, true_and, Nat.reduceEqDiff, Int.toNat_natCast, ↓reduceIte, eq_self, List.contains_cons, List.contains_nil, Nat.reduceBEq, Bool.or_false, Bool.or_true, q1, q3]
                  repeat (apply And.intro; focus (first | omega | (simp; done)))
                  exact ⟨⟨x, m, R, lim', _, _, rfl, rfl, rfl, rfl, rfl, by omega, by omega, by omega, hl0, hl1, hMN.trans (r1.wide (by omega) (by omega)), hFN.goR E.ord hax hyc (by omega) (by omega) (by omega) n4 n5 r1 r2, rfl⟩, by omega⟩
            · by_cases k1 : hint = 1
              · simp (config := {maxSteps := 3000000}) only [run_skip, run_reg, run_seq, run_cond, if_true, if_false, at_code_n, ops_nil, ops_grd, grd_tt, ops_mv, ops_pick, ops_bin, ops_ext, ops_call, ev_t, ev_c, put_get, opv_mk, over_get, args0, List.getD_cons_zero, List.getD_cons_succ, vpick, vbin, vbinI, vext, obsOk, List.map_cons, List.map_nil, List.getElem?_cons_zero, List.getElem?_cons_succ, true_and, Nat.reduceEqDiff, ↓reduceIte, eq_self, reduceCtorEq, Bool.false_eq_true, List.contains_cons, List.contains_nil, Nat.reduceBEq, Bool.or_false, Bool.or_true, q1, q2, q8, q9, decide_eq_false k2, decide_eq_true k1]
                repeat (apply And.intro; focus (first | omega | (simp; done)))
                have cc := cpart_v (st := st) (b := b) (cap := cap) (sp := sp) hc.part E (rowc_mono hmo hlen) (L := M) (a := x) (c := y) (by omega) (by omega) (by omega) (hF.lb (hLB.mix hM h2) hax hyc)
                rw [hlen, dataV] at cc
                refine Cal.mk cc ?_
                rintro _ _ ⟨B3, N, n1, n2, rfl, rfl⟩ -
                clear cc
                cases B3
                · simp (config := {maxSteps := 3000000}) only [run_skip, run_reg, run_seq, run_cond, if_false, at_code_n, ops_nil, ops_grd, ops_mv, ops_bin, ev_t, ev_c, put_get, opv_mk, over_get, vbin, vbinI, obsOk, true_and, Nat.reduceEqDiff, ↓reduceIte, eq_self, List.contains_cons, List.contains_nil, Nat.reduceBEq, Bool.or_false, q1]
                  have hF := hF.mix n1 hax hyc (by omega)
                  have hM := hM.trans (n1.wide hax hyc)
                  have hlen := hM.len
                  clear n1 n2
                  generalize N = M at hF hM hlen ⊢
                  have hLM := hLB.mix hM h2
                  have hLx := hF.lb hLM hax hyc
                  by_cases cx : 0 < x
                  · have ex : ((x : Int) - 1).toNat = x - 1 := by omega
                    simp (config := {maxSteps := 3000000}) only [ops_grd, grd_tt, ops_mv, ops_bin, ops_ix, ops_load, ev_t, ev_c, put_get, opv_mk, over_get, put_box_same, args0, List.getD_cons_zero, List.getD_cons_succ, vbin, vbinI, norm, vix, vload, takeV, takeB, ops_calv, clv_func, List.map_cons, List.map_nil, List.nil_append, List.append_nil, and_true, true_and, Nat.reduceEqDiff, Int.toNat_natCast, Int.reduceNeg, Nat.zero_add, ↓reduceIte, eq_self, reduceCtorEq, Bool.false_eq_true, List.contains_cons, List.contains_nil, Nat.reduceBEq, Bool.or_false, List.not_mem_nil, q1, ex, decide_eq_true (show (0 : Int) < (x : Int) by omega), rowc_get (show x - 1 < M.length by omega), rowc_get (show pv < M.length by omega), rowc_len, rowc_mono hmo hlen, E.call, List.map_nil]
                    repeat (apply And.intro; focus (first | omega | (simp; done)))
                    refine Cal.mk (E.less _ _ _) ?_
                    rintro _ _ ⟨z6, hz6, rfl, rfl⟩ -
                    simp (config := {maxSteps := 3000000}) only [run_cond, at_code_n, ops_nil, ops_grd, grd_tt, ops_pick, ops_bin, ops_un, ev_t, ev_c, put_get, opv_mk, vpick, vbin, vbinI, vun, obsOk, true_and, Nat.reduceEqDiff, ↓reduceIte, eq_self, hz6]
                    cases cq : lt M[x - 1]! M[pv]!
                    · simp (config := {maxSteps := 3000000}) only [run_reg, run_seq, if_true, ops_mv, ops_call, ev_t, put_get, opv_mk, over_get, args0, List.getD_cons_zero, List.getD_cons_succ, List.map_cons, List.map_nil, true_and, Nat.reduceEqDiff, ↓reduceIte, Bool.not_false, eq_self, reduceCtorEq, Bool.false_eq_true, List.contains_cons, List.contains_nil, Nat.reduceBEq, Bool.or_false, Bool.or_true, q1, q2]
                      have cc := cequal_v (st := st) (b := b) (cap := cap) (sp := sp) hc.equal E (rowc_mono hmo hlen) (p := pv) (by omega) (by omega) (by omega) (by omega) (L := M) (a := x) (c := y)
                      rw [hlen, dataV] at cc
                      refine Cal.mk cc ?_
                      rintro _ _ ⟨m, N, n1, n2, n3, n4, n5, rfl, rfl⟩ -
                      clear cc
                      simp (config := {maxSteps := 3000000}) only [run_reg, run_seq, run_exit, at_code_n, at_code_x, at_blk_x, at_rnd_n, ops_nil, ops_mv, ev_t, put_get, opv_mk, over_get, rel_mk, obsOk, true_and, Nat.reduceEqDiff, Int.toNat_natCast, ↓reduceIte, eq_self, List.contains_cons, List.contains_nil, Nat.reduceBEq, Bool.or_false, Bool.or_true, q2, q3, q8, q9]
                      repeat (apply And.intro; focus (first | omega | (simp; done)))
                      exact ⟨⟨m, y, N, lim', _, _, rfl, rfl, rfl, rfl, rfl, by omega, by omega, by omega, hl0, hl1, hM.trans (n3.wide hax hyc), hF.goE E.ord hLx cx cq hax hyc n1 n2 (by omega) n3 n4, rfl⟩, by omega⟩
                    · simp (config := {maxSteps := 3000000}) only [run_skip, run_reg, run_seq, if_false, at_code_n, ops_mv, ops_call, ev_t, put_get, opv_mk, over_get, args0, List.getD_cons_zero, List.getD_cons_succ, List.map_cons, List.map_nil, true_and, Nat.reduceEqDiff, ↓reduceIte, Bool.not_true, eq_self, reduceCtorEq, Bool.false_eq_true, List.contains_cons, List.contains_nil, Nat.reduceBEq, Bool.or_false, Bool.or_true, q1, q2]
                      have cc := csplit_v (st := st) (b := b) (cap := cap) (sp := sp) hc.split E (rowc_mono hmo hlen) (p := pv) (by omega) (by omega) (by omega) (by omega) (L := M) (a := x) (c := y)
                      rw [hlen, dataV] at cc
                      refine Cal.mk cc ?_
                      rintro _ _ ⟨m, B3, N, n1, n2, n3, n4, n5, rfl, rfl⟩ -
                      clear cc
                      have hlN : N.length = L.length := n3.len.trans hlen
                      have hMN : Mix a c L N := hM.trans (n3.wide hax hyc)
                      have hFN := hF.mix n3 hax hyc (by omega)
                      have hLN := hLx.mix n3 (by omega)
                      have e4 : (m : Int) - (x : Int) = ((m - x : Nat) : Int) := by omega
                      have e5 : (y : Int) - (m : Int) = ((y - m : Nat) : Int) := by omega
                      have e6 : (m : Int) + 1 = ((m + 1 : Nat) : Int) := by simp
                      clear hM hF hLx hLM n3
                      by_cases cl : ((m - x : Nat) : Int) < ((y - m : Nat) : Int)
                      · simp (config := {maxSteps := 3000000}) only [run_reg, run_seq, run_cond, if_true, at_code_n, ops_nil, ops_mv, ops_bin, ops_ext, ops_call, ev_t, ev_c, put_get, opv_mk, over_get, args0, List.getD_cons_zero, List.getD_cons_succ, vbin, vbinI, norm, vext, obsOk, List.map_cons, List.map_nil, List.getElem?_cons_zero, List.getElem?_cons_succ, true_and, Nat.reduceEqDiff, Int.reduceLT, Int.reduceNeg, ↓reduceIte, eq_self, reduceCtorEq, Bool.false_eq_true, List.contains_cons, List.contains_nil, Nat.reduceBEq, Bool.or_false, Bool.or_true, q1, q2, q3, e4, e5, decide_eq_true cl]
                        repeat (apply And.intro; focus (first | omega | (simp; done)))
                        have cc := ih (m - x) (by omega) x m N lim' (Nat.le_refl _) (by omega) (by omega) (by omega) hl0 hl1 (hLN.part (by omega)) (rowc_mono hmo hlN)
                        rw [hlN, dataV] at cc
                        refine Cal.mk cc ?_
                        rintro _ _ ⟨R, r1, r2, rfl⟩ -
                        clear cc
                        simp (config := {maxSteps := 3000000}) only [run_reg, at_code_n, at_blk_n, at_rnd_n, ops_nil, ops_mv, ops_bin, ev_t, ev_c, put_get, opv_mk, over_get, rel_mk, vbin, vbinI, norm, obsOk, true_and, Nat.reduceEqDiff, Int.toNat_natCast, Int.reduceNeg, ↓reduceIte, eq_self, List.contains_cons, List.contains_nil, Nat.reduceBEq, Bool.or_false, Bool.or_true, q2, q3, e6]
                        repeat (apply And.intro; focus (first | omega | (simp; done)))
                        exact ⟨⟨m + 1, y, R, lim', _, _, rfl, rfl, rfl, rfl, rfl, by omega, by omega, by omega, hl0, hl1, hMN.trans (r1.wide (by omega) (by omega)), hFN.goL E.ord hax hyc (by omega) (by omega) (by omega) n4 n5 r1 r2, rfl⟩, by omega⟩
                      · simp (config := {maxSteps := 3000000}) only [run_reg, run_seq, run_cond, if_false, at_code_n, ops_nil, ops_mv, ops_bin, ops_ext, ops_call, ev_t, ev_c, put_get, opv_mk, over_get, args0, List.getD_cons_zero, List.getD_cons_succ, vbin, vbinI, norm, vext, obsOk, List.map_cons, List.map_nil, List.getElem?_cons_zero, List.getElem?_cons_succ, true_and, Nat.reduceEqDiff, Int.reduceLT, Int.reduceNeg, ↓reduceIte, eq_self, reduceCtorEq, Bool.false_eq_true, List.contains_cons, List.contains_nil, Nat.reduceBEq, Bool.or_false, Bool.or_true, q1, q2, q3, e4, e5, e6, decide_eq_false cl]
                        repeat (apply And.intro; focus (first | omega | (simp; done)))
                        have cc := ih (y - (m + 1)) (by omega) (m + 1) y N lim' (Nat.le_refl _) (by omega) (by omega) (by omega) hl0 hl1 (LB.next n5) (rowc_mono hmo hlN)
                        rw [hlN, dataV] at cc
                        refine Cal.mk cc ?_
                        rintro _ _ ⟨R, r1, r2, rfl⟩ -
                        clear cc
                        simp (config := {maxSteps := 3000000}) only [run_reg, at_code_n, at_blk_n, at_rnd_n, ops_nil, ops_mv, ev_t, put_get, opv_mk, over_get, rel_mk, obsOk, true_and, Nat.reduceEqDiff, Int.toNat_natCast, ↓reduceIte, eq_self, List.contains_cons, List.contains_nil, Nat.reduceBEq, Bool.or_false, Bool.or_true, q1, q3]
                        repeat (apply And.intro; focus (first | omega | (simp; done)))
                        exact ⟨⟨x, m, R, lim', _, _, rfl, rfl, rfl, rfl, rfl, by omega, by omega, by omega, hl0, hl1, hMN.trans (r1.wide (by omega) (by omega)), hFN.goR E.ord hax hyc (by omega) (by omega) (by omega) n4 n5 r1 r2, rfl⟩, by omega⟩
                  · simp (config := {maxSteps := 3000000}) only [run_skip, run_reg, run_seq, run_cond, if_false, at_code_n, ops_nil, ops_grd, grd_ft, ops_mv, ops_pick, ops_call, ev_t, ev_c, put_get, opv_mk, over_get, args0, List.getD_cons_zero, List.getD_cons_succ, vpick, List.map_cons, List.map_nil, true_and, Nat.reduceEqDiff, ↓reduceIte, eq_self, reduceCtorEq, Bool.false_eq_true, List.contains_cons, List.contains_nil, Nat.reduceBEq, Bool.or_false, Bool.or_true, q1, q2, decide_eq_false (show ¬ (0 : Int) < (x : Int) by omega)]
                    have cc := csplit_v (st := st) (b := b) (cap := cap) (sp := sp) hc.split E (rowc_mono hmo hlen) (p := pv) (by omega) (by omega) (by omega) (by omega) (L := M) (a := x) (c := y)
                    rw [hlen, dataV] at cc
                    refine Cal.mk cc ?_
                    rintro _ _ ⟨m, B3, N, n1, n2, n3, n4, n5, rfl, rfl⟩ -
                    clear cc
                    have hlN : N.length = L.length := n3.len.trans hlen
                    have hMN : Mix a c L N := hM.trans (n3.wide hax hyc)
                    have hFN := hF.mix n3 hax hyc (by omega)
                    have hLN := hLx.mix n3 (by omega)
                    have e4 : (m : Int) - (x : Int) = ((m - x : Nat) : Int) := by omega
                    have e5 : (y : Int) - (m : Int) = ((y - m : Nat) : Int) := by omega
                    have e6 : (m : Int) + 1 = ((m + 1 : Nat) : Int) := by simp
                    clear hM hF hLx hLM n3
                    by_cases cl : ((m - x : Nat) : Int) < ((y - m : Nat) : Int)
                    · simp (config := {maxSteps := 3000000}) only [run_reg, run_seq, run_cond, if_true, at_code_n, ops_nil, ops_mv, ops_bin, ops_ext, ops_call, ev_t, ev_c, put_get, opv_mk, over_get, args0, List.getD_cons_zero, List.getD_cons_succ, vbin, vbinI, norm, vext, obsOk, List.map_cons, List.map_nil, List.getElem?_cons_zero, List.getElem?_cons_succ, true_and, Nat.reduceEqDiff, Int.reduceLT, Int.reduceNeg, ↓reduceIte, eq_self, reduceCtorEq, Bool.false_eq_true, List.contains_cons, List.contains_nil, Nat.reduceBEq, Bool.or_false, Bool.or_true, q1, q2, q3, e4, e5, decide_eq_true cl]
                      repeat (apply And.intro; focus (first | omega | (simp; done)))
                      have cc := ih (m - x) (by omega) x m N lim' (Nat.le_refl _) (by omega) (by omega) (by omega) hl0 hl1 (hLN.part (by omega)) (rowc_mono hmo hlN)
                      rw [hlN, dataV] at cc
                      refine Cal.mk cc ?_
                      rintro _ _ ⟨R, r1, r2, rfl⟩ -
                      clear cc
                      simp (config := {maxSteps := 3000000}) only [run_reg, at_code_n, at_blk_n, at_rnd_n, ops_nil, ops_mv, ops_bin, ev_t, ev_c, put_get, opv_mk, over_get, rel_mk, vbin, vbinI, norm, obsOk, true_and, Nat.reduceEqDiff, Int.toNat_natCast, Int.reduceNeg, ↓reduceIte, eq_self, List.contains_cons, List.contains_nil, Nat.reduceBEq, Bool.or_false, Bool.or_true, q2, q3, e6]
                      repeat (apply And.intro; focus (first | omega | (simp; done)))
                      exact ⟨⟨m + 1, y, R, lim', _, _, rfl, rfl, rfl, rfl, rfl, by omega, by omega, by omega, hl0, hl1, hMN.trans (r1.wide (by omega) (by omega)), hFN.goL E.ord hax hyc (by omega) (by omega) (by omega) n4 n5 r1 r2, rfl⟩, by omega⟩
                    · simp (config := {maxSteps := 3000000}) only [run_reg, run_seq, run_cond, if_false, at_code_n, ops_nil, ops_mv, ops_bin, ops_ext, ops_call, ev_t, ev_c, put_get, opv_mk, over_get, args0, List.getD_cons_zero, List.getD_cons_succ, vbin, vbinI, norm, vext, obsOk, List.map_cons, List.map_nil, List.getElem?_cons_zero, List.getElem?_cons_succ, true_and, Nat.reduceEqDiff, Int.reduceLT, Int.reduceNeg, ↓reduceIte, eq_self, reduceCtorEq, Bool.false_eq_true, List.contains_cons, List.contains_nil, Nat.reduceBEq, Bool.or_false, Bool.or_true, q1, q2, q3, e4, e5, e6, decide_eq_false cl]
                      repeat (apply And.intro; focus (first | omega | (simp; done)))
                      have cc := ih (y - (m + 1)) (by omega) (m + 1) y N lim' (Nat.le_refl _) (by omega) (by omega) (by omega) hl0 hl1 (LB.next n5) (rowc_mono hmo hlN)
                      rw [hlN, dataV] at cc
                      refine Cal.mk cc ?_
                      rintro _ _ ⟨R, r1, r2, rfl⟩ -
                      clear cc
                      simp (config := {maxSteps := 3000000}) only [run_reg, at_code_n, at_blk_n, at_rnd_n, ops_nil, ops_mv, ev_t, put_get, opv_mk, over_get, rel_mk, obsOk, true_and, Nat.reduceEqDiff, Int.toNat_natCast, ↓reduceIte, eq_self, List.contains_cons, List.contains_nil, Nat.reduceBEq, Bool.or_false, Bool.or_true, q1, q3]
                      repeat (apply And.intro; focus (first | omega | (simp; done)))
                      exact ⟨⟨x, m, R, lim', _, _, rfl, rfl, rfl, rfl, rfl, by omega, by omega, by omega, hl0, hl1, hMN.trans (r1.wide (by omega) (by omega)), hFN.goR E.ord hax hyc (by omega) (by omega) (by omega) n4 n5 r1 r2, rfl⟩, by omega⟩
                · simp (config := {maxSteps := 3000000}) only [run_ret, run_cond, if_true, at_code_n, at_code_r, at_blk_r, at_rnd_r, at_fin_r, ops_nil, ev_t, put_get, obsOk, true_and, ↓reduceIte, vret, rvAll, eq_self]
                  have hfin := hF.fin hM hax hyc h2 n1 (n2 rfl)
                  exact ⟨_, _, Wk.refl _, weak_re hwf, N, hfin.1, hfin.2, rfl⟩
              · simp (config := {maxSteps := 3000000}) only [run_skip, run_reg, run_seq, run_cond, if_false, at_code_n, ops_nil, ops_grd, grd_tt, ops_mv, ops_pick, ops_bin, ops_ext, ev_t, ev_c, put_get, opv_mk, over_get, vpick, vbin, vbinI, vext, obsOk, List.getElem?_cons_zero, List.getElem?_cons_succ, true_and, Nat.reduceEqDiff, ↓reduceIte, eq_self, List.contains_cons, List.contains_nil, Nat.reduceBEq, Bool.or_false, Bool.or_true, q1, q8, q9, decide_eq_false k2, decide_eq_false k1]
                repeat (apply And.intro; focus (first | omega | (simp; done)))
                have hLM := hLB.mix hM h2
                have hLx := hF.lb hLM hax hyc
                by_cases cx : 0 < x
                · have ex : ((x : Int) - 1).toNat = x - 1 := by omega
                  simp (config := {maxSteps := 3000000}) only [ops_grd, grd_tt, ops_mv, ops_bin, ops_ix, ops_load, ev_t, ev_c, put_get, opv_mk, over_get, put_box_same, args0, List.getD_cons_zero, List.getD_cons_succ, vbin, vbinI, norm, vix, vload, takeV, takeB, ops_calv, clv_func, List.map_cons, List.map_nil, List.nil_append, List.append_nil, and_true, true_and, Nat.reduceEqDiff, Int.toNat_natCast, Int.reduceNeg, Nat.zero_add, ↓reduceIte, eq_self, reduceCtorEq, Bool.false_eq_true, List.contains_cons, List.contains_nil, Nat.reduceBEq, Bool.or_false, List.not_mem_nil, q1, ex, decide_eq_true (show (0 : Int) < (x : Int) by omega), rowc_get (show x - 1 < M.length by omega), rowc_get (show pv < M.length by omega), rowc_len, rowc_mono hmo hlen, E.call, List.map_nil]
                  repeat (apply And.intro; focus (first | omega | (simp; done)))
                  refine Cal.mk (E.less _ _ _) ?_
                  rintro _ _ ⟨z7, hz7, rfl, rfl⟩ -
                  simp (config := {maxSteps := 3000000}) only [run_cond, at_code_n, ops_nil, ops_grd, grd_tt, ops_pick, ops_bin, ops_un, ev_t, ev_c, put_get, opv_mk, vpick, vbin, vbinI, vun, obsOk, true_and, Nat.reduceEqDiff, ↓reduceIte, eq_self, hz7]
                  cases cq : lt M[x - 1]! M[pv]!
                  · simp (config := {maxSteps := 3000000}) only [run_reg, run_seq, if_true, ops_mv, ops_call, ev_t, put_get, opv_mk, over_get, args0, List.getD_cons_zero, List.getD_cons_succ, List.map_cons, List.map_nil, true_and, Nat.reduceEqDiff, ↓reduceIte, Bool.not_false, eq_self, reduceCtorEq, Bool.false_eq_true, List.contains_cons, List.contains_nil, Nat.reduceBEq, Bool.or_false, Bool.or_true, q1, q2]
                    have cc := cequal_v (st := st) (b := b) (cap := cap) (sp := sp) hc.equal E (rowc_mono hmo hlen) (p := pv) (by omega) (by omega) (by omega) (by omega) (L := M) (a := x) (c := y)
                    rw [hlen, dataV] at cc
                    refine Cal.mk cc ?_
                    rintro _ _ ⟨m, N, n1, n2, n3, n4, n5, rfl, rfl⟩ -
                    clear cc
                    simp (config := {maxSteps := 3000000}) only [run_reg, run_seq, run_exit, at_code_n, at_code_x, at_blk_x, at_rnd_n, ops_nil, ops_mv, ev_t, put_get, opv_mk, over_get, rel_mk, obsOk, true_and, Nat.reduceEqDiff, Int.toNat_natCast, ↓reduceIte, eq_self, List.contains_cons, List.contains_nil, Nat.reduceBEq, Bool.or_false, Bool.or_true, q2, q3, q8, q9]
                    repeat (apply And.intro; focus (first | omega | (simp; done)))
                    exact ⟨⟨m, y, N, lim', _, _, rfl, rfl, rfl, rfl, rfl, by omega, by omega, by omega, hl0, hl1, hM.trans (n3.wide hax hyc), hF.goE E.ord hLx cx cq hax hyc n1 n2 (by omega) n3 n4, rfl⟩, by omega⟩
                  · simp (config := {maxSteps := 3000000}) only [run_skip, run_reg, run_seq, if_false, at_code_n, ops_mv, ops_call, ev_t, put_get, opv_mk, over_get, args0, List.getD_cons_zero, List.getD_cons_succ, List.map_cons, List.map_nil, true_and, Nat.reduceEqDiff, ↓reduceIte, Bool.not_true, eq_self, reduceCtorEq, Bool.false_eq_true, List.contains_cons, List.contains_nil, Nat.reduceBEq, Bool.or_false, Bool.or_true, q1, q2]
                    have cc := csplit_v (st := st) (b := b) (cap := cap) (sp := sp) hc.split E (rowc_mono hmo hlen) (p := pv) (by omega) (by omega) (by omega) (by omega) (L := M) (a := x) (c := y)
                    rw [hlen, dataV] at cc
                    refine Cal.mk cc ?_
                    rintro _ _ ⟨m, B3, N, n1, n2, n3, n4, n5, rfl, rfl⟩ -
                    clear cc
                    have hlN : N.length = L.length := n3.len.trans hlen
                    have hMN : Mix a c L N := hM.trans (n3.wide hax hyc)
                    have hFN := hF.mix n3 hax hyc (by omega)
                    have hLN := hLx.mix n3 (by omega)
                    have e4 : (m : Int) - (x : Int) = ((m - x : Nat) : Int) := by omega
                    have e5 : (y : Int) - (m : Int) = ((y - m : Nat) : Int) := by omega
                    have e6 : (m : Int) + 1 = ((m + 1 : Nat) : Int) := by simp
                    clear hM hF hLx hLM n3
                    by_cases cl : ((m - x : Nat) : Int) < ((y - m : Nat) : Int)
                    · simp (config := {maxSteps := 3000000}) only [run_reg, run_seq, run_cond, if_true, at_code_n, ops_nil, ops_mv, ops_bin, ops_ext, ops_call, ev_t, ev_c, put_get, opv_mk, over_get, args0, List.getD_cons_zero, List.getD_cons_succ, vbin, vbinI, norm, vext, obsOk, List.map_cons, List.map_nil, List.getElem?_cons_zero, List.getElem?_cons_succ, true_and, Nat.reduceEqDiff, Int.reduceLT, Int.reduceNeg, ↓reduceIte, eq_self, reduceCtorEq, Bool.false_eq_true, List.contains_cons, List.contains_nil, Nat.reduceBEq, Bool.or_false, Bool.or_true, q1, q2, q3, e4, e5, decide_eq_true cl]
                      repeat (apply And.intro; focus (first | omega | (simp; done)))
                      have cc := ih (m - x) (by omega) x m N lim' (Nat.le_refl _) (by omega) (by omega) (by omega) hl0 hl1 (hLN.part (by omega)) (rowc_mono hmo hlN)
                      rw [hlN, dataV] at cc
                      refine Cal.mk cc ?_
                      rintro _ _ ⟨R, r1, r2, rfl⟩ -
                      clear cc
                      simp (config := {maxSteps := 3000000}) only [run_reg, at_code_n, at_blk_n, at_rnd_n, ops_nil, ops_mv, ops_bin, ev_t, ev_c, put_get, opv_mk, over_get, rel_mk, vbin, vbinI, norm, obsOk, true_and, Nat.reduceEqDiff, Int.toNat_natCast, Int.reduceNeg, ↓reduceIte, eq_self, List.contains_cons, List.contains_nil, Nat.reduceBEq, Bool.or_false, Bool.or_true, q2, q3, e6]
                      repeat (apply And.intro; focus (first | omega | (simp; done)))
                      exact ⟨⟨m + 1, y, R, lim', _, _, rfl, rfl, rfl, rfl, rfl, by omega, by omega, by omega, hl0, hl1, hMN.trans (r1.wide (by omega) (by omega)), hFN.goL E.ord hax hyc (by omega) (by omega) (by omega) n4 n5 r1 r2, rfl⟩, by omega⟩
                    · simp (config := {maxSteps := 3000000}) only [run_reg, run_seq, run_cond, if_false, at_code_n, ops_nil, ops_mv, ops_bin, ops_ext, ops_call, ev_t, ev_c, put_get, opv_mk, over_get, args0, List.getD_cons_zero, List.getD_cons_succ, vbin, vbinI, norm, vext, obsOk, List.map_cons, List.map_nil, List.getElem?_cons_zero, List.getElem?_cons_succ, true_and, Nat.reduceEqDiff, Int.reduceLT, Int.reduceNeg, ↓reduceIte, eq_self, reduceCtorEq, Bool.false_eq_true, List.contains_cons, List.contains_nil, Nat.reduceBEq, Bool.or_false, Bool.or_true, q1, q2, q3, e4, e5, e6, decide_eq_false cl]
                      repeat (apply And.intro; focus (first | omega | (simp; done)))
                      have cc := ih (y - (m + 1)) (by omega) (m + 1) y N lim' (Nat.le_refl _) (by omega) (by omega) (by omega) hl0 hl1 (LB.next n5) (rowc_mono hmo hlN)
                      rw [hlN, dataV] at cc
                      refine Cal.mk cc ?_
                      rintro _ _ ⟨R, r1, r2, rfl⟩ -
                      clear cc
                      simp (config := {maxSteps := 3000000}) only [run_reg, at_code_n, at_blk_n, at_rnd_n, ops_nil, ops_mv, ev_t, put_get, opv_mk, over_get, rel_mk, obsOk, true_and, Nat.reduceEqDiff, Int.toNat_natCast, ↓reduceIte, eq_self, List.contains_cons, List.contains_nil, Nat.reduceBEq, Bool.or_false, Bool.or_true, q1, q3]
                      repeat (apply And.intro; focus (first | omega | (simp; done)))
                      exact ⟨⟨x, m, R, lim', _, _, rfl, rfl, rfl, rfl, rfl, by omega, by omega, by omega, hl0, hl1, hMN.trans (r1.wide (by omega) (by omega)), hFN.goR E.ord hax hyc (by omega) (by omega) (by omega) n4 n5 r1 r2, rfl⟩, by omega⟩
                · simp (config := {maxSteps := 3000000}) only [run_skip, run_reg, run_seq, run_cond, if_false, at_code_n, ops_nil, ops_grd, grd_ft, ops_mv, ops_pick, ops_call, ev_t, ev_c, put_get, opv_mk, over_get, args0, List.getD_cons_zero, List.getD_cons_succ, vpick, List.map_cons, List.map_nil, true_and, Nat.reduceEqDiff, ↓reduceIte, eq_self, reduceCtorEq, Bool.false_eq_true, List.contains_cons, List.contains_nil, Nat.reduceBEq, Bool.or_false, Bool.or_true, q1, q2, decide_eq_false (show ¬ (0 : Int) < (x : Int) by omega)]
                  have cc := csplit_v (st := st) (b := b) (cap := cap) (sp := sp) hc.split E (rowc_mono hmo hlen) (p := pv) (by omega) (by omega) (by omega) (by omega) (L := M) (a := x) (c := y)
                  rw [hlen, dataV] at cc
                  refine Cal.mk cc ?_
                  rintro _ _ ⟨m, B3, N, n1, n2, n3, n4, n5, rfl, rfl⟩ -
                  clear cc
                  have hlN : N.length = L.length := n3.len.trans hlen
                  have hMN : Mix a c L N := hM.trans (n3.wide hax hyc)
                  have hFN := hF.mix n3 hax hyc (by omega)
                  have hLN := hLx.mix n3 (by omega)
                  have e4 : (m : Int) - (x : Int) = ((m - x : Nat) : Int) := by omega
                  have e5 : (y : Int) - (m : Int) = ((y - m : Nat) : Int) := by omega
                  have e6 : (m : Int) + 1 = ((m + 1 : Nat) : Int) := by simp
                  clear hM hF hLx hLM n3
                  by_cases cl : ((m - x : Nat) : Int) < ((y - m : Nat) : Int)
                  · simp (config := {maxSteps := 3000000}) only [run_reg, run_seq, run_cond, if_true, at_code_n, ops_nil, ops_mv, ops_bin, ops_ext, ops_call, ev_t, ev_c, put_get, opv_mk, over_get, args0, List.getD_cons_zero, List.getD_cons_succ, vbin, vbinI, norm, vext, obsOk, List.map_cons, List.map_nil, List.getElem?_cons_zero, List.getElem?_cons_succ, true_and, Nat.reduceEqDiff, Int.reduceLT, Int.reduceNeg, ↓reduceIte, eq_self, reduceCtorEq, Bool.false_eq_true, List.contains_cons, List.contains_nil, Nat.reduceBEq, Bool.or_false, Bool.or_true, q1, q2, q3, e4, e5, decide_eq_true cl]
                    repeat (apply And.intro; focus (first | omega | (simp; done)))
                    have cc := ih (m - x) (by omega) x m N lim' (Nat.le_refl _) (by omega) (by omega) (by omega) hl0 hl1 (hLN.part (by omega)) (rowc_mono hmo hlN)
                    rw [hlN, dataV] at cc
                    refine Cal.mk cc ?_
                    rintro _ _ ⟨R, r1, r2, rfl⟩ -
                    clear cc
                    simp (config := {maxSteps := 3000000}) only [run_reg, at_code_n, at_blk_n, at_rnd_n, ops_nil, ops_mv, ops_bin, ev_t, ev_c, put_get, opv_mk, over_get, rel_mk, vbin, vbinI, norm, obsOk, true_and, Nat.reduceEqDiff, Int.toNat_natCast, Int.reduceNeg, ↓reduceIte, eq_self, List.contains_cons, List.contains_nil, Nat.reduceBEq, Bool.or_false, Bool.or_true, q2, q3, e6]
                    repeat (apply And.intro; focus (first | omega | (simp; done)))
                    exact ⟨⟨m + 1, y, R, lim', _, _, rfl, rfl, rfl, rfl, rfl, by omega, by omega, by omega, hl0, hl1, hMN.trans (r1.wide (by omega) (by omega)), hFN.goL E.ord hax hyc (by omega) (by omega) (by omega) n4 n5 r1 r2, rfl⟩, by omega⟩
                  · simp (config := {maxSteps := 3000000}) only [run_reg, run_seq, run_cond, if_false, at_code_n, ops_nil, ops_mv, ops_bin, ops_ext, ops_call, ev_t, ev_c, put_get, opv_mk, over_get, args0, List.getD_cons_zero, List.getD_cons_succ, vbin, vbinI, norm, vext, obsOk, List.map_cons, List.map_nil, List.getElem?_cons_zero, List.getElem?_cons_succ, true_and, Nat.reduceEqDiff, Int.reduceLT, Int.reduceNeg, ↓reduceIte, eq_self, reduceCtorEq, Bool.false_eq_true, List.contains_cons, List.contains_nil, Nat.reduceBEq, Bool.or_false, Bool.or_true, q1, q2, q3, e4, e5, e6, decide_eq_false cl]
                    repeat (apply And.intro; focus (first | omega | (simp; done)))
                    have cc := ih (y - (m + 1)) (by omega) (m + 1) y N lim' (Nat.le_refl _) (by omega) (by omega) (by omega) hl0 hl1 (LB.next n5) (rowc_mono hmo hlN)
                    rw [hlN, dataV] at cc
                    refine Cal.mk cc ?_
                    rintro _ _ ⟨R, r1, r2, rfl⟩ -
                    clear cc
                    simp (config := {maxSteps := 3000000}) only [run_reg, at_code_n, at_blk_n, at_rnd_n, ops_nil, ops_mv, ev_t, put_get, opv_mk, over_get, rel_mk, obsOk, true_and, Nat.reduceEqDiff, Int.toNat_natCast, ↓reduceIte, eq_self, List.contains_cons, List.contains_nil, Nat.reduceBEq, Bool.or_false, Bool.or_true, q1, q3]
                    repeat (apply And.intro; focus (first | omega | (simp; done)))
                    exact ⟨⟨x, m, R, lim', _, _, rfl, rfl, rfl, rfl, rfl, by omega, by omega, by omega, hl0, hl1, hMN.trans (r1.wide (by omega) (by omega)), hFN.goR E.ord hax hyc (by omega) (by omega) (by omega) n4 n5 r1 r2, rfl⟩, by omega⟩
end
end Go.Proofs.Ytlngegoamfklgaa
