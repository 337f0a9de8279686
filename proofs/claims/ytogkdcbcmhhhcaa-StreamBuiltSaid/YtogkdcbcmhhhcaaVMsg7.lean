/- Any bytes as a message: what is told, and msg.Parse: contract. -/
import Derived.Test.YtogkdcbcmhhhcaaVMsgOf
namespace Go.Proofs.Ytogkdcbcmhhhcaa
open Go

def zM : MB := ⟨0, List.replicate 9 0, [[], [], []]⟩
/-- The message of these numbers and texts. -/
def mkM (t : Int) (a : List Int) (b : List (List Int)) : MB := ⟨t, a ++ List.replicate (9 - a.length) 0, b ++ List.replicate (3 - b.length) []⟩
def parseM (L : List Int) : MB × Int :=
  if L.length < 12 then (zM, 10) else if numL ((L.drop 4).take 4) ≠ 439041101 then (zM, 140) else
  if numL ((L.drop 2).take 2) ≠ 1 ∨ sizeT (numL ((L.drop 8).take 2)) = 0 then (zM, 141) else
  if numL (L.take 2) ≠ sizeT (numL ((L.drop 8).take 2)) ∨ (L.length : Int) ≠ sizeT (numL ((L.drop 8).take 2)) then (zM, 12) else
  if numL ((L.drop 10).take 2) ≠ 0 then (zM, 11) else
  match pK (layoutL (numL ((L.drop 8).take 2))) (L.drop 12) with
  | none => (zM, 11)
  | some (a, b) => (mkM (numL ((L.drop 8).take 2)) a b, 0)
theorem splice_one {C : List V} {i : Nat} {v : V} (h : i < C.length) : splice C i [v] = C.set i v := by
  unfold splice
  rw [List.set_eq_take_append_cons_drop, if_pos h]
  simp
theorem MB.setN {t : Int} {N : List Int} {T : List (List Int)} {n : Nat} (h : n < N.length) (x : Int) : splice (MB.mk t N T).cells (1 + n) [.sc (.int .u32 x)] = (MB.mk t (N.set n x) T).cells := by
  rw [splice_one (by simp [MB.cells, us_len]; omega), show 1 + n = n + 1 by omega]
  simp only [MB.cells, List.set_cons_succ]
  rw [List.set_append_left _ _ (by rw [us_len]; exact h)]
  simp [us, List.map_set]
theorem MB.setT {t : Int} {N : List Int} {T : List (List Int)} {q : Nat} (h9 : N.length = 9) (h : q < T.length) (x : List Int) : splice (MB.mk t N T).cells (10 + q) [.sc (.string (strOf x))] = (MB.mk t N (T.set q x)).cells := by
  rw [splice_one (by simp [MB.cells, us_len, ss_len]; omega), show 10 + q = (9 + q) + 1 by omega]
  simp only [MB.cells, List.set_cons_succ]
  rw [List.set_append_right _ _ (by rw [us_len]; omega), us_len, h9, show 9 + q - 9 = q by omega]
  simp [ss, List.map_set]
theorem set_pad {α : Type} (A : List α) (z x : α) (n : Nat) (h : A.length < n) : (A ++ List.replicate (n - A.length) z).set A.length x = (A ++ [x]) ++ List.replicate (n - (A ++ [x]).length) z := by
  rw [List.set_append_right _ _ (Nat.le_refl _), Nat.sub_self, show n - A.length = (n - (A ++ [x]).length) + 1 by simp; omega, List.replicate_succ, List.set_cons_zero]
  simp
theorem mkM_setN {t : Int} {A : List Int} {B : List (List Int)} (h : A.length < 9) (x : Int) : splice (mkM t A B).cells (1 + A.length) [.sc (.int .u32 x)] = (mkM t (A ++ [x]) B).cells := by
  unfold mkM
  rw [MB.setN (by simp; omega), set_pad _ _ _ _ h]
theorem mkM_setT {t : Int} {A : List Int} {B : List (List Int)} (h9 : A.length ≤ 9) (h : B.length < 3) (x : List Int) : splice (mkM t A B).cells (10 + B.length) [.sc (.string (strOf x))] = (mkM t A (B ++ [x])).cells := by
  unfold mkM
  rw [MB.setT (by simp; omega) (by simp; omega), set_pad _ _ _ _ h]
theorem mkM_n {t : Int} {A : List Int} {B : List (List Int)} (h9 : A.length ≤ 9) : (mkM t A B).N.length = 9 := by simp [mkM]; omega
theorem mkM_t {t : Int} {A : List Int} {B : List (List Int)} (h3 : B.length ≤ 3) : (mkM t A B).T.length = 3 := by simp [mkM]; omega
section
variable {k : Int} {K : List Int} {M A : List Int} {B : List (List Int)}
theorem pS_num (h : 0 ≤ k) (h4 : k ≤ 4) : (pK (k :: K) M).map (fun p => (A ++ p.1, B ++ p.2)) = (pK K (M.drop k.toNat)).map fun p => ((A ++ [numL (M.take k.toNat)]) ++ p.1, B ++ p.2) := by
  rw [pK_num h h4, Option.map_map]
  congr 1
  funext p
  simp
theorem pS_txt (h : 4 < k) : (pK (k :: K) M).map (fun p => (A ++ p.1, B ++ p.2)) = (pK K (M.drop k.toNat)).map fun p => (A ++ p.1, (B ++ [stripL (M.take k.toNat)]) ++ p.2) := by
  rw [pK_txt h, Option.map_map]
  congr 1
  funext p
  simp
end
theorem rdNum_in {L : List Int} {at_ : Nat} {k : Int} (h1 : 1 ≤ k) (h8 : k ≤ 8) (h : at_ + k.toNat ≤ L.length) : rdNum L at_ false k = (numL ((L.drop at_).take k.toNat), at_ + k.toNat, false) := by
  unfold rdNum
  rw [if_neg]
  simp only [Bool.false_eq_true, false_or, not_or]
  omega
theorem rdTake_in {L : List Int} {at_ : Nat} {k : Int} (h0 : 0 ≤ k) (h : at_ + k.toNat ≤ L.length) : rdTake L at_ false k = ((L.drop at_).take k.toNat, at_ + k.toNat, false) := by
  unfold rdTake
  rw [if_neg]
  simp only [Bool.false_eq_true, false_or, not_or]
  omega
/-- Three boxes. -/
structure P3 (st s : St) (b c d : Nat) (X Y Z : List V) : Prop where
  weak : st.weak s
  lt : s.Lt
  hb : st.sz ≤ b
  bc : b < c
  cd : c < d
  x : s.box b = some X
  y : s.box c = some Y
  z : s.box d = some Z
theorem P3.py {st s : St} {b c d : Nat} {X Y Z Y' : List V} (h : P3 st s b c d X Y Z) : P3 st (s.put c Y') b c d X Y' Z :=
  ⟨weak_put h.weak (by have := h.hb; have := h.bc; omega), h.lt.put, h.hb, h.bc, h.cd, by rw [put_box_ne (Nat.ne_of_lt h.bc)]; exact h.x, put_box_same, by rw [put_box_ne (Nat.ne_of_gt h.cd)]; exact h.z⟩
theorem P3.pz {st s : St} {b c d : Nat} {X Y Z Z' : List V} (h : P3 st s b c d X Y Z) : P3 st (s.put d Z') b c d X Y Z' :=
  ⟨weak_put h.weak (by have := h.hb; have := h.bc; have := h.cd; omega), h.lt.put, h.hb, h.bc, h.cd, by rw [put_box_ne (by have := h.bc; have := h.cd; omega)]; exact h.x, by rw [put_box_ne (Nat.ne_of_lt h.cd)]; exact h.y, put_box_same⟩
def zCells : List V := [.sc (.int .i64 0), .sc (.int .u32 0), .sc (.int .u32 0), .sc (.int .u32 0), .sc (.int .u32 0), .sc (.int .u32 0), .sc (.int .u32 0), .sc (.int .u32 0), .sc (.int .u32 0), .sc (.int .u32 0), .sc (.string ⟨#[]⟩), .sc (.string ⟨#[]⟩), .sc (.string ⟨#[]⟩)]
theorem zM_v : V.agg zCells = zM.v := rfl
section
variable {tk : Tk} {st : St} {L : List Int}
theorem parse_v (hB : IsB L) (hL : L.length ≤ 1000000) : VCalls Try.prog 55 [.sl tk (bs L)] st fun r st' => r = .tup [(parseM L).1.v, .sc (.int .i64 (parseM L).2)] ∧ st = st' := by
  refine vcalls_enter vc55 (Nat.le_of_ble_eq_true rfl) fun hwf hok => ?_
  show Run _ Vc55.body (.fin (finQ Vc55.res _)) _ _
  unfold Vc55
  by_cases h12 : L.length < 12
  · have e : parseM L = (zM, 10) := if_pos h12
    rw [e]
    simp (config := {maxSteps := 3000000}) only [run_reg, run_seq, run_cond, at_code_n, ops_nil, ops_mv, ops_bin, ops_len, ops_alc, ev_t, ev_c, put_get, opv_mk, args0, List.getD_cons_zero, vbin, vbinI, vlen, ptrV, obsOk, true_and, ↓reduceIte, eq_self, reduceCtorEq, bs_len]
    intro b hb
    simp (config := {maxSteps := 3000000}) only [run_reg, run_seq, run_ret, if_true, at_code_n, at_code_r, at_fin_r, ops_nil, ops_mv, ops_bld, ops_store, ev_t, ev_c, put_get, put_none, opv_mk, stb_some, sto_ptr, Stp, vbld, put_box_same, put_put, args0, vload, takeV, fillV, splice, V.cells, obsOk, List.map_cons, List.map_nil, List.length_cons, List.length_nil, List.take_succ_cons, List.take_zero, List.drop_succ_cons, List.drop_zero, List.nil_append, List.append_nil, List.take_nil, List.drop_nil, and_true, true_and, Nat.reduceEqDiff, Nat.reduceAdd, Nat.reduceLT, Nat.reduceLeDiff, Nat.reduceLT, Nat.zero_add, ↓reduceIte, vret, rvAll, rvVal, resv_2, eq_self, decide_eq_true (show (L.length : Int) < 12 by omega)]
    exact ⟨_, _, Wk.refl _, weak_put hwf.weak hb, rfl, rfl⟩
  have e0 : rdNum L 0 false 2 = (numL (L.take 2), 2, false) := by rw [rdNum_in (by omega) (by omega) (by simp; omega)]; rfl
  have e2 : rdNum L 2 false 2 = (numL ((L.drop 2).take 2), 4, false) := by rw [rdNum_in (by omega) (by omega) (by simp; omega)]; rfl
  have e4 : rdNum L 4 false 4 = (numL ((L.drop 4).take 4), 8, false) := by rw [rdNum_in (by omega) (by omega) (by simp; omega)]; rfl
  have e8 : rdNum L 8 false 2 = (numL ((L.drop 8).take 2), 10, false) := by rw [rdNum_in (by omega) (by omega) (by simp; omega)]; rfl
  have e10 : rdNum L 10 false 2 = (numL ((L.drop 10).take 2), 12, false) := by rw [rdNum_in (by omega) (by omega) (by simp; omega)]; rfl
  have r2 : ∀ n, 0 ≤ numL ((L.drop n).take 2) ∧ numL ((L.drop n).take 2) < 65536 := fun n => by
    have h := numL_range _ ((L.drop n).take 2) rfl ((hB.drop _).take _)
    have hl : ((L.drop n).take 2).length ≤ 2 := by simp; omega
    have hp : (256 : Int) ^ ((L.drop n).take 2).length ≤ 256 ^ 2 := by
      have : ∀ k : Nat, k ≤ 2 → (256 : Int) ^ k ≤ 256 ^ 2 := by decide
      exact this _ hl
    rw [show (256 : Int) ^ 2 = 65536 from rfl] at hp
    omega
  have r0 := r2 0
  rw [List.drop_zero] at r0
  have r22 := r2 2
  have r28 := r2 8
  have r210 := r2 10
  have r4 : 0 ≤ numL ((L.drop 4).take 4) ∧ numL ((L.drop 4).take 4) < 4294967296 := by
    have h := numL_range _ ((L.drop 4).take 4) rfl ((hB.drop _).take _)
    have hl : ((L.drop 4).take 4).length = 4 := by simp; omega
    rw [hl] at h
    exact h
  have hp : parseM L = (if numL ((L.drop 4).take 4) ≠ 439041101 then (zM, 140) else
    if numL ((L.drop 2).take 2) ≠ 1 ∨ sizeT (numL ((L.drop 8).take 2)) = 0 then (zM, 141) else
    if numL (L.take 2) ≠ sizeT (numL ((L.drop 8).take 2)) ∨ (L.length : Int) ≠ sizeT (numL ((L.drop 8).take 2)) then (zM, 12) else
    if numL ((L.drop 10).take 2) ≠ 0 then (zM, 11) else
    match pK (layoutL (numL ((L.drop 8).take 2))) (L.drop 12) with
    | none => (zM, 11)
    | some (a, b) => (mkM (numL ((L.drop 8).take 2)) a b, 0) : MB × Int) := if_neg h12
  rw [hp]
  clear hp r2
  have hS := fun st : St => msgSize_v (st := st) (numL ((L.drop 8).take 2))
  have hLy := fun st : St => layout_v (st := st) (numL ((L.drop 8).take 2))
  have hK4 := layout_kOk (numL ((L.drop 8).take 2))
  have hkl := layout_len (numL ((L.drop 8).take 2))
  have hcn := layout_cnt (numL ((L.drop 8).take 2))
  have hct := layout_txt (numL ((L.drop 8).take 2))
  have hsz := sizeT_le (numL ((L.drop 8).take 2))
  have hsd : sizeT (numL ((L.drop 8).take 2)) ≠ 0 → sizeT (numL ((L.drop 8).take 2)) = 12 + (sumN (layoutL (numL ((L.drop 8).take 2))) : Int) := fun h => by
    have := sizeT_pos (t := numL ((L.drop 8).take 2))
    exact if_neg (this.1 (by omega))
  generalize numL ((L.drop 8).take 2) = t at *
  generalize numL ((L.drop 10).take 2) = z0 at *
  generalize numL ((L.drop 4).take 4) = ck at *
  generalize numL ((L.drop 2).take 2) = kd at *
  generalize numL (L.take 2) = sz0 at *
  generalize sizeT t = Z at *
  generalize layoutL t = K at *
  simp (config := {maxSteps := 3000000}) only [run_reg, run_seq, run_cond, at_code_n, ops_nil, ops_mv, ops_bin, ops_len, ops_alc, ev_t, ev_c, put_get, opv_mk, args0, List.getD_cons_zero, vbin, vbinI, vlen, ptrV, obsOk, true_and, ↓reduceIte, ne_eq, eq_self, reduceCtorEq, bs_len]
  intro b hb
  simp (config := {maxSteps := 3000000}) only [run_skip, run_reg, run_seq, if_false, at_code_n, ops_mv, ops_call, ev_t, put_get, opv_mk, args0, List.getD_cons_zero, List.map_cons, List.map_nil, true_and, ↓reduceIte, eq_self, reduceCtorEq, decide_eq_false (show ¬ (L.length : Int) < 12 by omega)]
  refine Cal.mk New_v ?_
  rintro _ _ ⟨c, hc, rfl, rfl⟩ -
  obtain ⟨hc1, hbc⟩ : st.sz ≤ c ∧ b < c := by simp only [put_sz] at hc; omega
  clear hc
  simp (config := {maxSteps := 3000000}) only [run_reg, run_seq, at_code_n, ops_nil, ops_mv, ops_call, ev_t, put_get, opv_mk, ptrV, obsOk, List.map_cons, List.map_nil, true_and, ↓reduceIte, eq_self]
  refine Cal.mk (U16_v (L := L) (at_ := 0) (bad := false) put_box_same (by omega) hB) ?_
  rintro _ _ ⟨rfl, rfl⟩ -
  rw [e0]
  simp (config := {maxSteps := 3000000}) only [ops_mv, ops_conv, ops_call, ev_t, put_get, opv_mk, put_put, vconv, norm, obsOk, List.map_cons, List.map_nil, true_and, Nat.reduceEqDiff, Int.reduceNeg, ↓reduceIte, eq_self]
  repeat (apply And.intro; focus (first | omega | (simp; done)))
  refine Cal.mk (U16_v (L := L) (at_ := 2) (bad := false) put_box_same (by omega) hB) ?_
  rintro _ _ ⟨rfl, rfl⟩ -
  rw [e2]
  simp (config := {maxSteps := 3000000}) only [ops_mv, ops_call, ev_t, put_get, opv_mk, put_put, obsOk, List.map_cons, List.map_nil, true_and, Nat.reduceEqDiff, ↓reduceIte, eq_self]
  refine Cal.mk (U32_v (L := L) (at_ := 4) (bad := false) put_box_same (by omega) hB) ?_
  rintro _ _ ⟨rfl, rfl⟩ -
  rw [e4]
  simp (config := {maxSteps := 3000000}) only [ops_mv, ops_call, ev_t, put_get, opv_mk, put_put, obsOk, List.map_cons, List.map_nil, true_and, Nat.reduceEqDiff, ↓reduceIte, eq_self]
  refine Cal.mk (U16_v (L := L) (at_ := 8) (bad := false) put_box_same (by omega) hB) ?_
  rintro _ _ ⟨rfl, rfl⟩ -
  rw [e8]
  simp (config := {maxSteps := 3000000}) only [ops_mv, ops_conv, ops_call, ev_t, put_get, opv_mk, put_put, vconv, norm, obsOk, List.map_cons, List.map_nil, true_and, Nat.reduceEqDiff, Int.reduceNeg, ↓reduceIte, eq_self]
  repeat (apply And.intro; focus (first | omega | (simp; done)))
  refine Cal.mk (U16_v (L := L) (at_ := 10) (bad := false) put_box_same (by omega) hB) ?_
  rintro _ _ ⟨rfl, rfl⟩ -
  rw [e10]
  have hw3 : ∀ cs ds : List V, st.weak (((st.put b cs).put c ds).put b cs) := fun cs ds => weak_put (weak_put (weak_put hwf.weak hb) hc1) hb
  by_cases c1 : ck = 439041101
  case neg =>
    rw [if_pos c1]
    simp (config := {maxSteps := 3000000}) only [run_reg, run_seq, run_blk, run_ret, run_cond, if_true, at_code_n, at_code_r, at_blk_r, at_fin_r, ops_nil, ops_mv, ops_bin, ops_bld, ops_store, ev_t, ev_c, put_get, put_none, opv_mk, stb_some, sto_ptr, Stp, vbld, put_box_same, put_put, args0, vbin, vbinI, vload, takeV, fillV, splice, V.cells, obsOk, List.map_cons, List.map_nil, List.length_cons, List.length_nil, List.take_succ_cons, List.take_zero, List.drop_succ_cons, List.drop_zero, List.nil_append, List.append_nil, List.take_nil, List.drop_nil, and_true, true_and, Nat.reduceEqDiff, Nat.reduceAdd, Nat.reduceLT, Nat.reduceLeDiff, Nat.reduceLT, Nat.zero_add, ↓reduceIte, vret, rvAll, rvVal, resv_2, ne_eq, eq_self, decide_eq_true c1, put_box_ne (Nat.ne_of_lt hbc)]
    repeat (apply And.intro; focus (first | omega | (simp; done)))
    exact ⟨_, _, Wk.refl _, hw3 _ _, rfl, rfl⟩
  rw [if_neg (fun h => h c1)]
  have c1' := decide_eq_false (show ¬ ¬ ck = 439041101 from fun h => h c1)
  by_cases c2 : kd = 1
  case neg =>
    rw [if_pos (Or.inl c2)]
    simp (config := {maxSteps := 3000000}) only [run_reg, run_seq, run_blk, run_ret, run_cond, if_true, if_false, at_code_n, at_code_r, at_blk_r, at_fin_r, ops_nil, ops_grd, grd_tf, ops_mv, ops_pick, ops_bin, ops_bld, ops_store, ev_t, ev_c, put_get, put_none, opv_mk, stb_some, sto_ptr, Stp, vbld, put_box_same, put_put, args0, vpick, vbin, vbinI, vload, takeV, fillV, splice, V.cells, obsOk, List.map_cons, List.map_nil, List.length_cons, List.length_nil, List.take_succ_cons, List.take_zero, List.drop_succ_cons, List.drop_zero, List.nil_append, List.append_nil, List.take_nil, List.drop_nil, and_true, true_and, Nat.reduceEqDiff, Nat.reduceAdd, Nat.reduceLT, Nat.reduceLeDiff, Nat.reduceLT, Nat.zero_add, ↓reduceIte, vret, rvAll, rvVal, resv_2, ne_eq, eq_self, c1', decide_eq_true c2, put_box_ne (Nat.ne_of_lt hbc)]
    repeat (apply And.intro; focus (first | omega | (simp; done)))
    exact ⟨_, _, Wk.refl _, hw3 _ _, rfl, rfl⟩
  have c2' := decide_eq_false (show ¬ ¬ kd = 1 from fun h => h c2)
  simp (config := {maxSteps := 3000000}) only [run_reg, run_seq, run_blk, run_cond, if_false, at_code_n, ops_nil, ops_grd, grd_ff, ops_mv, ops_bin, ops_call, ev_t, ev_c, put_get, opv_mk, put_put, vbin, vbinI, obsOk, List.map_cons, List.map_nil, true_and, Nat.reduceEqDiff, ↓reduceIte, ne_eq, eq_self, c1', c2']
  repeat (apply And.intro; focus (first | omega | (simp; done)))
  refine Cal.mk (hS _) ?_
  rintro _ _ ⟨rfl, rfl⟩ -
  by_cases c3 : Z = 0
  · rw [if_pos (Or.inr c3)]
    simp (config := {maxSteps := 3000000}) only [run_reg, run_seq, run_ret, run_cond, if_true, at_code_n, at_code_r, at_blk_r, at_fin_r, ops_nil, ops_grd, grd_ff, ops_mv, ops_pick, ops_bin, ops_bld, ops_store, ev_t, ev_c, put_get, put_none, opv_mk, stb_some, sto_ptr, Stp, vbld, put_box_same, args0, vpick, vbin, vbinI, vload, takeV, fillV, splice, V.cells, obsOk, List.map_cons, List.map_nil, List.length_cons, List.length_nil, List.take_succ_cons, List.take_zero, List.drop_succ_cons, List.drop_zero, List.nil_append, List.append_nil, List.take_nil, List.drop_nil, and_true, true_and, Nat.reduceEqDiff, Nat.reduceAdd, Nat.reduceLT, Nat.reduceLeDiff, Nat.reduceLT, Nat.zero_add, ↓reduceIte, vret, rvAll, rvVal, resv_2, eq_self, Bool.false_eq_true, decide_eq_true c3, put_box_ne (Nat.ne_of_lt hbc)]
    exact ⟨_, _, Wk.refl _, hw3 _ _, rfl, rfl⟩
  rw [if_neg (show ¬ (kd ≠ 1 ∨ Z = 0) by omega)]
  simp (config := {maxSteps := 3000000}) only [run_reg, run_seq, run_cond, if_false, at_code_n, ops_nil, ops_grd, grd_ff, ops_mv, ops_pick, ops_bin, ops_call, ev_t, ev_c, put_get, opv_mk, vpick, vbin, vbinI, obsOk, List.map_cons, List.map_nil, true_and, Nat.reduceEqDiff, ↓reduceIte, eq_self, Bool.false_eq_true, decide_eq_false c3]
  refine Cal.mk (hS _) ?_
  rintro _ _ ⟨rfl, rfl⟩ -
  by_cases c4 : sz0 = Z
  case neg =>
    rw [if_pos (Or.inl c4)]
    simp (config := {maxSteps := 3000000}) only [run_reg, run_seq, run_ret, run_cond, if_true, at_code_n, at_code_r, at_blk_r, at_fin_r, ops_nil, ops_grd, grd_tf, ops_mv, ops_pick, ops_bin, ops_bld, ops_store, ev_t, ev_c, put_get, put_none, opv_mk, stb_some, sto_ptr, Stp, vbld, put_box_same, args0, vpick, vbin, vbinI, vload, takeV, fillV, splice, V.cells, obsOk, List.map_cons, List.map_nil, List.length_cons, List.length_nil, List.take_succ_cons, List.take_zero, List.drop_succ_cons, List.drop_zero, List.nil_append, List.append_nil, List.take_nil, List.drop_nil, and_true, true_and, Nat.reduceEqDiff, Nat.reduceAdd, Nat.reduceLT, Nat.reduceLeDiff, Nat.reduceLT, Nat.zero_add, ↓reduceIte, vret, rvAll, rvVal, resv_2, ne_eq, eq_self, decide_eq_true c4, put_box_ne (Nat.ne_of_lt hbc)]
    exact ⟨_, _, Wk.refl _, hw3 _ _, rfl, rfl⟩
  subst c4
  have c4' := decide_eq_false (show ¬ ¬ sz0 = sz0 from fun h => h rfl)
  by_cases c5 : (L.length : Int) = sz0
  case neg =>
    rw [if_pos (Or.inr c5)]
    simp (config := {maxSteps := 3000000}) only [run_reg, run_seq, run_ret, run_cond, if_true, at_code_n, at_code_r, at_blk_r, at_fin_r, ops_nil, ops_grd, grd_ff, ops_mv, ops_pick, ops_bin, ops_len, ops_bld, ops_store, ev_t, ev_c, put_get, put_none, opv_mk, stb_some, sto_ptr, Stp, vbld, put_box_same, args0, List.getD_cons_zero, vpick, vbin, vbinI, vlen, vload, takeV, fillV, splice, V.cells, obsOk, List.map_cons, List.map_nil, List.length_cons, List.length_nil, List.take_succ_cons, List.take_zero, List.drop_succ_cons, List.drop_zero, List.nil_append, List.append_nil, List.take_nil, List.drop_nil, and_true, true_and, Nat.reduceEqDiff, Nat.reduceAdd, Nat.reduceLT, Nat.reduceLeDiff, Nat.reduceLT, Nat.zero_add, ↓reduceIte, vret, rvAll, rvVal, resv_2, decide_false, ne_eq, not_true_eq_false, eq_self, reduceCtorEq, Bool.false_eq_true, decide_eq_true c5, bs_len, put_box_ne (Nat.ne_of_lt hbc)]
    exact ⟨_, _, Wk.refl _, hw3 _ _, rfl, rfl⟩
  rw [if_neg (show ¬ (sz0 ≠ sz0 ∨ (L.length : Int) ≠ sz0) by omega)]
  have c5' := decide_eq_false (show ¬ ¬ (L.length : Int) = sz0 from fun h => h c5)
  by_cases c6 : z0 = 0
  case neg =>
    rw [if_pos c6]
    simp (config := {maxSteps := 3000000}) only [run_reg, run_seq, run_ret, run_cond, if_true, if_false, at_code_n, at_code_r, at_blk_r, at_fin_r, ops_nil, ops_grd, grd_ff, ops_mv, ops_pick, ops_bin, ops_len, ops_bld, ops_store, ev_t, ev_c, put_get, put_none, opv_mk, stb_some, sto_ptr, Stp, vbld, put_box_same, args0, List.getD_cons_zero, vpick, vbin, vbinI, vlen, vload, takeV, fillV, splice, V.cells, obsOk, List.map_cons, List.map_nil, List.length_cons, List.length_nil, List.take_succ_cons, List.take_zero, List.drop_succ_cons, List.drop_zero, List.nil_append, List.append_nil, List.take_nil, List.drop_nil, and_true, true_and, Nat.reduceEqDiff, Nat.reduceAdd, Nat.reduceLT, Nat.reduceLeDiff, Nat.reduceLT, Nat.zero_add, ↓reduceIte, vret, rvAll, rvVal, resv_2, decide_false, ne_eq, not_true_eq_false, eq_self, reduceCtorEq, Bool.false_eq_true, c5', decide_eq_true c6, bs_len, put_box_ne (Nat.ne_of_lt hbc)]
    exact ⟨_, _, Wk.refl _, hw3 _ _, rfl, rfl⟩
  rw [if_neg (fun h => h c6)]
  have c6' := decide_eq_false (show ¬ ¬ z0 = 0 from fun h => h c6)
  have hsum := hsd c3
  simp (config := {maxSteps := 3000000}) only [run_skip, run_reg, run_seq, run_cond, if_false, at_code_n, at_blk_n, ops_nil, ops_grd, grd_ff, ops_mv, ops_pick, ops_bin, ops_len, ops_bld, ops_alc, ops_store, ops_call, ev_t, ev_c, put_get, put_none, opv_mk, stb_some, sto_ptr, Stp, vbld, put_box_same, put_sz, put_put, args0, List.getD_cons_zero, vpick, vbin, vbinI, vlen, fillV, splice, V.cells, ptrV, obsOk, List.map_cons, List.map_nil, List.length_cons, List.length_nil, List.take_zero, List.drop_succ_cons, List.drop_zero, List.cons_append, List.nil_append, List.append_nil, List.drop_nil, and_true, true_and, Nat.reduceEqDiff, Nat.reduceAdd, Nat.reduceLT, Nat.reduceLeDiff, Nat.reduceLT, Nat.zero_add, ↓reduceIte, decide_false, ne_eq, not_true_eq_false, eq_self, reduceCtorEq, Bool.false_eq_true, c5', c6', bs_len]
  intro d hd
  obtain ⟨hd1, hcd⟩ : st.sz ≤ d ∧ c < d := by first | omega | (simp only [put_sz] at hd; omega)
  clear hd
  refine Cal.mk (hLy _) ?_
  rintro _ _ ⟨rfl, rfl⟩ -
  simp (config := {maxSteps := 3000000}) only [run_blk, at_code_n, ops_nil, ops_mv, ops_len, ev_t, ev_c, put_get, opv_mk, vlen, obsOk, true_and, ↓reduceIte, eq_self, is_len]
  obtain ⟨X, hX⟩ : ∃ X, pK K (L.drop 12) = X := ⟨_, rfl⟩
  rw [hX]
  refine run_loop [3, 11, 12, 14, 67, 68, 69, 70, 71, 72, 73, 74, 75, 76, 77, 78, 79, 80, 81, 82, 83, 84, 85, 86, 87, 88, 89, 90, 91, 92, 93, 94, 95, 96, 97, 98, 99, 100, 101, 102] (fun B s => ∃ (i at_ : Nat) (A : List Int) (T : List (List Int)), i ≤ K.length ∧ B 67 = .sc (.int .i64 i) ∧ B 11 = .sc (.int .i64 A.length) ∧ B 12 = .sc (.int .i64 T.length) ∧ P3 st s b c d zCells (rdr tk L at_ false) (mkM t A T).cells ∧
    X = (pK (K.drop i) (L.drop at_)).map (fun p => (A ++ p.1, T ++ p.2)) ∧ A.length + (K.drop i).countP isNum ≤ 9 ∧ T.length + (K.drop i).countP isTxt ≤ 3 ∧ at_ + sumN (K.drop i) = L.length) (fun B _ => K.length - vnat (B 67)) rfl ?_ ?_
  · simp (config := {maxSteps := 3000000}) only [put_get, Nat.reduceEqDiff, ↓reduceIte, eq_self]
    refine ⟨0, 12, [], [], by omega, by simp, by simp, by simp, ?_, by rw [List.drop_zero, hX]; cases X <;> rfl, by simpa using hcn, by simpa using hct, by simp; omega⟩
    exact ⟨weak_put (weak_put (weak_put hwf.weak hb) hc1) hd1, hwf.lt.put.put.put, hb, hbc, hcd, by rw [put_box_ne (by omega), put_box_ne (by omega)]; exact put_box_same, by rw [put_box_ne (by omega)]; exact put_box_same, put_box_same⟩
  · rintro B s ⟨i, at_, A, T, hi, h67, h11, h12', hP, he, hn, hq, hat⟩
    clear hX
    by_cases hlt : i < K.length
    · obtain ⟨k, hk⟩ := get_ex hlt
      have hko := hK4 k (List.mem_of_getElem? hk)
      unfold kOk at hko
      have hlt' := decide_eq_true (show (i : Int) < (K.length : Int) by omega)
      have hsd2 : K.drop i = k :: K.drop (i + 1) := drop_cons hk
      rw [hsd2, List.countP_cons] at hn hq
      rw [hsd2] at he hat
      simp only [sumN] at hat
      by_cases d1 : k < 0
      · have e1' : isTxt k = false := by simp [isTxt]; omega
        have e2' : isNum k = false := by simp [isNum]; omega
        rw [e2'] at hn; rw [e1'] at hq
        have etk := rdTake_in (L := L) (at_ := at_) (k := -k) (by omega) (by omega)
        simp (config := {maxSteps := 3000000}) only [run_skip, run_reg, run_seq, run_blk, run_cond, if_true, at_code_n, ops_nil, ops_mv, ops_bin, ops_un, ops_ix, ops_load, ops_call, ev_t, ev_c, put_get, opv_mk, over_get, vnat, vbin, vbinI, vun, norm, vix, vload, takeV, V.cells, List.map_cons, List.map_nil, List.length_cons, List.length_nil, List.getElem?_cons_zero, Option.map_some, and_true, true_and, Nat.reduceEqDiff, Int.toNat_natCast, Int.reduceNeg, Nat.zero_add, ↓reduceIte, eq_self, Bool.false_eq_true, List.contains_cons, List.contains_nil, Nat.reduceBEq, Bool.or_false, Bool.or_true, h67, is_get, hk, hlt', decide_eq_true d1, Int.zero_sub]
        repeat (apply And.intro; focus (first | omega | (simp; done)))
        refine Cal.mk (Take_v hP.y (by omega) (by omega) (-k)) ?_
        rintro _ _ ⟨rfl, rfl⟩ -
        rw [etk]
        simp (config := {maxSteps := 3000000}) only [ops_call, ev_t, put_get, obsOk, List.map_cons, List.map_nil, true_and, ↓reduceIte, eq_self]
        refine Cal.mk (noughts_v (by simp; omega)) ?_
        rintro _ _ ⟨rfl, rfl⟩ -
        have hPy := hP.py (Y' := rdr tk L (at_ + (-k).toNat) false)
        rw [pK_neg d1] at he
        cases hz : ((L.drop at_).take (-k).toNat).all (fun x => decide (x = 0))
        · rw [hz] at he
          simp only [Bool.false_eq_true, ↓reduceIte, Option.map_none] at he
          have hx3 := hPy.x
          have hw5 : st.weak ((s.put c (rdr tk L (at_ + (-k).toNat) false)).put b zCells) := weak_put hPy.weak hb
          have hz13 : zCells.length = 13 := rfl
          have htk : zCells.take 13 = zCells := rfl
          have hdr : zCells.drop 13 = [] := rfl
          simp only [zCells] at hx3 hw5
          simp (config := {maxSteps := 3000000}) only [run_reg, run_seq, run_ret, run_cond, if_true, at_code_n, at_code_r, at_blk_r, at_rnd_r, at_fin_r, ops_nil, ops_mv, ops_un, ops_bld, ops_store, ev_t, ev_c, put_get, put_none, opv_mk, stb_some, sto_ptr, over_get, Stp, vbld, put_box_same, args0, vun, vload, takeV, fillV, splice, V.cells, obsOk, List.map_cons, List.map_nil, List.length_cons, List.length_nil, List.take_succ_cons, List.take_zero, List.drop_succ_cons, List.drop_zero, List.nil_append, List.append_nil, List.take_nil, List.drop_nil, and_true, true_and, Nat.reduceEqDiff, Nat.reduceAdd, Nat.reduceLT, Nat.reduceLeDiff, Nat.reduceLT, Nat.zero_add, ↓reduceIte, vret, rvAll, rvVal, resv_2, Bool.not_false, eq_self, Bool.false_eq_true, List.contains_cons, List.contains_nil, Nat.reduceBEq, Bool.or_false, hx3]
          exact ⟨_, _, Wk.refl _, hw5, by rw [he]; rfl, rfl⟩
        · rw [hz] at he
          simp only [↓reduceIte] at he
          simp (config := {maxSteps := 3000000}) only [run_skip, run_reg, run_cond, if_false, at_code_n, at_blk_n, at_rnd_n, ops_nil, ops_mv, ops_bin, ops_un, ev_t, ev_c, put_get, opv_mk, over_get, rel_mk, vbin, vbinI, vun, norm, obsOk, true_and, Nat.reduceEqDiff, Int.reduceNeg, ↓reduceIte, Bool.not_true, eq_self, List.contains_cons, List.contains_nil, Nat.reduceBEq, Bool.or_false, Bool.or_true, h67, h11, h12']
          repeat (apply And.intro; focus (first | omega | (simp; done)))
          exact ⟨⟨i + 1, _, A, T, by omega, by simp, by first | exact h11 | simp, by first | exact h12' | simp, hPy, by rw [he, List.drop_drop], by simpa using hn, by simpa using hq, by omega⟩, by omega⟩
      have d1' := decide_eq_false d1
      by_cases d2 : 4 < k
      · have e1' : isTxt k = true := by simp [isTxt, d2]
        have e2' : isNum k = false := by simp [isNum]; omega
        rw [e2'] at hn; rw [e1'] at hq
        simp only [↓reduceIte] at hq
        have etk := rdTake_in (L := L) (at_ := at_) (k := k) (by omega) (by omega)
        rw [pS_txt d2] at he
        simp (config := {maxSteps := 3000000}) only [run_skip, run_reg, run_seq, run_blk, run_cond, if_true, if_false, at_code_n, ops_nil, ops_mv, ops_bin, ops_ix, ops_load, ops_call, ev_t, ev_c, put_get, opv_mk, over_get, vnat, vbin, vbinI, vix, vload, takeV, V.cells, List.map_cons, List.map_nil, List.length_cons, List.length_nil, List.getElem?_cons_zero, Option.map_some, and_true, true_and, Nat.reduceEqDiff, Int.toNat_natCast, Nat.zero_add, ↓reduceIte, eq_self, Bool.false_eq_true, List.contains_cons, List.contains_nil, Nat.reduceBEq, Bool.or_false, Bool.or_true, h67, h12', is_get, hk, hlt', d1', decide_eq_true d2]
        repeat (apply And.intro; focus (first | omega | (simp; done)))
        refine Cal.mk (Take_v hP.y (by omega) (by omega) k) ?_
        rintro _ _ ⟨rfl, rfl⟩ -
        rw [etk]
        have hPy := hP.py (Y' := rdr tk L (at_ + k.toNat) false)
        simp (config := {maxSteps := 3000000}) only [ops_call, ev_t, put_get, obsOk, List.map_cons, List.map_nil, true_and, ↓reduceIte, eq_self]
        refine Cal.mk (text_v (by simp; omega)) ?_
        rintro _ _ ⟨rfl, rfl⟩ -
        have hbz := hPy.z
        have hD13 : (mkM t A T).cells.length = 13 := MB.len (mkM_n (by omega)) (mkM_t (by omega))
        have hset := mkM_setT (t := t) (A := A) (B := T) (by omega) (by omega) (stripL ((L.drop at_).take k.toNat))
        simp (config := {maxSteps := 3000000}) only [run_reg, at_code_n, at_blk_n, at_rnd_n, ops_nil, ops_mv, ops_bin, ops_fld, ops_ixa, ops_store, ev_t, ev_c, put_get, put_none, opv_mk, stb_some, sto_ptr, over_get, rel_mk, Stp, vbin, vbinI, norm, vfld, vixa, splice, V.cells, obsOk, List.length_cons, List.length_nil, true_and, Nat.reduceEqDiff, Nat.reduceLT, Nat.reduceLeDiff, Nat.reduceLT, Int.toNat_natCast, Int.reduceNeg, Nat.zero_add, Nat.mul_one, ↓reduceIte, eq_self, Bool.false_eq_true, List.contains_cons, List.contains_nil, Nat.reduceBEq, Bool.or_false, Bool.or_true, h67, h11, h12', hbz, hD13]
        repeat (apply And.intro; focus (first | omega | (simp; done)))
        exact ⟨⟨i + 1, _, A, T ++ [stripL ((L.drop at_).take k.toNat)], by omega, by simp, by first | exact h11 | simp, by simp, by rw [← hset]; exact hPy.pz, by rw [he, List.drop_drop], by simpa using hn, by simp; omega, by omega⟩, by omega⟩
      · have e1' : isTxt k = false := by simp [isTxt]; omega
        have e2' : isNum k = true := by simp [isNum]; omega
        rw [e2'] at hn; rw [e1'] at hq
        simp only [↓reduceIte] at hn
        rw [pS_num (by omega) (by omega)] at he
        have enm := rdNum_in (L := L) (at_ := at_) (k := k) (by omega) (by omega) (by omega)
        have hnr : 0 ≤ numL ((L.drop at_).take k.toNat) ∧ numL ((L.drop at_).take k.toNat) < 4294967296 := by
          have h := numL_range _ ((L.drop at_).take k.toNat) rfl ((hB.drop _).take _)
          have hl : ((L.drop at_).take k.toNat).length = k.toNat := by simp; omega
          rw [hl] at h
          refine ⟨h.1, Int.lt_of_lt_of_le h.2 ?_⟩
          have : k.toNat = 1 ∨ k.toNat = 2 ∨ k.toNat = 4 := by omega
          rcases this with e | e | e <;> rw [e] <;> decide
        have em : numL ((L.drop at_).take k.toNat) % 4294967296 = numL ((L.drop at_).take k.toNat) := by omega
        simp (config := {maxSteps := 3000000}) only [run_skip, run_reg, run_seq, run_blk, run_cond, if_true, if_false, at_code_n, ops_nil, ops_mv, ops_bin, ops_ix, ops_load, ops_call, ev_t, ev_c, put_get, opv_mk, over_get, vnat, vbin, vbinI, vix, vload, takeV, V.cells, List.map_cons, List.map_nil, List.length_cons, List.length_nil, List.getElem?_cons_zero, Option.map_some, and_true, true_and, Nat.reduceEqDiff, Int.toNat_natCast, Nat.zero_add, ↓reduceIte, eq_self, Bool.false_eq_true, List.contains_cons, List.contains_nil, Nat.reduceBEq, Bool.or_false, Bool.or_true, h67, h11, is_get, hk, hlt', d1', decide_eq_false d2]
        repeat (apply And.intro; focus (first | omega | (simp; done)))
        refine Cal.mk (Num_v hP.y (by omega) hB k) ?_
        rintro _ _ ⟨rfl, rfl⟩ -
        rw [enm]
        have hPy := hP.py (Y' := rdr tk L (at_ + k.toNat) false)
        have hbz := hPy.z
        have hD13 : (mkM t A T).cells.length = 13 := MB.len (mkM_n (by omega)) (mkM_t (by omega))
        have hset := mkM_setN (t := t) (A := A) (B := T) (by omega) (numL ((L.drop at_).take k.toNat))
        simp (config := {maxSteps := 3000000}) only [run_reg, at_code_n, at_blk_n, at_rnd_n, ops_nil, ops_mv, ops_bin, ops_conv, ops_fld, ops_ixa, ops_store, ev_t, ev_c, put_get, put_none, opv_mk, stb_some, sto_ptr, over_get, rel_mk, Stp, vbin, vbinI, vconv, norm, vfld, vixa, splice, V.cells, obsOk, List.length_cons, List.length_nil, true_and, Nat.reduceEqDiff, Nat.reduceLT, Nat.reduceLeDiff, Nat.reduceLT, Int.toNat_natCast, Int.reduceNeg, Nat.zero_add, Nat.mul_one, ↓reduceIte, eq_self, Bool.false_eq_true, List.contains_cons, List.contains_nil, Nat.reduceBEq, Bool.or_false, Bool.or_true, h67, h11, h12', em, hbz, hD13]
        repeat (apply And.intro; focus (first | omega | (simp; done)))
        exact ⟨⟨i + 1, _, A ++ [numL ((L.drop at_).take k.toNat)], T, by omega, by simp, by simp, by first | exact h12' | simp, by rw [← hset]; exact hPy.pz, by rw [he, List.drop_drop], by simp; omega, by simpa using hq, by omega⟩, by omega⟩
    · obtain rfl : i = K.length := by omega
      rw [List.drop_of_length_le (Nat.le_refl _)] at he hn hq hat
      simp only [pK, Option.map_some, List.append_nil] at he
      have hx3 := hP.x
      have hbz := hP.z
      simp only [List.countP_nil, Nat.add_zero] at hn hq
      have hv : (mkM t A T).v = .agg (mkM t A T).cells := rfl
      have hD13 : (mkM t A T).cells.length = 13 := MB.len (mkM_n (by omega)) (mkM_t (by omega))
      have htk : (mkM t A T).cells.take 13 = (mkM t A T).cells := List.take_of_length_le (by omega)
      have hdr : zCells.drop 13 = [] := rfl
      have hz13 : zCells.length = 13 := rfl
      have hw5 := fun cs => weak_put (cs := cs) hP.weak hb
      simp (config := {maxSteps := 3000000}) only [run_reg, run_seq, run_exit, run_ret, run_cond, if_false, at_code_n, at_code_x, at_blk_x, at_rnd_x, at_fin_r, ops_nil, ops_mv, ops_bin, ops_load, ops_store, ev_t, ev_c, put_get, put_none, opv_mk, stb_some, sto_ptr, over_get, vnat, Stp, put_box_same, args0, vbin, vbinI, vload, takeV, splice, V.cells, obsOk, List.map_cons, List.map_nil, List.take_zero, List.drop_zero, List.nil_append, List.append_nil, and_true, true_and, Nat.reduceEqDiff, Nat.reduceLT, Nat.reduceLeDiff, Nat.reduceLT, Int.toNat_natCast, Nat.zero_add, ↓reduceIte, vret, rvAll, rvVal, resv_2, decide_false, Int.lt_irrefl, eq_self, Bool.false_eq_true, List.contains_cons, List.contains_nil, Nat.reduceBEq, Bool.or_false, Bool.or_true, h67, hx3, hbz, hD13, htk, hdr, hz13]
      exact ⟨_, _, Wk.refl _, hw5 _, by rw [he]; rfl, rfl⟩
end
end Go.Proofs.Ytogkdcbcmhhhcaa
