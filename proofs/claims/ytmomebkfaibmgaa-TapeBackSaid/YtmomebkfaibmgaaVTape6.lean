/- All records of bytes: contract. -/
import Derived.Test.YtmomebkfaibmgaaVTape5
namespace Go.Proofs.Ytmomebkfaibmgaa
open Go

/-- Records as a slice's elements. -/
def trs (l : List TR) : List V := l.map (TR.v .no .no)
theorem trs_len (l : List TR) : (trs l).length = l.length := by simp [trs]
theorem trs_append (l m : List TR) : trs l ++ trs m = trs (l ++ m) := by simp [trs]
theorem trs_get {l : List TR} {i : Nat} {t : TR} (h : l[i]? = some t) : (trs l)[i]? = some (t.v .no .no) := by simp [trs, h]
theorem allSz_trs : ∀ l : List TR, allSz 10 (trs l)
  | [] => by simp [trs, allSz]
  | p :: l => by
    have := allSz_trs l
    simp only [trs, List.map_cons, allSz, List.mem_cons, forall_eq_or_imp] at this ⊢
    exact ⟨rfl, this⟩
theorem Wk.tupR {a a' : V} {x : Value} (h : Wk a a') : Wk (.tup [a, .sc x]) (.tup [a', .sc x]) := fun G v hv => by
  cases hv with
  | tup _ vs hl hg =>
    refine .tup _ vs hl fun i c u hc hu => ?_
    match i, hc with
    | 0, hc => simp at hc; subst hc; exact h G u (hg 0 a u rfl hu)
    | 1, hc => exact hg 1 c u hc hu
/-- The reader, and the records so far. -/
structure RdR (st s : St) (b : Nat) (R : List V) (r : V) (l : List V) : Prop where
  own : Own 10 s r l
  rb : s.box b = some R
  w : (st.put b R).weak s
  lt : s.Lt
  tok : ∀ g k l', r = .sl (.own g k) l' → max st.sz (b + 1) ≤ g
  hb : st.sz ≤ b
section
variable {st s s' : St} {b : Nat} {R R' : List V} {r r' : V} {l l' : List V}
theorem RdR.setB (h : RdR st s b R r l) : RdR st (s.put b R') b R' r l := ⟨h.own.put, put_box_same, weak_turn h.w, h.lt.put, h.tok, h.hb⟩
theorem RdR.more (h : RdR st s b R r l) {d : Nat} {cs : List V} (hd : s.sz ≤ d) : RdR st (s.put d cs) b R r l := by
  have hbs := h.lt.box b R h.rb
  exact ⟨h.own.put, by rw [put_box_ne (by omega)]; exact h.rb, weak_put h.w (by have := h.w.sz; omega), h.lt.put, h.tok, h.hb⟩
theorem RdR.app (h : RdR st s b R r l) (ho : Own 10 s' r' l') (k : AppSt s r s' r') : RdR st s' b R r' l' :=
  ⟨ho, by rw [k.box]; exact h.rb, k.keeps h.w h.tok, h.lt.app k, k.fresh (t := st.put b R) h.w.sz h.tok, h.hb⟩
theorem RdR.base (h : RdR st s b R r l) (hwf : st.Wf) : st.weak s := (weak_put hwf.weak h.hb).trans h.w
end
section
variable {st : St} {tk : Tk} {L : List Int}
set_option maxRecDepth 100000 in
set_option maxHeartbeats 4000000 in
theorem tRead_v (hB : IsB L) (hL : L.length ≤ 1000000000000) : VCalls Try.prog 14 [.sl tk (bs L)] st fun r st' =>
    ∃ rs n, r = .tup [.sl .no (trs rs), .sc (.int .i64 (n : Nat))] ∧ st = st' ∧ TRun L rs n ∧ pOne (L.drop n) = none := by
  refine vcalls_enter vc14 (Nat.le_of_ble_eq_true rfl) fun hwf hok => ?_
  show Run _ Vc14.body (.fin (finQ Vc14.res _)) _ _
  unfold Vc14
  simp (config := {maxSteps := 3000000}) only [run_reg, run_seq, at_code_n, ops_nil, ops_mv, ops_call, ev_t, ev_c, put_get, opv_mk, args0, List.getD_cons_zero, List.map_cons, List.map_nil, true_and, ↓reduceIte, eq_self, reduceCtorEq]
  refine Cal.mk New_v ?_
  rintro _ _ ⟨b, hb, rfl, rfl⟩ -
  simp (config := {maxSteps := 3000000}) only [run_reg, run_seq, run_blk, at_code_n, ops_nil, ops_mv, ev_t, ev_c, put_get, opv_mk, ptrV, obsOk, true_and, ↓reduceIte, eq_self]
  have R0 : RdR st (st.put b (rdr tk L 0 false)) b (rdr tk L (0 : Nat) false) (.sl .nil []) (trs []) := ⟨.inl ⟨rfl, rfl⟩, put_box_same, (hwf.lt.put (b := b) (cs := rdr tk L (0 : Nat) false)).weak, hwf.lt.put, (fun g k l e => by cases e), hb⟩
  refine run_loop [4, 6, 7, 8, 11, 12, 13, 14, 15, 16, 17, 18, 19, 20, 21, 22, 23, 24, 25, 26, 27, 28, 29] (fun B s => ∃ (rs : List TR) (n : Nat) (r : V), B 6 = .sc (.int .i64 n) ∧ B 4 = r ∧ RdR st s b (rdr tk L n false) r (trs rs) ∧ TRun L rs n) (fun B _ => L.length - vnat (B 6)) rfl ?_ ?_
  · simp (config := {maxSteps := 3000000}) only [put_get, Nat.reduceEqDiff, ↓reduceIte, eq_self]
    exact ⟨[], 0, _, rfl, rfl, R0, TRun.nil _⟩
  · rintro B s ⟨rs, n, r, h6, h4, hr, hrun⟩
    have hle := hrun.le
    simp (config := {maxSteps := 3000000}) only [run_reg, run_seq, ops_mv, ops_call, ev_t, put_get, opv_mk, over_get, vnat, List.map_cons, List.map_nil, true_and, Nat.reduceEqDiff, ↓reduceIte, eq_self, Bool.false_eq_true, List.contains_cons, List.contains_nil, Nat.reduceBEq, Bool.or_false]
    refine Cal.mk (Left_v hr.rb hle.1) ?_
    rintro _ _ ⟨rfl, rfl⟩ -
    by_cases hlt : n < L.length
    case neg =>
      simp (config := {maxSteps := 3000000}) only [run_reg, run_seq, run_exit, run_ret, run_cond, if_false, at_code_n, at_code_x, at_blk_x, at_rnd_x, at_fin_r, ops_nil, ops_mv, ops_bin, ev_t, ev_c, put_get, opv_mk, over_get, args0, vbin, vbinI, vload, takeV, V.cells, obsOk, List.map_cons, List.map_nil, and_true, true_and, Nat.reduceEqDiff, Int.toNat_natCast, ↓reduceIte, vret, rvAll, rvVal, resv_2, eq_self, List.contains_cons, List.contains_nil, Nat.reduceBEq, Bool.or_false, Bool.or_true, h4, h6, decide_eq_false (show ¬ (L.length : Int) - n > 0 by omega)]
      obtain ⟨tk9, h9⟩ := hr.own.sl
      rw [h9]
      exact ⟨_, _, Wk.tupR Wk.no, hr.base hwf, rs, n, rfl, rfl, hrun, pOne_nil (by simp; omega)⟩
    simp (config := {maxSteps := 3000000}) only [run_skip, run_reg, run_seq, run_blk, run_cond, if_true, at_code_n, ops_nil, ops_mv, ops_bin, ops_call, ev_t, ev_c, put_get, opv_mk, over_get, vbin, vbinI, obsOk, List.map_cons, List.map_nil, true_and, Nat.reduceEqDiff, Int.toNat_natCast, ↓reduceIte, eq_self, Bool.false_eq_true, List.contains_cons, List.contains_nil, Nat.reduceBEq, Bool.or_false, h6, decide_eq_true (show (L.length : Int) - n > 0 by omega)]
    refine Cal.mk (one_v hr.rb hlt hB hL) ?_
    rintro _ _ ⟨t1, t2, t, ok, at', bad', rfl, rfl, ho, hat⟩ -
    have hr1 := hr.setB (R' := rdr tk L at' bad')
    generalize s.put b _ = s1 at hr1 ⊢
    simp (config := {maxSteps := 3000000}) only [run_reg, run_seq, run_cond, at_code_n, ops_nil, ops_mv, ops_un, ops_ext, ops_alc, ops_store, ev_t, put_get, put_none, opv_mk, stb_some, sto_ptr, Stp, put_box_same, put_put, vun, vext, splice, V.cells, ptrV, obsOk, List.length_cons, List.length_nil, List.getElem?_cons_zero, List.getElem?_cons_succ, List.take_zero, List.drop_succ_cons, List.nil_append, List.append_nil, List.drop_nil, true_and, Nat.reduceEqDiff, Nat.reduceAdd, Nat.reduceLT, Nat.reduceLeDiff, Nat.reduceLT, Nat.zero_add, ↓reduceIte, eq_self, TR.v]
    intro d hd
    have hr2 := fun cs : List V => hr1.more (cs := cs) hd
    cases ok with
    | false =>
      have hnone : pOne (L.drop n) = none := by
        unfold OneIs at ho
        split at ho
        · assumption
        · cases ho.1
      simp (config := {maxSteps := 3000000}) only [run_reg, run_seq, run_exit, run_ret, if_true, at_code_n, at_code_x, at_blk_x, at_rnd_x, at_fin_r, ops_nil, ops_mv, ev_t, put_get, opv_mk, over_get, args0, vload, takeV, V.cells, List.map_cons, List.map_nil, and_true, true_and, Nat.reduceEqDiff, ↓reduceIte, vret, rvAll, rvVal, resv_2, Bool.not_false, eq_self, reduceCtorEq, List.contains_cons, List.contains_nil, Nat.reduceBEq, Bool.or_false, Bool.or_true, h4, h6]
      obtain ⟨tk9, h9⟩ := hr.own.sl
      rw [h9]
      exact ⟨_, _, Wk.tupR Wk.no, (hr2 _).base hwf, rs, n, rfl, rfl, hrun, hnone⟩
    | true =>
      obtain ⟨k, hp, rfl, rfl⟩ : ∃ k, pOne (L.drop n) = some (t, k) ∧ at' = n + k ∧ bad' = false := by
        unfold OneIs at ho
        split at ho
        · cases ho
        · rename_i t' k he
          obtain ⟨-, rfl, h3, h4⟩ := ho
          exact ⟨k, he, h3, h4⟩
      have hrun' := TRun.snoc hrun hp
      have hle' := hrun'.le
      rw [List.length_append, List.length_singleton] at hle'
      simp (config := {maxSteps := 3000000}) only [run_skip, run_reg, run_seq, if_false, at_code_n, ops_mv, ops_load, ops_bsl, ops_app, ev_t, put_get, opv_mk, over_get, vbsl, put_box_same, vload, takeV, V.cells, strip, strip1, allLen, List.map_cons, List.map_nil, List.length_cons, List.length_nil, List.take_succ_cons, List.drop_zero, List.take_nil, and_true, true_and, Nat.reduceEqDiff, Nat.reduceAdd, Nat.reduceLeDiff, Nat.zero_add, ↓reduceIte, Bool.not_true, eq_self, List.contains_cons, List.contains_nil, Nat.reduceBEq, Bool.or_false, h4]
      refine App.mk (l := trs rs) (ys := trs [t]) (hr2 _).own (allSz_trs _) (by simp only [trs_len, List.length_cons, List.length_nil, maxLen]; omega) (by simp only [trs_len, List.length_cons, List.length_nil]; omega) ?_
      intro r2 s2 k1 k2
      rw [trs_append] at k1
      have hr3 := (hr2 _).app k1 k2
      simp (config := {maxSteps := 3000000}) only [run_reg, at_code_n, ops_nil, ops_mv, ops_len, ops_call, ev_t, put_get, opv_mk, over_get, args0, List.getD_cons_zero, vlen, obsOk, List.map_cons, List.map_nil, true_and, Nat.reduceEqDiff, ↓reduceIte, eq_self, reduceCtorEq, Bool.false_eq_true, List.contains_cons, List.contains_nil, Nat.reduceBEq, Bool.or_false, bs_len]
      refine Cal.mk (Left_v hr3.rb hle'.1) ?_
      rintro _ _ ⟨rfl, rfl⟩ -
      have hm : (L.length : Int) - ((L.length : Int) - ((n + k : Nat) : Int)) = ((n + k : Nat) : Int) := by omega
      simp (config := {maxSteps := 3000000}) only [at_blk_n, at_rnd_n, ops_nil, ops_mv, ops_bin, ev_t, put_get, opv_mk, rel_mk, vbin, vbinI, norm, obsOk, true_and, Nat.reduceEqDiff, Int.toNat_natCast, Int.reduceNeg, ↓reduceIte, eq_self, hm]
      repeat (apply And.intro; focus (first | omega | (simp; done)))
      exact ⟨⟨rs ++ [t], n + k, r2, rfl, rfl, hr3, hrun'⟩, by have := pOne_pos hp; omega⟩
end
end Go.Proofs.Ytmomebkfaibmgaa
