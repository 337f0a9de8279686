/- frag.Cut and the document's (catwalkref54.Cut): contracts. -/
import Derived.Test.YtbmkohmhiafphaaVFragLaw
import Derived.Laws.BitsAllLaws
namespace Go.Proofs.Ytbmkohmhiafphaa
open Go Go.RowKit

/-- A row of the call's own, beside the caller's boxes. -/
structure RB (base s : St) (r : V) (l : List V) : Prop where
  own : Own 1 s r l
  weak : base.weak s
  lt : s.Lt
  tok : ∀ g k l', r = .sl (.own g k) l' → base.sz ≤ g
theorem RB.put {base s : St} {r : V} {l : List V} (h : RB base s r l) {c : Nat} {cs : List V} (hc : s.sz ≤ c) : RB base (s.put c cs) r l :=
  ⟨h.own.put, weak_put h.weak (by have := h.weak.sz; omega), h.lt.put, h.tok⟩
theorem RB.app {base s s' : St} {x r : V} {l l' : List V} (h : RB base s x l) (ho : Own 1 s' r l') (k : AppSt s x s' r) : RB base s' r l' :=
  ⟨ho, k.keeps h.weak h.tok, h.lt.app k, k.fresh h.weak.sz h.tok⟩
theorem Wk.tup2 {a a' : V} {x : Value} (h : Wk a a') : Wk (.tup [a, .sc x]) (.tup [a', .sc x]) := fun G v hv => by
  cases hv with
  | tup _ vs hl hg =>
    refine .tup _ vs hl fun i c u hc hu => ?_
    match i, hc with
    | 0, hc => simp at hc; subst hc; exact h G u (hg 0 a u rfl hu)
    | 1, hc => exact hg 1 c u hc hu
theorem u16_mask14 {x : Int} (h0 : 0 ≤ x) (h1 : x < 65536) : ibit .and .u16 x 16383 = x % 16384 := by
  have := u16_and x 16383 h0 h1 (by omega) (by omega)
  rw [ibit_and, this, show (16383 : Int).toNat = 2 ^ 14 - 1 from rfl, Nat.and_two_pow_sub_one_eq_mod]
  omega
theorem u16_join13 {x y : Int} (h0 : x = 0 ∨ x = 32768) (h1 : 0 ≤ y) (h2 : y < 8192) : ibit .or .u16 x y = x + y := by
  have := u16_or x y (by omega) (by omega) h1 (by omega)
  rw [ibit_or, this, nat_join 13 _ _ (by rcases h0 with rfl | rfl <;> rfl) (by omega)]
  omega
theorem u16_more {x y : Int} (h0 : x = 0 ∨ x = 32768) (h1 : 0 ≤ y) (h2 : y < 8192) : ibit .or .u16 (x + y) 8192 = x + y + 8192 := by
  have h3 := u16_or (x + y) 8192 (by omega) (by omega) (by omega) (by omega)
  have h4 : (x + y).toNat = x.toNat ||| y.toNat := by rw [nat_join 13 _ _ (by rcases h0 with rfl | rfl <;> rfl) (by omega)]; omega
  rw [ibit_or, h3, h4, Nat.or_assoc, Nat.or_comm y.toNat, show (8192 : Int).toNat = 8192 from rfl, nat_join 13 8192 _ rfl (by omega), nat_join 14 _ _ (by rcases h0 with rfl | rfl <;> rfl) (by omega)]
  omega

section
variable {tk tk' : Tk} {st : St} {L : List Int}
theorem fragCut_v (hB : IsB L) (hL : L.length ≤ 2000) (most : Int) : VCalls Try.prog 38 [.sl tk (bs L), .sc (.int .i64 most)] st fun r st' => r = .tup [.sl .no (rws (fragR L most)), .sc (.int .i64 (fragE L most))] ∧ st = st' := by
  refine vcalls_enter vc38 (Nat.le_of_ble_eq_true rfl) fun hwf hok => ?_
  show Run _ Vc38.body (.fin (finQ Vc38.res _)) _ _
  unfold Vc38
  simp (config := {maxSteps := 3000000}) only [run_reg, run_seq, at_code_n, ops_nil, ops_mv, ops_call, ev_t, ev_c, put_get, opv_mk, args0, List.getD_cons_zero, List.map_cons, List.map_nil, true_and, ↓reduceIte, eq_self, reduceCtorEq]
  refine Cal.mk (ip4Parse_v hB (by omega)) ?_
  rintro _ _ ⟨⟨tk1, tk2, rfl⟩, rfl⟩ -
  have hlim := ipD_lim hB
  have hE : fragE L most = if ipE L ≠ 0 ∨ (ipD L).frag % 16384 ≠ 0 then 11 else if 20 + ((ipD L).O.length : Int) + (ipD L).D.length ≤ most then 0 else if 16384 ≤ (ipD L).frag % 32768 then 73 else if most < 28 + ((ipD L).O.length : Int) then 12 else 0 := rfl
  have hR : fragR L most = if ipE L ≠ 0 ∨ (ipD L).frag % 16384 ≠ 0 then [] else if 20 + ((ipD L).O.length : Int) + (ipD L).D.length ≤ most then [L.take (20 + (ipD L).O.length + (ipD L).D.length)] else if 16384 ≤ (ipD L).frag % 32768 then [] else if most < 28 + ((ipD L).O.length : Int) then [] else piecesTo (ipD L) (stepOf (ipD L) most) (nPieces (ipD L) (stepOf (ipD L) most)) := rfl
  generalize fragE L most = E at *
  generalize fragR L most = R at *
  generalize ipE L = e at *
  generalize ipD L = d at *
  have g1 := fun (tk tk' : Tk) (q : DG) (hq : q.Ok) (h1 : q.O.length ≤ 1000000000000) (h2 : q.D.length ≤ 1000000000000) (st : St) => ipBuild_v (tk := tk) (tk' := tk') (st := st) q hq h1 h2
  by_cases he : e = 0
  rotate_left
  · rw [if_pos (.inl he)] at hE hR
    subst hE hR
    obtain ⟨tos, ttl, proto, id, frag, src, dst, O, D⟩ := d
    simp (config := {maxSteps := 3000000}) only [run_reg, run_seq, run_blk, at_code_n, ops_nil, ops_grd, ops_mv, ops_bin, ops_ext, ops_alc, ops_store, ev_t, ev_c, put_get, put_none, opv_mk, stb_some, sto_ptr, Stp, put_box_same, put_put, vbin, vbinI, vext, splice, V.cells, ptrV, obsOk, List.length_cons, List.length_nil, List.getElem?_cons_zero, List.getElem?_cons_succ, List.take_zero, List.drop_succ_cons, List.nil_append, List.append_nil, List.drop_nil, true_and, Nat.reduceEqDiff, Nat.reduceAdd, Nat.reduceLT, Nat.reduceLeDiff, Nat.reduceLT, Nat.zero_add, ↓reduceIte, ne_eq, eq_self, DG.v]
    intro b hb
    simp (config := {maxSteps := 3000000}) only [run_reg, run_seq, run_ret, run_cond, if_true, at_code_n, at_code_r, at_blk_r, at_fin_r, ops_nil, ops_grd, grd_tf, ops_mv, ops_pick, ev_t, ev_c, put_get, opv_mk, args0, vpick, vload, takeV, V.cells, List.map_cons, List.map_nil, and_true, true_and, Nat.reduceEqDiff, ↓reduceIte, vret, rvAll, rvVal, resv_2, eq_self, decide_eq_true he]
    exact ⟨_, _, Wk.tup2 Wk.no, weak_put hwf.weak hb, rfl, rfl⟩
  subst he
  have hlim := hlim rfl
  have hfr := hlim.ok.frag
  by_cases hf : d.frag % 16384 = 0
  rotate_left
  · rw [if_pos (.inr hf)] at hE hR
    subst hE hR
    obtain ⟨tos, ttl, proto, id, frag, src, dst, O, D⟩ := d
    simp only at hf hfr
    have hm := u16_mask14 hfr.1 hfr.2
    have hd := decide_eq_true (p := ¬ frag % 16384 = 0) hf
    simp (config := {maxSteps := 3000000}) only [run_reg, run_seq, run_blk, run_cond, at_code_n, ops_nil, ops_grd, grd_ff, ops_mv, ops_pick, ops_bin, ops_fld, ops_load, ops_ext, ops_alc, ops_store, ev_t, ev_c, put_get, put_none, opv_mk, stb_some, sto_ptr, Stp, put_box_same, put_put, vpick, vbin, vbinI, vfld, vext, vload, takeV, splice, V.cells, ptrV, obsOk, List.length_cons, List.length_nil, List.getElem?_cons_zero, List.getElem?_cons_succ, List.take_zero, List.drop_succ_cons, List.nil_append, List.append_nil, List.drop_nil, true_and, Nat.reduceEqDiff, Nat.reduceAdd, Nat.reduceLT, Nat.reduceLeDiff, Nat.reduceLT, Nat.zero_add, ↓reduceIte, decide_false, ne_eq, not_true_eq_false, eq_self, Bool.false_eq_true, DG.v]
    intro b hb
    simp (config := {maxSteps := 3000000}) only [run_reg, run_seq, run_ret, if_true, at_code_n, at_code_r, at_blk_r, at_fin_r, ops_nil, ops_mv, ev_c, put_get, opv_mk, args0, vload, takeV, V.cells, List.map_cons, List.map_nil, and_true, true_and, Nat.reduceEqDiff, ↓reduceIte, vret, rvAll, rvVal, resv_2, eq_self, hm, hd]
    exact ⟨_, _, Wk.tup2 Wk.no, weak_put hwf.weak hb, rfl, rfl⟩
  rw [if_neg (by simp [hf])] at hE hR
  have hlen := hlim.len
  by_cases h1 : 20 + (d.O.length : Int) + d.D.length ≤ most
  · rw [if_pos h1] at hE hR
    subst hE hR
    obtain ⟨tos, ttl, proto, id, frag, src, dst, O, D⟩ := d
    simp only at hf hfr hlen h1
    have hm := u16_mask14 hfr.1 hfr.2
    have hd := decide_eq_false (p := ¬ frag % 16384 = 0) (by omega)
    have hn : (20 + (O.length : Int) + (D.length : Int)).toNat = 20 + O.length + D.length := by omega
    simp (config := {maxSteps := 3000000}) only [run_reg, run_seq, run_blk, run_cond, at_code_n, ops_nil, ops_grd, grd_ff, ops_mv, ops_pick, ops_bin, ops_fld, ops_load, ops_ext, ops_alc, ops_store, ev_t, ev_c, put_get, put_none, opv_mk, stb_some, sto_ptr, Stp, put_box_same, put_put, vpick, vbin, vbinI, vfld, vext, vload, takeV, splice, V.cells, ptrV, obsOk, List.length_cons, List.length_nil, List.getElem?_cons_zero, List.getElem?_cons_succ, List.take_zero, List.drop_succ_cons, List.nil_append, List.append_nil, List.drop_nil, true_and, Nat.reduceEqDiff, Nat.reduceAdd, Nat.reduceLT, Nat.reduceLeDiff, Nat.reduceLT, Nat.zero_add, ↓reduceIte, decide_false, ne_eq, not_true_eq_false, eq_self, Bool.false_eq_true, DG.v]
    intro b hb
    simp (config := {maxSteps := 3000000}) only [run_reg, run_seq, run_cond, if_true, if_false, at_code_n, ops_nil, ops_mv, ops_bin, ops_fld, ops_load, ops_len, ops_slc, ops_bslo, ev_t, ev_c, put_get, opv_mk, put_box_same, args0, List.getD_cons_zero, List.getD_cons_succ, vbin, vbinI, norm, vfld, vlen, vload, takeV, vslc, V.cells, strip, strip1, List.map_cons, List.map_nil, List.length_cons, List.length_nil, List.getElem?_cons_zero, List.getElem?_cons_succ, Option.map_some, Option.map_none, true_and, Nat.reduceEqDiff, Int.reduceNeg, Nat.zero_add, ↓reduceIte, eq_self, reduceCtorEq, hm, hd, bs_len, decide_eq_true h1, bs_take, allSz_bs', hn]
    repeat (apply And.intro; focus (first | omega | (simp; done)))
    refine Bo.own (by simp [allLen, V.cells]) ?_
    intro g hg
    simp (config := {maxSteps := 3000000}) only [run_ret, at_code_n, at_code_r, at_blk_r, at_fin_r, ops_nil, ops_mv, ev_t, ev_c, put_get, opv_mk, use_box, args0, vload, takeV, V.cells, obsOk, List.map_cons, List.map_nil, List.length_cons, List.length_nil, and_true, true_and, Nat.reduceEqDiff, Nat.zero_add, ↓reduceIte, vret, rvAll, rvVal, resv_2, eq_self]
    exact ⟨_, _, Wk.tup2 Wk.no, weak_use (weak_put hwf.weak hb) (by simp only [put_sz] at hg; omega), rfl, rfl⟩
  rw [if_neg h1] at hE hR
  have hm2 : ibit .and .u16 d.frag 16384 = if 16384 ≤ d.frag % 32768 then 16384 else 0 := by
    have : d.frag = 0 ∨ d.frag = 16384 ∨ d.frag = 32768 ∨ d.frag = 49152 := by omega
    rcases this with h | h | h | h <;> rw [h] <;> decide
  by_cases h2 : 16384 ≤ d.frag % 32768
  · rw [if_pos h2] at hE hR hm2
    subst hE hR
    obtain ⟨tos, ttl, proto, id, frag, src, dst, O, D⟩ := d
    simp only at hf hfr hlen h1 hm2
    have hm := u16_mask14 hfr.1 hfr.2
    have hd := decide_eq_false (p := ¬ frag % 16384 = 0) (by omega)
    simp (config := {maxSteps := 3000000}) only [run_reg, run_seq, run_blk, run_cond, at_code_n, ops_nil, ops_grd, grd_ff, ops_mv, ops_pick, ops_bin, ops_fld, ops_load, ops_ext, ops_alc, ops_store, ev_t, ev_c, put_get, put_none, opv_mk, stb_some, sto_ptr, Stp, put_box_same, put_put, vpick, vbin, vbinI, vfld, vext, vload, takeV, splice, V.cells, ptrV, obsOk, List.length_cons, List.length_nil, List.getElem?_cons_zero, List.getElem?_cons_succ, List.take_zero, List.drop_succ_cons, List.nil_append, List.append_nil, List.drop_nil, true_and, Nat.reduceEqDiff, Nat.reduceAdd, Nat.reduceLT, Nat.reduceLeDiff, Nat.reduceLT, Nat.zero_add, ↓reduceIte, decide_false, ne_eq, not_true_eq_false, eq_self, Bool.false_eq_true, DG.v]
    intro b hb
    simp (config := {maxSteps := 3000000}) only [run_reg, run_seq, run_ret, run_cond, if_true, if_false, at_code_n, at_code_r, at_blk_r, at_fin_r, ops_nil, ops_mv, ops_bin, ops_fld, ops_load, ops_len, ev_t, ev_c, put_get, opv_mk, put_box_same, args0, List.getD_cons_zero, List.getD_cons_succ, vbin, vbinI, norm, vfld, vlen, vload, takeV, V.cells, List.map_cons, List.map_nil, List.length_cons, List.length_nil, List.getElem?_cons_zero, List.getElem?_cons_succ, and_true, true_and, Nat.reduceEqDiff, Int.reduceNeg, Int.reduceEq, Nat.zero_add, ↓reduceIte, vret, rvAll, rvVal, resv_2, decide_true, ne_eq, not_false_eq_true, eq_self, hm, hd, bs_len, decide_eq_false h1, hm2]
    repeat (apply And.intro; focus (first | omega | (simp; done)))
    exact ⟨_, _, Wk.tup2 Wk.no, weak_put hwf.weak hb, rfl, rfl⟩
  rw [if_neg h2] at hE hR hm2
  by_cases h3 : most < 28 + (d.O.length : Int)
  · rw [if_pos h3] at hE hR
    subst hE hR
    obtain ⟨tos, ttl, proto, id, frag, src, dst, O, D⟩ := d
    simp only at hf hfr hlen h1 hm2 h3
    have hm := u16_mask14 hfr.1 hfr.2
    have hd := decide_eq_false (p := ¬ frag % 16384 = 0) (by omega)
    simp (config := {maxSteps := 3000000}) only [run_reg, run_seq, run_blk, run_cond, at_code_n, ops_nil, ops_grd, grd_ff, ops_mv, ops_pick, ops_bin, ops_fld, ops_load, ops_ext, ops_alc, ops_store, ev_t, ev_c, put_get, put_none, opv_mk, stb_some, sto_ptr, Stp, put_box_same, put_put, vpick, vbin, vbinI, vfld, vext, vload, takeV, splice, V.cells, ptrV, obsOk, List.length_cons, List.length_nil, List.getElem?_cons_zero, List.getElem?_cons_succ, List.take_zero, List.drop_succ_cons, List.nil_append, List.append_nil, List.drop_nil, true_and, Nat.reduceEqDiff, Nat.reduceAdd, Nat.reduceLT, Nat.reduceLeDiff, Nat.reduceLT, Nat.zero_add, ↓reduceIte, decide_false, ne_eq, not_true_eq_false, eq_self, Bool.false_eq_true, DG.v]
    intro b hb
    simp (config := {maxSteps := 3000000}) only [run_reg, run_seq, run_ret, run_cond, if_true, if_false, at_code_n, at_code_r, at_blk_r, at_fin_r, ops_nil, ops_mv, ops_bin, ops_fld, ops_load, ops_len, ev_t, ev_c, put_get, opv_mk, put_box_same, args0, List.getD_cons_zero, List.getD_cons_succ, vbin, vbinI, norm, vfld, vlen, vload, takeV, V.cells, List.map_cons, List.map_nil, List.length_cons, List.length_nil, List.getElem?_cons_zero, List.getElem?_cons_succ, and_true, true_and, Nat.reduceEqDiff, Int.reduceNeg, Nat.zero_add, ↓reduceIte, vret, rvAll, rvVal, resv_2, decide_false, ne_eq, not_true_eq_false, eq_self, hm, hd, bs_len, decide_eq_false h1, hm2, decide_eq_true h3]
    repeat (apply And.intro; focus (first | omega | (simp; done)))
    exact ⟨_, _, Wk.tup2 Wk.no, weak_put hwf.weak hb, rfl, rfl⟩
  rw [if_neg h3] at hE hR
  have g2 := fun (tk tk' : Tk) (step at_ : Nat) (ha : at_ < d.D.length) (st : St) => by
    have hp := piece_ok (step := step) hlim hL (by omega) ha
    have := g1 tk tk' (pieceD d step at_) hp.1 (by have := hp.2.1; omega) (by have := hp.2.2; omega) st
    rw [if_pos hp.2] at this
    exact this
  have hst : (stepOf d most : Int) = (most - 20 - d.O.length) / 8 * 8 := by unfold stepOf; omega
  have hs8 : 8 ≤ stepOf d most := by omega
  have hnp := fun j => nPieces_at (d := d) (step := stepOf d most) (j := j) (by omega)
  have hsu := piecesTo_succ d (stepOf d most)
  have hp0 : piecesTo d (stepOf d most) 0 = [] := rfl
  have hpl : ∀ n, (piecesTo d (stepOf d most) n).length = n := fun n => by simp [piecesTo]
  have h4 : d.frag = 0 ∨ d.frag = 32768 := by omega
  clear g1
  have hlim' := hlim
  generalize stepOf d most = step at *
  generalize nPieces d step = nP at *
  generalize hPT : piecesTo d step = PT at *
  subst hE hR
  obtain ⟨tos, ttl, proto, id, frag, src, dst, O, D⟩ := d
  simp only [pieceD, DG.v] at g2
  simp only at hf hfr hlen h1 hm2 h3 hst hnp h4
  have hm := u16_mask14 hfr.1 hfr.2
  have hd := decide_eq_false (p := ¬ frag % 16384 = 0) (by omega)
  simp (config := {maxSteps := 3000000}) only [run_reg, run_seq, run_blk, run_cond, at_code_n, ops_nil, ops_grd, grd_ff, ops_mv, ops_pick, ops_bin, ops_fld, ops_load, ops_ext, ops_alc, ops_store, ev_t, ev_c, put_get, put_none, opv_mk, stb_some, sto_ptr, Stp, put_box_same, put_put, vpick, vbin, vbinI, vfld, vext, vload, takeV, splice, V.cells, ptrV, obsOk, List.length_cons, List.length_nil, List.getElem?_cons_zero, List.getElem?_cons_succ, List.take_zero, List.drop_succ_cons, List.nil_append, List.append_nil, List.drop_nil, true_and, Nat.reduceEqDiff, Nat.reduceAdd, Nat.reduceLT, Nat.reduceLeDiff, Nat.reduceLT, Nat.zero_add, ↓reduceIte, decide_false, ne_eq, not_true_eq_false, eq_self, Bool.false_eq_true, DG.v]
  intro b hb
  simp (config := {maxSteps := 3000000}) only [run_skip, run_reg, run_seq, run_blk, run_cond, if_false, at_code_n, at_blk_n, ops_nil, ops_mv, ops_bin, ops_fld, ops_load, ops_len, ev_t, ev_c, put_get, opv_mk, put_box_same, args0, List.getD_cons_zero, List.getD_cons_succ, vbin, vbinI, norm, vfld, vlen, vload, takeV, V.cells, List.length_cons, List.length_nil, List.getElem?_cons_zero, List.getElem?_cons_succ, true_and, Nat.reduceEqDiff, Int.reduceLT, Int.reduceNeg, Nat.zero_add, ↓reduceIte, decide_false, ne_eq, not_true_eq_false, eq_self, hm, hd, bs_len, decide_eq_false h1, hm2, decide_eq_false h3, ← hst]
  repeat (apply And.intro; focus (first | omega | (simp; done)))
  obtain ⟨CS, hCS⟩ : ∃ CS : List V, CS = [.sc (.int .u8 tos), .sc (.int .u8 ttl), .sc (.int .u8 proto), .sc (.int .u16 id), .sc (.int .u16 frag), .sc (.int .u32 src), .sc (.int .u32 dst), .sl tk1 (bs O), .sl tk2 (bs D)] := ⟨_, rfl⟩
  have hb1 : (st.put b CS).box b = some CS := put_box_same
  have R0 : RB (st.put b CS) (st.put b CS) (.sl .nil []) (rws (PT 0)) := ⟨.inl ⟨rfl, by rw [hp0]; rfl⟩, hwf.lt.put.weak, hwf.lt.put, fun g k l e => by cases e⟩
  rw [← hCS]
  refine run_loop [9, 10, 11, 12, 13, 70, 71, 72, 73, 74, 75, 76, 77, 78, 79, 80, 81, 82, 83, 84, 85, 86, 87, 88, 89, 90, 91, 92, 93, 94, 95, 96, 97, 98, 99, 100, 101, 102, 103, 104, 105, 106, 107, 108, 109, 110, 111, 112, 113, 114, 115, 116, 117] (fun B s => ∃ j r, j ≤ nP ∧ B 10 = .sc (.int .i64 ((j * step : Nat) : Int)) ∧ B 9 = r ∧ RB (st.put b CS) s r (rws (PT j))) (fun B _ => D.length + step - vnat (B 10)) rfl ?_ ?_
  · simp (config := {maxSteps := 3000000}) only [put_get, Nat.reduceEqDiff, ↓reduceIte, eq_self]
    exact ⟨0, _, by omega, by simp, rfl, R0⟩
  · rintro B s ⟨j, r, hj, h10, rfl, hr⟩
    have hsb := (hr.weak.box b _ hb1).1
    have hbs := (hr.weak.box b _ hb1).2
    have hj2 : j ≤ j * step := Nat.le_mul_of_pos_right j (by omega)
    have hjl := hpl j
    by_cases hlt : j * step < D.length
    · have hjn := (hnp j).1 hlt
      have hlt' := decide_eq_true (show ((j * step : Nat) : Int) < (D.length : Int) by omega)
      generalize hat : j * step = at_ at *
      have e8 : ((at_ : Int) / 8) % 65536 = (at_ : Int) / 8 := by omega
      have hj13 := u16_join13 (x := frag) (y := (at_ : Int) / 8) h4 (by omega) (by omega)
      have hmore := u16_more (x := frag) (y := (at_ : Int) / 8) h4 (by omega) (by omega)
      subst hCS
      simp (config := {maxSteps := 3000000}) only [run_skip, run_reg, run_seq, run_blk, run_cond, if_true, at_code_n, ops_nil, ops_mv, ops_bin, ops_fld, ops_load, ops_len, ops_alc, ops_store, ev_t, put_get, put_none, opv_mk, stb_some, sto_ptr, over_get, vnat, Stp, put_box_same, put_put, vbin, vbinI, vfld, vlen, vload, takeV, splice, V.cells, ptrV, obsOk, List.length_cons, List.length_nil, List.getElem?_cons_zero, List.getElem?_cons_succ, List.take_succ_cons, List.take_zero, List.drop_succ_cons, List.drop_zero, List.nil_append, List.append_nil, List.take_nil, List.drop_nil, true_and, Nat.reduceEqDiff, Nat.reduceAdd, Nat.reduceLT, Nat.reduceLeDiff, Nat.reduceLT, Int.toNat_natCast, Nat.zero_add, ↓reduceIte, eq_self, Bool.false_eq_true, List.contains_cons, List.contains_nil, Nat.reduceBEq, Bool.or_false, Bool.or_true, h10, hsb, bs_len, hlt']
      intro c hc
      have hbc : b < c := by have := hr.weak.sz; simp only [put_sz] at this; omega
      have hT1 : ((at_ : Int) + step).toNat = at_ + step := by omega
      by_cases c1 : at_ + step < D.length
      · have g2 := g2 tk1 .no step at_ hlt (s.put c [.sc (.int .u8 tos), .sc (.int .u8 ttl), .sc (.int .u8 proto), .sc (.int .u16 id), .sc (.int .u16 (frag + at_ / 8 + 8192)), .sc (.int .u32 src), .sc (.int .u32 dst), .sl tk1 (bs O), .sl .no (bs ((D.drop at_).take step))])
        rw [if_pos c1] at g2
        have hmin : min ((at_ : Int) + step) (D.length : Int) = at_ + step := by omega
        have hsl : (D.take (at_ + step)).drop at_ = (D.drop at_).take step := by rw [List.drop_take]; congr 1; omega
        have hlt2 := decide_eq_true (show (at_ : Int) + step < (D.length : Int) by omega)
        simp (config := {maxSteps := 3000000}) only [run_reg, run_seq, run_cond, if_true, at_code_n, ops_nil, ops_mv, ops_bin, ops_conv, ops_fld, ops_load, ops_len, ops_mn, ops_slc, ops_store, ops_call, ev_t, ev_c, put_get, put_none, opv_mk, stb_some, sto_ptr, over_get, Stp, put_box_same, put_put, vbin, vbinI, vconv, norm, vfld, vlen, vmm, vload, takeV, vslc, splice, V.cells, obsOk, List.map_cons, List.map_nil, List.length_cons, List.length_nil, List.getElem?_cons_zero, List.getElem?_cons_succ, List.take_succ_cons, List.take_zero, List.drop_succ_cons, List.drop_zero, List.cons_append, List.nil_append, List.append_nil, List.take_nil, List.drop_nil, Option.map_some, true_and, Nat.reduceEqDiff, Nat.reduceAdd, Nat.reduceLT, Nat.reduceLeDiff, Nat.reduceLT, Int.toNat_natCast, Int.reduceLT, Int.reduceNeg, Nat.zero_add, ↓reduceIte, eq_self, Bool.false_eq_true, List.contains_cons, List.contains_nil, Nat.reduceBEq, Bool.or_false, Bool.or_true, h10, put_box_ne (Nat.ne_of_lt hbc), hsb, allSz_bs', bs_len, hmin, hT1, bs_take, bs_drop, hsl, e8, hj13, hlt2, hmore]
        repeat (apply And.intro; focus (first | omega | (simp; done)))
        refine Cal.mk g2 ?_
        rintro _ _ ⟨rfl, rfl⟩ -
        have hpc : ∀ X, X = ipB (pieceD ⟨tos, ttl, proto, id, frag, src, dst, O, D⟩ step at_) → PT (j + 1) = PT j ++ [X] := fun X h => by rw [hsu j, hat, h]
        have hpc := hpc _ (show ipB ⟨tos, ttl, proto, id, frag + (at_ : Int) / 8 + 8192, src, dst, O, (D.drop at_).take step⟩ = _ by simp only [pieceD]; rw [if_pos c1])
        generalize ipB ⟨tos, ttl, proto, id, frag + (at_ : Int) / 8 + 8192, src, dst, O, (D.drop at_).take step⟩ = X at *
        simp (config := {maxSteps := 3000000}) only [run_reg, at_code_n, ops_nil, ops_mv, ops_ext, ops_bsl, ops_app, ev_t, put_get, opv_mk, over_get, vbsl, vext, V.cells, strip, strip1, allLen, obsOk, List.map_cons, List.map_nil, List.length_cons, List.length_nil, List.getElem?_cons_zero, List.getElem?_cons_succ, and_true, true_and, Nat.reduceEqDiff, Nat.zero_add, ↓reduceIte, eq_self, List.contains_cons, List.contains_nil, Nat.reduceBEq, Bool.or_false]
        refine App.mk (l := rws (PT j)) (ys := rws [X]) (hr.put hc).own (allSz_rws _) (by simp only [rws_len, List.length_cons, List.length_nil, maxLen]; omega) (by simp only [rws_len, List.length_cons, List.length_nil]; omega) ?_
        intro r2 s2 k1 k2
        rw [rws_append, ← hpc] at k1
        have R2 := (hr.put hc).app k1 k2
        simp (config := {maxSteps := 3000000}) only [run_reg, at_code_n, at_blk_n, at_rnd_n, ops_nil, ops_mv, ops_bin, ev_t, put_get, opv_mk, over_get, rel_mk, vbin, vbinI, norm, obsOk, true_and, Nat.reduceEqDiff, Int.reduceNeg, ↓reduceIte, eq_self, Bool.false_eq_true, List.contains_cons, List.contains_nil, Nat.reduceBEq, Bool.or_false, Bool.or_true, h10]
        repeat (apply And.intro; focus (first | omega | (simp; done)))
        exact ⟨⟨j + 1, _, by omega, by rw [Nat.add_mul, hat]; simp, rfl, R2⟩, by omega⟩
      · have g2 := g2 tk1 .no step at_ hlt (s.put c [.sc (.int .u8 tos), .sc (.int .u8 ttl), .sc (.int .u8 proto), .sc (.int .u16 id), .sc (.int .u16 (frag + at_ / 8)), .sc (.int .u32 src), .sc (.int .u32 dst), .sl tk1 (bs O), .sl .no (bs ((D.drop at_).take step))])
        rw [if_neg c1, Int.add_zero] at g2
        have hmin : min ((at_ : Int) + step) (D.length : Int) = D.length := by omega
        have hsl : (D.take D.length).drop at_ = (D.drop at_).take step := by rw [List.take_of_length_le (Nat.le_refl _), List.take_of_length_le (by simp; omega)]
        have hlt2 := decide_eq_false (show ¬ (at_ : Int) + step < (D.length : Int) by omega)
        simp (config := {maxSteps := 3000000}) only [run_skip, run_reg, run_seq, run_cond, if_false, at_code_n, ops_nil, ops_mv, ops_bin, ops_conv, ops_fld, ops_load, ops_len, ops_mn, ops_slc, ops_store, ops_call, ev_t, ev_c, put_get, put_none, opv_mk, stb_some, sto_ptr, over_get, Stp, put_box_same, put_put, vbin, vbinI, vconv, norm, vfld, vlen, vmm, vload, takeV, vslc, splice, V.cells, obsOk, List.map_cons, List.map_nil, List.length_cons, List.length_nil, List.getElem?_cons_zero, List.getElem?_cons_succ, List.take_succ_cons, List.take_zero, List.drop_succ_cons, List.drop_zero, List.cons_append, List.nil_append, List.append_nil, List.take_nil, List.drop_nil, Option.map_some, true_and, Nat.reduceEqDiff, Nat.reduceAdd, Nat.reduceLT, Nat.reduceLeDiff, Nat.reduceLT, Int.toNat_natCast, Int.reduceLT, Int.reduceNeg, Nat.zero_add, ↓reduceIte, eq_self, Bool.false_eq_true, List.contains_cons, List.contains_nil, Nat.reduceBEq, Bool.or_false, Bool.or_true, h10, put_box_ne (Nat.ne_of_lt hbc), hsb, allSz_bs', bs_len, hmin, bs_take, bs_drop, hsl, e8, hj13, hlt2]
        repeat (apply And.intro; focus (first | omega | (simp; done)))
        refine Cal.mk g2 ?_
        rintro _ _ ⟨rfl, rfl⟩ -
        have hpc : ∀ X, X = ipB (pieceD ⟨tos, ttl, proto, id, frag, src, dst, O, D⟩ step at_) → PT (j + 1) = PT j ++ [X] := fun X h => by rw [hsu j, hat, h]
        have hpc := hpc _ (show ipB ⟨tos, ttl, proto, id, frag + (at_ : Int) / 8, src, dst, O, (D.drop at_).take step⟩ = _ by simp only [pieceD]; rw [if_neg c1, Int.add_zero])
        generalize ipB ⟨tos, ttl, proto, id, frag + (at_ : Int) / 8, src, dst, O, (D.drop at_).take step⟩ = X at *
        simp (config := {maxSteps := 3000000}) only [run_reg, at_code_n, ops_nil, ops_mv, ops_ext, ops_bsl, ops_app, ev_t, put_get, opv_mk, over_get, vbsl, vext, V.cells, strip, strip1, allLen, obsOk, List.map_cons, List.map_nil, List.length_cons, List.length_nil, List.getElem?_cons_zero, List.getElem?_cons_succ, and_true, true_and, Nat.reduceEqDiff, Nat.zero_add, ↓reduceIte, eq_self, List.contains_cons, List.contains_nil, Nat.reduceBEq, Bool.or_false]
        refine App.mk (l := rws (PT j)) (ys := rws [X]) (hr.put hc).own (allSz_rws _) (by simp only [rws_len, List.length_cons, List.length_nil, maxLen]; omega) (by simp only [rws_len, List.length_cons, List.length_nil]; omega) ?_
        intro r2 s2 k1 k2
        rw [rws_append, ← hpc] at k1
        have R2 := (hr.put hc).app k1 k2
        simp (config := {maxSteps := 3000000}) only [run_reg, at_code_n, at_blk_n, at_rnd_n, ops_nil, ops_mv, ops_bin, ev_t, put_get, opv_mk, over_get, rel_mk, vbin, vbinI, norm, obsOk, true_and, Nat.reduceEqDiff, Int.reduceNeg, ↓reduceIte, eq_self, Bool.false_eq_true, List.contains_cons, List.contains_nil, Nat.reduceBEq, Bool.or_false, Bool.or_true, h10]
        repeat (apply And.intro; focus (first | omega | (simp; done)))
        exact ⟨⟨j + 1, _, by omega, by rw [Nat.add_mul, hat]; simp, rfl, R2⟩, by omega⟩
    · obtain rfl : j = nP := by
        rcases Nat.lt_or_ge j nP with h | h
        · exact absurd ((hnp j).2 h) hlt
        · omega
      have hlt' := decide_eq_false (show ¬ ((j * step : Nat) : Int) < (D.length : Int) by omega)
      subst hCS
      simp (config := {maxSteps := 3000000}) only [run_reg, run_seq, run_exit, run_ret, run_cond, if_false, at_code_n, at_code_x, at_blk_x, at_rnd_x, at_fin_r, ops_nil, ops_mv, ops_bin, ops_fld, ops_load, ops_len, ev_t, ev_c, put_get, opv_mk, over_get, vnat, args0, vbin, vbinI, vfld, vlen, vload, takeV, V.cells, List.map_cons, List.map_nil, List.length_cons, List.length_nil, List.getElem?_cons_zero, List.getElem?_cons_succ, and_true, true_and, Nat.reduceEqDiff, Int.toNat_natCast, Nat.zero_add, ↓reduceIte, vret, rvAll, rvVal, resv_2, eq_self, Bool.false_eq_true, List.contains_cons, List.contains_nil, Nat.reduceBEq, Bool.or_false, Bool.or_true, h10, hsb, bs_len, hlt']
      obtain ⟨tk9, h9⟩ := hr.own.sl
      rw [h9]
      exact ⟨_, _, Wk.tup2 Wk.no, (weak_put hwf.weak hb).trans hr.weak, rfl, rfl⟩
end
end Go.Proofs.Ytbmkohmhiafphaa
