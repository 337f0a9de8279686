/- ip4.Build and the document's (catwalkref13.Build): contracts. -/
import Derived.Test.YtbmkohmhiafphaaVRow
import Derived.Test.YtbmkohmhiafphaaVIp4Ref
namespace Go.Proofs.Ytbmkohmhiafphaa
open Go

/-- The head of a datagram's bytes with its options, with c as the checksum. -/
def ipPre (d : DG) (c : Int) : List Int :=
  [64 + (5 + (d.O.length : Int) / 4), d.tos] ++ beL (20 + d.O.length + d.D.length) 2 ++ beL d.id 2 ++ beL d.frag 2 ++ [d.ttl, d.proto, c / 256, c % 256] ++ beL d.src 4 ++ beL d.dst 4 ++ d.O
def ipB (d : DG) : List Int := ipPre d (ckS (ipPre d 0)) ++ d.D
def ipFits (d : DG) : Prop := d.O.length ≤ 40 ∧ d.O.length % 4 = 0 ∧ d.O.length + d.D.length ≤ 65515
instance (d : DG) : Decidable (ipFits d) := by unfold ipFits; infer_instance
structure DG.Ok (d : DG) : Prop where
  tos : 0 ≤ d.tos ∧ d.tos < 256
  ttl : 0 ≤ d.ttl ∧ d.ttl < 256
  proto : 0 ≤ d.proto ∧ d.proto < 256
  id : 0 ≤ d.id ∧ d.id < 65536
  frag : 0 ≤ d.frag ∧ d.frag < 65536
  src : 0 ≤ d.src ∧ d.src < 4294967296
  dst : 0 ≤ d.dst ∧ d.dst < 4294967296
  O : IsB d.O
  D : IsB d.D
theorem ipPre_set (d : DG) (c : Int) : ((ipPre d 0).set 10 (c / 256)).set 11 (c % 256) = ipPre d c := by simp [ipPre, beL2, beL4]
theorem ipPre_len (d : DG) (c : Int) : (ipPre d c).length = 20 + d.O.length := by simp [ipPre, beL_len]; omega
theorem or64 {q : Int} (h0 : 0 ≤ q) (h1 : q < 16) : ibit .or .i64 64 q = 64 + q := by
  obtain ⟨k, rfl⟩ : ∃ k : Nat, q = k := ⟨q.toNat, by omega⟩
  have : ∀ k : Nat, k < 16 → ibit .or .i64 64 k = 64 + k := by decide
  exact this k (by omega)
theorem ipPre_isB {d : DG} (hd : d.Ok) {c : Int} (h0 : 0 ≤ c) (h1 : c < 65536) (hf : ipFits d) : IsB (ipPre d c) := by
  have k1 : d.O.length ≤ 40 := hf.1
  have a2 : ∀ {x y : Int}, 0 ≤ x ∧ x < 256 → 0 ≤ y ∧ y < 256 → IsB [x, y] := fun hx hy z hz => by
    simp only [List.mem_cons, List.not_mem_nil, or_false] at hz
    rcases hz with rfl | rfl
    · exact hx
    · exact hy
  have e4 : [d.ttl, d.proto, c / 256, c % 256] = [d.ttl, d.proto] ++ [c / 256, c % 256] := rfl
  unfold ipPre
  rw [e4]
  exact ((((((a2 (by omega) hd.tos).append (beL_isB _ _)).append (beL_isB _ _)).append (beL_isB _ _)).append ((a2 hd.ttl hd.proto).append (a2 (by omega) (by omega)))).append (beL_isB _ _)).append (beL_isB _ _) |>.append hd.O
section
variable {tk tk' : Tk} {st : St}
theorem ipBuild_v (d : DG) (hd : d.Ok) (hdO : d.O.length ≤ 1000000000000) (hdD : d.D.length ≤ 1000000000000) : VCalls Try.prog 32 [d.v tk tk'] st fun r st' => r = (if ipFits d then .tup [.sl .no (bs (ipB d)), .sc (.int .i64 0)] else .tup [.sl .nil [], .sc (.int .i64 12)]) ∧ st = st' := by
  refine VCalls.tell (Q := fun r s => (¬ ipFits d ∧ r = .tup [.sl .nil [], .sc (.int .i64 12)] ∧ st = s) ∨ (ipFits d ∧ ∃ x, MRow st s x (ipB d) ∧ r = .tup [x, .sc (.int .i64 0)])) ?_ ?_
  rotate_left
  · rintro r s (⟨h, rfl, rfl⟩ | ⟨h, x, hx, rfl⟩)
    · exact ⟨_, _, fun _ G _ _ hw hr => ⟨G, .refl G, hw, hr⟩, by rw [if_neg h], rfl⟩
    · exact ⟨_, _, hx.tell.tup2, by rw [if_pos h], rfl⟩
  obtain ⟨tos, ttl, proto, id, frag, src, dst, O, D⟩ := d
  have h1 := hd.tos; have h2 := hd.ttl; have h3 := hd.proto; have h4 := hd.id; have h5 := hd.frag; have h6 := hd.src; have h7 := hd.dst
  simp only at h1 h2 h3 h4 h5 h6 h7
  refine vcalls_enter vc32 (Nat.le_of_ble_eq_true rfl) fun hwf hok => ?_
  show Run _ Vc32.body (.fin (finQ Vc32.res _)) _ _
  unfold Vc32
  simp only at hdO hdD
  simp (config := {maxSteps := 3000000}) only [run_reg, run_seq, at_code_n, ops_nil, ops_grd, ops_mv, ops_bin, ops_fld, ops_load, ops_len, ops_box, ev_t, ev_c, put_get, opv_mk, Bx, put_box_same, args0, List.getD_cons_zero, vbin, vbinI, norm, vfld, vlen, vload, takeV, V.cells, ptrV, obsOk, List.length_cons, List.length_nil, List.getElem?_cons_zero, List.getElem?_cons_succ, true_and, Nat.reduceEqDiff, Nat.reduceAdd, Int.reduceNeg, Nat.zero_add, ↓reduceIte, ne_eq, not_false_eq_true, eq_self, reduceCtorEq, DG.v]
  repeat (apply And.intro; focus (first | omega | (simp; done)))
  intro b hb
  have g0 : ∀ s : St, st.weak s → ¬ ipFits ⟨tos, ttl, proto, id, frag, src, dst, O, D⟩ → ∃ r' st'', Wk (V.tup [.sl .nil [], .sc (.int .i64 12)]) r' ∧ st''.weak s ∧ ((¬ ipFits ⟨tos, ttl, proto, id, frag, src, dst, O, D⟩ ∧ r' = .tup [.sl .nil [], .sc (.int .i64 12)] ∧ st = st'') ∨ (ipFits ⟨tos, ttl, proto, id, frag, src, dst, O, D⟩ ∧ ∃ x, MRow st st'' x (ipB ⟨tos, ttl, proto, id, frag, src, dst, O, D⟩) ∧ r' = .tup [x, .sc (.int .i64 0)])) :=
    fun s hw h => ⟨_, _, Wk.refl _, hw, .inl ⟨h, rfl, rfl⟩⟩
  by_cases c1 : 40 < O.length
  · simp (config := {maxSteps := 3000000}) only [run_reg, run_seq, run_ret, run_cond, if_true, at_code_n, at_code_r, at_fin_r, ops_nil, ops_grd, grd_tf, ops_mv, ops_pick, ev_t, ev_c, put_get, opv_mk, args0, vpick, vload, takeV, V.cells, List.map_cons, List.map_nil, and_true, true_and, Nat.reduceEqDiff, Int.reduceNeg, ↓reduceIte, vret, rvAll, rvVal, resv_2, eq_self, bs_len, decide_eq_true (show (40 : Int) < (O.length : Int) by omega)]
    exact ⟨by omega, g0 _ (weak_put hwf.weak hb) fun h => by have := h.1; simp only at this; omega⟩
  have d1 := decide_eq_false (show ¬ (40 : Int) < (O.length : Int) by omega)
  by_cases c2 : O.length % 4 = 0
  rotate_left
  · have d2 := decide_eq_true (show ¬ (O.length : Int) % 4 = 0 by omega)
    simp (config := {maxSteps := 3000000}) only [run_reg, run_seq, run_ret, run_cond, if_true, at_code_n, at_code_r, at_fin_r, ops_nil, ops_grd, grd_ff, grd_tf, ops_mv, ops_pick, ops_bin, ops_fld, ops_load, ops_len, ev_t, ev_c, put_get, opv_mk, put_box_same, args0, vpick, vbin, vbinI, vfld, vlen, vload, takeV, V.cells, List.map_cons, List.map_nil, List.length_cons, List.length_nil, List.getElem?_cons_zero, List.getElem?_cons_succ, and_true, true_and, Nat.reduceEqDiff, Int.reduceLT, Int.reduceNeg, Nat.zero_add, ↓reduceIte, vret, rvAll, rvVal, resv_2, ne_eq, eq_self, Bool.false_eq_true, bs_len, d1, d2]
    repeat (apply And.intro; focus (first | omega | (simp; done)))
    exact g0 _ (weak_put hwf.weak hb) fun h => by have := h.2.1; simp only at this; omega
  have d2 := decide_eq_false (show ¬ ¬ (O.length : Int) % 4 = 0 by omega)
  by_cases c3 : O.length + D.length ≤ 65515
  rotate_left
  · have d3 := decide_eq_true (show 65535 - (20 + (O.length : Int)) < (D.length : Int) by omega)
    simp (config := {maxSteps := 3000000}) only [run_reg, run_seq, run_ret, run_cond, if_true, at_code_n, at_code_r, at_fin_r, ops_nil, ops_grd, grd_ff, ops_mv, ops_pick, ops_bin, ops_fld, ops_load, ops_len, ev_t, ev_c, put_get, opv_mk, put_box_same, args0, vpick, vbin, vbinI, norm, vfld, vlen, vload, takeV, V.cells, List.map_cons, List.map_nil, List.length_cons, List.length_nil, List.getElem?_cons_zero, List.getElem?_cons_succ, and_true, true_and, Nat.reduceEqDiff, Int.reduceLT, Int.reduceNeg, Nat.zero_add, ↓reduceIte, vret, rvAll, rvVal, resv_2, ne_eq, eq_self, Bool.false_eq_true, bs_len, d1, d2, d3]
    repeat (apply And.intro; focus (first | omega | (simp; done)))
    exact g0 _ (weak_put hwf.weak hb) fun h => by have := h.2.2; simp only at this; omega
  have d3 := decide_eq_false (show ¬ 65535 - (20 + (O.length : Int)) < (D.length : Int) by omega)
  have fits : ipFits ⟨tos, ttl, proto, id, frag, src, dst, O, D⟩ := ⟨by simp only; omega, c2, c3⟩
  have q5 : (20 + (O.length : Int)) / 4 = 5 + (O.length : Int) / 4 := by omega
  have ho := or64 (q := 5 + (O.length : Int) / 4) (by omega) (by omega)
  have q6 : (64 + (5 + (O.length : Int) / 4)) % 256 = 64 + (5 + (O.length : Int) / 4) := by omega
  simp (config := {maxSteps := 3000000}) only [run_skip, run_reg, run_seq, run_cond, if_false, at_code_n, ops_nil, ops_grd, grd_ff, ops_mv, ops_pick, ops_bin, ops_conv, ops_fld, ops_load, ops_len, ops_bslo, ev_t, ev_c, put_get, opv_mk, put_box_same, vpick, vbin, vbinI, vconv, norm, vfld, vlen, vload, takeV, V.cells, strip, strip1, List.map_cons, List.map_nil, List.length_cons, List.length_nil, List.getElem?_cons_zero, List.getElem?_cons_succ, and_true, true_and, Nat.reduceEqDiff, Int.reduceLT, Int.reduceNeg, Nat.zero_add, Nat.add_zero, ↓reduceIte, ne_eq, eq_self, Bool.false_eq_true, bs_len, d1, d2, d3, q5, ho, q6]
  repeat (apply And.intro; focus (first | omega | (simp; done)))
  refine Bo.row (M := [64 + (5 + (O.length : Int) / 4), tos]) (base := st.put b _) hwf.lt.put.weak hwf.lt.put (by simp) ?_
  intro r s k f
  have hb1 := f b _ put_box_same
  have q7 : (20 + (O.length : Int) + (D.length : Int)) % 65536 = 20 + (O.length : Int) + (D.length : Int) := by omega
  simp (config := {maxSteps := 3000000}) only [run_reg, run_seq, at_code_n, ops_nil, ops_mv, ops_bin, ops_conv, ops_fld, ops_load, ops_len, ops_call, ev_t, put_get, opv_mk, vbin, vbinI, vconv, norm, vfld, vlen, vload, takeV, V.cells, obsOk, List.map_cons, List.map_nil, List.length_cons, List.length_nil, List.getElem?_cons_zero, List.getElem?_cons_succ, true_and, Nat.reduceEqDiff, Int.reduceNeg, Nat.zero_add, ↓reduceIte, eq_self, bs_len, hb1, q7]
  repeat (apply And.intro; focus (first | omega | (simp; done)))
  refine Cal.mk (Put16_b k (by simp) (by omega) (by omega)) ?_
  clear hb1 f
  rintro r s k -
  have hb1 := (k.weak.box b _ put_box_same).1
  simp (config := {maxSteps := 3000000}) only [run_reg, run_seq, at_code_n, ops_nil, ops_mv, ops_fld, ops_load, ops_call, ev_t, put_get, opv_mk, vfld, vload, takeV, V.cells, obsOk, List.map_cons, List.map_nil, List.length_cons, List.length_nil, List.getElem?_cons_zero, List.getElem?_cons_succ, true_and, Nat.reduceEqDiff, Nat.zero_add, ↓reduceIte, eq_self, hb1]
  refine Cal.mk (Put16_b k (by simp [beL2]) (by omega) (by omega)) ?_
  clear hb1
  rintro r s k -
  have hb1 := (k.weak.box b _ put_box_same).1
  simp (config := {maxSteps := 3000000}) only [ops_call, ev_t, put_get, vload, takeV, V.cells, obsOk, List.map_cons, List.map_nil, List.length_cons, List.length_nil, List.getElem?_cons_zero, List.getElem?_cons_succ, and_true, true_and, Nat.reduceEqDiff, Nat.zero_add, ↓reduceIte, eq_self, hb1]
  refine Cal.mk (Put16_b k (by simp [beL2]) (by omega) (by omega)) ?_
  clear hb1
  rintro r s k -
  have hb1 := (k.weak.box b _ put_box_same).1
  simp (config := {maxSteps := 3000000}) only [run_reg, run_seq, at_code_n, ops_nil, ops_mv, ops_fld, ops_load, ops_bsl, ops_app, ev_t, ev_c, put_get, opv_mk, vbsl, vfld, vload, takeV, V.cells, strip, strip1, allLen, obsOk, List.map_cons, List.map_nil, List.length_cons, List.length_nil, List.getElem?_cons_zero, List.getElem?_cons_succ, and_true, true_and, Nat.reduceEqDiff, Nat.zero_add, ↓reduceIte, eq_self, hb1]
  refine App.row (M := [ttl, proto, 0, 0]) k (by simp [beL2]) ?_
  clear hb1
  intro r s k f
  have hb1 := (k.weak.box b _ put_box_same).1
  simp (config := {maxSteps := 3000000}) only [run_reg, run_seq, at_code_n, ops_nil, ops_mv, ops_fld, ops_load, ops_call, ev_t, put_get, opv_mk, vfld, vload, takeV, V.cells, obsOk, List.map_cons, List.map_nil, List.length_cons, List.length_nil, List.getElem?_cons_zero, List.getElem?_cons_succ, true_and, Nat.reduceEqDiff, Nat.zero_add, ↓reduceIte, eq_self, hb1]
  refine Cal.mk (Put32_b k (by simp [beL2]) (by omega) (by omega)) ?_
  clear hb1 f
  rintro r s k -
  have hb1 := (k.weak.box b _ put_box_same).1
  simp (config := {maxSteps := 3000000}) only [ops_call, ev_t, put_get, vload, takeV, V.cells, obsOk, List.map_cons, List.map_nil, List.length_cons, List.length_nil, List.getElem?_cons_zero, List.getElem?_cons_succ, and_true, true_and, Nat.reduceEqDiff, Nat.zero_add, ↓reduceIte, eq_self, hb1]
  refine Cal.mk (Put32_b k (by simp [beL2, beL4]) (by omega) (by omega)) ?_
  clear hb1
  rintro r s k -
  have hb1 := (k.weak.box b _ put_box_same).1
  simp (config := {maxSteps := 3000000}) only [run_reg, run_seq, at_code_n, ops_nil, ops_mv, ops_fld, ops_load, ops_app, ev_t, put_get, opv_mk, vfld, vload, takeV, V.cells, obsOk, List.length_cons, List.length_nil, List.getElem?_cons_zero, List.getElem?_cons_succ, true_and, Nat.reduceEqDiff, Nat.zero_add, ↓reduceIte, eq_self, hb1]
  refine App.row (M := O) k (by simp [beL2, beL4]; omega) ?_
  clear hb1
  intro r s k f
  clear f
  have hb1 := (k.weak.box b _ put_box_same).1
  simp (config := {maxSteps := 3000000}) only [run_reg, run_seq, at_code_n, ops_nil, ops_mv, ops_call, ev_t, put_get, opv_mk, obsOk, List.map_cons, List.map_nil, true_and, ↓reduceIte, eq_self]
  have eL : [64 + (5 + (O.length : Int) / 4), tos] ++ beL (20 + (O.length : Int) + D.length) 2 ++ beL id 2 ++ beL frag 2 ++ [ttl, proto, 0, 0] ++ beL src 4 ++ beL dst 4 ++ O = ipPre ⟨tos, ttl, proto, id, frag, src, dst, O, D⟩ 0 := by simp [ipPre]
  rw [eL] at k
  have hlen := ipPre_len ⟨tos, ttl, proto, id, frag, src, dst, O, D⟩ 0
  simp only at hlen
  have hset := ipPre_set ⟨tos, ttl, proto, id, frag, src, dst, O, D⟩ (ckS (ipPre ⟨tos, ttl, proto, id, frag, src, dst, O, D⟩ 0))
  have hIs : ipB ⟨tos, ttl, proto, id, frag, src, dst, O, D⟩ = ipPre ⟨tos, ttl, proto, id, frag, src, dst, O, D⟩ (ckS (ipPre ⟨tos, ttl, proto, id, frag, src, dst, O, D⟩ 0)) ++ D := rfl
  have hB := ipPre_isB hd (c := 0) (by omega) (by omega) fits
  generalize ipPre ⟨tos, ttl, proto, id, frag, src, dst, O, D⟩ 0 = L at *
  have hck := ckS_range hB
  refine Cal.mk (k.reads fun n => (sumOf_v hB).mono fun _ _ h => h.1) ?_
  rintro _ _ ⟨rfl, rfl⟩ -
  obtain ⟨bb, cap, rfl, hc1, hc2⟩ := k.is
  have c256 : ckS L / 256 % 256 = ckS L / 256 := by omega
  simp (config := {maxSteps := 3000000}) only [run_reg, run_seq, at_code_n, ops_nil, ops_mv, ops_bin, ops_conv, ops_ix, ops_store, ev_t, ev_c, put_get, opv_mk, sto_ptr, vbin, vbinI, vconv, norm, vix, V.cells, obsOk, shAmt, IntKind.bits, true_and, Nat.reduceEqDiff, Nat.reduceLeDiff, Int.reduceToNat, Int.reduceLE, Int.reducePow, Nat.min_def, Nat.zero_add, Nat.mul_one, ↓reduceIte, eq_self, c256]
  refine ⟨by omega, Stb.row k (by omega) ?_⟩
  clear hb1
  intro s k _
  have hb1 := (k.weak.box b _ put_box_same).1
  simp (config := {maxSteps := 3000000}) only [ops_ix, ops_store, ev_t, ev_c, put_get, put_none, opv_mk, sto_ptr, vix, V.cells, obsOk, true_and, Nat.reduceEqDiff, Int.reduceToNat, Int.reduceLE, Nat.zero_add, Nat.mul_one, ↓reduceIte, eq_self]
  refine ⟨by omega, Stb.row k (by rw [List.length_set]; omega) ?_⟩
  clear hb1
  intro s k _
  have hb1 := (k.weak.box b _ put_box_same).1
  rw [hset] at k
  simp (config := {maxSteps := 3000000}) only [run_reg, run_seq, at_code_n, ops_nil, ops_mv, ops_fld, ops_load, ops_app, ev_t, put_get, put_none, opv_mk, vfld, vload, takeV, V.cells, obsOk, List.length_cons, List.length_nil, List.getElem?_cons_zero, List.getElem?_cons_succ, true_and, Nat.reduceEqDiff, Nat.zero_add, ↓reduceIte, eq_self, hb1]
  refine App.row (M := D) k (by have := congrArg List.length hset; simp at this; omega) ?_
  clear hb1
  intro r s k _
  rw [← hIs] at k
  simp (config := {maxSteps := 3000000}) only [run_ret, at_code_n, at_fin_r, ops_nil, ops_mv, ev_t, ev_c, put_get, opv_mk, args0, vload, takeV, V.cells, obsOk, List.map_cons, List.map_nil, and_true, true_and, Nat.reduceEqDiff, ↓reduceIte, vret, rvAll, rvVal, resv_2, eq_self]
  exact ⟨_, _, Wk.refl _, k.lt.weak, .inr ⟨fits, r, k.rebase (weak_put hwf.weak hb), rfl⟩⟩
theorem refBuild13_v (d : DG) (hd : d.Ok) (hdO : d.O.length ≤ 1000000000000) (hdD : d.D.length ≤ 1000000000000) : VCalls Try.prog 33 [d.v tk tk'] st fun r st' => r = (if ipFits d then .sl .no (bs (ipB d)) else .sl .nil []) ∧ st = st' := by
  refine VCalls.tell (Q := fun r s => (¬ ipFits d ∧ r = .sl .nil [] ∧ st = s) ∨ (ipFits d ∧ ∃ x, MRow st s x (ipB d) ∧ r = x)) ?_ ?_
  rotate_left
  · rintro r s (⟨h, rfl, rfl⟩ | ⟨h, x, hx, rfl⟩)
    · exact ⟨_, _, fun _ G _ _ hw hr => ⟨G, .refl G, hw, hr⟩, by rw [if_neg h], rfl⟩
    · exact ⟨_, _, hx.tell, by rw [if_pos h], rfl⟩
  obtain ⟨tos, ttl, proto, id, frag, src, dst, O, D⟩ := d
  have h1 := hd.tos; have h2 := hd.ttl; have h3 := hd.proto; have h4 := hd.id; have h5 := hd.frag; have h6 := hd.src; have h7 := hd.dst
  simp only at h1 h2 h3 h4 h5 h6 h7
  refine vcalls_enter vc33 (Nat.le_of_ble_eq_true rfl) fun hwf hok => ?_
  show Run _ Vc33.body (.fin (finQ Vc33.res _)) _ _
  unfold Vc33
  simp only at hdO hdD
  simp (config := {maxSteps := 3000000}) only [run_reg, run_seq, at_code_n, ops_nil, ops_grd, ops_mv, ops_bin, ops_fld, ops_load, ops_len, ops_box, ev_t, ev_c, put_get, opv_mk, Bx, put_box_same, args0, List.getD_cons_zero, vbin, vbinI, norm, vfld, vlen, vload, takeV, V.cells, ptrV, obsOk, List.length_cons, List.length_nil, List.getElem?_cons_zero, List.getElem?_cons_succ, true_and, Nat.reduceEqDiff, Nat.reduceAdd, Int.reduceNeg, Nat.zero_add, ↓reduceIte, ne_eq, not_false_eq_true, eq_self, reduceCtorEq, DG.v]
  repeat (apply And.intro; focus (first | omega | (simp; done)))
  intro b hb
  have g0 : ∀ s : St, st.weak s → ¬ ipFits ⟨tos, ttl, proto, id, frag, src, dst, O, D⟩ → ∃ r' st'', Wk (V.sl .nil []) r' ∧ st''.weak s ∧ ((¬ ipFits ⟨tos, ttl, proto, id, frag, src, dst, O, D⟩ ∧ r' = .sl .nil [] ∧ st = st'') ∨ (ipFits ⟨tos, ttl, proto, id, frag, src, dst, O, D⟩ ∧ ∃ x, MRow st st'' x (ipB ⟨tos, ttl, proto, id, frag, src, dst, O, D⟩) ∧ r' = x)) :=
    fun s hw h => ⟨_, _, Wk.refl _, hw, .inl ⟨h, rfl, rfl⟩⟩
  by_cases c1 : 40 < O.length
  · simp (config := {maxSteps := 3000000}) only [run_reg, run_seq, run_ret, run_cond, if_true, at_code_n, at_code_r, at_fin_r, ops_nil, ops_grd, grd_tf, ops_mv, ops_pick, ev_t, ev_c, put_get, opv_mk, vpick, and_true, true_and, Nat.reduceEqDiff, Int.reduceNeg, ↓reduceIte, vret, rvAll, rvVal, resv_1, eq_self, bs_len, decide_eq_true (show (60 : Int) < 20 + (O.length : Int) by omega)]
    exact ⟨by omega, g0 _ (weak_put hwf.weak hb) fun h => by have := h.1; simp only at this; omega⟩
  have d1 := decide_eq_false (show ¬ (60 : Int) < 20 + (O.length : Int) by omega)
  by_cases c2 : O.length % 4 = 0
  rotate_left
  · have d2 := decide_eq_true (show ¬ (20 + (O.length : Int)) % 4 = 0 by omega)
    simp (config := {maxSteps := 3000000}) only [run_reg, run_seq, run_ret, run_cond, if_true, at_code_n, at_code_r, at_fin_r, ops_nil, ops_grd, grd_ff, grd_tf, ops_mv, ops_pick, ops_bin, ev_t, ev_c, put_get, opv_mk, vpick, vbin, vbinI, and_true, true_and, Nat.reduceEqDiff, Int.reduceLT, Int.reduceNeg, ↓reduceIte, vret, rvAll, rvVal, resv_1, ne_eq, eq_self, Bool.false_eq_true, bs_len, d1, d2]
    repeat (apply And.intro; focus (first | omega | (simp; done)))
    exact g0 _ (weak_put hwf.weak hb) fun h => by have := h.2.1; simp only at this; omega
  have d2 := decide_eq_false (show ¬ ¬ (20 + (O.length : Int)) % 4 = 0 by omega)
  by_cases c3 : O.length + D.length ≤ 65515
  rotate_left
  · have d3 := decide_eq_true (show 65535 - (20 + (O.length : Int)) < (D.length : Int) by omega)
    simp (config := {maxSteps := 3000000}) only [run_reg, run_seq, run_ret, run_cond, if_true, at_code_n, at_code_r, at_fin_r, ops_nil, ops_grd, grd_ff, ops_mv, ops_pick, ops_bin, ops_fld, ops_load, ops_len, ev_t, ev_c, put_get, opv_mk, put_box_same, vpick, vbin, vbinI, norm, vfld, vlen, vload, takeV, V.cells, List.length_cons, List.length_nil, List.getElem?_cons_zero, List.getElem?_cons_succ, and_true, true_and, Nat.reduceEqDiff, Int.reduceLT, Int.reduceNeg, Nat.zero_add, ↓reduceIte, vret, rvAll, rvVal, resv_1, ne_eq, eq_self, Bool.false_eq_true, bs_len, d1, d2, d3]
    repeat (apply And.intro; focus (first | omega | (simp; done)))
    exact g0 _ (weak_put hwf.weak hb) fun h => by have := h.2.2; simp only at this; omega
  have d3 := decide_eq_false (show ¬ 65535 - (20 + (O.length : Int)) < (D.length : Int) by omega)
  have fits : ipFits ⟨tos, ttl, proto, id, frag, src, dst, O, D⟩ := ⟨by simp only; omega, c2, c3⟩
  have q5 : (20 + (O.length : Int)) / 4 = 5 + (O.length : Int) / 4 := by omega
  have q6 : (64 + (5 + (O.length : Int) / 4)) % 256 = 64 + (5 + (O.length : Int) / 4) := by omega
  simp (config := {maxSteps := 3000000}) only [run_skip, run_reg, run_seq, run_cond, if_false, at_code_n, ops_nil, ops_grd, grd_ff, ops_mv, ops_pick, ops_bin, ops_conv, ops_fld, ops_load, ops_len, ops_bslo, ev_t, ev_c, put_get, opv_mk, put_box_same, vpick, vbin, vbinI, vconv, norm, vfld, vlen, vload, takeV, V.cells, strip, strip1, List.map_cons, List.map_nil, List.length_cons, List.length_nil, List.getElem?_cons_zero, List.getElem?_cons_succ, and_true, true_and, Nat.reduceEqDiff, Int.reduceLT, Int.reduceNeg, Nat.zero_add, Nat.add_zero, ↓reduceIte, ne_eq, eq_self, Bool.false_eq_true, bs_len, d1, d2, d3, q5, q6]
  repeat (apply And.intro; focus (first | omega | (simp; done)))
  have e4 : id % 18446744073709551616 = id := by omega
  have e5 : frag % 18446744073709551616 = frag := by omega
  have e6 : src % 18446744073709551616 = src := by omega
  have e7 : dst % 18446744073709551616 = dst := by omega
  refine Bo.row (M := [64 + (5 + (O.length : Int) / 4), tos]) (base := st.put b _) hwf.lt.put.weak hwf.lt.put (by simp) ?_
  intro r s k f
  have hb1 := f b _ put_box_same
  have q7 : (20 + (O.length : Int) + (D.length : Int)) % 18446744073709551616 = 20 + (O.length : Int) + (D.length : Int) := by omega
  simp (config := {maxSteps := 3000000}) only [run_reg, run_seq, at_code_n, ops_nil, ops_mv, ops_bin, ops_conv, ops_fld, ops_load, ops_len, ops_call, ev_t, ev_c, put_get, opv_mk, vbin, vbinI, vconv, norm, vfld, vlen, vload, takeV, V.cells, obsOk, List.map_cons, List.map_nil, List.length_cons, List.length_nil, List.getElem?_cons_zero, List.getElem?_cons_succ, true_and, Nat.reduceEqDiff, Int.reduceNeg, Nat.zero_add, ↓reduceIte, eq_self, bs_len, hb1, q7]
  repeat (apply And.intro; focus (first | omega | (simp; done)))
  refine Cal.mk (rPut2_b k (by simp) (by omega) (by omega)) ?_
  clear hb1 f
  rintro r s k -
  have hb1 := (k.weak.box b _ put_box_same).1
  simp (config := {maxSteps := 3000000}) only [run_reg, run_seq, at_code_n, ops_nil, ops_mv, ops_conv, ops_fld, ops_load, ops_call, ev_t, ev_c, put_get, opv_mk, vconv, norm, vfld, vload, takeV, V.cells, obsOk, List.map_cons, List.map_nil, List.length_cons, List.length_nil, List.getElem?_cons_zero, List.getElem?_cons_succ, true_and, Nat.reduceEqDiff, Nat.zero_add, ↓reduceIte, eq_self, hb1, e4]
  refine Cal.mk (rPut2_b k (by simp [beL2]) (by omega) (by omega)) ?_
  clear hb1
  rintro r s k -
  have hb1 := (k.weak.box b _ put_box_same).1
  simp (config := {maxSteps := 3000000}) only [run_reg, run_seq, at_code_n, ops_nil, ops_mv, ops_conv, ops_fld, ops_load, ops_call, ev_t, ev_c, put_get, opv_mk, vconv, norm, vfld, vload, takeV, V.cells, obsOk, List.map_cons, List.map_nil, List.length_cons, List.length_nil, List.getElem?_cons_zero, List.getElem?_cons_succ, true_and, Nat.reduceEqDiff, Nat.zero_add, ↓reduceIte, eq_self, hb1, e5]
  refine Cal.mk (rPut2_b k (by simp [beL2]) (by omega) (by omega)) ?_
  clear hb1
  rintro r s k -
  have hb1 := (k.weak.box b _ put_box_same).1
  simp (config := {maxSteps := 3000000}) only [run_reg, run_seq, at_code_n, ops_nil, ops_mv, ops_fld, ops_load, ops_bsl, ops_app, ev_t, ev_c, put_get, opv_mk, vbsl, vfld, vload, takeV, V.cells, strip, strip1, allLen, obsOk, List.map_cons, List.map_nil, List.length_cons, List.length_nil, List.getElem?_cons_zero, List.getElem?_cons_succ, and_true, true_and, Nat.reduceEqDiff, Nat.zero_add, ↓reduceIte, eq_self, hb1]
  refine App.row (M := [ttl, proto, 0, 0]) k (by simp [beL2]) ?_
  clear hb1
  intro r s k f
  have hb1 := (k.weak.box b _ put_box_same).1
  simp (config := {maxSteps := 3000000}) only [run_reg, run_seq, at_code_n, ops_nil, ops_mv, ops_conv, ops_fld, ops_load, ops_call, ev_t, ev_c, put_get, opv_mk, vconv, norm, vfld, vload, takeV, V.cells, obsOk, List.map_cons, List.map_nil, List.length_cons, List.length_nil, List.getElem?_cons_zero, List.getElem?_cons_succ, true_and, Nat.reduceEqDiff, Nat.zero_add, ↓reduceIte, eq_self, hb1, e6]
  refine Cal.mk (rPut4_b k (by simp [beL2]) (by omega) (by omega)) ?_
  clear hb1 f
  rintro r s k -
  have hb1 := (k.weak.box b _ put_box_same).1
  simp (config := {maxSteps := 3000000}) only [run_reg, run_seq, at_code_n, ops_nil, ops_mv, ops_conv, ops_fld, ops_load, ops_call, ev_t, ev_c, put_get, opv_mk, vconv, norm, vfld, vload, takeV, V.cells, obsOk, List.map_cons, List.map_nil, List.length_cons, List.length_nil, List.getElem?_cons_zero, List.getElem?_cons_succ, true_and, Nat.reduceEqDiff, Nat.zero_add, ↓reduceIte, eq_self, hb1, e7]
  refine Cal.mk (rPut4_b k (by simp [beL2, beL4]) (by omega) (by omega)) ?_
  clear hb1
  rintro r s k -
  have hb1 := (k.weak.box b _ put_box_same).1
  simp (config := {maxSteps := 3000000}) only [ops_app, ev_t, put_get, vload, takeV, V.cells, obsOk, List.length_cons, List.length_nil, List.getElem?_cons_zero, List.getElem?_cons_succ, and_true, true_and, Nat.reduceEqDiff, Nat.zero_add, ↓reduceIte, eq_self, hb1]
  refine App.row (M := O) k (by simp [beL2, beL4]; omega) ?_
  clear hb1
  intro r s k f
  clear f
  have hb1 := (k.weak.box b _ put_box_same).1
  simp (config := {maxSteps := 3000000}) only [run_reg, run_seq, at_code_n, ops_nil, ops_mv, ops_call, ev_t, put_get, opv_mk, obsOk, List.map_cons, List.map_nil, true_and, ↓reduceIte, eq_self]
  have eL : [64 + (5 + (O.length : Int) / 4), tos] ++ beL (20 + (O.length : Int) + D.length) 2 ++ beL id 2 ++ beL frag 2 ++ [ttl, proto, 0, 0] ++ beL src 4 ++ beL dst 4 ++ O = ipPre ⟨tos, ttl, proto, id, frag, src, dst, O, D⟩ 0 := by simp [ipPre]
  rw [eL] at k
  have hlen := ipPre_len ⟨tos, ttl, proto, id, frag, src, dst, O, D⟩ 0
  simp only at hlen
  have hset := ipPre_set ⟨tos, ttl, proto, id, frag, src, dst, O, D⟩ (ckS (ipPre ⟨tos, ttl, proto, id, frag, src, dst, O, D⟩ 0))
  have hIs : ipB ⟨tos, ttl, proto, id, frag, src, dst, O, D⟩ = ipPre ⟨tos, ttl, proto, id, frag, src, dst, O, D⟩ (ckS (ipPre ⟨tos, ttl, proto, id, frag, src, dst, O, D⟩ 0)) ++ D := rfl
  have hB := ipPre_isB hd (c := 0) (by omega) (by omega) fits
  generalize ipPre ⟨tos, ttl, proto, id, frag, src, dst, O, D⟩ 0 = L at *
  have hck := ckS_range hB
  refine Cal.mk (k.reads fun n => (ref05Of_v hB (by omega)).mono fun _ _ h => h.1) ?_
  rintro _ _ ⟨rfl, rfl⟩ -
  obtain ⟨bb, cap, rfl, hc1, hc2⟩ := k.is
  have c256 : ckS L / 256 % 256 = ckS L / 256 := by omega
  simp (config := {maxSteps := 3000000}) only [run_reg, run_seq, at_code_n, ops_nil, ops_mv, ops_bin, ops_conv, ops_ix, ops_store, ev_t, ev_c, put_get, opv_mk, sto_ptr, vbin, vbinI, vconv, norm, vix, V.cells, obsOk, true_and, Nat.reduceEqDiff, Int.reduceToNat, Int.reduceLE, Int.reduceLT, Int.reduceNeg, Nat.zero_add, Nat.mul_one, ↓reduceIte, eq_self, c256]
  repeat (refine ⟨by omega, ?_⟩)
  refine Stb.row k (by omega) ?_
  clear hb1
  intro s k _
  have hb1 := (k.weak.box b _ put_box_same).1
  simp (config := {maxSteps := 3000000}) only [run_reg, run_seq, at_code_n, ops_nil, ops_mv, ops_bin, ops_conv, ops_ix, ops_store, ev_t, ev_c, put_get, put_none, opv_mk, sto_ptr, vbin, vbinI, vconv, norm, vix, V.cells, obsOk, and_true, true_and, Nat.reduceEqDiff, Int.reduceToNat, Int.reduceLE, Int.reduceLT, Nat.zero_add, Nat.mul_one, ↓reduceIte, eq_self]
  repeat (refine ⟨by first | omega | (rw [List.length_set]; omega), ?_⟩)
  refine Stb.row k (by rw [List.length_set]; omega) ?_
  clear hb1
  intro s k _
  have hb1 := (k.weak.box b _ put_box_same).1
  rw [show ckS L % 256 % 256 = ckS L % 256 by omega, hset] at k
  simp (config := {maxSteps := 3000000}) only [run_reg, run_seq, at_code_n, ops_nil, ops_mv, ops_fld, ops_load, ops_app, ev_t, put_get, put_none, opv_mk, vfld, vload, takeV, V.cells, obsOk, List.length_cons, List.length_nil, List.getElem?_cons_zero, List.getElem?_cons_succ, true_and, Nat.reduceEqDiff, Nat.zero_add, ↓reduceIte, eq_self, hb1]
  refine App.row (M := D) k (by have := congrArg List.length hset; simp at this; omega) ?_
  clear hb1
  intro r s k _
  rw [← hIs] at k
  simp (config := {maxSteps := 3000000}) only [run_ret, at_code_n, at_fin_r, ops_nil, ops_mv, ev_t, put_get, opv_mk, obsOk, and_true, true_and, ↓reduceIte, vret, rvAll, rvVal, resv_1, eq_self]
  exact ⟨_, _, Wk.refl _, k.lt.weak, .inr ⟨fits, r, k.rebase (weak_put hwf.weak hb), rfl⟩⟩
end
end Go.Proofs.Ytbmkohmhiafphaa
