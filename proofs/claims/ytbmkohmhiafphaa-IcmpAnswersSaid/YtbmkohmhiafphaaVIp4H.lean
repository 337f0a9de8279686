/- sum.Turned, ip4.Hop: contracts; Ip4Hops: what any bytes are one hop on. -/
import Derived.Test.YtbmkohmhiafphaaVIp4P
import Derived.Test.YtbmkohmhiafphaaVIp4L
namespace Go.Proofs.Ytbmkohmhiafphaa
open Go

/-- A checksum where a word has become another one. -/
def turned (a b c : Int) : Int := 65535 - nrm ((65535 - a) + (65535 - b) + c)
def hop1 (L : List Int) : List Int := L.set 8 (L.getD 8 0 - 1)
def hopC (L : List Int) : Int := turned (numL ((L.drop 10).take 2)) (numL ((L.drop 8).take 2)) (numL (((hop1 L).drop 8).take 2))
def hopB (L : List Int) : List Int := ((hop1 L).set 10 (hopC L / 256)).set 11 (hopC L % 256)
def hops (L : List Int) : Prop := ipE L = 0 ∧ 2 ≤ (ipD L).ttl
instance (L : List Int) : Decidable (hops L) := by unfold hops; infer_instance

theorem MRow.cells {base s : St} {L : List Int} {b n cap : Nat} (h : MRow base s (.sc (.slice (some ⟨b, 0, none⟩) n cap)) L) : ∃ spare, s.box b = some (bs L ++ spare) ∧ ∀ (i : Nat) (x : Int), L[i]? = some x → (bs L ++ spare)[i]? = some (.sc (.int .u8 x)) := by
  obtain ⟨b', cap', spare, e, h1, h2, h3, h4⟩ := h.row
  cases e
  refine ⟨spare, h2, fun i x hx => ?_⟩
  have hlt := (List.getElem?_eq_some_iff.1 hx).1
  rw [List.getElem?_append, if_pos (by rw [bs_len]; exact hlt), bs_get, hx]
  rfl
/-- The row from a place on reads as bytes. -/
theorem MRow.frzD {base s : St} {L : List Int} {b n cap k : Nat} (h : MRow base s (.sc (.slice (some ⟨b, 0, none⟩) n cap)) L) (hk : k ≤ L.length) : Frz s (.sc (.slice (some ⟨b, k, none⟩) (n - k) (cap - k))) (.sl .no (bs (L.drop k))) := by
  obtain ⟨b', cap', spare, e, h1, h2, h3, h4⟩ := h.row
  cases e
  have hl : (bs (L.drop k)).length = L.length - k := by rw [bs_len, List.length_drop]
  have := Frz.box (st := s) b k (cap - k) 1 (bs L ++ spare) (bs (L.drop k)) h2 (fun i d hd => allSz_bs _ d (List.mem_of_getElem? hd)) (fun i d j x hd hj => by
    have hi := (List.getElem?_eq_some_iff.1 hd).1
    have : d.cells = [d] := by
      obtain ⟨n, _, rfl⟩ := List.mem_map.1 (List.mem_of_getElem? hd); rfl
    rw [this] at hj
    have hj0 : j = 0 := by
      rcases Nat.eq_zero_or_pos j with h | h
      · exact h
      · rw [List.getElem?_eq_none (by simp; omega)] at hj; cases hj
    subst hj0
    simp at hj; subst hj
    rw [List.getElem?_append, if_pos (by rw [bs_len]; omega)]
    rw [← bs_drop, List.getElem?_drop] at hd
    simpa using hd) (by rw [hl]; omega) (by omega)
  rwa [hl] at this
theorem MRow.readsD {P : Program} {base st : St} {f : FuncId} {v : Value} {L : List Int} {b n cap k : Nat} (h : MRow base st (.sc (.slice (some ⟨b, 0, none⟩) n cap)) L) (hk : k ≤ L.length) (hc : ∀ n, VCalls P f [.sl .no (bs (L.drop k))] ⟨fun _ => none, fun _ => none, n⟩ fun r _ => r = .sc v) : VCalls P f [.sc (.slice (some ⟨b, k, none⟩) (n - k) (cap - k))] st fun r st' => r = .sc v ∧ st = st' :=
  VCalls.frz hc rfl fun i d d' h1 h2 => by
    cases i with
    | zero => simp at h1 h2; subst h1 h2; exact h.frzD hk
    | succ i => simp at h1

section
variable {tk tk' tk2 : Tk} {st : St} {L E : List Int}
theorem Turned_v {a b c : Int} (a0 : 0 ≤ a) (a1 : a ≤ 65535) (b0 : 0 ≤ b) (b1 : b ≤ 65535) (c0 : 0 ≤ c) (c1 : c ≤ 65535) : VCalls Try.prog 59 [.sc (.int .u16 a), .sc (.int .u16 b), .sc (.int .u16 c)] st fun r st' => r = .sc (.int .u16 (turned a b c)) ∧ st = st' := by
  refine vcalls_enter vc59 (Nat.le_of_ble_eq_true rfl) fun hwf hok => ?_
  show Run _ Vc59.body (.fin (finQ Vc59.res _)) _ _
  unfold Vc59
  have ea : ibit .xor .u16 (if IntKind.u16.signed = true then -1 else IntKind.u16.max) a = 65535 - a := u16_not a0 a1
  have eb : ibit .xor .u16 (if IntKind.u16.signed = true then -1 else IntKind.u16.max) b = 65535 - b := u16_not b0 b1
  have f1 : (65535 - a) % 4294967296 = 65535 - a := by omega
  have f2 : (65535 - b) % 4294967296 = 65535 - b := by omega
  have f3 : c % 4294967296 = c := by omega
  have f4 : (65535 - a + (65535 - b)) % 4294967296 = 65535 - a + (65535 - b) := by omega
  have f5 : (65535 - a + (65535 - b) + c) % 4294967296 = 65535 - a + (65535 - b) + c := by omega
  have hn : 65535 - a + (65535 - b) + c = 65535 - a + (65535 - b) + c := rfl
  generalize hN : 65535 - a + (65535 - b) + c = n at f5
  have n0 : 0 ≤ n := by omega
  have n1 : n ≤ 196605 := by omega
  have f6 := u32_low n0 (by omega)
  have f7 : (n / 65536 + n % 65536) % 4294967296 = n / 65536 + n % 65536 := by omega
  have f8 := u32_low (x := n / 65536 + n % 65536) (by omega) (by omega)
  have f9 : (n / 65536 + n % 65536) / 65536 + (n / 65536 + n % 65536) % 65536 = nrm n := by
    rw [← nrm_fold n0, ← nrm_fold (n := n / 65536 + n % 65536) (by omega)]
    exact (nrm_small (by omega) (by omega)).symm
  obtain ⟨q0, q1⟩ := nrm_range n0
  have f10 : nrm n % 4294967296 = nrm n := by omega
  have f11 : nrm n % 65536 = nrm n := by omega
  have en : ibit .xor .u16 (if IntKind.u16.signed = true then -1 else IntKind.u16.max) (nrm n) = 65535 - nrm n := u16_not q0 q1
  simp (config := {maxSteps := 3000000}) only [run_reg, run_seq, run_ret, at_code_n, at_fin_r, ops_nil, ops_mv, ops_bin, ops_un, ops_conv, ev_t, ev_c, put_get, opv_mk, args0, List.getD_cons_zero, List.getD_cons_succ, vbin, vbinI, vun, vconv, norm, shAmt, IntKind.bits, and_true, true_and, Nat.reduceEqDiff, Nat.reduceLeDiff, Int.reduceToNat, Int.reduceLE, Int.reducePow, Int.reduceNeg, Nat.min_def, ↓reduceIte, vret, rvAll, rvVal, resv_1, eq_self, reduceCtorEq, ea, eb, f1, f2, f3, f4, hN, f5, f6, f7, f8, f9, f10, f11, en]
  exact ⟨_, _, Wk.refl _, hwf.weak, by unfold turned; rw [hN], rfl⟩
theorem ipD_ttl (h : ipE L = 0) : (ipD L).ttl = L.getD 8 0 := by
  have h20 : ¬ L.length < 20 := fun h' => by unfold ipE at h; rw [if_pos h'] at h; cases h
  unfold ipD
  rw [if_pos h]
  obtain ⟨x, hx⟩ := get_ex (L := L) (i := 8) (by omega)
  show ipN L 8 1 = _
  rw [ipN_byte hx]; simp [List.getD, hx]
theorem Get16_ok (hB : IsB L) (h : 2 ≤ L.length) : VCalls Try.prog 56 [.sl tk (bs L)] st fun r st' => r = .sc (.int .u16 (numL (L.take 2))) ∧ st = st' :=
  (Get16_v hB).mono fun _ _ ⟨h1, h2⟩ => ⟨by rw [h1, if_neg (by omega)], h2⟩
theorem Hop_v (hB : IsB L) (hL : L.length ≤ 1000000000) : VCalls Try.prog 35 [.sl tk (bs L)] st fun r st' => r = (if hops L then .tup [.sl .no (bs (hopB L)), .sc (.bool true)] else .tup [.sl .nil [], .sc (.bool false)]) ∧ st = st' := by
  refine VCalls.tell (Q := fun r s => (¬ hops L ∧ r = .tup [.sl .nil [], .sc (.bool false)] ∧ st = s) ∨ (hops L ∧ ∃ x, MRow st s x (hopB L) ∧ r = .tup [x, .sc (.bool true)])) ?_ ?_
  rotate_left
  · rintro r s (⟨h, rfl, rfl⟩ | ⟨h, x, hx, rfl⟩)
    · exact ⟨_, _, fun _ G _ _ hw hr => ⟨G, .refl G, hw, hr⟩, by rw [if_neg h], rfl⟩
    · exact ⟨_, _, hx.tell.tup2, by rw [if_pos h], rfl⟩
  refine vcalls_enter vc35 (Nat.le_of_ble_eq_true rfl) fun hwf hok => ?_
  show Run _ Vc35.body (.fin (finQ Vc35.res _)) _ _
  unfold Vc35
  simp (config := {maxSteps := 3000000}) only [run_reg, run_seq, at_code_n, ops_nil, ops_mv, ops_call, ev_t, ev_c, put_get, opv_mk, args0, List.getD_cons_zero, List.map_cons, List.map_nil, true_and, ↓reduceIte, eq_self, reduceCtorEq]
  refine Cal.mk (ip4Parse_v hB (by omega)) ?_
  rintro _ _ ⟨⟨tk1, tk2, rfl⟩, rfl⟩ -
  have ht := ipD_ttl (L := L)
  have h20 : ipE L = 0 → 20 ≤ L.length := fun h => by
    rcases Nat.lt_or_ge L.length 20 with h' | h'
    · unfold ipE at h; rw [if_pos h'] at h; cases h
    · exact h'
  have hh : hops L ↔ ipE L = 0 ∧ 2 ≤ (ipD L).ttl := Iff.rfl
  generalize hops L = H at *
  generalize ipD L = T at *
  generalize ipE L = e at *
  obtain ⟨tos, ttl, proto, id, frag, src, dst, O, D⟩ := T
  simp only at ht hh
  simp (config := {maxSteps := 3000000}) only [run_reg, run_seq, at_code_n, ops_nil, ops_grd, ops_mv, ops_bin, ops_ext, ops_alc, ops_store, ev_t, ev_c, put_get, put_none, opv_mk, stb_some, sto_ptr, Stp, put_box_same, put_put, vbin, vbinI, vext, splice, V.cells, ptrV, obsOk, List.length_cons, List.length_nil, List.getElem?_cons_zero, List.getElem?_cons_succ, List.take_zero, List.drop_succ_cons, List.nil_append, List.append_nil, List.drop_nil, true_and, Nat.reduceEqDiff, Nat.reduceAdd, Nat.reduceLT, Nat.reduceLeDiff, Nat.reduceLT, Nat.zero_add, ↓reduceIte, ne_eq, eq_self, DG.v]
  intro b hb
  by_cases he : e = 0
  rotate_left
  · simp (config := {maxSteps := 3000000}) only [run_reg, run_seq, run_ret, run_cond, if_true, at_code_n, at_code_r, at_fin_r, ops_nil, ops_grd, grd_tf, ops_mv, ops_pick, ev_t, ev_c, put_get, opv_mk, args0, vpick, vload, takeV, V.cells, List.map_cons, List.map_nil, and_true, true_and, Nat.reduceEqDiff, ↓reduceIte, vret, rvAll, rvVal, resv_2, eq_self, decide_eq_true he]
    exact ⟨_, _, Wk.refl _, weak_put hwf.weak hb, .inl ⟨fun h => he (hh.1 h).1, rfl, rfl⟩⟩
  have h20 := h20 he
  have ht := ht he
  by_cases h2 : ttl < 2
  · simp (config := {maxSteps := 3000000}) only [run_reg, run_seq, run_ret, run_cond, if_true, at_code_n, at_code_r, at_fin_r, ops_nil, ops_grd, grd_ff, ops_mv, ops_pick, ops_bin, ops_fld, ops_load, ev_t, ev_c, put_get, opv_mk, put_box_same, args0, vpick, vbin, vbinI, vfld, vload, takeV, V.cells, List.map_cons, List.map_nil, List.length_cons, List.length_nil, List.getElem?_cons_zero, List.getElem?_cons_succ, and_true, true_and, Nat.reduceEqDiff, Nat.zero_add, ↓reduceIte, vret, rvAll, rvVal, resv_2, eq_self, Bool.false_eq_true, decide_eq_false (show ¬ ¬ e = 0 by omega), decide_eq_true h2]
    exact ⟨_, _, Wk.refl _, weak_put hwf.weak hb, .inl ⟨fun h => by have := (hh.1 h).2; omega, rfl, rfl⟩⟩
  have hH : H := hh.2 ⟨he, by omega⟩
  subst he
  simp (config := {maxSteps := 3000000}) only [run_skip, run_reg, run_seq, run_cond, if_false, at_code_n, ops_nil, ops_grd, grd_ff, ops_mv, ops_pick, ops_bin, ops_fld, ops_load, ops_app, ev_t, ev_c, put_get, opv_mk, put_box_same, args0, List.getD_cons_zero, vpick, vbin, vbinI, vfld, vload, takeV, V.cells, List.length_cons, List.length_nil, List.getElem?_cons_zero, List.getElem?_cons_succ, true_and, Nat.reduceEqDiff, Nat.zero_add, ↓reduceIte, decide_false, not_true_eq_false, eq_self, reduceCtorEq, Bool.false_eq_true, decide_eq_false h2]
  refine App.rowN (base := st) (M := L) (weak_put hwf.weak hb) hwf.lt.put .sl (by omega) (by omega) ?_
  intro r s k _
  obtain ⟨bb, cap, rfl, hc1, hc2⟩ := k.is
  obtain ⟨x8, hx8⟩ := get_ex (L := L) (i := 8) (by omega)
  have b8 := hB.get hx8
  have hg8 : L.getD 8 0 = x8 := by simp [List.getD, hx8]
  obtain ⟨spare, hbx, hcl⟩ := k.cells
  have hc8 := hcl 8 x8 hx8
  have e8 : (x8 - 1) % 256 = x8 - 1 := by omega
  simp (config := {maxSteps := 3000000}) only [run_reg, run_seq, at_code_n, ops_nil, ops_mv, ops_ix, ops_load, ev_t, ev_c, put_get, opv_mk, vix, vload, takeV, V.cells, obsOk, true_and, Int.reduceToNat, Int.reduceLE, Nat.zero_add, Nat.mul_one, ↓reduceIte, eq_self]
  refine ⟨by omega, ?_⟩
  rw [hbx]
  clear hbx hcl
  simp only [hc8]
  simp (config := {maxSteps := 3000000}) only [ops_bin, ops_ix, ops_store, ev_t, ev_c, put_get, opv_mk, sto_ptr, vbin, vbinI, norm, vix, V.cells, List.length_cons, List.length_nil, and_true, true_and, Nat.reduceEqDiff, Int.reduceToNat, Int.reduceLE, Nat.zero_add, Nat.mul_one, ↓reduceIte, eq_self, e8]
  refine ⟨by omega, ?_⟩
  refine Stb.row k (by omega) ?_
  intro s k _
  have hL1 : L.set 8 (x8 - 1) = hop1 L := by unfold hop1; rw [hg8]
  rw [hL1] at k
  have hB1 : IsB (hop1 L) := by
    intro z hz
    rw [← hL1] at hz
    rcases List.mem_or_eq_of_mem_set hz with h | h
    · exact hB z h
    · omega
  have hl1 : (hop1 L).length = L.length := by simp [hop1]
  have hHB : hopB L = ((hop1 L).set 10 (hopC L / 256)).set 11 (hopC L % 256) := rfl
  have hHC : hopC L = turned (numL ((L.drop 10).take 2)) (numL ((L.drop 8).take 2)) (numL (((hop1 L).drop 8).take 2)) := rfl
  obtain ⟨a0, a1⟩ := num2 hB 10
  obtain ⟨b0, b1⟩ := num2 hB 8
  obtain ⟨c0, c1⟩ := num2 hB1 8
  simp (config := {maxSteps := 3000000}) only [run_reg, run_seq, at_code_n, ops_nil, ops_mv, ops_slc, ops_call, ev_t, ev_c, put_get, put_none, opv_mk, args0, List.getD_cons_zero, vslc, obsOk, List.map_cons, List.map_nil, Option.map_some, Option.map_none, true_and, Nat.reduceEqDiff, Int.reduceToNat, Int.reduceLE, Int.reduceEq, Nat.zero_add, Nat.mul_one, ↓reduceIte, eq_self, reduceCtorEq, false_or, bs_len, bs_drop, allSz_bs']
  refine ⟨by omega, by omega, ⟨by omega, by omega, by omega⟩, ?_⟩
  refine Cal.mk (Get16_ok (hB.drop 10) (by simp; omega)) ?_
  rintro _ _ ⟨rfl, rfl⟩ -
  simp (config := {maxSteps := 3000000}) only [ops_call, ev_t, put_get, obsOk, List.map_cons, List.map_nil, true_and, Nat.reduceEqDiff, ↓reduceIte, eq_self]
  refine Cal.mk (Get16_ok (hB.drop 8) (by simp; omega)) ?_
  rintro _ _ ⟨rfl, rfl⟩ -
  simp (config := {maxSteps := 3000000}) only [ops_call, ev_t, put_get, obsOk, List.map_cons, List.map_nil, true_and, Nat.reduceEqDiff, ↓reduceIte, eq_self]
  refine Cal.mk (k.readsD (k := 8) (by omega) fun n => (Get16_ok (hB1.drop 8) (by simp; omega)).mono fun _ _ h => h.1) ?_
  rintro _ _ ⟨rfl, rfl⟩ -
  simp (config := {maxSteps := 3000000}) only [ops_call, ev_t, put_get, obsOk, List.map_cons, List.map_nil, true_and, Nat.reduceEqDiff, ↓reduceIte, eq_self]
  refine Cal.mk (Turned_v a0 (by omega) b0 (by omega) c0 (by omega)) ?_
  rintro _ _ ⟨rfl, rfl⟩ -
  rw [← hHC]
  have q0 : 0 ≤ hopC L ∧ hopC L ≤ 65535 := by
    have := nrm_range (n := 65535 - numL ((L.drop 10).take 2) + (65535 - numL ((L.drop 8).take 2)) + numL (((hop1 L).drop 8).take 2)) (by omega)
    unfold hopC turned
    omega
  have c256 : hopC L / 256 % 256 = hopC L / 256 := by omega
  generalize hopC L = c at *
  simp (config := {maxSteps := 3000000}) only [run_reg, run_seq, at_code_n, ops_nil, ops_mv, ops_bin, ops_conv, ops_ix, ops_store, ev_t, ev_c, put_get, opv_mk, sto_ptr, vbin, vbinI, vconv, norm, vix, V.cells, obsOk, shAmt, IntKind.bits, true_and, Nat.reduceEqDiff, Nat.reduceLeDiff, Int.reduceToNat, Int.reduceLE, Int.reducePow, Nat.min_def, Nat.zero_add, Nat.mul_one, ↓reduceIte, eq_self, c256]
  refine ⟨by omega, ?_⟩
  refine Stb.row k (by omega) ?_
  intro s k _
  simp (config := {maxSteps := 3000000}) only [ops_ix, ops_store, ev_t, ev_c, put_get, put_none, opv_mk, sto_ptr, vix, V.cells, obsOk, true_and, Nat.reduceEqDiff, Int.reduceToNat, Int.reduceLE, Nat.zero_add, Nat.mul_one, ↓reduceIte, eq_self]
  refine ⟨by omega, ?_⟩
  refine Stb.row k (by rw [List.length_set]; omega) ?_
  intro s k _
  rw [← hHB] at k
  simp (config := {maxSteps := 3000000}) only [run_reg, run_seq, run_ret, at_code_n, at_fin_r, ops_nil, ops_mv, ev_t, ev_c, put_get, put_none, opv_mk, args0, vload, takeV, V.cells, obsOk, List.map_cons, List.map_nil, and_true, true_and, Nat.reduceEqDiff, ↓reduceIte, vret, rvAll, rvVal, resv_2, eq_self]
  exact ⟨_, _, Wk.refl _, k.lt.weak, .inr ⟨hH, _, k, rfl⟩⟩
end
end Go.Proofs.Ytbmkohmhiafphaa
