/- Rows of bytes that may turn; boxes that are sealed at a call's end. -/
import Derived.Test.YtmomebkfaibmgaaVRef1
import Derived.Test.YtmomebkfaibmgaaV13
namespace Go.Proofs.Ytmomebkfaibmgaa
open Go

/-! ### The ghost may grow at a call's end -/
/-- What is known of a result and a state may be told otherwise. -/
def Tell (r : V) (s : St) (r' : V) (s' : St) : Prop := ∀ (w0 : Fr) (G : Gh) (w : World) (u : Value), RepW w0 G s w → Rep1 G r u → ∃ G', G.le G' ∧ RepW w0 G' s' w ∧ Rep1 G' r' u
theorem VCalls.tell {P : Program} {f : FuncId} {args : List V} {st : St} {Q Q' : V → St → Prop} (h : VCalls P f args st Q) (hk : ∀ r s, Q r s → ∃ r' s', Tell r s r' s' ∧ Q' r' s') : VCalls P f args st Q' :=
  fun w0 G w us hw hl hr => (h w0 G w us hw hl hr).mono fun _ _ ⟨u, r, s, G', h1, h2, h3, h4, h5⟩ => by
    obtain ⟨r', s', t, q⟩ := hk r s h2
    obtain ⟨G2, k1, k2, k3⟩ := t _ _ _ _ h5 h3
    exact ⟨u, r', s', G2, h1, q, k3, h4.trans k1, k2⟩
/-- A box below which the caller speaks of nothing. -/
theorem weak_drop {base s : St} {b : Nat} (h : base.weak s) (hb : base.sz ≤ b) : base.weak (s.drop b) :=
  ⟨fun c cs hc => ⟨by simp only [St.drop]; rw [if_neg (by have := (h.box c cs hc).2; omega)]; exact (h.box c cs hc).1, (h.box c cs hc).2⟩, h.own, h.sz⟩

/-! ### Rows of bytes -/
/-- A row of bytes that may turn: its box is none of base's. -/
structure MRow (base s : St) (r : V) (L : List Int) : Prop where
  weak : base.weak s
  lt : s.Lt
  row : ∃ b cap spare, r = .sc (.slice (some ⟨b, 0, none⟩) L.length cap) ∧ base.sz ≤ b ∧ s.box b = some (bs L ++ spare) ∧ L.length + spare.length = cap ∧ cap ≤ maxLen
theorem MRow.put {base s : St} (hw : base.weak s) (hl : s.Lt) {b cap : Nat} {L : List Int} {spare : List V} (hb : base.sz ≤ b) (h : L.length + spare.length = cap) (hm : cap ≤ maxLen) : MRow base (s.put b (bs L ++ spare)) (.sc (.slice (some ⟨b, 0, none⟩) L.length cap)) L :=
  ⟨weak_put hw hb, hl.put, b, cap, spare, rfl, hb, put_box_same, h, hm⟩
theorem bs_flat1 (L : List Int) : (bs L).flatMap V.cells = bs L := bs_flat L
/-- The row reads as bytes. -/
theorem MRow.frz {base s : St} {r : V} {L : List Int} (h : MRow base s r L) : Frz s r (.sl .no (bs L)) := by
  obtain ⟨b, cap, spare, rfl, h1, h2, h3, h4⟩ := h.row
  have := Frz.box (st := s) b 0 cap 1 (bs L ++ spare) (bs L) h2 (fun i d hd => allSz_bs L d (List.mem_of_getElem? hd)) (fun i d j x hd hj => by
    have hi := (List.getElem?_eq_some_iff.1 hd).1
    have : d.cells = [d] := by
      obtain ⟨n, _, rfl⟩ := List.mem_map.1 (List.mem_of_getElem? hd); rfl
    rw [this] at hj
    have hj0 : j = 0 := by
      rcases Nat.eq_zero_or_pos j with h | h
      · exact h
      · rw [List.getElem?_eq_none (by simp; omega)] at hj; cases hj
    subst hj0
    simp at hj; subst hj
    rw [List.getElem?_append, if_pos (by omega)]
    simpa using hd) (by rw [bs_len]; omega) h4
  rwa [bs_len] at this
/-- The row is sealed at a call's end. -/
theorem MRow.tell {base s : St} {r : V} {L : List Int} (h : MRow base s r L) : Tell r s (.sl .no (bs L)) base := by
  obtain ⟨b, cap, spare, rfl, h1, h2, h3, h4⟩ := h.row
  intro w0 G w u hw hr
  obtain ⟨G', k1, k2, k3⟩ := hw.seal h2
  refine ⟨G', k1, k2.weak (weak_drop h.weak h1), ?_⟩
  rw [hr.sc_inv]
  have := k3 0 cap 1 (bs L) (fun i d hd => allSz_bs L d (List.mem_of_getElem? hd)) (fun i d j x hd hj => by
    have hi := (List.getElem?_eq_some_iff.1 hd).1
    have : d.cells = [d] := by
      obtain ⟨n, _, rfl⟩ := List.mem_map.1 (List.mem_of_getElem? hd); rfl
    rw [this] at hj
    have hj0 : j = 0 := by
      rcases Nat.eq_zero_or_pos j with h | h
      · exact h
      · rw [List.getElem?_eq_none (by simp; omega)] at hj; cases hj
    subst hj0
    simp at hj; subst hj
    rw [List.getElem?_append, if_pos (by omega)]
    simpa using hd) (by rw [bs_len]; omega) h4
  rwa [bs_len] at this
theorem Tell.tup2 {r r' : V} {s s' : St} {x : Value} (h : Tell r s r' s') : Tell (.tup [r, .sc x]) s (.tup [r', .sc x]) s' := by
  intro w0 G w u hw hr
  cases hr with
  | tup _ vs hl hg =>
    have hs : vs.size = 2 := hl
    have e0 : vs[0]? = some vs[0] := Array.getElem?_eq_getElem (by omega)
    have e1 : vs[1]? = some vs[1] := Array.getElem?_eq_getElem (by omega)
    obtain ⟨G', k1, k2, k3⟩ := h w0 G w _ hw (hg 0 r _ rfl e0)
    refine ⟨G', k1, k2, .tup _ vs hl fun i c v hc hv => ?_⟩
    match i, hc with
    | 0, hc => simp at hc; subst hc; rw [e0] at hv; cases hv; exact k3
    | 1, hc => simp at hc; subst hc; exact (hg 1 _ v rfl hv).mono k1
theorem Tell.weak {r : V} {s s' : St} (h : s'.weak s) : Tell r s r s' := fun _ G _ _ hw hr => ⟨G, .refl G, hw.weak h, hr⟩

section
variable {P : Program} {k : Kt} {A : Nat → V} {base st : St} {d : Option Nat} {obs : List (Option Nat × X × Nat)} {rest : List VO} {x y : V} {L M : List Int} {tk : Tk}
/-- What is appended. -/
def BSrc (st : St) (y : V) (M : List Int) : Prop := srcV 1 st y (bs M)
theorem BSrc.sl : BSrc st (.sl tk (bs M)) M := .inl ⟨tk, rfl⟩
theorem MRow.src (h : MRow base st y M) : BSrc st y M := by
  obtain ⟨b, cap, spare, rfl, h1, h2, h3, h4⟩ := h.row
  refine .inr ⟨b, 0, cap, bs M ++ spare, by rw [bs_len], h2, by simp [bs_len], ?_⟩
  rw [bs_flat, bs_len, List.drop_zero, Nat.mul_one, List.take_append_of_le_length (by rw [bs_len]; exact Nat.le_refl _), List.take_of_length_le (by rw [bs_len]; exact Nat.le_refl _)]
theorem App.rowG (h : MRow base st x L) (hs : BSrc st y M) (hl : L.length + M.length ≤ 100000000000000) (hk : ∀ r s, MRow base s r (L ++ M) → (∀ b cs, base.box b = some cs → s.box b = some cs) → obsOk s A obs ∧ Ops P rest k (putV A d r) s) : App P 1 1 x y d obs rest k A st := by
  obtain ⟨b, cap, spare, rfl, h1, h2, h3, h4⟩ := h.row
  refine .inr (.inl ⟨b, L.length, cap, bs L ++ spare, bs M, rfl, h2, by rw [List.length_append, bs_len]; omega, by omega, h4, hs, allSz_bs _, by rw [bs_len]; unfold maxLen; omega, by rw [bs_len]; omega, fun b' cap' spare' k1 k2 k3 k4 => ?_⟩)
  rw [bs_len] at k2 k4
  have e : (bs L ++ spare).take (L.length * 1) = bs L := by rw [Nat.mul_one, List.take_append_of_le_length (by rw [bs_len]; exact Nat.le_refl _), List.take_of_length_le (by rw [bs_len]; exact Nat.le_refl _)]
  rw [e, bs_flat, bs_append, bs_len, show L.length + M.length = (L ++ M).length by simp]
  have hb' : base.sz ≤ b' := by have := h.weak.sz; omega
  have hm := MRow.put (L := L ++ M) (spare := spare') (cap := cap') h.weak h.lt hb' (by simp; omega) k3
  exact hk _ _ hm fun c cs hc => (hm.weak.box c cs hc).1
theorem App.row (h : MRow base st x L) (hl : L.length + M.length ≤ 100000000000000) (hk : ∀ r s, MRow base s r (L ++ M) → (∀ b cs, base.box b = some cs → s.box b = some cs) → obsOk s A obs ∧ Ops P rest k (putV A d r) s) : App P 1 1 x (.sl tk (bs M)) d obs rest k A st := App.rowG h .sl hl hk
theorem App.rowN (hw : base.weak st) (hl : st.Lt) (hs : BSrc st y M) (h0 : 0 < M.length) (hM : M.length ≤ 100000000000000) (hk : ∀ r s, MRow base s r M → (∀ b cs, base.box b = some cs → s.box b = some cs) → obsOk s A obs ∧ Ops P rest k (putV A d r) s) : App P 1 1 (.sl .nil []) y d obs rest k A st := by
  refine .inr (.inr ⟨bs M, rfl, hs, allSz_bs _, by rw [bs_len]; exact h0, by rw [bs_len]; unfold maxLen; omega, by rw [bs_len]; omega, fun b' cap' spare' k1 k2 k3 k4 => ?_⟩)
  rw [bs_len] at k2 k4 ⊢
  rw [bs_flat]
  have hm := MRow.put (L := M) (spare := spare') (cap := cap') hw hl (b := b') (by have := hw.sz; omega) (by omega) k3
  exact hk _ _ hm fun c cs hc => (hm.weak.box c cs hc).1
theorem Bo.row (hw : base.weak st) (hl : st.Lt) (hM : M.length ≤ 100000000000000) (hk : ∀ r s, MRow base s r M → (∀ b cs, base.box b = some cs → s.box b = some cs) → obsOk s A obs ∧ Ops P rest k (putV A d r) s) : Bo P 1 (bs M) d obs rest k A st := by
  refine Bo.mut (allLen_of (allSz_bs _)) fun b hb => ?_
  have hm := MRow.put (L := M) (spare := []) (cap := M.length) hw hl (b := b) (by have := hw.sz; omega) rfl (by unfold maxLen; omega)
  rw [List.append_nil] at hm
  rw [bs_flat, bs_len]
  exact hk _ _ hm fun c cs hc => (hm.weak.box c cs hc).1
/-- A cell of the row is set. -/
theorem splice_set {i : Nat} {z : Int} {spare : List V} (h : i < L.length) : splice (bs L ++ spare) i [.sc (.int .u8 z)] = bs (L.set i z) ++ spare := by
  unfold splice
  apply List.ext_getElem?
  intro j
  have hl : (bs L ++ spare).length = L.length + spare.length := by simp [bs_len]
  have hgs : (bs (L.set i z))[j]? = if j = i then some (.sc (.int .u8 z)) else (bs L)[j]? := by
    rw [bs_get, bs_get, List.getElem?_set]
    by_cases e : i = j
    · subst e; simp [h]
    · rw [if_neg e, if_neg (fun e' => e e'.symm)]
  have hbs : (bs (L.set i z)).length = L.length := by simp [bs_len]
  have htl : ((bs L ++ spare).take i).length = i := by rw [List.length_take, hl]; omega
  rw [List.append_assoc, List.getElem?_append, htl]
  by_cases c1 : j < i
  · rw [if_pos c1, List.getElem?_take, if_pos c1, List.getElem?_append, if_pos (by rw [bs_len]; omega), List.getElem?_append, if_pos (by omega), hgs, if_neg (by omega)]
  · rw [if_neg c1]
    by_cases c2 : j = i
    · subst c2
      rw [List.getElem?_append (l₁ := bs (L.set j z)), if_pos (by omega), hgs, if_pos rfl]
      simp
    · rw [List.getElem?_append, if_neg (by simp; omega), List.getElem?_drop]
      simp only [List.length_cons, List.length_nil, Nat.zero_add]
      rw [show i + 1 + (j - i - 1) = j by omega, List.getElem?_append, List.getElem?_append, hbs, bs_len]
      split
      · rw [hgs, if_neg c2]
      · rfl
theorem MRow.set {b i : Nat} {n cap : Nat} {z : Int} (h : MRow base st (.sc (.slice (some ⟨b, 0, none⟩) n cap)) L) (hi : i < L.length) : ∃ spare, st.box b = some (bs L ++ spare) ∧ n = L.length ∧ base.sz ≤ b ∧ splice (bs L ++ spare) i [.sc (.int .u8 z)] = bs (L.set i z) ++ spare ∧
    MRow base (st.put b (bs (L.set i z) ++ spare)) (.sc (.slice (some ⟨b, 0, none⟩) n cap)) (L.set i z) := by
  obtain ⟨b', cap', spare, e, h1, h2, h3, h4⟩ := h.row
  cases e
  refine ⟨spare, h2, rfl, h1, splice_set hi, ?_⟩
  have := MRow.put (L := L.set i z) (spare := spare) (cap := cap) h.weak h.lt h1 (by simpa using h3) h4
  simpa using this
/-- A cell of the row is set, as a step. -/
theorem Stb.row {z : Int} {i : Nat} {n cap b : Nat} (h : MRow base st (.sc (.slice (some ⟨b, 0, none⟩) n cap)) L) (hi : i < L.length) (hk : ∀ s, MRow base s (.sc (.slice (some ⟨b, 0, none⟩) n cap)) (L.set i z) → (∀ b cs, base.box b = some cs → s.box b = some cs) → obsOk s A obs ∧ Ops P rest k (putV A d .und) s) :
    Stb P (st.box b) 1 b i [.sc (.int .u8 z)] obs d rest k A st := by
  obtain ⟨spare, h1, rfl, h2, h3, h4⟩ := h.set (z := z) hi
  rw [h1]
  unfold Stb
  simp only
  refine ⟨rfl, by omega, by simp [bs_len]; omega, ?_⟩
  unfold Stp
  simp only [h3]
  exact hk _ h4 fun c cs hc => (h4.weak.box c cs hc).1
/-- What a cell of the row holds. -/
theorem MRow.get {b i : Nat} {n cap : Nat} {z : Int} (h : MRow base st (.sc (.slice (some ⟨b, 0, none⟩) n cap)) L) (hi : L[i]? = some z) : vload st none (.sc (.pointer (some ⟨b, i, none⟩))) = (True, .sc (.int .u8 z)) := by
  obtain ⟨b', cap', spare, e, h1, h2, h3, h4⟩ := h.row
  cases e
  have hlt := (List.getElem?_eq_some_iff.1 hi).1
  simp only [vload, h2, takeV]
  rw [List.getElem?_append, if_pos (by rw [bs_len]; exact hlt), bs_get, hi]
  simp [V.cells]
theorem MRow.is (h : MRow base st x L) : ∃ b cap, x = .sc (.slice (some ⟨b, 0, none⟩) L.length cap) ∧ L.length ≤ cap ∧ cap ≤ maxLen := by
  obtain ⟨b', cap', spare, e, h1, h2, h3, h4⟩ := h.row
  exact ⟨b', cap', e, by omega, h4⟩
/-- A call that only reads the row. -/
theorem MRow.reads {f : FuncId} {v : Value} (h : MRow base st x L) (hc : ∀ n, VCalls P f [.sl .no (bs L)] ⟨fun _ => none, fun _ => none, n⟩ fun r _ => r = .sc v) : VCalls P f [x] st fun r st' => r = .sc v ∧ st = st' :=
  VCalls.frz hc rfl fun i d d' h1 h2 => by
    cases i with
    | zero => simp at h1 h2; subst h1 h2; exact h.frz
    | succ i => simp at h1
end

section
variable {base st : St} {x : V} {L : List Int} {tk : Tk}
abbrev Same (base : St) (s : St) : Prop := ∀ b cs, base.box b = some cs → s.box b = some cs
theorem beL2 (n : Int) : beL n 2 = [n / 256 % 256, n % 256] := by simp [beL]
theorem beL4 (n : Int) : beL n 4 = [n / 16777216 % 256, n / 65536 % 256, n / 256 % 256, n % 256] := by simp [beL]
theorem Put16_b (h : MRow base st x L) (hl : L.length ≤ 1000000000000) {n : Int} (h0 : 0 ≤ n) (h1 : n < 65536) : VCalls Try.prog 47 [x, .sc (.int .u16 n)] st fun r s => MRow base s r (L ++ beL n 2) := by
  rw [beL2]
  obtain ⟨b, cap, rfl, _⟩ := h.is
  refine vcalls_enter vc47 (Nat.le_of_ble_eq_true rfl) fun hwf hok => ?_
  show Run _ Vc47.body (.fin (finQ Vc47.res _)) _ _
  unfold Vc47
  simp (config := {maxSteps := 3000000}) (disch := ((fail_if_success refine selfNe ?_); omega)) only [run_reg, run_seq, at_code_n, ops_nil, ops_mv, ops_bin, ops_conv, ops_bsl, ops_app, ev_t, ev_c, put_get, opv_mk, vbsl, args0, List.getD_cons_zero, List.getD_cons_succ, vbin, vbinI, vconv, norm, V.cells, strip, strip1, allLen, shAmt, IntKind.bits, List.map_cons, List.map_nil, List.length_cons, List.length_nil, and_true, true_and, Nat.reduceEqDiff, Nat.reduceLeDiff, Int.reduceToNat, Int.reduceLE, Int.reducePow, Nat.min_def, Nat.zero_add, ↓reduceIte, eq_self, reduceCtorEq]
  refine App.row (M := [n / 256 % 256, n % 256]) h (by simp; omega) ?_
  intro r s k _
  simp (config := {maxSteps := 3000000}) (disch := ((fail_if_success refine selfNe ?_); omega)) only [run_ret, at_code_n, at_fin_r, ops_nil, ops_mv, ev_t, put_get, opv_mk, obsOk, and_true, true_and, ↓reduceIte, vret, rvAll, rvVal, resv_1, eq_self]
  exact ⟨_, _, Wk.refl _, k.lt.weak, k⟩
theorem Put32_b (h : MRow base st x L) (hl : L.length ≤ 1000000000000) {n : Int} (h0 : 0 ≤ n) (h1 : n < 4294967296) : VCalls Try.prog 48 [x, .sc (.int .u32 n)] st fun r s => MRow base s r (L ++ beL n 4) := by
  rw [beL4]
  obtain ⟨b, cap, rfl, _⟩ := h.is
  refine vcalls_enter vc48 (Nat.le_of_ble_eq_true rfl) fun hwf hok => ?_
  show Run _ Vc48.body (.fin (finQ Vc48.res _)) _ _
  unfold Vc48
  simp (config := {maxSteps := 3000000}) (disch := ((fail_if_success refine selfNe ?_); omega)) only [run_reg, run_seq, at_code_n, ops_nil, ops_mv, ops_bin, ops_conv, ops_bsl, ops_app, ev_t, ev_c, put_get, opv_mk, vbsl, args0, List.getD_cons_zero, List.getD_cons_succ, vbin, vbinI, vconv, norm, V.cells, strip, strip1, allLen, shAmt, IntKind.bits, List.map_cons, List.map_nil, List.length_cons, List.length_nil, and_true, true_and, Nat.reduceEqDiff, Nat.reduceLeDiff, Int.reduceToNat, Int.reduceLE, Int.reducePow, Nat.min_def, Nat.zero_add, ↓reduceIte, eq_self, reduceCtorEq]
  refine App.row (M := [n / 16777216 % 256, n / 65536 % 256, n / 256 % 256, n % 256]) h (by simp; omega) ?_
  intro r s k _
  simp (config := {maxSteps := 3000000}) (disch := ((fail_if_success refine selfNe ?_); omega)) only [run_ret, at_code_n, at_fin_r, ops_nil, ops_mv, ev_t, put_get, opv_mk, obsOk, and_true, true_and, ↓reduceIte, vret, rvAll, rvVal, resv_1, eq_self]
  exact ⟨_, _, Wk.refl _, k.lt.weak, k⟩
theorem MRow.keep {s : St} {r : V} {c : Nat} {cs : List V} (h : MRow base s r L) (hc : s.sz ≤ c) : MRow base (s.put c cs) r L := by
  obtain ⟨b, cap, spare, rfl, h1, h2, h3, h4⟩ := h.row
  have := h.lt.box _ _ h2
  exact ⟨weak_put h.weak (by have := h.weak.sz; omega), h.lt.put, b, cap, spare, rfl, h1, by rw [put_box_ne (by omega)]; exact h2, h3, h4⟩
theorem MRow.rebase {s : St} {r : V} (h : MRow st s r L) (hw : base.weak st) : MRow base s r L := by
  obtain ⟨b, cap, spare, rfl, h1, h2⟩ := h.row
  exact ⟨hw.trans h.weak, h.lt, b, cap, spare, rfl, by have := hw.sz; omega, h2⟩
theorem BSrc.same {s : St} {y : V} {M : List Int} (h : BSrc st y M) (hs : Same st s) : BSrc s y M := by
  rcases h with h | ⟨b, o, c, cs, h1, h2, h3⟩
  · exact .inl h
  · exact .inr ⟨b, o, c, cs, h1, hs b cs h2, h3⟩
/-- The document's Put, as a row that may turn. -/
theorem rPut_b {n size : Int} (hx : BSrc st x L) (hl : L.length ≤ 1000000000000) (h0 : 0 ≤ n) (h1 : n ≤ 18446744073709551615) : VCalls Try.prog 32 [x, .sc (.int .u64 n), .sc (.int .i64 size)] st fun r st' =>
    MRow st st' r (if size < 1 ∨ 8 < size then L else L ++ beL n size.toNat) := by
  refine vcalls_enter vc32 (Nat.le_of_ble_eq_true rfl) fun hwf hok => ?_
  show Run _ Vc32.body (.fin (finQ Vc32.res _)) _ _
  unfold Vc32
  simp (config := {maxSteps := 3000000}) (disch := ((fail_if_success refine selfNe ?_); omega)) only [run_reg, run_seq, at_code_n, ops_nil, ops_mv, ops_bslo, ev_c, opv_mk, strip, strip1, List.map_nil, true_and]
  refine Bo.row (M := []) hwf.weak hwf.lt (by simp) ?_
  intro r0 s0 k0 k0'
  simp (config := {maxSteps := 3000000}) (disch := ((fail_if_success refine selfNe ?_); omega)) only [ops_mv, ops_app, ev_t, put_get, opv_mk, args0, List.getD_cons_zero, obsOk, true_and, Nat.reduceEqDiff, ↓reduceIte, eq_self, reduceCtorEq]
  refine App.rowG k0 (hx.same k0') (by simp; omega) ?_
  intro r1 s1 k1 k1'
  rw [List.nil_append] at k1
  by_cases c1 : size < 1
  · simp (config := {maxSteps := 3000000}) (disch := ((fail_if_success refine selfNe ?_); omega)) only [run_reg, run_seq, run_ret, run_cond, if_true, at_code_n, at_code_r, at_fin_r, ops_nil, ops_grd, grd_tf, ops_mv, ops_pick, ops_bin, ev_t, ev_c, put_get, opv_mk, args0, List.getD_cons_zero, List.getD_cons_succ, vpick, vbin, vbinI, obsOk, and_true, true_and, Nat.reduceEqDiff, ↓reduceIte, vret, rvAll, rvVal, resv_1, decide_true, eq_self, true_or, c1]
    exact ⟨_, _, Wk.refl _, k1.lt.weak, k1⟩
  by_cases c2 : 8 < size
  · simp (config := {maxSteps := 3000000}) (disch := ((fail_if_success refine selfNe ?_); omega)) only [run_reg, run_seq, run_ret, run_cond, if_true, at_code_n, at_code_r, at_fin_r, ops_nil, ops_grd, grd_ff, ops_mv, ops_pick, ops_bin, ev_t, ev_c, put_get, opv_mk, args0, List.getD_cons_zero, List.getD_cons_succ, vpick, vbin, vbinI, obsOk, and_true, true_and, Nat.reduceEqDiff, ↓reduceIte, vret, rvAll, rvVal, resv_1, decide_true, decide_false, eq_self, Bool.false_eq_true, or_true, c1, c2]
    exact ⟨_, _, Wk.refl _, k1.lt.weak, k1⟩
  rw [if_neg (by omega)]
  simp (config := {maxSteps := 3000000}) (disch := ((fail_if_success refine selfNe ?_); omega)) only [run_skip, run_reg, run_seq, run_blk, run_cond, if_false, at_code_n, ops_nil, ops_grd, grd_ff, ops_mv, ops_pick, ops_bin, ops_mks, mks_int, ev_t, ev_c, put_get, opv_mk, args0, List.getD_cons_zero, List.getD_cons_succ, vpick, vbin, vbinI, obsOk, true_and, Nat.reduceEqDiff, ↓reduceIte, eq_self, Bool.false_eq_true, decide_eq_false c1, decide_eq_false c2]
  repeat (apply And.intro; focus (first | omega | (simp; done)))
  intro b hb
  rw [bs_zeros]
  obtain ⟨sz, hsz⟩ : ∃ k : Nat, size = k := ⟨size.toNat, by omega⟩
  subst hsz
  rw [Int.toNat_natCast]
  have hsz8 : sz ≤ 8 := by omega
  refine run_loop [1, 9, 22, 23, 24, 25, 26, 27, 28, 29, 30, 31, 32, 33, 34, 35, 36, 37] (fun B s => ∃ i : Nat, i ≤ sz ∧ B 9 = .sc (.int .i64 i) ∧ B 1 = .sc (.int .u64 (n / 256 ^ i)) ∧ s = s1.put b (bs (List.replicate (sz - i) 0 ++ beL n i))) (fun B _ => sz - vnat (B 9)) rfl ?_ ?_
  · simp (config := {maxSteps := 3000000}) (disch := ((fail_if_success refine selfNe ?_); omega)) only [put_get, args0, List.getD_cons_zero, List.getD_cons_succ, Nat.reduceEqDiff, ↓reduceIte, eq_self]
    exact ⟨0, by omega, by simp, by simp, by simp [beL]⟩
  · rintro B s ⟨i, hi, h9, h1', rfl⟩
    have hdiv : 0 ≤ n / 256 ^ i := Int.ediv_nonneg h0 (by have := pow256_pos i; omega)
    by_cases hlt : i < sz
    · have hdd : n / 256 ^ i / 256 = n / 256 ^ (i + 1) := by rw [Int.pow_succ, Int.ediv_ediv_of_nonneg (by have := pow256_pos i; omega)]
      have hle : n / 256 ^ i ≤ n := Int.ediv_le_self _ h0
      obtain ⟨m, hm⟩ : ∃ m, sz - i = m + 1 := ⟨sz - i - 1, by omega⟩
      have hm2 : ((sz : Int) - 1 - i).toNat = m := by omega
      rw [hm]
      simp (config := {maxSteps := 3000000}) (disch := ((fail_if_success refine selfNe ?_); omega)) only [run_skip, run_reg, run_seq, run_blk, run_cond, if_true, at_code_n, at_blk_n, at_rnd_n, ops_nil, ops_mv, ops_bin, ops_conv, ops_ix, ops_store, ev_t, ev_c, put_get, put_none, opv_mk, stb_some, sto_ptr, over_get, rel_mk, vnat, Stp, put_box_same, put_put, args0, List.getD_cons_zero, List.getD_cons_succ, vbin, vbinI, vconv, norm, vix, splice, V.cells, obsOk, List.length_cons, List.length_nil, and_true, true_and, Nat.reduceEqDiff, Nat.reduceLT, Nat.reduceLT, Int.toNat_natCast, Int.reduceLT, Int.reduceNeg, Nat.zero_add, Nat.mul_one, ↓reduceIte, eq_self, Bool.false_eq_true, List.contains_cons, List.contains_nil, Nat.reduceBEq, Bool.or_false, Bool.or_true, h9, h1', decide_eq_true (show (i : Int) < (sz : Int) by omega), hm2, bs_len, List.length_append, List.length_replicate, beL_len, emod_small]
      repeat (apply And.intro; focus (first | omega | (simp; done)))
      have hsp := splice_bs (m := m) (T := beL n i) (x := n / 256 ^ i % 256)
      simp only [splice, List.length_cons, List.length_nil, Nat.zero_add] at hsp
      exact ⟨⟨i + 1, by omega, by simp, by rw [hdd], by rw [hsp, show sz - (i + 1) = m by omega]; rfl⟩, by omega⟩
    · obtain rfl : i = sz := by omega
      simp (config := {maxSteps := 3000000}) (disch := ((fail_if_success refine selfNe ?_); omega)) only [run_reg, run_seq, run_exit, run_cond, if_false, at_code_n, at_code_x, at_blk_x, at_rnd_x, ops_nil, ops_mv, ops_bin, ops_app, ev_t, put_get, opv_mk, over_get, vnat, args0, List.getD_cons_zero, List.getD_cons_succ, vbin, vbinI, List.nil_append, true_and, Nat.reduceEqDiff, Int.toNat_natCast, ↓reduceIte, decide_false, Int.lt_irrefl, eq_self, Bool.false_eq_true, List.contains_cons, List.contains_nil, Nat.reduceBEq, Bool.or_false, Bool.or_true, h9, Nat.sub_self, List.replicate_zero]
      have k2 := k1.keep (cs := bs (beL n i)) hb
      refine App.rowG (M := beL n i) k2 (.inr ⟨b, 0, i, bs (beL n i), by rw [bs_len, beL_len], put_box_same, by simp [bs_len, beL_len], by rw [bs_flat, List.drop_zero, Nat.mul_one]; exact List.take_of_length_le (by simp [bs_len, beL_len])⟩) (by rw [beL_len]; omega) ?_
      intro r2 s2 k3 k4
      simp (config := {maxSteps := 3000000}) (disch := ((fail_if_success refine selfNe ?_); omega)) only [run_ret, at_code_n, at_fin_r, ops_nil, ops_mv, ev_t, put_get, opv_mk, obsOk, and_true, true_and, ↓reduceIte, vret, rvAll, rvVal, resv_1, eq_self]
      exact ⟨_, _, Wk.refl _, k3.lt.weak, k3⟩
theorem rPut2_b {n : Int} (h : MRow base st x L) (hl : L.length ≤ 1000000000000) (h0 : 0 ≤ n) (h1 : n ≤ 18446744073709551615) : VCalls Try.prog 32 [x, .sc (.int .u64 n), .sc (.int .i64 2)] st fun r st' => MRow base st' r (L ++ beL n 2) :=
  (rPut_b h.src hl h0 h1).mono fun _ _ k => by
    rw [if_neg (by omega)] at k
    exact k.rebase h.weak
theorem rPut4_b {n : Int} (h : MRow base st x L) (hl : L.length ≤ 1000000000000) (h0 : 0 ≤ n) (h1 : n ≤ 18446744073709551615) : VCalls Try.prog 32 [x, .sc (.int .u64 n), .sc (.int .i64 4)] st fun r st' => MRow base st' r (L ++ beL n 4) :=
  (rPut_b h.src hl h0 h1).mono fun _ _ k => by
    rw [if_neg (by omega)] at k
    exact k.rebase h.weak
end
end Go.Proofs.Ytmomebkfaibmgaa
