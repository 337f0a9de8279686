/- Go's own sort over '<': slices.Sort: contract. Printed by a program (gen_sort7.py). No program here. -/
import Derived.Test.YtlngegoamfklgaaVSortO6
import Derived.Test.YtlngegoamfklgaaVSortB
namespace Go.Proofs.Ytlngegoamfklgaa
open Go

section
variable {P : Program} {α : Type} [Inhabited α] {val : α → Value} {lt : α → α → Bool} {less f fsift : FuncId} {st : St} {b cap a c : Nat} {L : List α} {sp : List V}
variable {fins fheap fbreak fpivot frev fpart fequal fsplit fa fm fo fpow fnext fpdq flen flen32 flen64 fnan : FuncId} {T : ByteArray}
theorem Srt.all {L M : List α} (h : Mix 0 L.length L M) (k : Srt lt 0 L.length M) : M.Perm L ∧ M.Pairwise (fun x y => lt y x = false) := ⟨h.perm, Srt.pw (by rw [h.len]; exact k)⟩
set_option maxRecDepth 100000 in
set_option maxHeartbeats 4000000 in
theorem osort_v (hf : cFun P f = some (OSorts flen fpdq)) (hfl : cFun P flen = some (BLen flen32 flen64)) (h64 : cFun P flen64 = some (BLen64 T)) (hT : TabOk T) (hc : SortsO P fpdq less fins fheap fbreak fpivot frev fpart fequal fsplit fsift fa fm fo fpow fnext) (E : Elt P less val lt) (hmo : mono (row val L sp)) (hl : L.length < 4611686018427387904) :
    VCalls P f [dataV b L.length cap] (st.put b (row val L sp)) fun _ s => ∃ M : List α, M.Perm L ∧ M.Pairwise (fun x y => lt y x = false) ∧ s = st.put b (row val M sp) := by
  have en : (L.length : Int) % 18446744073709551616 = (L.length : Int) := by omega
  refine vcalls_enter hf (Nat.le_of_ble_eq_true rfl) fun hwf hok => ?_
  show Run _ (OSorts flen fpdq).body (.fin (finQ (OSorts flen fpdq).res _)) _ _
  unfold OSorts
  simp (config := {maxSteps := 3000000}) only [run_reg, run_seq, at_code_n, ops_nil, ops_mv, ops_conv, ops_len, ops_call, ev_t, put_get, opv_mk, args0, List.getD_cons_zero, vconv, norm, vlen, List.map_cons, List.map_nil, true_and, Nat.reduceEqDiff, ↓reduceIte, eq_self, reduceCtorEq, dataV, en]
  refine Cal.mk (blen_v hfl h64 hT (x := L.length) (by omega)) ?_
  rintro _ _ ⟨rfl, k, k1, k2, k3, rfl⟩ -
  simp (config := {maxSteps := 3000000}) only [ops_call, ev_t, ev_c, put_get, obsOk, List.map_cons, List.map_nil, true_and, Nat.reduceEqDiff, ↓reduceIte, eq_self]
  have cc := opdq_v (st := st) (b := b) (cap := cap) (sp := sp) hc E L.length 0 L.length L k (by omega) (by omega) (by omega) hl (by omega) (by omega) (fun h0 => by omega) hmo
  rw [dataV] at cc
  refine Cal.mk cc ?_
  rintro _ _ ⟨M, m1, m2, rfl⟩ -
  simp (config := {maxSteps := 3000000}) only [at_fin_n, ops_nil, obsOk, true_and, vret, rvAll]
  exact ⟨_, _, Wk.refl _, weak_re hwf, M, (Srt.all m1 m2).1, (Srt.all m1 m2).2, rfl⟩
set_option maxRecDepth 100000 in
set_option maxHeartbeats 4000000 in
theorem oless_int (hf : cFun P f = some (OLess fnan)) (hn : cFun P fnan = some ONan) (kk : IntKind) (x y : Int) : VCalls P f [.sc (.int kk x), .sc (.int kk y)] st fun v s => v = .sc (.bool (decide (x < y))) ∧ st = s := by
  have nan : ∀ (st : St) (x : Int), VCalls P fnan [.sc (.int kk x)] st fun v s => v = .sc (.bool false) ∧ st = s := fun st x => by
    have hf := hn
    refine vcalls_enter hf (Nat.le_of_ble_eq_true rfl) fun hwf hok => ?_
    show Run _ (ONan).body (.fin (finQ (ONan).res _)) _ _
    unfold ONan
    simp (config := {maxSteps := 3000000}) only [run_reg, run_seq, run_ret, at_code_n, at_fin_r, ops_nil, ops_mv, ops_bin, ev_t, ev_c, put_get, opv_mk, args0, List.getD_cons_zero, vbin, vbinI, and_true, true_and, Nat.reduceEqDiff, ↓reduceIte, vret, rvAll, rvVal, resv_1, decide_false, ne_eq, not_true_eq_false, eq_self, reduceCtorEq]
    exact ⟨_, _, Wk.refl _, hwf.weak, rfl, rfl⟩
  refine vcalls_enter hf (Nat.le_of_ble_eq_true rfl) fun hwf hok => ?_
  show Run _ (OLess fnan).body (.fin (finQ (OLess fnan).res _)) _ _
  unfold OLess
  simp (config := {maxSteps := 3000000}) only [run_reg, run_seq, at_code_n, ops_nil, ops_mv, ops_call, ev_t, ev_c, put_get, opv_mk, args0, List.getD_cons_zero, List.map_cons, List.map_nil, true_and, ↓reduceIte, eq_self, reduceCtorEq]
  refine Cal.mk (nan _ _) ?_
  rintro _ _ ⟨rfl, rfl⟩ -
  simp (config := {maxSteps := 3000000}) only [run_ret, at_code_n, at_fin_r, ops_nil, ops_grd, grd_ff, grd_ft, ops_mv, ops_pick, ops_bin, ev_t, ev_c, put_get, opv_mk, args0, List.getD_cons_zero, List.getD_cons_succ, vpick, vbin, vbinI, obsOk, and_true, true_and, Nat.reduceEqDiff, ↓reduceIte, vret, rvAll, rvVal, resv_1, eq_self, reduceCtorEq, Bool.false_eq_true]
  exact ⟨_, _, Wk.refl _, hwf.weak, rfl, rfl⟩
set_option maxRecDepth 100000 in
set_option maxHeartbeats 4000000 in
theorem oless_str (hf : cFun P f = some (OLess fnan)) (hn : cFun P fnan = some ONan) (x y : ByteArray) : VCalls P f [.sc (.string x), .sc (.string y)] st fun v s => v = .sc (.bool (Op.bytesLess x.toList y.toList)) ∧ st = s := by
  have nan : ∀ (st : St) (x : ByteArray), VCalls P fnan [.sc (.string x)] st fun v s => v = .sc (.bool false) ∧ st = s := fun st x => by
    have hf := hn
    refine vcalls_enter hf (Nat.le_of_ble_eq_true rfl) fun hwf hok => ?_
    show Run _ (ONan).body (.fin (finQ (ONan).res _)) _ _
    unfold ONan
    simp (config := {maxSteps := 3000000}) only [run_reg, run_seq, run_ret, at_code_n, at_fin_r, ops_nil, ops_mv, ops_bin, ev_t, ev_c, put_get, opv_mk, args0, List.getD_cons_zero, vbin, vbinS, and_true, true_and, Nat.reduceEqDiff, ↓reduceIte, vret, rvAll, rvVal, resv_1, decide_false, ne_eq, not_true_eq_false, eq_self, reduceCtorEq]
    exact ⟨_, _, Wk.refl _, hwf.weak, rfl, rfl⟩
  refine vcalls_enter hf (Nat.le_of_ble_eq_true rfl) fun hwf hok => ?_
  show Run _ (OLess fnan).body (.fin (finQ (OLess fnan).res _)) _ _
  unfold OLess
  simp (config := {maxSteps := 3000000}) only [run_reg, run_seq, at_code_n, ops_nil, ops_mv, ops_call, ev_t, ev_c, put_get, opv_mk, args0, List.getD_cons_zero, List.map_cons, List.map_nil, true_and, ↓reduceIte, eq_self, reduceCtorEq]
  refine Cal.mk (nan _ _) ?_
  rintro _ _ ⟨rfl, rfl⟩ -
  simp (config := {maxSteps := 3000000}) only [run_ret, at_code_n, at_fin_r, ops_nil, ops_grd, grd_ff, grd_ft, ops_mv, ops_pick, ops_bin, ev_t, ev_c, put_get, opv_mk, args0, List.getD_cons_zero, List.getD_cons_succ, vpick, vbin, vbinS, obsOk, and_true, true_and, Nat.reduceEqDiff, ↓reduceIte, vret, rvAll, rvVal, resv_1, eq_self, reduceCtorEq, Bool.false_eq_true]
  exact ⟨_, _, Wk.refl _, hwf.weak, rfl, rfl⟩
theorem bl_asymm : ∀ {x y : List UInt8}, Op.bytesLess x y = true → Op.bytesLess y x = false
  | [], [], h => by simp [Op.bytesLess] at h
  | _ :: _, [], h => by simp [Op.bytesLess] at h
  | [], _ :: _, _ => by simp [Op.bytesLess]
  | a :: x, b :: y, h => by
    simp only [Op.bytesLess, Bool.or_eq_true, Bool.and_eq_true, decide_eq_true_eq, beq_iff_eq, Bool.or_eq_false_iff, Bool.and_eq_false_iff, decide_eq_false_iff_not, beq_eq_false_iff_ne] at h ⊢
    rcases h with h | ⟨rfl, h⟩
    · exact ⟨fun k => by have := UInt8.lt_iff_toNat_lt.1 h; have := UInt8.lt_iff_toNat_lt.1 k; omega, .inl fun e => by subst e; exact absurd h (UInt8.lt_irrefl _)⟩
    · exact ⟨UInt8.lt_irrefl _, .inr (bl_asymm h)⟩
theorem bl_trans : ∀ {x y z : List UInt8}, Op.bytesLess y x = false → Op.bytesLess z y = false → Op.bytesLess z x = false
  | [], _, _, _, _ => by simp [Op.bytesLess]
  | _ :: _, [], _, h, _ => by simp [Op.bytesLess] at h
  | _ :: _, _ :: _, [], _, h => by simp [Op.bytesLess] at h
  | a :: x, b :: y, c :: z, h, k => by
    simp only [Op.bytesLess, Bool.or_eq_false_iff, Bool.and_eq_false_iff, decide_eq_false_iff_not, beq_eq_false_iff_ne] at h k ⊢
    obtain ⟨h1, h2⟩ := h
    obtain ⟨k1, k2⟩ := k
    rw [UInt8.lt_iff_toNat_lt] at h1 k1 ⊢
    refine ⟨by omega, ?_⟩
    by_cases e : c = a
    · subst e
      have e2 : b = c := by
        apply UInt8.toNat_inj.1; omega
      subst e2
      rcases h2 with h2 | h2
      · exact absurd rfl h2
      · rcases k2 with k2 | k2
        · exact absurd rfl k2
        · exact .inr (bl_trans h2 k2)
    · exact .inl e
theorem bl_tight : ∀ {x y : List UInt8}, Op.bytesLess x y = false → Op.bytesLess y x = false → x = y
  | [], [], _, _ => rfl
  | _ :: _, [], _, h => by simp [Op.bytesLess] at h
  | [], _ :: _, h, _ => by simp [Op.bytesLess] at h
  | a :: x, b :: y, h, k => by
    simp only [Op.bytesLess, Bool.or_eq_false_iff, Bool.and_eq_false_iff, decide_eq_false_iff_not, beq_eq_false_iff_ne] at h k
    obtain ⟨h1, h2⟩ := h
    obtain ⟨k1, k2⟩ := k
    rw [UInt8.lt_iff_toNat_lt] at h1 k1
    have e : a = b := by apply UInt8.toNat_inj.1; omega
    subst e
    rcases h2 with h2 | h2
    · exact absurd rfl h2
    · rcases k2 with k2 | k2
      · exact absurd rfl k2
      · rw [bl_tight h2 k2]
def ltI (x y : Int) : Bool := decide (x < y)
def ltS (x y : ByteArray) : Bool := Op.bytesLess x.toList y.toList
theorem ltI_ord : Ord' ltI := ⟨fun {x y} h => by simp only [ltI, decide_eq_true_eq, decide_eq_false_iff_not] at h ⊢; omega, fun {x y z} h k => by simp only [ltI, decide_eq_false_iff_not] at h k ⊢; omega⟩
theorem ltI_tight (x y : Int) (h : ltI x y = false) (k : ltI y x = false) : x = y := by simp only [ltI, decide_eq_false_iff_not] at h k; omega
theorem ltS_ord : Ord' ltS := ⟨fun {_ _} h => bl_asymm h, fun {_ _ _} h k => bl_trans h k⟩
theorem toList_inj' {x y : ByteArray} (h : x.toList = y.toList) : x = y := by
  rw [Go.ByteArray.toList_eq, Go.ByteArray.toList_eq] at h
  cases x; cases y
  simp only [ByteArray.mk.injEq]
  exact Array.toList_inj.1 h
theorem ltS_tight (x y : ByteArray) (h : ltS x y = false) (k : ltS y x = false) : x = y := toList_inj' (bl_tight h k)
theorem elt_int (hf : cFun P less = some (OLess fnan)) (hn : cFun P fnan = some ONan) (kk : IntKind) : Elt P less (fun x : Int => .int kk x) ltI := ⟨fun _ x y => oless_int hf hn kk x y, ltI_ord⟩
theorem elt_str (hf : cFun P less = some (OLess fnan)) (hn : cFun P fnan = some ONan) : Elt P less (fun x : ByteArray => .string x) ltS := ⟨fun _ x y => oless_str hf hn x y, ltS_ord⟩
end
end Go.Proofs.Ytlngegoamfklgaa
