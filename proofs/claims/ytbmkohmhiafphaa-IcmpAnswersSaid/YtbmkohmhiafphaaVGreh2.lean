/- Package greh: Parse. -/
import Derived.Test.YtbmkohmhiafphaaVGreh
namespace Go.Proofs.Ytbmkohmhiafphaa
open Go

theorem gre_all : ((List.range 256).all fun a => (List.range 256).all fun b => (!(Nat.land (256 * a + b) 61311).beq 8193) || (256 * a + b).beq 8193 || (256 * a + b).beq 8321 || (256 * a + b).beq 12289 || (256 * a + b).beq 12417) = true := by decide +kernel
theorem gre_bits {n : Int} (h0 : 0 ≤ n) (h1 : n < 65536) : ibit .andNot .u16 n 4224 = 8193 ↔ n = 8193 ∨ n = 8321 ∨ n = 12289 ∨ n = 12417 := by
  constructor
  · intro h
    obtain ⟨m, rfl⟩ : ∃ m : Nat, n = m := ⟨n.toNat, by omega⟩
    have e : ibit .andNot .u16 (m : Int) 4224 = (Nat.land m 61311 : Nat) := by
      have hm : m < 2 ^ 16 := by omega
      have : (BitVec.ofInt 16 (m : Int) &&& ~~~BitVec.ofInt 16 4224).toNat = m &&& 61311 := by
        rw [BitVec.toNat_and, BitVec.toNat_not]
        simp
        rw [Nat.mod_eq_of_lt (by omega)]
      show IntKind.wrap .u16 (((BitVec.ofInt 16 (m : Int) &&& ~~~BitVec.ofInt 16 4224).toNat : Nat) : Int) = _
      rw [this]
      have := Nat.and_lt_two_pow m (y := 61311) (n := 16) (by omega)
      show (((m &&& 61311 : Nat) : Int) % 65536) = ((m &&& 61311 : Nat) : Int)
      omega
    rw [e] at h
    have h2 : Nat.land m 61311 = 8193 := by omega
    have h3 := List.all_eq_true.1 (List.all_eq_true.1 gre_all (m / 256) (List.mem_range.2 (by omega))) (m % 256) (List.mem_range.2 (by omega))
    rw [show 256 * (m / 256) + m % 256 = m by omega, h2] at h3
    simp at h3
    omega
  · rintro (rfl | rfl | rfl | rfl) <;> decide
/-! ### What the bytes say -/
def gN (L : List Int) : Int := numL (L.take 2)
def gS (L : List Int) : Bool := decide (gN L = 12289 ∨ gN L = 12417)
def gA (L : List Int) : Bool := decide (gN L = 8321 ∨ gN L = 12417)
def gP (L : List Int) : Int := numL ((L.drop 2).take 2)
def gZ (L : List Int) : Int := numL ((L.drop 4).take 2)
def gC (L : List Int) : Int := numL ((L.drop 6).take 2)
def gHead (L : List Int) : Bool := decide ((gN L = 8193 ∨ gN L = 8321 ∨ gN L = 12289 ∨ gN L = 12417) ∧ gP L = 34827)
def gAt1 (L : List Int) : Nat := if gS L then 12 else 8
def gAt2 (L : List Int) : Nat := if gA L then gAt1 L + 4 else gAt1 L
def grehE (L : List Int) : Int :=
  if L.length < 8 then 10 else if gHead L = false then 11 else if (L.length : Int) < gAt2 L + gZ L then 10
  else if (gAt2 L + gZ L : Int) < L.length ∨ gS L ≠ decide (0 < gZ L) then 11 else 0
def grehT (L : List Int) : TD := ⟨gC L, gS L, if gS L then numL ((L.drop 8).take 4) else 0, gA L, if gA L then numL ((L.drop (gAt1 L)).take 4) else 0, L.drop (gAt2 L)⟩
def grehD (L : List Int) : TD := if grehE L = 0 then grehT L else ⟨0, false, 0, false, 0, []⟩

theorem num2 {L : List Int} (hB : IsB L) (k : Nat) : 0 ≤ numL ((L.drop k).take 2) ∧ numL ((L.drop k).take 2) < 65536 := by
  have := numL_range _ ((L.drop k).take 2) rfl ((hB.drop _).take _)
  have hl : ((L.drop k).take 2).length ≤ 2 := by simp; omega
  have : (256 : Int) ^ ((L.drop k).take 2).length ≤ 65536 := by
    have h7 : ∀ k : Nat, k ≤ 2 → (256 : Int) ^ k ≤ 65536 := by decide
    exact h7 _ hl
  omega
theorem num4 {L : List Int} (hB : IsB L) (k : Nat) : 0 ≤ numL ((L.drop k).take 4) ∧ numL ((L.drop k).take 4) < 4294967296 := by
  have := numL_range _ ((L.drop k).take 4) rfl ((hB.drop _).take _)
  have hl : ((L.drop k).take 4).length ≤ 4 := by simp; omega
  have : (256 : Int) ^ ((L.drop k).take 4).length ≤ 4294967296 := by
    have h7 : ∀ k : Nat, k ≤ 4 → (256 : Int) ^ k ≤ 4294967296 := by decide
    exact h7 _ hl
  omega
theorem grehT_ok {L : List Int} (hB : IsB L) : (grehT L).Ok := by
  have h6 := num2 hB 6
  have h8 := num4 hB 8
  have h9 := num4 hB (gAt1 L)
  unfold grehT
  refine ⟨h6.1, h6.2, ?_, ?_, ?_, ?_, hB.drop _⟩ <;> dsimp only <;> split <;> omega

theorem beqT (b : Bool) : (b == true) = b := by cases b <;> rfl
theorem beqF (b : Bool) : (b == false) = !b := by cases b <;> rfl
theorem nc8 : ((8 : Nat) : Int) = 8 := rfl
theorem nc12 : ((12 : Nat) : Int) = 12 := rfl
theorem nc16 : ((16 : Nat) : Int) = 16 := rfl
theorem rest_eq {L : List Int} {at_ : Nat} (h : at_ ≤ L.length) : rdTake L at_ false ((L.length : Int) - at_) = (L.drop at_, L.length, false) := by
  unfold rdTake
  rw [if_neg (by simp; exact h)]
  simp only [Prod.mk.injEq, and_true]
  exact ⟨List.take_of_length_le (by simp), by omega⟩
/-- A read of k bytes (hidden from omega). -/
structure Rdk (L : List Int) (at_ : Nat) (bad : Bool) (k : Nat) (x : Int) (at' : Nat) (bad' : Bool) : Prop where
  sbad : bad = true → bad' = true
  sshort : bad = false → L.length < at_ + k → bad' = true
  sat : bad = false → at_ + k ≤ L.length → at' = at_ + k
  sok : bad = false → at_ + k ≤ L.length → bad' = false
  sval : bad = false → at_ + k ≤ L.length → x = numL ((L.drop at_).take k)
theorem rdk {L : List Int} (hB : IsB L) {at_ : Nat} (bad : Bool) (h : at_ ≤ L.length) {k : Nat} (hk : 1 ≤ k) (hk2 : k ≤ 8) : ∃ x at' bad', rdNum L at_ bad k = (x, at', bad') ∧ 0 ≤ x ∧ x < 256 ^ k ∧ at' ≤ L.length ∧ Rdk L at_ bad k x at' bad' := by
  have hr := rdNum_lt (L := L) (at_ := at_) (bad := bad) hB hk
  obtain ⟨⟨x, a', b'⟩, e⟩ : ∃ r, rdNum L at_ bad k = r := ⟨_, rfl⟩
  rw [e] at hr
  refine ⟨x, a', b', e, hr.1, hr.2, ?_⟩
  unfold rdNum at e
  split at e
  · rename_i hc
    simp only [Prod.mk.injEq] at e
    obtain ⟨rfl, rfl, rfl⟩ := e
    have hx : bad = false → at_ + k ≤ L.length → False := fun h1 h2 => by simp [h1] at hc; omega
    exact ⟨h, fun _ => rfl, fun _ _ => rfl, fun h1 h2 => (hx h1 h2).elim, fun h1 h2 => (hx h1 h2).elim, fun h1 h2 => (hx h1 h2).elim⟩
  · rename_i hc
    simp only [Prod.mk.injEq] at e
    obtain ⟨rfl, rfl, rfl⟩ := e
    simp at hc
    refine ⟨by simp; omega, fun hb => by simp [hb] at hc, fun _ _ => by omega, fun _ _ => by simp, fun _ _ => rfl, fun _ _ => by simp⟩
theorem rd2 {L : List Int} (hB : IsB L) {at_ : Nat} (bad : Bool) (h : at_ ≤ L.length) : ∃ x at' bad', rdNum L at_ bad 2 = (x, at', bad') ∧ 0 ≤ x ∧ x < 65536 ∧ at' ≤ L.length ∧ Rdk L at_ bad 2 x at' bad' := rdk hB bad h (k := 2) (by omega) (by omega)
theorem rd4 {L : List Int} (hB : IsB L) {at_ : Nat} (bad : Bool) (h : at_ ≤ L.length) : ∃ x at' bad', rdNum L at_ bad 4 = (x, at', bad') ∧ 0 ≤ x ∧ x < 4294967296 ∧ at' ≤ L.length ∧ Rdk L at_ bad 4 x at' bad' := rdk hB bad h (k := 4) (by omega) (by omega)

section
variable {tk tk' : Tk} {st : St} {L : List Int}
def tdz : V := .agg [.sc (.int .u16 0), .sc (.bool false), .sc (.int .u32 0), .sc (.bool false), .sc (.int .u32 0), .sl .nil []]
theorem gParse_v (hB : IsB L) (hL : L.length ≤ 1000000000000) : VCalls Try.prog 25 [.sl tk (bs L)] st fun r st' => (∃ tk', r = .tup [(grehD L).v tk', .sc (.int .i64 (grehE L))]) ∧ st = st' := by
  refine vcalls_enter vc25 (Nat.le_of_ble_eq_true rfl) fun hwf hok => ?_
  show Run _ Vc25.body (.fin (finQ Vc25.res _)) _ _
  unfold Vc25
  simp (config := {maxSteps := 3000000}) (disch := ((fail_if_success refine selfNe ?_); omega)) only [run_reg, run_seq, at_code_n, ops_nil, ops_mv, ops_alc, ops_call, ev_t, ev_c, put_get, opv_mk, args0, List.getD_cons_zero, ptrV, obsOk, List.map_cons, List.map_nil, true_and, ↓reduceIte, eq_self, reduceCtorEq]
  intro c hc
  refine Cal.mk New_v ?_
  rintro _ _ ⟨b, hb, rfl, rfl⟩ -
  obtain ⟨x1, a1, b1, e1, u1, v1, l1, f1⟩ := rd2 hB false (Nat.zero_le L.length)
  obtain ⟨x2, a2, b2, e2, u2, v2, l2, f2⟩ := rd2 hB b1 l1
  obtain ⟨x3, a3, b3, e3, u3, v3, l3, f3⟩ := rd2 hB b2 l2
  obtain ⟨x4, a4, b4, e4, u4, v4, l4, f4⟩ := rd2 hB b3 l3
  obtain ⟨hb1, hcb⟩ : st.sz ≤ b ∧ c < b := by simp only [put_sz] at hb; omega
  clear hb
  simp (config := {maxSteps := 3000000}) (disch := ((fail_if_success refine selfNe ?_); omega)) only [run_reg, run_seq, at_code_n, ops_nil, ops_mv, ops_call, ev_t, put_get, opv_mk, ptrV, obsOk, List.map_cons, List.map_nil, true_and, ↓reduceIte, eq_self]
  refine Cal.mk (U16_v put_box_same (Nat.zero_le _) hB) ?_
  rw [e1]
  rintro _ _ ⟨rfl, rfl⟩ -
  simp (config := {maxSteps := 3000000}) (disch := ((fail_if_success refine selfNe ?_); omega)) only [ops_mv, ops_call, ev_t, put_get, opv_mk, put_put, obsOk, List.map_cons, List.map_nil, true_and, Nat.reduceEqDiff, ↓reduceIte, eq_self]
  refine Cal.mk (U16_v put_box_same l1 hB) ?_
  rw [e2]
  rintro _ _ ⟨rfl, rfl⟩ -
  simp (config := {maxSteps := 3000000}) (disch := ((fail_if_success refine selfNe ?_); omega)) only [run_reg, run_seq, at_code_n, ops_nil, ops_mv, ops_call, ev_t, put_get, opv_mk, put_put, obsOk, List.map_cons, List.map_nil, true_and, Nat.reduceEqDiff, ↓reduceIte, eq_self]
  refine Cal.mk (U16_v put_box_same l2 hB) ?_
  rw [e3]
  rintro _ _ ⟨rfl, rfl⟩ -
  simp (config := {maxSteps := 3000000}) (disch := ((fail_if_success refine selfNe ?_); omega)) only [run_reg, run_seq, at_code_n, ops_nil, ops_mv, ops_conv, ops_call, ev_t, put_get, opv_mk, put_put, vconv, norm, obsOk, List.map_cons, List.map_nil, true_and, Nat.reduceEqDiff, Int.reduceNeg, ↓reduceIte, eq_self]
  repeat (apply And.intro; focus (first | omega | (simp; done)))
  refine Cal.mk (U16_v put_box_same l3 hB) ?_
  rw [e4]
  rintro _ _ ⟨rfl, rfl⟩ -
  simp (config := {maxSteps := 3000000}) (disch := ((fail_if_success refine selfNe ?_); omega)) only [run_reg, run_seq, at_code_n, ops_nil, ops_mv, ops_bld, ops_alc, ops_store, ops_call, ev_t, put_get, put_none, opv_mk, stb_some, sto_ptr, Stp, vbld, put_box_same, put_sz, put_put, fillV, splice, V.cells, ptrV, obsOk, List.map_cons, List.map_nil, List.length_cons, List.length_nil, List.take_zero, List.drop_succ_cons, List.drop_zero, List.cons_append, List.nil_append, List.append_nil, List.drop_nil, and_true, true_and, Nat.reduceEqDiff, Nat.reduceAdd, Nat.reduceLT, Nat.reduceLeDiff, Nat.reduceLT, Nat.zero_add, ↓reduceIte, eq_self]
  intro d hd
  obtain ⟨hd1, hd2, hd3⟩ : st.sz ≤ d ∧ c < d ∧ b < d := by omega
  clear hd
  repeat (apply And.intro; focus (first | omega | (simp; done)))
  refine Cal.mk (Bad_v (by rw [put_box_ne (by omega)]; exact put_box_same)) ?_
  rintro _ _ ⟨rfl, rfl⟩ -
  by_cases h8 : L.length < 8
  · have eb : b4 = true := by
      have k1 : b1 = true ∨ a1 = 2 ∧ b1 = false := by
        by_cases h : L.length < 2
        · exact .inl (f1.sshort rfl (by omega))
        · exact .inr ⟨f1.sat rfl (by omega), f1.sok rfl (by omega)⟩
      have k2 : b2 = true ∨ a2 = 4 ∧ b2 = false := by
        rcases k1 with h | ⟨ha, hb⟩
        · exact .inl (f2.sbad h)
        by_cases h : L.length < 4
        · exact .inl (f2.sshort hb (by omega))
        · exact .inr ⟨by have := f2.sat hb (by omega); omega, f2.sok hb (by omega)⟩
      have k3 : b3 = true ∨ a3 = 6 ∧ b3 = false := by
        rcases k2 with h | ⟨ha, hb⟩
        · exact .inl (f3.sbad h)
        by_cases h : L.length < 6
        · exact .inl (f3.sshort hb (by omega))
        · exact .inr ⟨by have := f3.sat hb (by omega); omega, f3.sok hb (by omega)⟩
      rcases k3 with h | ⟨ha, hb⟩
      · exact f4.sbad h
      · exact f4.sshort hb (by omega)
    subst eb
    have hE : grehE L = 10 := if_pos h8
    have hD : grehD L = ⟨0, false, 0, false, 0, []⟩ := if_neg (by rw [hE]; decide)
    simp (config := {maxSteps := 3000000}) only [run_reg, run_seq, run_ret, run_cond, if_true, at_code_n, at_code_r, at_fin_r, ops_nil, ops_mv, ops_bld, ops_store, ev_t, ev_c, put_get, put_none, opv_mk, stb_some, sto_ptr, Stp, vbld, put_box_same, args0, vload, takeV, fillV, splice, V.cells, obsOk, List.map_cons, List.map_nil, List.length_cons, List.length_nil, List.take_succ_cons, List.take_zero, List.drop_succ_cons, List.drop_zero, List.nil_append, List.append_nil, List.take_nil, List.drop_nil, and_true, true_and, Nat.reduceEqDiff, Nat.reduceAdd, Nat.reduceLT, Nat.reduceLeDiff, Nat.reduceLT, Nat.zero_add, ↓reduceIte, vret, rvAll, rvVal, resv_2, eq_self, put_box_ne (Nat.ne_of_lt hcb), put_box_ne (Nat.ne_of_lt hd2)]
    exact ⟨_, _, Wk.refl _, weak_put (weak_put (weak_put (weak_put hwf.weak hc) hb1) hd1) hc, ⟨.nil, by rw [hE, hD]; rfl⟩, rfl⟩
  have y1 := f1.sok rfl (by omega)
  have z1 := f1.sat rfl (by omega)
  have w1 := f1.sval rfl (by omega)
  have y2 := f2.sok y1 (by omega)
  have z2 := f2.sat y1 (by omega)
  have w2 := f2.sval y1 (by omega)
  have y3 := f3.sok y2 (by omega)
  have z3 := f3.sat y2 (by omega)
  have w3 := f3.sval y2 (by omega)
  have y4 := f4.sok y3 (by omega)
  have z4 := f4.sat y3 (by omega)
  have w4 := f4.sval y3 (by omega)
  clear e1 e2 e3 e4 f1 f2 f3 f4
  subst y1 y2 y3 y4 z1 z2 z3 z4
  simp only [Nat.zero_add, Nat.reduceAdd, List.drop_zero] at w1 w2 w3 w4 l1 l2 l3 l4 ⊢
  have v3' : x3 ≤ 65535 := by omega
  by_cases hh : gHead L = true
  · have hp : x2 = 34827 := by simp [gHead, gP, ← w2] at hh; exact hh.2
    have hn : x1 = 8193 ∨ x1 = 8321 ∨ x1 = 12289 ∨ x1 = 12417 := by simp [gHead, gN, ← w1] at hh; exact hh.1
    have hN : gN L = x1 := w1.symm
    have hZ : gZ L = x3 := w3.symm
    have hC : gC L = x4 := w4.symm
    rcases hn with hn | hn | hn | hn
    all_goals subst hn hp
    · have c1 : ibit .andNot .u16 8193 4224 = 8193 := by decide
      have c2 : ibit .and .u16 8193 4096 = 0 := by decide
      have c3 : ibit .and .u16 8193 128 = 0 := by decide
      have hS : gS L = false := by simp [gS, hN]
      have hA : gA L = false := by simp [gA, hN]
      have hA1 : gAt1 L = 8 := by simp [gAt1, hS]
      have hA2 : gAt2 L = 8 := by simp [gAt2, gAt1, hS, hA]
      simp (config := {maxSteps := 3000000}) only [run_skip, run_reg, run_seq, run_blk, run_cond, if_false, at_code_n, ops_nil, ops_grd, grd_ff, ops_mv, ops_pick, ops_bin, ops_fld, ops_load, ops_store, ops_call, ev_t, ev_c, put_get, put_none, opv_mk, stb_some, sto_ptr, Stp, put_box_same, put_put, vpick, vbin, vbinI, vfld, vload, takeV, splice, V.cells, obsOk, List.map_cons, List.map_nil, List.length_cons, List.length_nil, List.getElem?_cons_zero, List.getElem?_cons_succ, List.take_succ_cons, List.take_zero, List.drop_succ_cons, List.drop_zero, List.cons_append, List.nil_append, true_and, Nat.reduceEqDiff, Nat.reduceAdd, Nat.reduceLT, Nat.reduceLeDiff, Nat.reduceLT, Nat.zero_add, ↓reduceIte, decide_false, ne_eq, not_true_eq_false, eq_self, Bool.false_eq_true, c1, c2, c3]
      refine Cal.mk (Bad_v (by repeat (first | exact put_box_same | rw [put_box_ne (by omega)]))) ?_
      rintro _ _ ⟨rfl, rfl⟩ -
      simp (config := {maxSteps := 3000000}) only [ops_grd, grd_ff, ops_mv, ops_call, ev_t, put_get, opv_mk, obsOk, List.map_cons, List.map_nil, true_and, Nat.reduceEqDiff, ↓reduceIte, eq_self]
      refine Cal.mk (Left_v (by repeat (first | exact put_box_same | rw [put_box_ne (by omega)])) l4) ?_
      rintro _ _ ⟨rfl, rfl⟩ -
      by_cases h1 : (L.length : Int) - 8 < x3
      · have hE : grehE L = 10 := by simp only [grehE, hh, hA2, hZ, hS]; rw [if_neg h8, if_neg (by decide), if_pos (by omega)]
        simp (config := {maxSteps := 3000000}) only [run_reg, run_seq, run_ret, run_cond, if_true, at_code_n, at_code_r, at_blk_r, at_fin_r, ops_nil, ops_grd, grd_ff, ops_mv, ops_pick, ops_bin, ops_bld, ops_store, ev_t, ev_c, put_get, put_none, opv_mk, stb_some, sto_ptr, Stp, vbld, put_box_same, args0, vpick, vbin, vbinI, vload, takeV, fillV, splice, V.cells, obsOk, List.map_cons, List.map_nil, List.length_cons, List.length_nil, List.take_succ_cons, List.take_zero, List.drop_succ_cons, List.drop_zero, List.nil_append, List.append_nil, List.take_nil, List.drop_nil, and_true, true_and, Nat.reduceEqDiff, Nat.reduceAdd, Nat.reduceLT, Nat.reduceLeDiff, Nat.reduceLT, Nat.zero_add, ↓reduceIte, vret, rvAll, rvVal, resv_2, eq_self, Bool.false_eq_true, put_box_ne (Nat.ne_of_lt hcb), put_box_ne (Nat.ne_of_lt hd2), nc8, decide_eq_true h1]
        have hD : grehD L = ⟨0, false, 0, false, 0, []⟩ := if_neg (by rw [hE]; decide)
        exact ⟨_, _, Wk.refl _, (by repeat (first | exact hwf.weak | refine weak_put ?_ (by assumption))), ⟨.nil, by rw [hE, hD]; rfl⟩, rfl⟩
      simp (config := {maxSteps := 3000000}) only [run_reg, run_seq, run_cond, if_false, at_code_n, ops_nil, ops_grd, grd_ff, ops_mv, ops_pick, ops_bin, ops_call, ev_t, put_get, opv_mk, vpick, vbin, vbinI, obsOk, List.map_cons, List.map_nil, true_and, Nat.reduceEqDiff, ↓reduceIte, eq_self, Bool.false_eq_true, nc8, decide_eq_false h1]
      refine Cal.mk (Left_v (by repeat (first | exact put_box_same | rw [put_box_ne (by omega)])) l4) ?_
      rintro _ _ ⟨rfl, rfl⟩ -
      by_cases h2 : x3 < (L.length : Int) - 8
      · have hE : grehE L = 11 := by simp only [grehE, hh, hA2, hZ, hS]; rw [if_neg h8, if_neg (by decide), if_neg (by omega), if_pos (.inl (by omega))]
        simp (config := {maxSteps := 3000000}) only [run_reg, run_seq, run_ret, run_cond, if_true, at_code_n, at_code_r, at_blk_r, at_fin_r, ops_nil, ops_grd, grd_tf, ops_mv, ops_pick, ops_bin, ops_bld, ops_store, ev_t, ev_c, put_get, put_none, opv_mk, stb_some, sto_ptr, Stp, vbld, put_box_same, args0, vpick, vbin, vbinI, vload, takeV, fillV, splice, V.cells, obsOk, List.map_cons, List.map_nil, List.length_cons, List.length_nil, List.take_succ_cons, List.take_zero, List.drop_succ_cons, List.drop_zero, List.nil_append, List.append_nil, List.take_nil, List.drop_nil, and_true, true_and, Nat.reduceEqDiff, Nat.reduceAdd, Nat.reduceLT, Nat.reduceLeDiff, Nat.reduceLT, Nat.zero_add, ↓reduceIte, vret, rvAll, rvVal, resv_2, eq_self, put_box_ne (Nat.ne_of_lt hcb), put_box_ne (Nat.ne_of_lt hd2), nc8, decide_eq_true h2]
        have hD : grehD L = ⟨0, false, 0, false, 0, []⟩ := if_neg (by rw [hE]; decide)
        exact ⟨_, _, Wk.refl _, (by repeat (first | exact hwf.weak | refine weak_put ?_ (by assumption))), ⟨.nil, by rw [hE, hD]; rfl⟩, rfl⟩
      by_cases h3 : 0 < x3
      · have hE : grehE L = 11 := by simp only [grehE, hh, hA2, hZ, hS]; rw [if_neg h8, if_neg (by decide), if_neg (by omega), if_pos (.inr (by simp; omega))]
        simp (config := {maxSteps := 3000000}) only [run_reg, run_seq, run_ret, run_cond, if_true, at_code_n, at_code_r, at_blk_r, at_fin_r, ops_nil, ops_grd, grd_ff, ops_mv, ops_pick, ops_bin, ops_binb, vbinb, ops_fld, ops_load, ops_bld, ops_store, ev_t, ev_c, put_get, put_none, opv_mk, stb_some, sto_ptr, Stp, vbld, put_box_same, args0, vpick, vbin, vbinI, vfld, vload, takeV, fillV, splice, V.cells, obsOk, List.map_cons, List.map_nil, List.length_cons, List.length_nil, List.getElem?_cons_zero, List.getElem?_cons_succ, List.take_succ_cons, List.take_zero, List.drop_succ_cons, List.drop_zero, List.nil_append, List.append_nil, List.take_nil, List.drop_nil, and_true, true_and, Nat.reduceEqDiff, Nat.reduceAdd, Nat.reduceLT, Nat.reduceLeDiff, Nat.reduceLT, Nat.zero_add, ↓reduceIte, vret, rvAll, rvVal, resv_2, Bool.not_false, eq_self, Bool.false_eq_true, put_box_ne (Nat.ne_of_lt hcb), put_box_ne (Nat.ne_of_lt hd2), beqT, nc8, decide_eq_false h2, decide_eq_true h3]
        have hD : grehD L = ⟨0, false, 0, false, 0, []⟩ := if_neg (by rw [hE]; decide)
        exact ⟨_, _, Wk.refl _, (by repeat (first | exact hwf.weak | refine weak_put ?_ (by assumption))), ⟨.nil, by rw [hE, hD]; rfl⟩, rfl⟩
      · have hE : grehE L = 0 := by simp only [grehE, hh, hA2, hZ, hS]; rw [if_neg h8, if_neg (by decide), if_neg (by omega), if_neg (by simp; omega)]
        have hD : grehD L = grehT L := if_pos hE
        simp (config := {maxSteps := 3000000}) only [run_skip, run_reg, run_seq, run_cond, if_false, at_code_n, at_blk_n, ops_nil, ops_grd, grd_ff, ops_mv, ops_pick, ops_bin, ops_binb, vbinb, ops_fld, ops_load, ops_call, ev_t, ev_c, put_get, opv_mk, put_box_same, vpick, vbin, vbinI, vfld, vload, takeV, V.cells, obsOk, List.map_cons, List.map_nil, List.length_cons, List.length_nil, List.getElem?_cons_zero, List.getElem?_cons_succ, true_and, Nat.reduceEqDiff, Nat.zero_add, ↓reduceIte, Bool.not_true, Bool.not_false, eq_self, Bool.false_eq_true, beqF, nc8, decide_eq_false h2, decide_eq_false h3]
        refine Cal.mk (Rest_v (by repeat (first | exact put_box_same | rw [put_box_ne (by omega)])) l4 hL) ?_
        rw [rest_eq l4]
        rintro _ _ ⟨rfl, rfl⟩ -
        simp (config := {maxSteps := 3000000}) only [run_reg, run_seq, run_ret, at_code_n, at_fin_r, ops_nil, ops_mv, ops_fld, ops_load, ops_store, ev_t, ev_c, put_get, put_none, opv_mk, stb_some, sto_ptr, Stp, put_box_same, args0, vfld, vload, takeV, splice, V.cells, obsOk, List.map_cons, List.map_nil, List.length_cons, List.length_nil, List.take_succ_cons, List.take_zero, List.drop_succ_cons, List.drop_zero, List.cons_append, List.nil_append, List.append_nil, List.take_nil, List.drop_nil, and_true, true_and, Nat.reduceEqDiff, Nat.reduceAdd, Nat.reduceLT, Nat.reduceLeDiff, Nat.reduceLT, Nat.zero_add, ↓reduceIte, vret, rvAll, rvVal, resv_2, eq_self, put_box_ne (Nat.ne_of_lt hcb), put_box_ne (Nat.ne_of_lt hd2), put_box_ne (Nat.ne_of_gt hd3)]
        exact ⟨_, _, Wk.refl _, (by repeat (first | exact hwf.weak | refine weak_put ?_ (by assumption))), ⟨.no, by rw [hE, hD]; simp only [grehT, TD.v, hS, hA, hA2, hC, ↓reduceIte, Bool.false_eq_true]⟩, rfl⟩
    · have c1 : ibit .andNot .u16 8321 4224 = 8193 := by decide
      have c2 : ibit .and .u16 8321 4096 = 0 := by decide
      have c3 : ibit .and .u16 8321 128 = 128 := by decide
      have hS : gS L = false := by simp [gS, hN]
      have hA : gA L = true := by simp [gA, hN]
      have hA1 : gAt1 L = 8 := by simp [gAt1, hS]
      have hA2 : gAt2 L = 12 := by simp [gAt2, gAt1, hS, hA]
      obtain ⟨x5, a5, b5, e5, u5, v5, l5, f5⟩ := rd4 hB false l4
      by_cases hk : L.length < 12
      · have hE : grehE L = 10 := by simp only [grehE, hh, hA2, hZ, hS]; rw [if_neg h8, if_neg (by decide), if_pos (by omega)]
        have eb : b5 = true := f5.sshort rfl (by omega)
        clear f5
        subst eb
        simp (config := {maxSteps := 3000000}) only [run_skip, run_reg, run_seq, run_cond, if_true, if_false, at_code_n, ops_nil, ops_grd, grd_ff, ops_mv, ops_pick, ops_bin, ops_fld, ops_load, ops_store, ops_call, ev_t, ev_c, put_get, put_none, opv_mk, stb_some, sto_ptr, Stp, put_box_same, put_put, vpick, vbin, vbinI, vfld, vload, takeV, splice, V.cells, obsOk, List.map_cons, List.map_nil, List.length_cons, List.length_nil, List.getElem?_cons_zero, List.getElem?_cons_succ, List.take_succ_cons, List.take_zero, List.drop_succ_cons, List.drop_zero, List.cons_append, List.nil_append, true_and, Nat.reduceEqDiff, Nat.reduceAdd, Nat.reduceLT, Nat.reduceLeDiff, Nat.reduceLT, Int.reduceEq, Nat.zero_add, ↓reduceIte, decide_true, decide_false, ne_eq, not_true_eq_false, not_false_eq_true, eq_self, Bool.false_eq_true, c1, c2, c3]
        refine Cal.mk (U32_v (by repeat (first | exact put_box_same | rw [put_box_ne (by omega)])) l4 hB) ?_
        rw [e5]
        rintro _ _ ⟨rfl, rfl⟩ -
        simp (config := {maxSteps := 3000000}) only [run_reg, run_seq, run_blk, at_code_n, ops_nil, ops_mv, ops_fld, ops_store, ops_call, ev_t, put_get, put_none, opv_mk, stb_some, sto_ptr, Stp, put_box_same, vfld, splice, V.cells, obsOk, List.map_cons, List.map_nil, List.length_cons, List.length_nil, List.take_succ_cons, List.take_zero, List.drop_succ_cons, List.drop_zero, List.cons_append, List.nil_append, true_and, Nat.reduceEqDiff, Nat.reduceAdd, Nat.reduceLT, Nat.reduceLeDiff, Nat.reduceLT, Nat.zero_add, ↓reduceIte, eq_self, put_box_ne (Nat.ne_of_gt hd3)]
        refine Cal.mk (Bad_v (by repeat (first | exact put_box_same | rw [put_box_ne (by omega)]))) ?_
        rintro _ _ ⟨rfl, rfl⟩ -
        simp (config := {maxSteps := 3000000}) only [run_reg, run_seq, run_ret, run_cond, if_true, at_code_n, at_code_r, at_blk_r, at_fin_r, ops_nil, ops_grd, grd_tf, ops_mv, ops_pick, ops_bld, ops_store, ev_t, ev_c, put_get, put_none, opv_mk, stb_some, sto_ptr, Stp, vbld, put_box_same, args0, vpick, vload, takeV, fillV, splice, V.cells, obsOk, List.map_cons, List.map_nil, List.length_cons, List.length_nil, List.take_succ_cons, List.take_zero, List.drop_succ_cons, List.drop_zero, List.nil_append, List.append_nil, List.take_nil, List.drop_nil, and_true, true_and, Nat.reduceEqDiff, Nat.reduceAdd, Nat.reduceLT, Nat.reduceLeDiff, Nat.reduceLT, Nat.zero_add, ↓reduceIte, vret, rvAll, rvVal, resv_2, eq_self, put_box_ne (Nat.ne_of_lt hcb), put_box_ne (Nat.ne_of_lt hd2)]
        have hD : grehD L = ⟨0, false, 0, false, 0, []⟩ := if_neg (by rw [hE]; decide)
        exact ⟨_, _, Wk.refl _, (by repeat (first | exact hwf.weak | refine weak_put ?_ (by assumption))), ⟨.nil, by rw [hE, hD]; rfl⟩, rfl⟩
      have y5 := f5.sok rfl (by omega)
      have z5 := f5.sat rfl (by omega)
      have w5 := f5.sval rfl (by omega)
      clear f5
      subst y5 z5
      simp only [Nat.reduceAdd] at w5 l5 e5 ⊢
      simp (config := {maxSteps := 3000000}) only [run_skip, run_reg, run_seq, run_cond, if_true, if_false, at_code_n, ops_nil, ops_grd, grd_ff, ops_mv, ops_pick, ops_bin, ops_fld, ops_load, ops_store, ops_call, ev_t, ev_c, put_get, put_none, opv_mk, stb_some, sto_ptr, Stp, put_box_same, put_put, vpick, vbin, vbinI, vfld, vload, takeV, splice, V.cells, obsOk, List.map_cons, List.map_nil, List.length_cons, List.length_nil, List.getElem?_cons_zero, List.getElem?_cons_succ, List.take_succ_cons, List.take_zero, List.drop_succ_cons, List.drop_zero, List.cons_append, List.nil_append, true_and, Nat.reduceEqDiff, Nat.reduceAdd, Nat.reduceLT, Nat.reduceLeDiff, Nat.reduceLT, Int.reduceEq, Nat.zero_add, ↓reduceIte, decide_true, decide_false, ne_eq, not_true_eq_false, not_false_eq_true, eq_self, Bool.false_eq_true, c1, c2, c3]
      refine Cal.mk (U32_v (by repeat (first | exact put_box_same | rw [put_box_ne (by omega)])) l4 hB) ?_
      rw [e5]
      rintro _ _ ⟨rfl, rfl⟩ -
      simp (config := {maxSteps := 3000000}) only [run_reg, run_seq, run_blk, at_code_n, ops_nil, ops_mv, ops_fld, ops_store, ops_call, ev_t, put_get, put_none, opv_mk, stb_some, sto_ptr, Stp, put_box_same, vfld, splice, V.cells, obsOk, List.map_cons, List.map_nil, List.length_cons, List.length_nil, List.take_succ_cons, List.take_zero, List.drop_succ_cons, List.drop_zero, List.cons_append, List.nil_append, true_and, Nat.reduceEqDiff, Nat.reduceAdd, Nat.reduceLT, Nat.reduceLeDiff, Nat.reduceLT, Nat.zero_add, ↓reduceIte, eq_self, put_box_ne (Nat.ne_of_gt hd3)]
      refine Cal.mk (Bad_v (by repeat (first | exact put_box_same | rw [put_box_ne (by omega)]))) ?_
      rintro _ _ ⟨rfl, rfl⟩ -
      simp (config := {maxSteps := 3000000}) only [ops_grd, grd_ff, ops_mv, ops_call, ev_t, put_get, opv_mk, obsOk, List.map_cons, List.map_nil, true_and, Nat.reduceEqDiff, ↓reduceIte, eq_self]
      refine Cal.mk (Left_v (by repeat (first | exact put_box_same | rw [put_box_ne (by omega)])) l5) ?_
      rintro _ _ ⟨rfl, rfl⟩ -
      by_cases h1 : (L.length : Int) - 12 < x3
      · have hE : grehE L = 10 := by simp only [grehE, hh, hA2, hZ, hS]; rw [if_neg h8, if_neg (by decide), if_pos (by omega)]
        simp (config := {maxSteps := 3000000}) only [run_reg, run_seq, run_ret, run_cond, if_true, at_code_n, at_code_r, at_blk_r, at_fin_r, ops_nil, ops_grd, grd_ff, ops_mv, ops_pick, ops_bin, ops_bld, ops_store, ev_t, ev_c, put_get, put_none, opv_mk, stb_some, sto_ptr, Stp, vbld, put_box_same, args0, vpick, vbin, vbinI, vload, takeV, fillV, splice, V.cells, obsOk, List.map_cons, List.map_nil, List.length_cons, List.length_nil, List.take_succ_cons, List.take_zero, List.drop_succ_cons, List.drop_zero, List.nil_append, List.append_nil, List.take_nil, List.drop_nil, and_true, true_and, Nat.reduceEqDiff, Nat.reduceAdd, Nat.reduceLT, Nat.reduceLeDiff, Nat.reduceLT, Nat.zero_add, ↓reduceIte, vret, rvAll, rvVal, resv_2, eq_self, Bool.false_eq_true, put_box_ne (Nat.ne_of_lt hcb), put_box_ne (Nat.ne_of_lt hd2), nc12, decide_eq_true h1]
        have hD : grehD L = ⟨0, false, 0, false, 0, []⟩ := if_neg (by rw [hE]; decide)
        exact ⟨_, _, Wk.refl _, (by repeat (first | exact hwf.weak | refine weak_put ?_ (by assumption))), ⟨.nil, by rw [hE, hD]; rfl⟩, rfl⟩
      simp (config := {maxSteps := 3000000}) only [run_reg, run_seq, run_cond, if_false, at_code_n, ops_nil, ops_grd, grd_ff, ops_mv, ops_pick, ops_bin, ops_call, ev_t, put_get, opv_mk, vpick, vbin, vbinI, obsOk, List.map_cons, List.map_nil, true_and, Nat.reduceEqDiff, ↓reduceIte, eq_self, Bool.false_eq_true, nc12, decide_eq_false h1]
      refine Cal.mk (Left_v (by repeat (first | exact put_box_same | rw [put_box_ne (by omega)])) l5) ?_
      rintro _ _ ⟨rfl, rfl⟩ -
      by_cases h2 : x3 < (L.length : Int) - 12
      · have hE : grehE L = 11 := by simp only [grehE, hh, hA2, hZ, hS]; rw [if_neg h8, if_neg (by decide), if_neg (by omega), if_pos (.inl (by omega))]
        simp (config := {maxSteps := 3000000}) only [run_reg, run_seq, run_ret, run_cond, if_true, at_code_n, at_code_r, at_blk_r, at_fin_r, ops_nil, ops_grd, grd_tf, ops_mv, ops_pick, ops_bin, ops_bld, ops_store, ev_t, ev_c, put_get, put_none, opv_mk, stb_some, sto_ptr, Stp, vbld, put_box_same, args0, vpick, vbin, vbinI, vload, takeV, fillV, splice, V.cells, obsOk, List.map_cons, List.map_nil, List.length_cons, List.length_nil, List.take_succ_cons, List.take_zero, List.drop_succ_cons, List.drop_zero, List.nil_append, List.append_nil, List.take_nil, List.drop_nil, and_true, true_and, Nat.reduceEqDiff, Nat.reduceAdd, Nat.reduceLT, Nat.reduceLeDiff, Nat.reduceLT, Nat.zero_add, ↓reduceIte, vret, rvAll, rvVal, resv_2, eq_self, put_box_ne (Nat.ne_of_lt hcb), put_box_ne (Nat.ne_of_lt hd2), nc12, decide_eq_true h2]
        have hD : grehD L = ⟨0, false, 0, false, 0, []⟩ := if_neg (by rw [hE]; decide)
        exact ⟨_, _, Wk.refl _, (by repeat (first | exact hwf.weak | refine weak_put ?_ (by assumption))), ⟨.nil, by rw [hE, hD]; rfl⟩, rfl⟩
      by_cases h3 : 0 < x3
      · have hE : grehE L = 11 := by simp only [grehE, hh, hA2, hZ, hS]; rw [if_neg h8, if_neg (by decide), if_neg (by omega), if_pos (.inr (by simp; omega))]
        simp (config := {maxSteps := 3000000}) only [run_reg, run_seq, run_ret, run_cond, if_true, at_code_n, at_code_r, at_blk_r, at_fin_r, ops_nil, ops_grd, grd_ff, ops_mv, ops_pick, ops_bin, ops_binb, vbinb, ops_fld, ops_load, ops_bld, ops_store, ev_t, ev_c, put_get, put_none, opv_mk, stb_some, sto_ptr, Stp, vbld, put_box_same, args0, vpick, vbin, vbinI, vfld, vload, takeV, fillV, splice, V.cells, obsOk, List.map_cons, List.map_nil, List.length_cons, List.length_nil, List.getElem?_cons_zero, List.getElem?_cons_succ, List.take_succ_cons, List.take_zero, List.drop_succ_cons, List.drop_zero, List.nil_append, List.append_nil, List.take_nil, List.drop_nil, and_true, true_and, Nat.reduceEqDiff, Nat.reduceAdd, Nat.reduceLT, Nat.reduceLeDiff, Nat.reduceLT, Nat.zero_add, ↓reduceIte, vret, rvAll, rvVal, resv_2, Bool.not_false, eq_self, Bool.false_eq_true, put_box_ne (Nat.ne_of_lt hcb), put_box_ne (Nat.ne_of_lt hd2), beqT, nc12, decide_eq_false h2, decide_eq_true h3]
        have hD : grehD L = ⟨0, false, 0, false, 0, []⟩ := if_neg (by rw [hE]; decide)
        exact ⟨_, _, Wk.refl _, (by repeat (first | exact hwf.weak | refine weak_put ?_ (by assumption))), ⟨.nil, by rw [hE, hD]; rfl⟩, rfl⟩
      · have hE : grehE L = 0 := by simp only [grehE, hh, hA2, hZ, hS]; rw [if_neg h8, if_neg (by decide), if_neg (by omega), if_neg (by simp; omega)]
        have hD : grehD L = grehT L := if_pos hE
        simp (config := {maxSteps := 3000000}) only [run_skip, run_reg, run_seq, run_cond, if_false, at_code_n, at_blk_n, ops_nil, ops_grd, grd_ff, ops_mv, ops_pick, ops_bin, ops_binb, vbinb, ops_fld, ops_load, ops_call, ev_t, ev_c, put_get, opv_mk, put_box_same, vpick, vbin, vbinI, vfld, vload, takeV, V.cells, obsOk, List.map_cons, List.map_nil, List.length_cons, List.length_nil, List.getElem?_cons_zero, List.getElem?_cons_succ, true_and, Nat.reduceEqDiff, Nat.zero_add, ↓reduceIte, Bool.not_true, Bool.not_false, eq_self, Bool.false_eq_true, beqF, nc12, decide_eq_false h2, decide_eq_false h3]
        refine Cal.mk (Rest_v (by repeat (first | exact put_box_same | rw [put_box_ne (by omega)])) l5 hL) ?_
        rw [rest_eq l5]
        rintro _ _ ⟨rfl, rfl⟩ -
        simp (config := {maxSteps := 3000000}) only [run_reg, run_seq, run_ret, at_code_n, at_fin_r, ops_nil, ops_mv, ops_fld, ops_load, ops_store, ev_t, ev_c, put_get, put_none, opv_mk, stb_some, sto_ptr, Stp, put_box_same, args0, vfld, vload, takeV, splice, V.cells, obsOk, List.map_cons, List.map_nil, List.length_cons, List.length_nil, List.take_succ_cons, List.take_zero, List.drop_succ_cons, List.drop_zero, List.cons_append, List.nil_append, List.append_nil, List.take_nil, List.drop_nil, and_true, true_and, Nat.reduceEqDiff, Nat.reduceAdd, Nat.reduceLT, Nat.reduceLeDiff, Nat.reduceLT, Nat.zero_add, ↓reduceIte, vret, rvAll, rvVal, resv_2, eq_self, put_box_ne (Nat.ne_of_lt hcb), put_box_ne (Nat.ne_of_lt hd2), put_box_ne (Nat.ne_of_gt hd3)]
        exact ⟨_, _, Wk.refl _, (by repeat (first | exact hwf.weak | refine weak_put ?_ (by assumption))), ⟨.no, by rw [hE, hD]; simp only [grehT, TD.v, hS, hA, hA1, hA2, hC, ← w5, ↓reduceIte, Bool.false_eq_true]⟩, rfl⟩
    · have c1 : ibit .andNot .u16 12289 4224 = 8193 := by decide
      have c2 : ibit .and .u16 12289 4096 = 4096 := by decide
      have c3 : ibit .and .u16 12289 128 = 0 := by decide
      have hS : gS L = true := by simp [gS, hN]
      have hA : gA L = false := by simp [gA, hN]
      have hA1 : gAt1 L = 12 := by simp [gAt1, hS]
      have hA2 : gAt2 L = 12 := by simp [gAt2, gAt1, hS, hA]
      obtain ⟨x5, a5, b5, e5, u5, v5, l5, f5⟩ := rd4 hB false l4
      by_cases hk : L.length < 12
      · have hE : grehE L = 10 := by simp only [grehE, hh, hA2, hZ, hS]; rw [if_neg h8, if_neg (by decide), if_pos (by omega)]
        have eb : b5 = true := f5.sshort rfl (by omega)
        clear f5
        subst eb
        simp (config := {maxSteps := 3000000}) only [run_skip, run_reg, run_seq, run_cond, if_true, if_false, at_code_n, ops_nil, ops_grd, grd_ff, ops_mv, ops_pick, ops_bin, ops_fld, ops_load, ops_store, ops_call, ev_t, ev_c, put_get, put_none, opv_mk, stb_some, sto_ptr, Stp, put_box_same, put_put, vpick, vbin, vbinI, vfld, vload, takeV, splice, V.cells, obsOk, List.map_cons, List.map_nil, List.length_cons, List.length_nil, List.getElem?_cons_zero, List.getElem?_cons_succ, List.take_succ_cons, List.take_zero, List.drop_succ_cons, List.drop_zero, List.cons_append, List.nil_append, true_and, Nat.reduceEqDiff, Nat.reduceAdd, Nat.reduceLT, Nat.reduceLeDiff, Nat.reduceLT, Int.reduceEq, Nat.zero_add, ↓reduceIte, decide_true, decide_false, ne_eq, not_true_eq_false, not_false_eq_true, eq_self, Bool.false_eq_true, c1, c2, c3]
        refine Cal.mk (U32_v (by repeat (first | exact put_box_same | rw [put_box_ne (by omega)])) l4 hB) ?_
        rw [e5]
        rintro _ _ ⟨rfl, rfl⟩ -
        simp (config := {maxSteps := 3000000}) only [run_skip, run_reg, run_seq, run_blk, run_cond, if_false, at_code_n, ops_nil, ops_mv, ops_fld, ops_load, ops_store, ops_call, ev_t, put_get, put_none, opv_mk, stb_some, sto_ptr, Stp, put_box_same, vfld, vload, takeV, splice, V.cells, obsOk, List.map_cons, List.map_nil, List.length_cons, List.length_nil, List.getElem?_cons_zero, List.getElem?_cons_succ, List.take_succ_cons, List.take_zero, List.drop_succ_cons, List.drop_zero, List.cons_append, List.nil_append, true_and, Nat.reduceEqDiff, Nat.reduceAdd, Nat.reduceLT, Nat.reduceLeDiff, Nat.reduceLT, Nat.zero_add, ↓reduceIte, eq_self, put_box_ne (Nat.ne_of_gt hd3)]
        refine Cal.mk (Bad_v (by repeat (first | exact put_box_same | rw [put_box_ne (by omega)]))) ?_
        rintro _ _ ⟨rfl, rfl⟩ -
        simp (config := {maxSteps := 3000000}) only [run_reg, run_seq, run_ret, run_cond, if_true, at_code_n, at_code_r, at_blk_r, at_fin_r, ops_nil, ops_grd, grd_tf, ops_mv, ops_pick, ops_bld, ops_store, ev_t, ev_c, put_get, put_none, opv_mk, stb_some, sto_ptr, Stp, vbld, put_box_same, args0, vpick, vload, takeV, fillV, splice, V.cells, obsOk, List.map_cons, List.map_nil, List.length_cons, List.length_nil, List.take_succ_cons, List.take_zero, List.drop_succ_cons, List.drop_zero, List.nil_append, List.append_nil, List.take_nil, List.drop_nil, and_true, true_and, Nat.reduceEqDiff, Nat.reduceAdd, Nat.reduceLT, Nat.reduceLeDiff, Nat.reduceLT, Nat.zero_add, ↓reduceIte, vret, rvAll, rvVal, resv_2, eq_self, put_box_ne (Nat.ne_of_lt hcb), put_box_ne (Nat.ne_of_lt hd2)]
        have hD : grehD L = ⟨0, false, 0, false, 0, []⟩ := if_neg (by rw [hE]; decide)
        exact ⟨_, _, Wk.refl _, (by repeat (first | exact hwf.weak | refine weak_put ?_ (by assumption))), ⟨.nil, by rw [hE, hD]; rfl⟩, rfl⟩
      have y5 := f5.sok rfl (by omega)
      have z5 := f5.sat rfl (by omega)
      have w5 := f5.sval rfl (by omega)
      clear f5
      subst y5 z5
      simp only [Nat.reduceAdd] at w5 l5 e5 ⊢
      simp (config := {maxSteps := 3000000}) only [run_skip, run_reg, run_seq, run_cond, if_true, if_false, at_code_n, ops_nil, ops_grd, grd_ff, ops_mv, ops_pick, ops_bin, ops_fld, ops_load, ops_store, ops_call, ev_t, ev_c, put_get, put_none, opv_mk, stb_some, sto_ptr, Stp, put_box_same, put_put, vpick, vbin, vbinI, vfld, vload, takeV, splice, V.cells, obsOk, List.map_cons, List.map_nil, List.length_cons, List.length_nil, List.getElem?_cons_zero, List.getElem?_cons_succ, List.take_succ_cons, List.take_zero, List.drop_succ_cons, List.drop_zero, List.cons_append, List.nil_append, true_and, Nat.reduceEqDiff, Nat.reduceAdd, Nat.reduceLT, Nat.reduceLeDiff, Nat.reduceLT, Int.reduceEq, Nat.zero_add, ↓reduceIte, decide_true, decide_false, ne_eq, not_true_eq_false, not_false_eq_true, eq_self, Bool.false_eq_true, c1, c2, c3]
      refine Cal.mk (U32_v (by repeat (first | exact put_box_same | rw [put_box_ne (by omega)])) l4 hB) ?_
      rw [e5]
      rintro _ _ ⟨rfl, rfl⟩ -
      simp (config := {maxSteps := 3000000}) only [run_skip, run_reg, run_seq, run_blk, run_cond, if_false, at_code_n, ops_nil, ops_mv, ops_fld, ops_load, ops_store, ops_call, ev_t, put_get, put_none, opv_mk, stb_some, sto_ptr, Stp, put_box_same, vfld, vload, takeV, splice, V.cells, obsOk, List.map_cons, List.map_nil, List.length_cons, List.length_nil, List.getElem?_cons_zero, List.getElem?_cons_succ, List.take_succ_cons, List.take_zero, List.drop_succ_cons, List.drop_zero, List.cons_append, List.nil_append, true_and, Nat.reduceEqDiff, Nat.reduceAdd, Nat.reduceLT, Nat.reduceLeDiff, Nat.reduceLT, Nat.zero_add, ↓reduceIte, eq_self, put_box_ne (Nat.ne_of_gt hd3)]
      refine Cal.mk (Bad_v (by repeat (first | exact put_box_same | rw [put_box_ne (by omega)]))) ?_
      rintro _ _ ⟨rfl, rfl⟩ -
      simp (config := {maxSteps := 3000000}) only [ops_grd, grd_ff, ops_mv, ops_call, ev_t, put_get, opv_mk, obsOk, List.map_cons, List.map_nil, true_and, Nat.reduceEqDiff, ↓reduceIte, eq_self]
      refine Cal.mk (Left_v (by repeat (first | exact put_box_same | rw [put_box_ne (by omega)])) l5) ?_
      rintro _ _ ⟨rfl, rfl⟩ -
      by_cases h1 : (L.length : Int) - 12 < x3
      · have hE : grehE L = 10 := by simp only [grehE, hh, hA2, hZ, hS]; rw [if_neg h8, if_neg (by decide), if_pos (by omega)]
        simp (config := {maxSteps := 3000000}) only [run_reg, run_seq, run_ret, run_cond, if_true, at_code_n, at_code_r, at_blk_r, at_fin_r, ops_nil, ops_grd, grd_ff, ops_mv, ops_pick, ops_bin, ops_bld, ops_store, ev_t, ev_c, put_get, put_none, opv_mk, stb_some, sto_ptr, Stp, vbld, put_box_same, args0, vpick, vbin, vbinI, vload, takeV, fillV, splice, V.cells, obsOk, List.map_cons, List.map_nil, List.length_cons, List.length_nil, List.take_succ_cons, List.take_zero, List.drop_succ_cons, List.drop_zero, List.nil_append, List.append_nil, List.take_nil, List.drop_nil, and_true, true_and, Nat.reduceEqDiff, Nat.reduceAdd, Nat.reduceLT, Nat.reduceLeDiff, Nat.reduceLT, Nat.zero_add, ↓reduceIte, vret, rvAll, rvVal, resv_2, eq_self, Bool.false_eq_true, put_box_ne (Nat.ne_of_lt hcb), put_box_ne (Nat.ne_of_lt hd2), nc12, decide_eq_true h1]
        have hD : grehD L = ⟨0, false, 0, false, 0, []⟩ := if_neg (by rw [hE]; decide)
        exact ⟨_, _, Wk.refl _, (by repeat (first | exact hwf.weak | refine weak_put ?_ (by assumption))), ⟨.nil, by rw [hE, hD]; rfl⟩, rfl⟩
      simp (config := {maxSteps := 3000000}) only [run_reg, run_seq, run_cond, if_false, at_code_n, ops_nil, ops_grd, grd_ff, ops_mv, ops_pick, ops_bin, ops_call, ev_t, put_get, opv_mk, vpick, vbin, vbinI, obsOk, List.map_cons, List.map_nil, true_and, Nat.reduceEqDiff, ↓reduceIte, eq_self, Bool.false_eq_true, nc12, decide_eq_false h1]
      refine Cal.mk (Left_v (by repeat (first | exact put_box_same | rw [put_box_ne (by omega)])) l5) ?_
      rintro _ _ ⟨rfl, rfl⟩ -
      by_cases h2 : x3 < (L.length : Int) - 12
      · have hE : grehE L = 11 := by simp only [grehE, hh, hA2, hZ, hS]; rw [if_neg h8, if_neg (by decide), if_neg (by omega), if_pos (.inl (by omega))]
        simp (config := {maxSteps := 3000000}) only [run_reg, run_seq, run_ret, run_cond, if_true, at_code_n, at_code_r, at_blk_r, at_fin_r, ops_nil, ops_grd, grd_tf, ops_mv, ops_pick, ops_bin, ops_bld, ops_store, ev_t, ev_c, put_get, put_none, opv_mk, stb_some, sto_ptr, Stp, vbld, put_box_same, args0, vpick, vbin, vbinI, vload, takeV, fillV, splice, V.cells, obsOk, List.map_cons, List.map_nil, List.length_cons, List.length_nil, List.take_succ_cons, List.take_zero, List.drop_succ_cons, List.drop_zero, List.nil_append, List.append_nil, List.take_nil, List.drop_nil, and_true, true_and, Nat.reduceEqDiff, Nat.reduceAdd, Nat.reduceLT, Nat.reduceLeDiff, Nat.reduceLT, Nat.zero_add, ↓reduceIte, vret, rvAll, rvVal, resv_2, eq_self, put_box_ne (Nat.ne_of_lt hcb), put_box_ne (Nat.ne_of_lt hd2), nc12, decide_eq_true h2]
        have hD : grehD L = ⟨0, false, 0, false, 0, []⟩ := if_neg (by rw [hE]; decide)
        exact ⟨_, _, Wk.refl _, (by repeat (first | exact hwf.weak | refine weak_put ?_ (by assumption))), ⟨.nil, by rw [hE, hD]; rfl⟩, rfl⟩
      by_cases h3 : 0 < x3
      · have hE : grehE L = 0 := by simp only [grehE, hh, hA2, hZ, hS]; rw [if_neg h8, if_neg (by decide), if_neg (by omega), if_neg (by simp; omega)]
        have hD : grehD L = grehT L := if_pos hE
        simp (config := {maxSteps := 3000000}) only [run_skip, run_reg, run_seq, run_cond, if_false, at_code_n, at_blk_n, ops_nil, ops_grd, grd_ff, ops_mv, ops_pick, ops_bin, ops_binb, vbinb, ops_fld, ops_load, ops_call, ev_t, ev_c, put_get, opv_mk, put_box_same, vpick, vbin, vbinI, vfld, vload, takeV, V.cells, obsOk, List.map_cons, List.map_nil, List.length_cons, List.length_nil, List.getElem?_cons_zero, List.getElem?_cons_succ, true_and, Nat.reduceEqDiff, Nat.zero_add, ↓reduceIte, Bool.not_true, eq_self, Bool.false_eq_true, beqT, nc12, decide_eq_false h2, decide_eq_true h3]
        refine Cal.mk (Rest_v (by repeat (first | exact put_box_same | rw [put_box_ne (by omega)])) l5 hL) ?_
        rw [rest_eq l5]
        rintro _ _ ⟨rfl, rfl⟩ -
        simp (config := {maxSteps := 3000000}) only [run_reg, run_seq, run_ret, at_code_n, at_fin_r, ops_nil, ops_mv, ops_fld, ops_load, ops_store, ev_t, ev_c, put_get, put_none, opv_mk, stb_some, sto_ptr, Stp, put_box_same, args0, vfld, vload, takeV, splice, V.cells, obsOk, List.map_cons, List.map_nil, List.length_cons, List.length_nil, List.take_succ_cons, List.take_zero, List.drop_succ_cons, List.drop_zero, List.cons_append, List.nil_append, List.append_nil, List.take_nil, List.drop_nil, and_true, true_and, Nat.reduceEqDiff, Nat.reduceAdd, Nat.reduceLT, Nat.reduceLeDiff, Nat.reduceLT, Nat.zero_add, ↓reduceIte, vret, rvAll, rvVal, resv_2, eq_self, put_box_ne (Nat.ne_of_lt hcb), put_box_ne (Nat.ne_of_lt hd2), put_box_ne (Nat.ne_of_gt hd3)]
        exact ⟨_, _, Wk.refl _, (by repeat (first | exact hwf.weak | refine weak_put ?_ (by assumption))), ⟨.no, by rw [hE, hD]; simp only [grehT, TD.v, hS, hA, hA2, hC, ← w5, ↓reduceIte, Bool.false_eq_true]⟩, rfl⟩
      · have hE : grehE L = 11 := by simp only [grehE, hh, hA2, hZ, hS]; rw [if_neg h8, if_neg (by decide), if_neg (by omega), if_pos (.inr (by simp; omega))]
        simp (config := {maxSteps := 3000000}) only [run_reg, run_seq, run_ret, run_cond, if_true, at_code_n, at_code_r, at_blk_r, at_fin_r, ops_nil, ops_grd, grd_ff, ops_mv, ops_pick, ops_bin, ops_binb, vbinb, ops_fld, ops_load, ops_bld, ops_store, ev_t, ev_c, put_get, put_none, opv_mk, stb_some, sto_ptr, Stp, vbld, put_box_same, args0, vpick, vbin, vbinI, vfld, vload, takeV, fillV, splice, V.cells, obsOk, List.map_cons, List.map_nil, List.length_cons, List.length_nil, List.getElem?_cons_zero, List.getElem?_cons_succ, List.take_succ_cons, List.take_zero, List.drop_succ_cons, List.drop_zero, List.nil_append, List.append_nil, List.take_nil, List.drop_nil, and_true, true_and, Nat.reduceEqDiff, Nat.reduceAdd, Nat.reduceLT, Nat.reduceLeDiff, Nat.reduceLT, Nat.zero_add, ↓reduceIte, vret, rvAll, rvVal, resv_2, Bool.not_true, Bool.not_false, eq_self, Bool.false_eq_true, put_box_ne (Nat.ne_of_lt hcb), put_box_ne (Nat.ne_of_lt hd2), beqF, nc12, decide_eq_false h2, decide_eq_false h3]
        have hD : grehD L = ⟨0, false, 0, false, 0, []⟩ := if_neg (by rw [hE]; decide)
        exact ⟨_, _, Wk.refl _, (by repeat (first | exact hwf.weak | refine weak_put ?_ (by assumption))), ⟨.nil, by rw [hE, hD]; rfl⟩, rfl⟩
    · have c1 : ibit .andNot .u16 12417 4224 = 8193 := by decide
      have c2 : ibit .and .u16 12417 4096 = 4096 := by decide
      have c3 : ibit .and .u16 12417 128 = 128 := by decide
      have hS : gS L = true := by simp [gS, hN]
      have hA : gA L = true := by simp [gA, hN]
      have hA1 : gAt1 L = 12 := by simp [gAt1, hS]
      have hA2 : gAt2 L = 16 := by simp [gAt2, gAt1, hS, hA]
      obtain ⟨x5, a5, b5, e5, u5, v5, l5, f5⟩ := rd4 hB false l4
      obtain ⟨x6, a6, b6, e6, u6, v6, l6, f6⟩ := rd4 hB b5 l5
      by_cases hk : L.length < 16
      · have hE : grehE L = 10 := by simp only [grehE, hh, hA2, hZ, hS]; rw [if_neg h8, if_neg (by decide), if_pos (by omega)]
        have eb : b6 = true := by
          by_cases h : L.length < 12
          · exact f6.sbad (f5.sshort rfl (by omega))
          · exact f6.sshort (f5.sok rfl (by omega)) (by have := f5.sat rfl (by omega); omega)
        clear f5 f6
        subst eb
        simp (config := {maxSteps := 3000000}) only [run_skip, run_reg, run_seq, run_cond, if_true, if_false, at_code_n, ops_nil, ops_grd, grd_ff, ops_mv, ops_pick, ops_bin, ops_fld, ops_load, ops_store, ops_call, ev_t, ev_c, put_get, put_none, opv_mk, stb_some, sto_ptr, Stp, put_box_same, put_put, vpick, vbin, vbinI, vfld, vload, takeV, splice, V.cells, obsOk, List.map_cons, List.map_nil, List.length_cons, List.length_nil, List.getElem?_cons_zero, List.getElem?_cons_succ, List.take_succ_cons, List.take_zero, List.drop_succ_cons, List.drop_zero, List.cons_append, List.nil_append, true_and, Nat.reduceEqDiff, Nat.reduceAdd, Nat.reduceLT, Nat.reduceLeDiff, Nat.reduceLT, Int.reduceEq, Nat.zero_add, ↓reduceIte, decide_true, decide_false, ne_eq, not_true_eq_false, not_false_eq_true, eq_self, Bool.false_eq_true, c1, c2, c3]
        refine Cal.mk (U32_v (by repeat (first | exact put_box_same | rw [put_box_ne (by omega)])) l4 hB) ?_
        rw [e5]
        rintro _ _ ⟨rfl, rfl⟩ -
        simp (config := {maxSteps := 3000000}) only [run_reg, run_seq, run_cond, if_true, at_code_n, ops_nil, ops_mv, ops_fld, ops_load, ops_store, ops_call, ev_t, put_get, put_none, opv_mk, stb_some, sto_ptr, Stp, put_box_same, vfld, vload, takeV, splice, V.cells, obsOk, List.map_cons, List.map_nil, List.length_cons, List.length_nil, List.getElem?_cons_zero, List.getElem?_cons_succ, List.take_succ_cons, List.take_zero, List.drop_succ_cons, List.drop_zero, List.cons_append, List.nil_append, true_and, Nat.reduceEqDiff, Nat.reduceAdd, Nat.reduceLT, Nat.reduceLeDiff, Nat.reduceLT, Nat.zero_add, ↓reduceIte, eq_self, put_box_ne (Nat.ne_of_gt hd3)]
        refine Cal.mk (U32_v (by repeat (first | exact put_box_same | rw [put_box_ne (by omega)])) l5 hB) ?_
        rw [e6]
        rintro _ _ ⟨rfl, rfl⟩ -
        simp (config := {maxSteps := 3000000}) only [run_reg, run_seq, run_blk, at_code_n, ops_nil, ops_mv, ops_fld, ops_store, ops_call, ev_t, put_get, put_none, opv_mk, stb_some, sto_ptr, Stp, put_box_same, vfld, splice, V.cells, obsOk, List.map_cons, List.map_nil, List.length_cons, List.length_nil, List.take_succ_cons, List.take_zero, List.drop_succ_cons, List.drop_zero, List.cons_append, List.nil_append, true_and, Nat.reduceEqDiff, Nat.reduceAdd, Nat.reduceLT, Nat.reduceLeDiff, Nat.reduceLT, Nat.zero_add, ↓reduceIte, eq_self, put_box_ne (Nat.ne_of_gt hd3)]
        refine Cal.mk (Bad_v (by repeat (first | exact put_box_same | rw [put_box_ne (by omega)]))) ?_
        rintro _ _ ⟨rfl, rfl⟩ -
        simp (config := {maxSteps := 3000000}) only [run_reg, run_seq, run_ret, run_cond, if_true, at_code_n, at_code_r, at_blk_r, at_fin_r, ops_nil, ops_grd, grd_tf, ops_mv, ops_pick, ops_bld, ops_store, ev_t, ev_c, put_get, put_none, opv_mk, stb_some, sto_ptr, Stp, vbld, put_box_same, args0, vpick, vload, takeV, fillV, splice, V.cells, obsOk, List.map_cons, List.map_nil, List.length_cons, List.length_nil, List.take_succ_cons, List.take_zero, List.drop_succ_cons, List.drop_zero, List.nil_append, List.append_nil, List.take_nil, List.drop_nil, and_true, true_and, Nat.reduceEqDiff, Nat.reduceAdd, Nat.reduceLT, Nat.reduceLeDiff, Nat.reduceLT, Nat.zero_add, ↓reduceIte, vret, rvAll, rvVal, resv_2, eq_self, put_box_ne (Nat.ne_of_lt hcb), put_box_ne (Nat.ne_of_lt hd2)]
        have hD : grehD L = ⟨0, false, 0, false, 0, []⟩ := if_neg (by rw [hE]; decide)
        exact ⟨_, _, Wk.refl _, (by repeat (first | exact hwf.weak | refine weak_put ?_ (by assumption))), ⟨.nil, by rw [hE, hD]; rfl⟩, rfl⟩
      have y5 := f5.sok rfl (by omega)
      have z5 := f5.sat rfl (by omega)
      have w5 := f5.sval rfl (by omega)
      have y6 := f6.sok y5 (by omega)
      have z6 := f6.sat y5 (by omega)
      have w6 := f6.sval y5 (by omega)
      clear f5 f6
      subst y5 z5 y6 z6
      simp only [Nat.reduceAdd] at w5 l5 e5 w6 l6 e6 ⊢
      simp (config := {maxSteps := 3000000}) only [run_skip, run_reg, run_seq, run_cond, if_true, if_false, at_code_n, ops_nil, ops_grd, grd_ff, ops_mv, ops_pick, ops_bin, ops_fld, ops_load, ops_store, ops_call, ev_t, ev_c, put_get, put_none, opv_mk, stb_some, sto_ptr, Stp, put_box_same, put_put, vpick, vbin, vbinI, vfld, vload, takeV, splice, V.cells, obsOk, List.map_cons, List.map_nil, List.length_cons, List.length_nil, List.getElem?_cons_zero, List.getElem?_cons_succ, List.take_succ_cons, List.take_zero, List.drop_succ_cons, List.drop_zero, List.cons_append, List.nil_append, true_and, Nat.reduceEqDiff, Nat.reduceAdd, Nat.reduceLT, Nat.reduceLeDiff, Nat.reduceLT, Int.reduceEq, Nat.zero_add, ↓reduceIte, decide_true, decide_false, ne_eq, not_true_eq_false, not_false_eq_true, eq_self, Bool.false_eq_true, c1, c2, c3]
      refine Cal.mk (U32_v (by repeat (first | exact put_box_same | rw [put_box_ne (by omega)])) l4 hB) ?_
      rw [e5]
      rintro _ _ ⟨rfl, rfl⟩ -
      simp (config := {maxSteps := 3000000}) only [run_reg, run_seq, run_cond, if_true, at_code_n, ops_nil, ops_mv, ops_fld, ops_load, ops_store, ops_call, ev_t, put_get, put_none, opv_mk, stb_some, sto_ptr, Stp, put_box_same, vfld, vload, takeV, splice, V.cells, obsOk, List.map_cons, List.map_nil, List.length_cons, List.length_nil, List.getElem?_cons_zero, List.getElem?_cons_succ, List.take_succ_cons, List.take_zero, List.drop_succ_cons, List.drop_zero, List.cons_append, List.nil_append, true_and, Nat.reduceEqDiff, Nat.reduceAdd, Nat.reduceLT, Nat.reduceLeDiff, Nat.reduceLT, Nat.zero_add, ↓reduceIte, eq_self, put_box_ne (Nat.ne_of_gt hd3)]
      refine Cal.mk (U32_v (by repeat (first | exact put_box_same | rw [put_box_ne (by omega)])) l5 hB) ?_
      rw [e6]
      rintro _ _ ⟨rfl, rfl⟩ -
      simp (config := {maxSteps := 3000000}) only [run_reg, run_seq, run_blk, at_code_n, ops_nil, ops_mv, ops_fld, ops_store, ops_call, ev_t, put_get, put_none, opv_mk, stb_some, sto_ptr, Stp, put_box_same, vfld, splice, V.cells, obsOk, List.map_cons, List.map_nil, List.length_cons, List.length_nil, List.take_succ_cons, List.take_zero, List.drop_succ_cons, List.drop_zero, List.cons_append, List.nil_append, true_and, Nat.reduceEqDiff, Nat.reduceAdd, Nat.reduceLT, Nat.reduceLeDiff, Nat.reduceLT, Nat.zero_add, ↓reduceIte, eq_self, put_box_ne (Nat.ne_of_gt hd3)]
      refine Cal.mk (Bad_v (by repeat (first | exact put_box_same | rw [put_box_ne (by omega)]))) ?_
      rintro _ _ ⟨rfl, rfl⟩ -
      simp (config := {maxSteps := 3000000}) only [ops_grd, grd_ff, ops_mv, ops_call, ev_t, put_get, opv_mk, obsOk, List.map_cons, List.map_nil, true_and, Nat.reduceEqDiff, ↓reduceIte, eq_self]
      refine Cal.mk (Left_v (by repeat (first | exact put_box_same | rw [put_box_ne (by omega)])) l6) ?_
      rintro _ _ ⟨rfl, rfl⟩ -
      by_cases h1 : (L.length : Int) - 16 < x3
      · have hE : grehE L = 10 := by simp only [grehE, hh, hA2, hZ, hS]; rw [if_neg h8, if_neg (by decide), if_pos (by omega)]
        simp (config := {maxSteps := 3000000}) only [run_reg, run_seq, run_ret, run_cond, if_true, at_code_n, at_code_r, at_blk_r, at_fin_r, ops_nil, ops_grd, grd_ff, ops_mv, ops_pick, ops_bin, ops_bld, ops_store, ev_t, ev_c, put_get, put_none, opv_mk, stb_some, sto_ptr, Stp, vbld, put_box_same, args0, vpick, vbin, vbinI, vload, takeV, fillV, splice, V.cells, obsOk, List.map_cons, List.map_nil, List.length_cons, List.length_nil, List.take_succ_cons, List.take_zero, List.drop_succ_cons, List.drop_zero, List.nil_append, List.append_nil, List.take_nil, List.drop_nil, and_true, true_and, Nat.reduceEqDiff, Nat.reduceAdd, Nat.reduceLT, Nat.reduceLeDiff, Nat.reduceLT, Nat.zero_add, ↓reduceIte, vret, rvAll, rvVal, resv_2, eq_self, Bool.false_eq_true, put_box_ne (Nat.ne_of_lt hcb), put_box_ne (Nat.ne_of_lt hd2), nc16, decide_eq_true h1]
        have hD : grehD L = ⟨0, false, 0, false, 0, []⟩ := if_neg (by rw [hE]; decide)
        exact ⟨_, _, Wk.refl _, (by repeat (first | exact hwf.weak | refine weak_put ?_ (by assumption))), ⟨.nil, by rw [hE, hD]; rfl⟩, rfl⟩
      simp (config := {maxSteps := 3000000}) only [run_reg, run_seq, run_cond, if_false, at_code_n, ops_nil, ops_grd, grd_ff, ops_mv, ops_pick, ops_bin, ops_call, ev_t, put_get, opv_mk, vpick, vbin, vbinI, obsOk, List.map_cons, List.map_nil, true_and, Nat.reduceEqDiff, ↓reduceIte, eq_self, Bool.false_eq_true, nc16, decide_eq_false h1]
      refine Cal.mk (Left_v (by repeat (first | exact put_box_same | rw [put_box_ne (by omega)])) l6) ?_
      rintro _ _ ⟨rfl, rfl⟩ -
      by_cases h2 : x3 < (L.length : Int) - 16
      · have hE : grehE L = 11 := by simp only [grehE, hh, hA2, hZ, hS]; rw [if_neg h8, if_neg (by decide), if_neg (by omega), if_pos (.inl (by omega))]
        simp (config := {maxSteps := 3000000}) only [run_reg, run_seq, run_ret, run_cond, if_true, at_code_n, at_code_r, at_blk_r, at_fin_r, ops_nil, ops_grd, grd_tf, ops_mv, ops_pick, ops_bin, ops_bld, ops_store, ev_t, ev_c, put_get, put_none, opv_mk, stb_some, sto_ptr, Stp, vbld, put_box_same, args0, vpick, vbin, vbinI, vload, takeV, fillV, splice, V.cells, obsOk, List.map_cons, List.map_nil, List.length_cons, List.length_nil, List.take_succ_cons, List.take_zero, List.drop_succ_cons, List.drop_zero, List.nil_append, List.append_nil, List.take_nil, List.drop_nil, and_true, true_and, Nat.reduceEqDiff, Nat.reduceAdd, Nat.reduceLT, Nat.reduceLeDiff, Nat.reduceLT, Nat.zero_add, ↓reduceIte, vret, rvAll, rvVal, resv_2, eq_self, put_box_ne (Nat.ne_of_lt hcb), put_box_ne (Nat.ne_of_lt hd2), nc16, decide_eq_true h2]
        have hD : grehD L = ⟨0, false, 0, false, 0, []⟩ := if_neg (by rw [hE]; decide)
        exact ⟨_, _, Wk.refl _, (by repeat (first | exact hwf.weak | refine weak_put ?_ (by assumption))), ⟨.nil, by rw [hE, hD]; rfl⟩, rfl⟩
      by_cases h3 : 0 < x3
      · have hE : grehE L = 0 := by simp only [grehE, hh, hA2, hZ, hS]; rw [if_neg h8, if_neg (by decide), if_neg (by omega), if_neg (by simp; omega)]
        have hD : grehD L = grehT L := if_pos hE
        simp (config := {maxSteps := 3000000}) only [run_skip, run_reg, run_seq, run_cond, if_false, at_code_n, at_blk_n, ops_nil, ops_grd, grd_ff, ops_mv, ops_pick, ops_bin, ops_binb, vbinb, ops_fld, ops_load, ops_call, ev_t, ev_c, put_get, opv_mk, put_box_same, vpick, vbin, vbinI, vfld, vload, takeV, V.cells, obsOk, List.map_cons, List.map_nil, List.length_cons, List.length_nil, List.getElem?_cons_zero, List.getElem?_cons_succ, true_and, Nat.reduceEqDiff, Nat.zero_add, ↓reduceIte, Bool.not_true, eq_self, Bool.false_eq_true, beqT, nc16, decide_eq_false h2, decide_eq_true h3]
        refine Cal.mk (Rest_v (by repeat (first | exact put_box_same | rw [put_box_ne (by omega)])) l6 hL) ?_
        rw [rest_eq l6]
        rintro _ _ ⟨rfl, rfl⟩ -
        simp (config := {maxSteps := 3000000}) only [run_reg, run_seq, run_ret, at_code_n, at_fin_r, ops_nil, ops_mv, ops_fld, ops_load, ops_store, ev_t, ev_c, put_get, put_none, opv_mk, stb_some, sto_ptr, Stp, put_box_same, args0, vfld, vload, takeV, splice, V.cells, obsOk, List.map_cons, List.map_nil, List.length_cons, List.length_nil, List.take_succ_cons, List.take_zero, List.drop_succ_cons, List.drop_zero, List.cons_append, List.nil_append, List.append_nil, List.take_nil, List.drop_nil, and_true, true_and, Nat.reduceEqDiff, Nat.reduceAdd, Nat.reduceLT, Nat.reduceLeDiff, Nat.reduceLT, Nat.zero_add, ↓reduceIte, vret, rvAll, rvVal, resv_2, eq_self, put_box_ne (Nat.ne_of_lt hcb), put_box_ne (Nat.ne_of_lt hd2), put_box_ne (Nat.ne_of_gt hd3)]
        exact ⟨_, _, Wk.refl _, (by repeat (first | exact hwf.weak | refine weak_put ?_ (by assumption))), ⟨.no, by rw [hE, hD]; simp only [grehT, TD.v, hS, hA, hA1, hA2, hC, ← w5, ← w6, ↓reduceIte]⟩, rfl⟩
      · have hE : grehE L = 11 := by simp only [grehE, hh, hA2, hZ, hS]; rw [if_neg h8, if_neg (by decide), if_neg (by omega), if_pos (.inr (by simp; omega))]
        simp (config := {maxSteps := 3000000}) only [run_reg, run_seq, run_ret, run_cond, if_true, at_code_n, at_code_r, at_blk_r, at_fin_r, ops_nil, ops_grd, grd_ff, ops_mv, ops_pick, ops_bin, ops_binb, vbinb, ops_fld, ops_load, ops_bld, ops_store, ev_t, ev_c, put_get, put_none, opv_mk, stb_some, sto_ptr, Stp, vbld, put_box_same, args0, vpick, vbin, vbinI, vfld, vload, takeV, fillV, splice, V.cells, obsOk, List.map_cons, List.map_nil, List.length_cons, List.length_nil, List.getElem?_cons_zero, List.getElem?_cons_succ, List.take_succ_cons, List.take_zero, List.drop_succ_cons, List.drop_zero, List.nil_append, List.append_nil, List.take_nil, List.drop_nil, and_true, true_and, Nat.reduceEqDiff, Nat.reduceAdd, Nat.reduceLT, Nat.reduceLeDiff, Nat.reduceLT, Nat.zero_add, ↓reduceIte, vret, rvAll, rvVal, resv_2, Bool.not_true, Bool.not_false, eq_self, Bool.false_eq_true, put_box_ne (Nat.ne_of_lt hcb), put_box_ne (Nat.ne_of_lt hd2), beqF, nc16, decide_eq_false h2, decide_eq_false h3]
        have hD : grehD L = ⟨0, false, 0, false, 0, []⟩ := if_neg (by rw [hE]; decide)
        exact ⟨_, _, Wk.refl _, (by repeat (first | exact hwf.weak | refine weak_put ?_ (by assumption))), ⟨.nil, by rw [hE, hD]; rfl⟩, rfl⟩
  · have hE : grehE L = 11 := by unfold grehE; rw [if_neg h8, if_pos (by simpa using hh)]
    have hD : grehD L = ⟨0, false, 0, false, 0, []⟩ := if_neg (by rw [hE]; decide)
    by_cases hn : ibit .andNot .u16 x1 4224 = 8193
    · have hp : ¬ x2 = 34827 := fun e => hh (by rw [gre_bits u1 v1] at hn; simp only [gHead, gN, gP, ← w1, ← w2, e]; simpa using hn)
      simp (config := {maxSteps := 3000000}) only [run_skip, run_reg, run_seq, run_ret, run_cond, if_true, if_false, at_code_n, at_code_r, at_fin_r, ops_nil, ops_grd, grd_ff, ops_mv, ops_pick, ops_bin, ops_bld, ops_store, ev_t, ev_c, put_get, put_none, opv_mk, stb_some, sto_ptr, Stp, vbld, put_box_same, args0, vpick, vbin, vbinI, vload, takeV, fillV, splice, V.cells, obsOk, List.map_cons, List.map_nil, List.length_cons, List.length_nil, List.take_succ_cons, List.take_zero, List.drop_succ_cons, List.drop_zero, List.nil_append, List.append_nil, List.take_nil, List.drop_nil, and_true, true_and, Nat.reduceEqDiff, Nat.reduceAdd, Nat.reduceLT, Nat.reduceLeDiff, Nat.reduceLT, Nat.zero_add, ↓reduceIte, vret, rvAll, rvVal, resv_2, decide_false, ne_eq, not_true_eq_false, eq_self, Bool.false_eq_true, put_box_ne (Nat.ne_of_lt hcb), put_box_ne (Nat.ne_of_lt hd2), hn, decide_eq_true hp]
      exact ⟨_, _, Wk.refl _, (by repeat (first | exact hwf.weak | refine weak_put ?_ (by assumption))), ⟨.nil, by rw [hE, hD]; rfl⟩, rfl⟩
    · simp (config := {maxSteps := 3000000}) only [run_skip, run_reg, run_seq, run_ret, run_cond, if_true, if_false, at_code_n, at_code_r, at_fin_r, ops_nil, ops_grd, grd_tf, ops_mv, ops_pick, ops_bin, ops_bld, ops_store, ev_t, ev_c, put_get, put_none, opv_mk, stb_some, sto_ptr, Stp, vbld, put_box_same, args0, vpick, vbin, vbinI, vload, takeV, fillV, splice, V.cells, obsOk, List.map_cons, List.map_nil, List.length_cons, List.length_nil, List.take_succ_cons, List.take_zero, List.drop_succ_cons, List.drop_zero, List.nil_append, List.append_nil, List.take_nil, List.drop_nil, and_true, true_and, Nat.reduceEqDiff, Nat.reduceAdd, Nat.reduceLT, Nat.reduceLeDiff, Nat.reduceLT, Nat.zero_add, ↓reduceIte, vret, rvAll, rvVal, resv_2, ne_eq, eq_self, put_box_ne (Nat.ne_of_lt hcb), put_box_ne (Nat.ne_of_lt hd2), decide_eq_true hn]
      exact ⟨_, _, Wk.refl _, (by repeat (first | exact hwf.weak | refine weak_put ?_ (by assumption))), ⟨.nil, by rw [hE, hD]; rfl⟩, rfl⟩
end
end Go.Proofs.Ytbmkohmhiafphaa
