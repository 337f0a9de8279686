/- Steps of the proof, joined: VIdsLaw, VIdsC, VRows, VCut, VWk, VIds1, Base, VTz, VIds2, VIds3, VIdsE, VIdsA, VIdsB, VIdsAll, VSortLaw, VSortO0, VSortW, VSortO1, VSortO2, VSortLaw2, VSortO3, VSortO4, VSortO5. -/
import Derived.Test.YtcffgogjhfkaeaaDoorZec
import Derived.Test.YtcffgogjhfkaeaaDoorVc
import Derived.Test.YtcffgogjhfkaeaaDoorPc
import Derived.Test.YtcffgogjhfkaeaaDoorProg
import Derived.WalkKit
import Derived.WalkSpells
import Derived.WalkLawsBesides
import Derived.Deep.RegionHeld3
import Derived.Deep.DrawnRows
import Derived.BigQuiet
import Derived.Lib.Hide
import Derived.RangeFuncBox
import Derived.RangeFuncLeaves
import Derived.Shelf.Abstract
import Derived.OwnWalkIn
import Derived.TacticsInMore
import Derived.LoopNIn
import Derived.LoopIn
import Derived.Maps.AppendAt
namespace Go.Proofs.YtcffgogjhfkaeaaDoor
open Go
attribute [local go_sem] run_skip run_reg run_seq run_blk run_exit run_ret run_cond if_true if_false at_code_n at_code_x at_code_r at_blk_n at_blk_x at_blk_r at_rnd_n at_rnd_x at_rnd_r at_fin_n at_fin_r ops_nil ops_grd grd_und grd_tt grd_ff grd_tf grd_ft ops_mv ops_pick ops_bin ops_un ops_binb ops_eqs ops_isnil ops_pnil ops_b2s ops_s2b ops_b2sB ops_s2a ops_slcA ops_aidx vaidx vb2sB vs2a vslcA ops_sidx vs2b vsidx srcX ops_appx apx_mk ops_mks ops_mko mks_int mko_int vbinb veqs visnil vpnil vb2s ops_conv ops_fld ops_ix ops_ixa ops_load ops_nilck ops_ext ops_len ops_slen ops_mn ops_mx ops_bld ops_bsl ops_slc ops_sslc ops_box ops_alc ops_alcX ops_boxX ops_bslo ops_store ops_app ops_call ev_t ev_c put_get put_none opv_mk stb_some sto_ptr over_get rel_mk vnat Bx Stp vbld vbsl put_box_same put_box_ne put_sz put_own use_box use_sz put_put args0 List.getD_cons_zero List.getD_cons_succ List.getD_nil vpick vbin vbinI vbinS vun vconv norm vfld vnil vlen vslen vext vmm vix vixa vload takeV takeB mono_nil mono_two mono_sc mono_any mono_und mono_sl mono_agg mono_ep vmlk vmlen vmnil vent vmfn allSc vslc3 kOk fitsV ops_mlk ops_mlen ops_mnil ops_ent ops_mfn ops_slc3 ops_mkm ops_mup mup_map mub_some ops_mdel mdl_nil mdl_map mdb_some ops_rng rng_none rng_map rgb_some ops_nxt ops_ment met_map meb_some ops_est est_map esb_some ops_clr clr_nil clr_box clb_some ops_calv clv_func vslc vsslc fillV splice V.cells strip strip1 allLen ptrV obsOk shAmt IntKind.bits List.map_cons List.map_nil List.length_cons List.length_nil List.getElem?_cons_zero List.getElem?_cons_succ List.take_succ_cons List.take_zero List.drop_succ_cons List.drop_zero List.cons_append List.nil_append List.append_nil List.take_nil List.drop_nil Option.map_some Option.map_none and_true true_and Int.toNat_natCast Nat.min_def Nat.zero_add Nat.add_zero Nat.zero_mul Nat.mul_one Nat.one_mul vret rvAll rvVal resv_1 resv_2 decide_true decide_false Int.lt_irrefl Bool.not_true Bool.not_false ne_eq not_true_eq_false not_false_eq_true eq_self Bool.true_eq_false Bool.false_eq_true List.contains_cons List.contains_nil Bool.false_or Bool.true_or Bool.or_false Bool.or_true List.mem_cons List.not_mem_nil or_false or_true true_or false_or mono_bs ops_aidxn vaidxn ops_fv vfv ops_mki vmki ops_inv ops_cpy cpy_box cpb_some at_finp_n at_finp_r vretp rpAll rpVal vpv resp_0 resp_1 resp_2 Nat.reduceEqDiff Nat.reduceAdd Nat.reduceMul Nat.reduceSub Nat.reduceLT Nat.reduceLeDiff Int.reduceToNat Int.reduceLE Int.reduceLT Int.reducePow Int.reduceMul Int.reduceAdd Int.reduceSub Int.reduceNeg Int.reduceEq Int.reduceMod Int.reduceDiv Nat.reducePow Nat.reduceMod Nat.reduceDiv reduceCtorEq Nat.reduceBEq
section
open Go
theorem leastS {p : Nat → Bool} : ∀ n : Nat, (∃ j, j < n ∧ p j = true) → ∃ k, k < n ∧ p k = true ∧ ∀ j, j < k → p j = false
  | 0, h => by obtain ⟨j, hj, _⟩ := h; omega
  | n + 1, h => by
    by_cases c : ∃ j, j < n ∧ p j = true
    · obtain ⟨k, h1, h2, h3⟩ := leastS n c
      exact ⟨k, by omega, h2, h3⟩
    · obtain ⟨j, h1, h2⟩ := h
      refine ⟨j, h1, h2, fun i hi => ?_⟩
      cases e : p i with
      | false => rfl
      | true => exact absurd ⟨i, by omega, e⟩ c
theorem low_bit {f : Nat} (h : f ≠ 0) (hf : f < 2 ^ 64) : ∃ k, k < 64 ∧ f.testBit k = true ∧ ∀ j, j < k → f.testBit j = false := by
  refine leastS 64 ?_
  obtain ⟨j, hj⟩ := Nat.exists_testBit_of_ne_zero h
  refine ⟨j, ?_, hj⟩
  by_cases c : j < 64
  · exact c
  · have : f < 2 ^ j := Nat.lt_of_lt_of_le hf (Nat.pow_le_pow_right (by decide) (by omega))
    rw [Nat.testBit_lt_two_pow this] at hj
    cases hj
theorem low_split {f k : Nat} (h1 : f.testBit k = true) (h2 : ∀ j, j < k → f.testBit j = false) : ∃ m, f = 2 ^ k * (2 * m + 1) := by
  have hm : f % 2 ^ k = 0 := Nat.eq_of_testBit_eq fun j => by
    rw [Nat.testBit_mod_two_pow, Nat.zero_testBit]
    by_cases c : j < k
    · simp [h2 j c]
    · simp [c]
  have hd : f = 2 ^ k * (f / 2 ^ k) := by have := Nat.div_add_mod f (2 ^ k); omega
  have ho : (f / 2 ^ k) % 2 = 1 := by
    rw [Nat.testBit_eq_decide_div_mod_eq] at h1
    exact of_decide_eq_true h1
  refine ⟨f / 2 ^ k / 2, ?_⟩
  have : 2 * (f / 2 ^ k / 2) + 1 = f / 2 ^ k := by omega
  rw [this]
  exact hd
theorem and_neg {f k : Nat} (hf : f < 2 ^ 64) (h1 : f.testBit k = true) (h2 : ∀ j, j < k → f.testBit j = false) : f &&& (2 ^ 64 - f) = 2 ^ k := by
  obtain ⟨m, hm⟩ := low_split h1 h2
  have hp : 0 < 2 ^ k := Nat.pow_pos (by decide)
  have hf0 : 0 < f := by rw [hm]; exact Nat.mul_pos hp (by omega)
  obtain ⟨g, rfl⟩ : ∃ g, f = g + 1 := ⟨f - 1, by omega⟩
  have hg : g = 2 ^ k * (2 * m) + (2 ^ k - 1) := by
    have : 2 ^ k * (2 * m + 1) = 2 ^ k * (2 * m) + 2 ^ k := by rw [Nat.mul_add, Nat.mul_one]
    omega
  refine Nat.eq_of_testBit_eq fun j => ?_
  rw [Nat.testBit_and, Nat.testBit_two_pow_sub_succ (by omega), Nat.testBit_two_pow, hg, Nat.testBit_two_pow_mul_add _ (by omega)]
  rw [← hg, hm, Nat.testBit_two_pow_mul]
  have hk : k < 64 := by
    by_cases c : k < 64
    · exact c
    · have : g + 1 < 2 ^ k := Nat.lt_of_lt_of_le hf (Nat.pow_le_pow_right (by decide) (by omega))
      rw [Nat.testBit_lt_two_pow this] at h1
      cases h1
  rcases Nat.lt_trichotomy j k with c | c | c
  · have e : ¬ k ≤ j := by omega
    have e2 : ¬ k = j := by omega
    simp [e, e2]
  · subst c
    have e : ¬ j < j := by omega
    simp [hk, e]
  · have e1 : ¬ j < k := by omega
    have e2 : k ≤ j := by omega
    have e3 : ¬ k = j := by omega
    obtain ⟨i, hi⟩ : ∃ i, j - k = i + 1 := ⟨j - k - 1, by omega⟩
    have q1 : (2 * m + 1).testBit (i + 1) = m.testBit i := by rw [Nat.testBit_succ]; congr 1; omega
    have q2 : (2 * m).testBit (i + 1) = m.testBit i := by rw [Nat.testBit_succ]; congr 1; omega
    simp only [e1, e2, e3, decide_true, decide_false, Bool.true_and, hi, q1, q2]
    cases m.testBit i <;> simp
def dbTab : List Nat := [0, 1, 56, 2, 57, 49, 28, 3, 61, 58, 42, 50, 38, 29, 17, 4, 62, 47, 59, 36, 45, 43, 51, 22, 53, 39, 33, 30, 24, 18, 12, 5, 63, 55, 48, 27, 60, 41, 37, 16, 46, 35, 44, 21, 52, 32, 23, 11, 54, 26, 40, 15, 34, 20, 31, 10, 25, 14, 19, 9, 13, 8, 7, 6]
theorem dbTab_at : ∀ k : Nat, k < 64 → dbTab[2 ^ k * 285870213051353865 % 18446744073709551616 / 2 ^ 58]? = some k := by decide
theorem bit_lt {f k : Nat} (hf : f < 2 ^ 64) (h : f.testBit k = true) : k < 64 := by
  by_cases c : k < 64
  · exact c
  · have : f < 2 ^ k := Nat.lt_of_lt_of_le hf (Nat.pow_le_pow_right (by decide) (by omega))
    rw [Nat.testBit_lt_two_pow this] at h
    cases h
theorem tz_tab {f k : Nat} (hf : f < 2 ^ 64) (h1 : f.testBit k = true) (h2 : ∀ j, j < k → f.testBit j = false) : dbTab[(f &&& (2 ^ 64 - f)) * 285870213051353865 % 18446744073709551616 / 2 ^ 58]? = some k := by
  rw [and_neg hf h1 h2]
  exact dbTab_at k (bit_lt hf h1)
structure Wds (W : Nat → Nat) (S : Nat → Bool) : Prop where
  lt : ∀ i, W i < 2 ^ 64
  bit : ∀ i j, j < 64 → (W i).testBit j = S (64 * i + j)
def updS {α : Type} (f : Nat → α) (i : Nat) (x : α) : Nat → α := fun j => if j = i then x else f j
theorem updS_same {α : Type} {f : Nat → α} {i : Nat} {x : α} : updS f i x i = x := if_pos rfl
theorem updS_ne {α : Type} {f : Nat → α} {i j : Nat} {x : α} (h : j ≠ i) : updS f i x j = f j := if_neg h
theorem and_bit {x k : Nat} : x &&& 2 ^ k = if x.testBit k = true then 2 ^ k else 0 := Nat.eq_of_testBit_eq fun j => by
  rw [Nat.testBit_and, Nat.testBit_two_pow]
  by_cases e : k = j
  · subst e
    cases h : x.testBit k <;> simp []
  · cases h : x.testBit k <;> simp [e]
section
variable {W : Nat → Nat} {S : Nat → Bool} {n : Nat}
theorem Wds.has (h : Wds W S) : (W (n / 64) &&& 2 ^ (n % 64) ≠ 0) ↔ S n = true := by
  have e := h.bit (n / 64) (n % 64) (Nat.mod_lt _ (by decide))
  rw [Nat.div_add_mod] at e
  rw [and_bit, e]
  have : 0 < 2 ^ (n % 64) := Nat.pow_pos (by decide)
  cases S n
  · simp
  · simp
theorem Wds.take (h : Wds W S) : Wds (updS W (n / 64) (W (n / 64) ||| 2 ^ (n % 64))) (updS S n true) := by
  have hm : n % 64 < 64 := Nat.mod_lt _ (by decide)
  have hp : 2 ^ (n % 64) < 2 ^ 64 := Nat.pow_lt_pow_right (by decide) hm
  refine ⟨fun i => ?_, fun i j hj => ?_⟩
  · by_cases e : i = n / 64
    · subst e; rw [updS_same]; exact Nat.or_lt_two_pow (h.lt _) hp
    · rw [updS_ne e]; exact h.lt i
  · by_cases e : i = n / 64
    · subst e
      rw [updS_same, Nat.testBit_or, Nat.testBit_two_pow, h.bit _ j hj]
      by_cases e2 : n % 64 = j
      · have : 64 * (n / 64) + j = n := by omega
        rw [this, updS_same]; simp [e2]
      · rw [updS_ne (by omega)]; simp [e2]
    · rw [updS_ne e, h.bit i j hj, updS_ne (by omega)]
theorem Wds.give (h : Wds W S) : Wds (updS W (n / 64) (W (n / 64) &&& (2 ^ 64 - 1 - 2 ^ (n % 64)))) (updS S n false) := by
  have hm : n % 64 < 64 := Nat.mod_lt _ (by decide)
  have hp : 2 ^ (n % 64) < 2 ^ 64 := Nat.pow_lt_pow_right (by decide) hm
  refine ⟨fun i => ?_, fun i j hj => ?_⟩
  · by_cases e : i = n / 64
    · subst e; rw [updS_same]; exact Nat.lt_of_le_of_lt Nat.and_le_left (h.lt _)
    · rw [updS_ne e]; exact h.lt i
  · by_cases e : i = n / 64
    · subst e
      have e3 : 2 ^ 64 - 1 - 2 ^ (n % 64) = 2 ^ 64 - (2 ^ (n % 64) + 1) := by omega
      rw [updS_same, Nat.testBit_and, e3, Nat.testBit_two_pow_sub_succ hp, Nat.testBit_two_pow, h.bit _ j hj]
      by_cases e2 : n % 64 = j
      · have : 64 * (n / 64) + j = n := by omega
        rw [this, updS_same]; simp [e2]
      · rw [updS_ne (by omega)]; simp [e2, hj]
    · rw [updS_ne e, h.bit i j hj, updS_ne (by omega)]
theorem not_bit {x j : Nat} (hx : x < 2 ^ 64) : (2 ^ 64 - 1 - x).testBit j = (decide (j < 64) && !x.testBit j) := by
  have e : 2 ^ 64 - 1 - x = 2 ^ 64 - (x + 1) := by omega
  rw [e, Nat.testBit_two_pow_sub_succ hx]
theorem mask_bit {x k j : Nat} (hk : k < 64) (hx : x < 2 ^ 64) : (x &&& (2 ^ 64 - 1 - (2 ^ k - 1))).testBit j = (decide (k ≤ j) && x.testBit j) := by
  have hp : 2 ^ k - 1 < 2 ^ 64 := by have := Nat.pow_lt_pow_right (a := 2) (by decide) hk; omega
  rw [Nat.testBit_and, not_bit hp, Nat.testBit_two_pow_sub_one]
  by_cases c : j < 64
  · by_cases c2 : j < k
    · have : ¬ k ≤ j := by omega
      simp [c2, this]
    · have : k ≤ j := by omega
      simp [c, c2, this]
  · have : x < 2 ^ j := Nat.lt_of_lt_of_le hx (Nat.pow_le_pow_right (by decide) (by omega))
    simp [Nat.testBit_lt_two_pow this]
end
def cntS (S : Nat → Bool) : Nat → Nat
  | 0 => 0
  | k + 1 => cntS S k + if S k = true then 1 else 0
section
variable {S : Nat → Bool} {n k : Nat}
theorem cntS_le : cntS S k ≤ k := by
  induction k with
  | zero => exact Nat.le_refl 0
  | succ k ih => simp only [cntS]; split <;> omega
theorem cntS_ge (h : k ≤ n) {x : Bool} : cntS (updS S n x) k = cntS S k := by
  induction k with
  | zero => rfl
  | succ k ih => simp only [cntS]; rw [ih (by omega), updS_ne (by omega)]
theorem cntS_take (h : n < k) (hn : S n = false) : cntS (updS S n true) k = cntS S k + 1 := by
  induction k with
  | zero => omega
  | succ k ih =>
    simp only [cntS]
    by_cases e : n = k
    · subst e
      rw [cntS_ge (Nat.le_refl _), updS_same, hn]; simp
    · rw [ih (by omega), updS_ne (by omega)]; omega
theorem cntS_give (h : n < k) (hn : S n = true) : cntS (updS S n false) k + 1 = cntS S k := by
  induction k with
  | zero => omega
  | succ k ih =>
    simp only [cntS]
    by_cases e : n = k
    · subst e
      rw [cntS_ge (Nat.le_refl _), updS_same, hn]; simp
    · have := ih (by omega)
      rw [updS_ne (by omega)]; omega
theorem cntS_all (h0 : S 0 = false) : (∀ j, 1 ≤ j → j < k + 1 → S j = true) → cntS S (k + 1) = k := by
  induction k with
  | zero => intro _; simp [cntS, h0]
  | succ k ih =>
    intro h
    rw [cntS, ih (fun j h1 h2 => h j h1 (by omega)), h (k + 1) (by omega) (by omega)]
    simp
theorem cntS_lt (h0 : S 0 = false) (h : cntS S (k + 1) < k) : ∃ j, 1 ≤ j ∧ j < k + 1 ∧ S j = false := by
  have c : ¬ ∀ j, 1 ≤ j → j < k + 1 → S j = true := fun c => by have := cntS_all h0 c; omega
  refine Classical.byContradiction fun e => c fun j h1 h2 => ?_
  cases hj : S j with
  | true => rfl
  | false => exact absurd ⟨j, h1, h2, hj⟩ e
end
structure Nxt1 (S : Nat → Bool) (from_ n : Nat) : Prop where
  ge : from_ ≤ n
  lt : n < 65536
  no : S n = false
  all : ∀ j, from_ ≤ j → j < n → S j = true
def keyS (from_ n : Nat) : Nat := if n < from_ then n + 65536 else n
structure Frs (S : Nat → Bool) (from_ n : Nat) : Prop where
  g1 : 1 ≤ n
  lt : n < 65536
  no : S n = false
  key : ∀ j, 1 ≤ j → j < 65536 → S j = false → keyS from_ n ≤ keyS from_ j
theorem Frs.up {S : Nat → Bool} {f n : Nat} (h : Nxt1 S (if f = 0 then 1 else f) n) : Frs S f n := by
  have g := h.ge
  refine ⟨by split at g <;> omega, h.lt, h.no, fun j h1 h2 h3 => ?_⟩
  have hj : ¬ ((if f = 0 then 1 else f) ≤ j ∧ j < n) := fun e => by
    rw [h.all j e.1 e.2] at h3; cases h3
  have := h.lt
  unfold keyS
  split at g <;> split <;> split <;> simp_all <;> omega
theorem Frs.round {S : Nat → Bool} {f n : Nat} (hf : f < 65536) (h0 : ∀ j, (if f = 0 then 1 else f) ≤ j → j < 65536 → S j = true) (h : Nxt1 S 1 n) : Frs S f n := by
  have g := h.ge
  have l := h.lt
  have hn : n < f := by
    by_cases c : n < f
    · exact c
    · have := h0 n (by split <;> omega) h.lt
      rw [h.no] at this; cases this
  refine ⟨h.ge, h.lt, h.no, fun j h1 h2 h3 => ?_⟩
  have hj : ¬ (1 ≤ j ∧ j < n) := fun e => by
    rw [h.all j e.1 e.2] at h3; cases h3
  have hj2 : ¬ ((if f = 0 then 1 else f) ≤ j) := fun e => by rw [h0 j e h2] at h3; cases h3
  unfold keyS
  rw [if_pos hn, if_pos (by split at hj2 <;> omega)]
  omega
structure Fw (S : Nat → Bool) (from_ at_ f : Nat) : Prop where
  lt : f < 2 ^ 64
  bit : ∀ j, j < 64 → f.testBit j = (decide (from_ ≤ 64 * at_ + j) && !S (64 * at_ + j))
  all : ∀ j, from_ ≤ j → j < 64 * at_ → S j = true
section
variable {W : Nat → Nat} {S : Nat → Bool} {n a f : Nat}
theorem Fw.start (h : Wds W S) : Fw S n (n / 64) ((2 ^ 64 - 1 - W (n / 64)) &&& (2 ^ 64 - 1 - (2 ^ (n % 64) - 1))) := by
  have hm : n % 64 < 64 := Nat.mod_lt _ (by decide)
  have hl := h.lt (n / 64)
  refine ⟨Nat.lt_of_le_of_lt Nat.and_le_left (by omega), fun j hj => ?_, fun j h1 h2 => by omega⟩
  rw [mask_bit hm (by omega), not_bit hl, h.bit _ j hj]
  have e : decide (n % 64 ≤ j) = decide (n ≤ 64 * (n / 64) + j) := by
    by_cases c : n % 64 ≤ j
    · rw [decide_eq_true c, decide_eq_true (by omega)]
    · rw [decide_eq_false c, decide_eq_false (by omega)]
  rw [e, decide_eq_true hj, Bool.true_and]
theorem Fw.pass (h : Fw S n a 0) : ∀ j, n ≤ j → j < 64 * (a + 1) → S j = true := fun j h1 h2 => by
  by_cases c : j < 64 * a
  · exact h.all j h1 c
  · have e := h.bit (j - 64 * a) (by omega)
    rw [Nat.zero_testBit, show 64 * a + (j - 64 * a) = j by omega, decide_eq_true h1, Bool.true_and] at e
    cases hs : S j with
    | true => rfl
    | false => rw [hs] at e; cases e
theorem Fw.step (hw : Wds W S) (hn : n < 64 * (a + 1)) (h : Fw S n a 0) : Fw S n (a + 1) (2 ^ 64 - 1 - W (a + 1)) := by
  have hl := hw.lt (a + 1)
  refine ⟨by omega, fun j hj => ?_, h.pass⟩
  rw [not_bit hl, hw.bit _ j hj, decide_eq_true hj, decide_eq_true (show n ≤ 64 * (a + 1) + j by omega)]
theorem Fw.found (h : Fw S n a f) (ha : a < 1024) {k : Nat} (h1 : f.testBit k = true) (h2 : ∀ j, j < k → f.testBit j = false) : Nxt1 S n (64 * a + k) := by
  have hk := bit_lt h.lt h1
  have e := h.bit k hk
  rw [h1] at e
  have e1 : n ≤ 64 * a + k ∧ S (64 * a + k) = false := by
    by_cases c : n ≤ 64 * a + k
    · rw [decide_eq_true c, Bool.true_and] at e
      refine ⟨c, ?_⟩
      cases hs : S (64 * a + k) with
      | false => rfl
      | true => rw [hs] at e; cases e
    · rw [decide_eq_false c] at e; cases e
  refine ⟨e1.1, by omega, e1.2, fun j g1 g2 => ?_⟩
  by_cases c : j < 64 * a
  · exact h.all j g1 c
  · have e := h.bit (j - 64 * a) (by omega)
    rw [h2 _ (by omega), show 64 * a + (j - 64 * a) = j by omega, decide_eq_true g1, Bool.true_and] at e
    cases hs : S j with
    | true => rfl
    | false => rw [hs] at e; cases e
end
end
section
open Go
def wc (W : Nat → Nat) (n : Int) : List V := (List.range 1024).map (fun i => .sc (.int .u64 (W i : Nat))) ++ [.sc (.int .i64 n)]
section
variable {W : Nat → Nat} {n m : Int} {i x : Nat}
theorem wc_len : (wc W n).length = 1025 := by simp [wc]
theorem wc_at (h : i < 1024) : (wc W n)[i]? = some (.sc (.int .u64 (W i : Nat))) := by
  unfold wc
  rw [List.getElem?_append_left (by simp; omega)]
  simp [h]
theorem wc_n : (wc W n)[1024]? = some (.sc (.int .i64 n)) := by
  unfold wc
  rw [List.getElem?_append_right (by simp)]
  simp
theorem splice_one {cs : List V} {o : Nat} {d : V} (h : o < cs.length) : splice cs o [d] = cs.set o d := by
  rw [List.set_eq_take_append_cons_drop, if_pos h]
  unfold splice
  simp
theorem wc_set (h : i < 1024) : splice (wc W n) i [.sc (.int .u64 (x : Nat))] = wc (updS W i x) n := by
  rw [splice_one (by rw [wc_len]; omega)]
  refine List.ext_getElem? fun j => ?_
  rw [List.getElem?_set, wc_len]
  by_cases c : i = j
  · subst c
    rw [if_pos rfl, if_pos (by omega), wc_at h, updS_same]
  · rw [if_neg c]
    by_cases c2 : j < 1024
    · rw [wc_at c2, wc_at c2, updS_ne (fun e => c e.symm)]
    · by_cases c3 : j = 1024
      · subst c3; rw [wc_n, wc_n]
      · rw [List.getElem?_eq_none (by rw [wc_len]; omega), List.getElem?_eq_none (by rw [wc_len]; omega)]
theorem wc_setn : splice (wc W n) 1024 [.sc (.int .i64 m)] = wc W m := by
  rw [splice_one (by rw [wc_len]; omega)]
  refine List.ext_getElem? fun j => ?_
  rw [List.getElem?_set, wc_len]
  by_cases c : 1024 = j
  · subst c
    rw [if_pos rfl, if_pos (by omega), wc_n]
  · rw [if_neg c]
    by_cases c2 : j < 1024
    · rw [wc_at c2, wc_at c2]
    · rw [List.getElem?_eq_none (by rw [wc_len]; omega), List.getElem?_eq_none (by rw [wc_len]; omega)]
end
end
section
open Go
theorem own_nil {size : Nat} {st : St} : Own size st (.sl .nil []) [] := .inl ⟨rfl, rfl⟩
theorem own_sl {size : Nat} {st : St} {v : V} {l : List V} (h : Own size st v l) : ∃ tk, v = .sl tk l := by
  rcases h with ⟨rfl, rfl⟩ | ⟨g, rfl, _⟩
  · exact ⟨_, rfl⟩
  · exact ⟨_, rfl⟩
theorem own_put {size : Nat} {st : St} {v : V} {l : List V} (h : Own size st v l) {b : Nat} {cs : List V} : Own size (st.put b cs) v l := by
  rcases h with h | ⟨g, h1, h2, h3⟩
  · exact .inl h
  · exact .inr ⟨g, h1, h2, by simp only [put_sz]; omega⟩
theorem weak_tr {a b c : St} (h : a.weak b) (k : b.weak c) : a.weak c :=
  ⟨fun b cs hb => ⟨(k.box b cs (h.box b cs hb).1).1, (h.box b cs hb).2⟩, fun g m hg => ⟨(k.own g m (h.own g m hg).1).1, (h.own g m hg).2⟩, Nat.le_trans h.sz k.sz⟩
theorem app_keeps {s s' : St} {x r : V} (h : AppSt s x s' r) {t : St} (hw : t.weak s) (hx : ∀ g k l, x = .sl (.own g k) l → t.sz ≤ g) : t.weak s' :=
  ⟨fun b cs hb => ⟨by rw [h.box]; exact (hw.box b cs hb).1, (hw.box b cs hb).2⟩, fun g m hg => ⟨h.own g m (hw.own g m hg).1 (fun l k e => by have := hx g k l e; have := (hw.own g m hg).2; omega), (hw.own g m hg).2⟩, Nat.le_trans hw.sz h.sz⟩
theorem app_fresh {s s' : St} {x r : V} (h : AppSt s x s' r) {t : St} (hs : t.sz ≤ s.sz) (hx : ∀ g k l, x = .sl (.own g k) l → t.sz ≤ g) : ∀ g k l, r = .sl (.own g k) l → t.sz ≤ g := fun g k l e => by
  rcases h.tok g k l e with ⟨l', h1⟩ | h1
  · exact hx g k l' h1
  · omega
structure RO (size : Nat) (base s : St) (r : V) (l : List V) : Prop where
  own : Own size s r l
  weak : base.weak s
  lt : s.Lt
  tok : ∀ g k l', r = .sl (.own g k) l' → base.sz ≤ g
variable {size : Nat} {base s s' : St} {r x : V} {l l' : List V}
theorem RO.nil (hw : base.weak s) (hl : s.Lt) : RO size base s (.sl .nil []) [] := ⟨own_nil, hw, hl, fun g k l e => by cases e⟩
theorem RO.put (h : RO size base s r l) {c : Nat} {cs : List V} (hc : base.sz ≤ c) : RO size base (s.put c cs) r l :=
  ⟨own_put h.own, weak_put h.weak hc, h.lt.put, h.tok⟩
theorem RO.app (h : RO size base s x l) (ho : Own size s' r l') (k : AppSt s x s' r) : RO size base s' r l' :=
  ⟨ho, app_keeps k h.weak h.tok, h.lt.app k, app_fresh k h.weak.sz h.tok⟩
theorem RO.use (hw : base.weak s) (hl : s.Lt) {g : Nat} (hg : s.sz ≤ g) (cs : List V) : RO size base (s.use g cs.length) (.sl (.own g size) cs) cs :=
  ⟨.inr ⟨g, rfl, by simp [St.use], by simp only [use_sz]; omega⟩, weak_use hw (by have := hw.sz; omega), hl.use, fun g' k l e => by cases e; have := hw.sz; omega⟩
theorem RO.sl (h : RO size base s r l) : ∃ tk, r = .sl tk l := own_sl h.own
theorem RO.use0' {size : Nat} {st s : St} (hw : st.weak s) (hl : s.Lt) {g : Nat} (hg : s.sz ≤ g) : RO size st (s.use g 0) (.sl (.own g size) []) [] := RO.use (cs := []) hw hl hg
theorem Wk.tupT {a a' : V} {x : Value} (h : Wk a a') : Wk (.tup [a, .sc x]) (.tup [a', .sc x]) := fun G v hv => by
  cases hv with
  | tup _ vs hl hg =>
    refine .tup _ vs hl fun i c u hc hu => ?_
    match i, hc with
    | 0, hc => simp at hc; subst hc; exact h G u (hg 0 a u rfl hu)
    | 1, hc => exact hg 1 c u hc hu
end
section
open Go
def cutQ (I : (Nat → V) → St → Prop) : VQ
  | .normal, A, st => I A st
  | _, _, _ => False
def cutK (I : (Nat → V) → St → Prop) (Q : VQ) : VQ
  | .normal, A, st => I A st
  | e, A, st => Q e A st
section
variable {P : Program} {k : Kt} {A : Nat → V} {st : St}
theorem over_same {ws : List Nat} {B : Nat → V} (h : ∀ t, t ∉ ws → B t = A t) : over ws B A = B := funext fun t => by
  simp only [over]
  split
  · rfl
  · rename_i ht; exact (h t ht).symm
theorem Grd.cut {v : V} {w : Bool} {o : VO} {rest : List VO} {c : VC} (ws : List Nat) (I : (Nat → V) → Prop) (hw : (((o :: rest).flatMap VO.w).all fun t => ws.contains t) = true)
    (h1 : Grd P v w o rest (.fin (cutQ fun B s => s = st ∧ I B)) A st) (h2 : ∀ B, I B → Run P c k (over ws B A) st) : Grd P v w o rest (.code c k) A st := by
  have hw' : ∀ t ∈ (o :: rest).flatMap VO.w, t ∈ ws := fun t ht => by
    have := List.all_eq_true.1 hw t ht
    simpa using this
  have hk : ∀ B s, (∀ t, t ∉ ws → B t = A t) → (s = st ∧ I B) → At P (.code c k) .normal B s := fun B s hB hI => by
    have := h2 B hI.2
    rw [over_same hB] at this
    rw [hI.1]
    exact this
  have hwr : ∀ t ∈ rest.flatMap VO.w, t ∈ ws := fun t ht => hw' t (by simp only [List.flatMap_cons, List.mem_append]; exact .inr ht)
  have hput : ∀ r, ∀ t, t ∉ ws → putV A o.dst r t = A t := fun r t ht => by
    cases hd : o.dst with
    | none => rfl
    | some d =>
      simp only [putV]
      rw [if_neg (fun e => ht (hw' t (by subst e; simp [VO.w, hd])))]
  unfold Grd at h1 ⊢
  split at h1
  · exact ⟨fun e => vops_writes ws A (fun B s hB hI => hk B s hB hI) (o :: rest) hw' (fun t _ => rfl) (h1.1 e), fun e => vops_writes ws A (fun B s hB hI => hk B s hB hI) rest hwr (hput _) (h1.2 e)⟩
  · exact vops_writes ws A (fun B s hB hI => hk B s hB hI) rest hwr (hput _) h1
  · exact h1
theorem Run.cut {c rest : VC} (ws : List Nat) (I : (Nat → V) → St → Prop) (hw : (c.writes.all fun t => ws.contains t) = true)
    (h1 : Run P c (.fin (cutK I (k.q P))) A st) (h2 : ∀ B s, I B s → Run P rest k (over ws B A) s) : Run P c (.code rest k) A st := by
  have hw' : ∀ t ∈ c.writes, t ∈ ws := fun t ht => by
    have := List.all_eq_true.1 hw t ht
    simpa using this
  refine vwp_writes ws A c hw' (fun e B s hB hq => ?_) (fun t _ => rfl) h1
  cases e with
  | normal =>
    have := h2 B s hq
    rw [over_same hB] at this
    exact this
  | exit id => exact hq
  | ret => exact hq
theorem If.cut {v : V} {a b rest : VC} (ws : List Nat) (I : (Nat → V) → St → Prop) (hw : ((a.writes ++ b.writes).all fun t => ws.contains t) = true)
    (h1 : If P v a b (.fin (cutK I (k.q P))) A st) (h2 : ∀ B s, I B s → Run P rest k (over ws B A) s) : If P v a b (.code rest k) A st := by
  rw [List.all_append, Bool.and_eq_true] at hw
  unfold If at h1 ⊢
  split at h1
  · exact ⟨fun e => Run.cut ws I hw.1 (h1.1 e) h2, fun e => Run.cut ws I hw.2 (h1.2 e) h2⟩
  · exact h1
end
end
section
open Go
section
variable {P : Program} {k : Kt} {A : Nat → V} {st : St}
theorem Grd.decd {p : Prop} {_ : Decidable p} {w : Bool} {o : VO} {rest : List VO} (h1 : p → Grd P (.sc (.bool (decide p))) w o rest k A st) (h2 : ¬ p → Grd P (.sc (.bool (decide p))) w o rest k A st) : Grd P (.sc (.bool (decide p))) w o rest k A st := by
  by_cases h : p
  · exact h1 h
  · exact h2 h
theorem Grd.two {b : Bool} {w : Bool} {o : VO} {rest : List VO} (h1 : b = true → Grd P (.sc (.bool b)) w o rest k A st) (h2 : b = false → Grd P (.sc (.bool b)) w o rest k A st) : Grd P (.sc (.bool b)) w o rest k A st := by
  cases h : b
  · exact h2 h |> fun x => by rw [h] at x; exact x
  · exact h1 h |> fun x => by rw [h] at x; exact x
end
end
section
open Go
theorem u64_wrap {x : Nat} (h : x < 2 ^ 64) : IntKind.u64.wrap ((x : Nat) : Int) = x := by
  simp only [IntKind.wrap, IntKind.signed, IntKind.bits, Bool.false_and, Bool.false_eq_true, ↓reduceIte]; omega
theorem u64_of {x : Nat} (h : x < 2 ^ 64) : (BitVec.ofInt 64 (x : Int)).toNat = x := by rw [BitVec.toNat_ofInt]; omega
theorem ib_and {a b : Nat} (ha : a < 2 ^ 64) (hb : b < 2 ^ 64) : ibit .and .u64 (a : Int) (b : Int) = ((a &&& b : Nat) : Int) := by
  have g : ibit .and .u64 (a : Int) (b : Int) = IntKind.u64.wrap ((BitVec.ofInt 64 (a : Int) &&& BitVec.ofInt 64 (b : Int)).toNat : Int) := rfl
  rw [g, BitVec.toNat_and, u64_of ha, u64_of hb, u64_wrap (Nat.and_lt_two_pow _ hb)]
theorem ib_or {a b : Nat} (ha : a < 2 ^ 64) (hb : b < 2 ^ 64) : ibit .or .u64 (a : Int) (b : Int) = ((a ||| b : Nat) : Int) := by
  have g : ibit .or .u64 (a : Int) (b : Int) = IntKind.u64.wrap ((BitVec.ofInt 64 (a : Int) ||| BitVec.ofInt 64 (b : Int)).toNat : Int) := rfl
  rw [g, BitVec.toNat_or, u64_of ha, u64_of hb, u64_wrap (Nat.or_lt_two_pow ha hb)]
theorem ib_not {a : Nat} (ha : a < 2 ^ 64) : ibit .xor .u64 IntKind.u64.max (a : Int) = ((2 ^ 64 - 1 - a : Nat) : Int) := by
  have g : ibit .xor .u64 IntKind.u64.max (a : Int) = IntKind.u64.wrap ((BitVec.ofInt 64 IntKind.u64.max ^^^ BitVec.ofInt 64 (a : Int)).toNat : Int) := rfl
  have e : BitVec.ofInt 64 IntKind.u64.max = BitVec.allOnes 64 := by decide
  rw [g, e, BitVec.allOnes_xor, BitVec.toNat_not, u64_of ha, u64_wrap (by omega)]
theorem ib_andNot {a b : Nat} (ha : a < 2 ^ 64) (hb : b < 2 ^ 64) : ibit .andNot .u64 (a : Int) (b : Int) = ((a &&& (2 ^ 64 - 1 - b) : Nat) : Int) := by
  have g : ibit .andNot .u64 (a : Int) (b : Int) = IntKind.u64.wrap ((BitVec.ofInt 64 (a : Int) &&& ~~~BitVec.ofInt 64 (b : Int)).toNat : Int) := rfl
  rw [g, BitVec.toNat_and, BitVec.toNat_not, u64_of ha, u64_of hb, u64_wrap (Nat.and_lt_two_pow _ (by omega))]
theorem ib16_63 {a : Nat} (ha : a < 65536) : ibit .and .u16 (a : Int) 63 = ((a % 64 : Nat) : Int) := by
  have g : ibit .and .u16 (a : Int) 63 = IntKind.u16.wrap ((BitVec.ofInt 16 (a : Int) &&& BitVec.ofInt 16 63).toNat : Int) := rfl
  have e : (BitVec.ofInt 16 (a : Int)).toNat = a := by rw [BitVec.toNat_ofInt]; omega
  have f : (BitVec.ofInt 16 (a : Int) &&& BitVec.ofInt 16 63).toNat = a % 64 := by
    rw [BitVec.toNat_and, e]; exact Nat.and_two_pow_sub_one_eq_mod a 6
  rw [g, f]
  simp only [IntKind.wrap, IntKind.signed, IntKind.bits, Bool.false_and, Bool.false_eq_true, ↓reduceIte]; omega
theorem ib64_or {a k : Nat} (ha : a < 1024) (hk : k < 64) : ibit .or .i64 ((64 * a : Nat) : Int) (k : Int) = ((64 * a + k : Nat) : Int) := by
  have g : ibit .or .i64 ((64 * a : Nat) : Int) (k : Int) = IntKind.i64.wrap ((BitVec.ofInt 64 ((64 * a : Nat) : Int) ||| BitVec.ofInt 64 (k : Int)).toNat : Int) := rfl
  have e : 64 * a ||| k = 64 * a + k := (Nat.two_pow_add_eq_or_of_lt (i := 6) (b := k) (by omega) a).symm
  rw [g, BitVec.toNat_or, u64_of (by omega), u64_of (by omega), e, IntWalk.i64_in _ (by omega)]
theorem sh_pow {k : Nat} (hk : k < 64) : (1 : Int) * 2 ^ k % 18446744073709551616 = ((2 ^ k : Nat) : Int) := by
  have : 2 ^ k < 2 ^ 64 := Nat.pow_lt_pow_right (by decide) hk
  have e : ((2 ^ k : Nat) : Int) = (2 : Int) ^ k := by simp
  rw [Int.one_mul, ← e]
  generalize 2 ^ k = q at this ⊢
  omega
theorem pow_bit {k : Nat} (hk : k < 64) : 2 ^ k < 2 ^ 64 := Nat.pow_lt_pow_right (by decide) hk
theorem mono_wc {W : Nat → Nat} {n : Int} : mono (wc W n) = True := by
  refine eq_true ?_
  have := wc_len (W := W) (n := n)
  generalize wc W n = l at this
  match l, this with
  | a :: b :: l, _ => exact trivial
theorem wc_set' {W : Nat → Nat} {n : Int} {i y : Nat} (h : i < 1024) : List.take i (wc W n) ++ [.sc (.int .u64 (y : Nat))] ++ List.drop (i + 1) (wc W n) = wc (updS W i y) n := wc_set h
theorem wc_setn' {W : Nat → Nat} {n m : Int} : List.take 1024 (wc W n) ++ [.sc (.int .i64 m)] ++ List.drop 1025 (wc W n) = wc W m := wc_setn
structure SetI (st : St) (b : Nat) (W : Nat → Nat) (S : Nat → Bool) : Prop where
  wds : Wds W S
  box : st.box b = some (wc W (cntS S 65536))
  z : S 0 = false
section
variable {st : St} {b x : Nat} {W : Nat → Nat} {S : Nat → Bool}
theorem place_v (hx : x < 65536) : VCalls Tryd.prog 17 [.sc (.int .u16 x)] st fun r s => r = .tup [.sc (.int .i64 (x / 64 : Nat)), .sc (.int .u64 (2 ^ (x % 64) : Nat))] ∧ st = s := by
  refine vcalls_enterq pc17 (Nat.le_of_ble_eq_true rfl) rfl fun hwf hok => ?_
  show Run _ Pc17.body (.fin (finP Pc17.res _)) _ _
  unfold Pc17 zo
  have e1 := ib16_63 hx
  have e2 : ((x : Int)) / 64 = ((x / 64 : Nat) : Int) := by omega
  have e3 : (if x % 64 ≤ 64 then x % 64 else 64) = x % 64 := if_pos (by omega)
  have e4 := sh_pow (show x % 64 < 64 by omega)
  have g1 : (0 : Int) ≤ ((x % 64 : Nat) : Int) := by omega
  simp (maxSteps := 3000000) only [go_sem, ↓reduceIte, e1, e2, e3, e4, g1]
  refine ⟨by omega, ?_⟩
  exact ⟨_, _, Wk.refl _, hwf.weak, rfl, rfl⟩
theorem has_v (I : SetI st b W S) (hx : x < 65536) : VCalls Tryd.prog 16 [ptrV b, .sc (.int .u16 x)] st fun r s => r = .sc (.bool (S x)) ∧ st = s := by
  refine vcalls_enterq pc16 (Nat.le_of_ble_eq_true rfl) rfl fun hwf hok => ?_
  show Run _ Pc16.body (.fin (finP Pc16.res _)) _ _
  unfold Pc16 zo
  have hl := I.wds.lt (x / 64)
  have hp := pow_bit (show x % 64 < 64 by omega)
  have e1 := ib_and hl hp
  have e2 := wc_at (W := W) (n := (cntS S 65536 : Nat)) (show x / 64 < 1024 by omega)
  have g1 : (0 : Int) ≤ ((x / 64 : Nat) : Int) := by omega
  have g2 : ((x / 64 : Nat) : Int) < ((1024 : Nat) : Int) := by omega
  have e3 : decide (¬ ((W (x / 64) &&& 2 ^ (x % 64) : Nat) : Int) = 0) = S x := by
    have := I.wds.has (n := x)
    by_cases c : S x = true
    · rw [c]; exact decide_eq_true (by have := this.2 c; omega)
    · rw [Bool.not_eq_true] at c
      rw [c]
      refine decide_eq_false fun h => ?_
      rw [this.1 (by omega)] at c; cases c
  repeat' first | simp (maxSteps := 3000000) only [go_sem, ↓reduceIte, I.box, e1, e2, e3, g1, g2] | (refine If.dec (fun h => ?_) (fun h => ?_) <;> first | simp only [decide_eq_true h] | simp only [decide_eq_false h] | skip) | (refine Grd.decd (fun h => ?_) (fun h => ?_) <;> first | simp only [decide_eq_true h] | simp only [decide_eq_false h] | skip) | (refine If.mk (fun h => ?_) (fun h => ?_) <;> first | simp only [h] | skip) | (refine Grd.two (fun h => ?_) (fun h => ?_) <;> first | simp only [h] | skip) | (apply And.intro; focus (first | omega | (simp; done))) | (refine Cal.mk (place_v hx) ?_; rintro _ _ ⟨rfl, rfl⟩ -)
  exact ⟨_, _, Wk.refl _, hwf.weak, rfl, rfl⟩
theorem len_v (I : SetI st b W S) : VCalls Tryd.prog 8 [ptrV b] st fun r s => r = .sc (.int .i64 (cntS S 65536 : Nat)) ∧ st = s := by
  refine vcalls_enterq pc8 (Nat.le_of_ble_eq_true rfl) rfl fun hwf hok => ?_
  show Run _ Pc8.body (.fin (finP Pc8.res _)) _ _
  unfold Pc8 zo
  have e2 := wc_n (W := W) (n := (cntS S 65536 : Nat))
  repeat' first | simp (maxSteps := 3000000) only [go_sem, ↓reduceIte, I.box, e2] | (refine If.dec (fun h => ?_) (fun h => ?_) <;> first | simp only [decide_eq_true h] | simp only [decide_eq_false h] | skip) | (refine Grd.decd (fun h => ?_) (fun h => ?_) <;> first | simp only [decide_eq_true h] | simp only [decide_eq_false h] | skip) | (refine If.mk (fun h => ?_) (fun h => ?_) <;> first | simp only [h] | skip) | (refine Grd.two (fun h => ?_) (fun h => ?_) <;> first | simp only [h] | skip) | (apply And.intro; focus (first | omega | (simp; done)))
  exact ⟨_, _, Wk.refl _, hwf.weak, rfl, rfl⟩
theorem SetI.take (I : SetI st b W S) (h0 : x ≠ 0) (hx : x < 65536) (hn : S x = false) (s : St) : SetI (s.put b (wc (updS W (x / 64) (W (x / 64) ||| 2 ^ (x % 64))) ((cntS S 65536 : Nat) + 1 : Int))) b (updS W (x / 64) (W (x / 64) ||| 2 ^ (x % 64))) (updS S x true) :=
  ⟨I.wds.take, by rw [put_box_same, cntS_take hx hn]; rfl, by rw [updS_ne (by omega)]; exact I.z⟩
theorem SetI.give (I : SetI st b W S) (hx : x < 65536) (hn : S x = true) (s : St) : SetI (s.put b (wc (updS W (x / 64) (W (x / 64) &&& (2 ^ 64 - 1 - 2 ^ (x % 64)))) ((cntS S 65536 : Nat) - 1 : Int))) b (updS W (x / 64) (W (x / 64) &&& (2 ^ 64 - 1 - 2 ^ (x % 64)))) (updS S x false) :=
  ⟨I.wds.give, by rw [put_box_same]; have := cntS_give hx hn; congr 2; omega, by
    by_cases c : x = 0
    · rw [c, I.z] at hn; cases hn
    · rw [updS_ne (by omega)]; exact I.z⟩
def SetO (st : St) (b : Nat) (s : St) (S : Nat → Bool) : Prop := ∃ W cs, s = st.put b cs ∧ SetI s b W S
set_option maxRecDepth 100000 in
theorem take_v (I : SetI st b W S) (hx : x < 65536) : VCalls Tryd.prog 6 [ptrV b, .sc (.int .u16 x)] st fun r s => (r = .sc (.bool false) ∧ st = s ∧ (x = 0 ∨ S x = true)) ∨ (r = .sc (.bool true) ∧ SetO st b s (updS S x true) ∧ x ≠ 0 ∧ S x = false) := by
  refine vcalls_enterq pc6 (Nat.le_of_ble_eq_true rfl) rfl fun hwf hok => ?_
  show Run _ Pc6.body (.fin (finP Pc6.res _)) _ _
  unfold Pc6 zg zn zo
  have hl := I.wds.lt (x / 64)
  have hp := pow_bit (show x % 64 < 64 by omega)
  have e1 := ib_or hl hp
  have e2 := wc_at (W := W) (n := (cntS S 65536 : Nat)) (show x / 64 < 1024 by omega)
  have g1 : (0 : Int) ≤ ((x / 64 : Nat) : Int) := by omega
  have g2 : ((x / 64 : Nat) : Int) < ((1024 : Nat) : Int) := by omega
  by_cases c0 : x = 0
  · have c1 : decide ((x : Int) = 0) = true := decide_eq_true (by omega)
    repeat' first | simp (maxSteps := 3000000) only [go_sem, ↓reduceIte, c1] | (refine If.dec (fun h => ?_) (fun h => ?_) <;> first | simp only [decide_eq_true h] | simp only [decide_eq_false h] | skip) | (refine Grd.decd (fun h => ?_) (fun h => ?_) <;> first | simp only [decide_eq_true h] | simp only [decide_eq_false h] | skip) | (refine If.mk (fun h => ?_) (fun h => ?_) <;> first | simp only [h] | skip) | (refine Grd.two (fun h => ?_) (fun h => ?_) <;> first | simp only [h] | skip) | (apply And.intro; focus (first | omega | (simp; done)))
    exact ⟨_, _, Wk.refl _, hwf.weak, .inl ⟨rfl, rfl, .inl c0⟩⟩
  · have c1 : decide ((x : Int) = 0) = false := decide_eq_false (by omega)
    by_cases c2 : S x = true
    · repeat' first | simp (maxSteps := 3000000) only [go_sem, ↓reduceIte, c1, c2] | (refine If.dec (fun h => ?_) (fun h => ?_) <;> first | simp only [decide_eq_true h] | simp only [decide_eq_false h] | skip) | (refine Grd.decd (fun h => ?_) (fun h => ?_) <;> first | simp only [decide_eq_true h] | simp only [decide_eq_false h] | skip) | (refine If.mk (fun h => ?_) (fun h => ?_) <;> first | simp only [h] | skip) | (refine Grd.two (fun h => ?_) (fun h => ?_) <;> first | simp only [h] | skip) | (apply And.intro; focus (first | omega | (simp; done))) | (refine Cal.mk (has_v I hx) ?_; rintro _ _ ⟨rfl, rfl⟩ -)
      exact ⟨_, _, Wk.refl _, hwf.weak, .inl ⟨rfl, rfl⟩⟩
    · rw [Bool.not_eq_true] at c2
      have g3 : x / 64 + 1 ≤ 1025 := by omega
      have e5 := wc_set' (W := W) (n := (cntS S 65536 : Nat)) (y := W (x / 64) ||| 2 ^ (x % 64)) (show x / 64 < 1024 by omega)
      have hc : cntS S 65536 ≤ 65536 := cntS_le
      repeat' first | simp (maxSteps := 3000000) only [go_sem, ↓reduceIte, I.box, c1, c2, e1, e2, g1, g2, g3, wc_len, mono_wc, e5, wc_n, wc_setn'] | (refine If.dec (fun h => ?_) (fun h => ?_) <;> first | simp only [decide_eq_true h] | simp only [decide_eq_false h] | skip) | (refine Grd.decd (fun h => ?_) (fun h => ?_) <;> first | simp only [decide_eq_true h] | simp only [decide_eq_false h] | skip) | (refine If.mk (fun h => ?_) (fun h => ?_) <;> first | simp only [h] | skip) | (refine Grd.two (fun h => ?_) (fun h => ?_) <;> first | simp only [h] | skip) | (apply And.intro; focus (first | omega | (simp; done))) | (refine Cal.mk (has_v I hx) ?_; rintro _ _ ⟨rfl, rfl⟩ -) | (refine Cal.mk (place_v hx) ?_; rintro _ _ ⟨rfl, rfl⟩ -)
      exact ⟨_, _, Wk.refl _, weak_both hwf.weak, .inr ⟨rfl, ⟨_, _, rfl, I.take c0 hx c2 st⟩, c0⟩⟩
set_option maxRecDepth 100000 in
theorem give_v (I : SetI st b W S) (hx : x < 65536) : VCalls Tryd.prog 19 [ptrV b, .sc (.int .u16 x)] st fun r s => (r = .sc (.bool false) ∧ st = s ∧ S x = false) ∨ (r = .sc (.bool true) ∧ SetO st b s (updS S x false) ∧ S x = true) := by
  refine vcalls_enterq pc19 (Nat.le_of_ble_eq_true rfl) rfl fun hwf hok => ?_
  show Run _ Pc19.body (.fin (finP Pc19.res _)) _ _
  unfold Pc19 zn zo
  have hl := I.wds.lt (x / 64)
  have hp := pow_bit (show x % 64 < 64 by omega)
  have e1 := ib_andNot hl hp
  have e2 := wc_at (W := W) (n := (cntS S 65536 : Nat)) (show x / 64 < 1024 by omega)
  have g1 : (0 : Int) ≤ ((x / 64 : Nat) : Int) := by omega
  have g2 : ((x / 64 : Nat) : Int) < ((1024 : Nat) : Int) := by omega
  by_cases c2 : S x = true
  · have g3 : x / 64 + 1 ≤ 1025 := by omega
    have e5 := wc_set' (W := W) (n := (cntS S 65536 : Nat)) (y := W (x / 64) &&& (2 ^ 64 - 1 - 2 ^ (x % 64))) (show x / 64 < 1024 by omega)
    have hc : cntS S 65536 ≤ 65536 := cntS_le
    repeat' first | simp (maxSteps := 3000000) only [go_sem, ↓reduceIte, I.box, c2, e1, e2, g1, g2, g3, wc_len, mono_wc, e5, wc_n, wc_setn'] | (refine If.dec (fun h => ?_) (fun h => ?_) <;> first | simp only [decide_eq_true h] | simp only [decide_eq_false h] | skip) | (refine Grd.decd (fun h => ?_) (fun h => ?_) <;> first | simp only [decide_eq_true h] | simp only [decide_eq_false h] | skip) | (refine If.mk (fun h => ?_) (fun h => ?_) <;> first | simp only [h] | skip) | (refine Grd.two (fun h => ?_) (fun h => ?_) <;> first | simp only [h] | skip) | (apply And.intro; focus (first | omega | (simp; done))) | (refine Cal.mk (has_v I hx) ?_; rintro _ _ ⟨rfl, rfl⟩ -) | (refine Cal.mk (place_v hx) ?_; rintro _ _ ⟨rfl, rfl⟩ -)
    exact ⟨_, _, Wk.refl _, weak_both hwf.weak, .inr ⟨rfl, ⟨_, _, rfl, I.give hx c2 st⟩⟩⟩
  · rw [Bool.not_eq_true] at c2
    repeat' first | simp (maxSteps := 3000000) only [go_sem, ↓reduceIte, c2] | (refine If.dec (fun h => ?_) (fun h => ?_) <;> first | simp only [decide_eq_true h] | simp only [decide_eq_false h] | skip) | (refine Grd.decd (fun h => ?_) (fun h => ?_) <;> first | simp only [decide_eq_true h] | simp only [decide_eq_false h] | skip) | (refine If.mk (fun h => ?_) (fun h => ?_) <;> first | simp only [h] | skip) | (refine Grd.two (fun h => ?_) (fun h => ?_) <;> first | simp only [h] | skip) | (apply And.intro; focus (first | omega | (simp; done))) | (refine Cal.mk (has_v I hx) ?_; rintro _ _ ⟨rfl, rfl⟩ -)
    exact ⟨_, _, Wk.refl _, hwf.weak, .inl ⟨rfl, rfl⟩⟩
end
end
section
open Go Go.RowKit
def Pure (w : World) (v : Value) (e : Ending) (w' : World) : Prop := e = .returned v ∧ Below w.heap.size w w'
theorem lt_of_cell {w : World} {a : Addr} {v : Value} (h : w.cell? a = some v) : a.block < w.heap.size := by
  rcases Nat.lt_or_ge a.block w.heap.size with hlt | hge
  · exact hlt
  · simp [World.cell?, Array.getElem?_eq_none hge] at h
theorem keep_cell {w w1 : World} {a : Addr} {v : Value} (h : w.cell? a = some v) (hb : Below w.heap.size w w1) : w1.cell? a = some v := (hb.cell (lt_of_cell h)).trans h
structure More where
  blocks : List Obj
  count : Nat
instance : Nonempty More := ⟨⟨[], 0⟩⟩
def ext (w : World) (e : More) : World := { w with heap := w.heap ++ e.blocks.toArray, drawn := e.count }
def Holds (w : World) (L : List (Addr × Value)) : Prop := ∀ p ∈ L, w.cell? p.1 = some p.2
theorem Holds.keep {w w1 : World} {L : List (Addr × Value)} (h : Holds w L) (hb : Below w.heap.size w w1) : Holds w1 L := fun p hp => keep_cell (h p hp) hb
theorem Holds.cons {w : World} {a : Addr} {v : Value} {L : List (Addr × Value)} : Holds w ((a, v) :: L) ↔ w.cell? a = some v ∧ Holds w L := by
  simp [Holds]
theorem Holds.nil {w : World} : Holds w [] ↔ True := by simp [Holds]
theorem Holds.append {w : World} {L M : List (Addr × Value)} (h : Holds w L) (h' : Holds w M) : Holds w (L ++ M) := by
  intro p hp
  rcases List.mem_append.1 hp with hp | hp
  · exact h p hp
  · exact h' p hp
def elemL (b o : Nat) : List Value → List (Addr × Value)
  | [] => []
  | v :: cs => (⟨b, o, none⟩, v) :: elemL b (o + 1) cs
theorem elemL_holds {w : World} {b : Nat} : ∀ (cs : List Value) (o : Nat), (∀ j v, cs[j]? = some v → w.cell? ⟨b, o + j, none⟩ = some v) → Holds w (elemL b o cs)
  | [], _, _ => by simp [elemL, Holds]
  | v :: cs, o, h => by
    rw [elemL, Holds.cons]
    refine ⟨by simpa using h 0 v rfl, elemL_holds cs (o + 1) fun j u hu => ?_⟩
    rw [show o + 1 + j = o + (j + 1) from by omega]
    exact h (j + 1) u (by simpa using hu)
end
section
open Go Go.RowKit
attribute [local go_sem ↓] Go.wp_at_zero Go.wp_at_succ
theorem ktab_at {k j : Nat} (h : dbTab[j]? = some k) : ktab 0 j = some (.int .u8 (k : Nat)) := by
  show (if 0 = 0 then (dbTab[j]?).map (fun n : Nat => Value.int .u8 (n : Nat)) else none) = _
  rw [if_pos rfl, h]; rfl
set_option maxHeartbeats 400000 in
theorem tz_w {w : World} (hT : Tabs w) {f k : Nat} (hf : f < 2 ^ 64) (h1 : f.testBit k = true) (h2 : ∀ j, j < k → f.testBit j = false) :
    Calls Tryd.prog 24 #[.int .u64 (f : Nat)] w fun e w' => e = .returned (.int .i64 (k : Nat)) ∧ w = w' := by
  have hk := bit_lt hf h1
  have hf0 : f ≠ 0 := fun e => by subst e; rw [Nat.zero_testBit] at h1; cases h1
  have ht := tz_tab hf h1 h2
  obtain ⟨j, hj⟩ : ∃ j, (f &&& (2 ^ 64 - f)) * 285870213051353865 % 18446744073709551616 / 2 ^ 58 = j := ⟨_, rfl⟩
  rw [hj] at ht
  have hj64 : j < 64 := by have := (List.getElem?_eq_some_iff.1 ht).1; simpa [dbTab] using this
  have hc := hT 0 j _ (ktab_at ht)
  have hd : decide ((f : Int) = 0) = false := decide_eq_false (by omega)
  have e1 : IntKind.u64.wrap (-(f : Int)) = ((2 ^ 64 - f : Nat) : Int) := by
    simp only [IntKind.wrap, IntKind.signed, IntKind.bits, Bool.false_and, Bool.false_eq_true, ↓reduceIte]; omega
  have e2 : bits .and .u64 (f : Int) (IntKind.u64.wrap (-(f : Int))) = ((f &&& (2 ^ 64 - f) : Nat) : Int) := by
    rw [e1, ← ibit_and]; exact ib_and hf (by omega)
  have eJ : IntKind.u64.wrap (bits .and .u64 (f : Int) (IntKind.u64.wrap (-(f : Int))) * 285870213051353865) / 288230376151711744 = (j : Int) := by
    rw [e2, ← hj]
    simp only [IntKind.wrap, IntKind.signed, IntKind.bits, Bool.false_and, Bool.false_eq_true, ↓reduceIte]
    generalize f &&& (2 ^ 64 - f) = q
    omega
  have g1 : (0 : Int) ≤ (j : Int) := by omega
  have g2 : (j : Int) < 64 := by omega
  clear h1 h2 hT ht e1 e2 hj
  go_enter Tryd.func24, Tryd.ntmps24
  go_wp2
  all_goals (go_ret; exact ⟨rfl, rfl⟩)
theorem tz_v {st : St} {f k : Nat} (hf : f < 2 ^ 64) (h1 : f.testBit k = true) (h2 : ∀ j, j < k → f.testBit j = false) :
    VCalls Tryd.prog 24 [.sc (.int .u64 (f : Nat))] st fun r s => r = .sc (.int .i64 (k : Nat)) ∧ st = s := by
  intro w0 G w us hw hl hr
  obtain ⟨u, rfl⟩ : ∃ u, us = #[u] := by
    obtain ⟨l⟩ := us
    match l, hl with
    | [u], _ => exact ⟨u, rfl⟩
  have h0 := hr 0 _ u rfl rfl
  cases h0
  refine (tz_w hw.tabs hf h1 h2).mono ?_
  rintro e w' ⟨rfl, rfl⟩
  exact ⟨_, _, st, G, rfl, ⟨rfl, rfl⟩, .sc _ rfl, .refl G, hw⟩
end
section
open Go
theorem u64_top : (if IntKind.u64.signed = true then (-1 : Int) else IntKind.u64.max) = 18446744073709551615 := rfl
theorem ib_not' {a : Nat} (ha : a < 2 ^ 64) : ibit .xor .u64 18446744073709551615 (a : Int) = ((2 ^ 64 - 1 - a : Nat) : Int) := ib_not ha
theorem ib64_or' {a k : Nat} (ha : a < 1024) (hk : k < 64) : ibit .or .i64 ((a : Int) * 64) (k : Int) = ((64 * a + k : Nat) : Int) := by
  rw [← ib64_or ha hk]; congr 1; omega
section
variable {st : St} {b x : Nat} {W : Nat → Nat} {S : Nat → Bool}
set_option maxRecDepth 100000 in
theorem next_v (I : SetI st b W S) (hx : x < 65536) : VCalls Tryd.prog 18 [ptrV b, .sc (.int .u16 x)] st fun r s => st = s ∧
    ((∃ n : Nat, r = .tup [.sc (.int .u16 n), .sc (.bool true)] ∧ Nxt1 S x n) ∨ (r = .tup [.sc (.int .u16 0), .sc (.bool false)] ∧ ∀ j, x ≤ j → j < 65536 → S j = true)) := by
  refine vcalls_enterq pc18 (Nat.le_of_ble_eq_true rfl) rfl fun hwf hok => ?_
  show Run _ Pc18.body (.fin (finP Pc18.res _)) _ _
  unfold Pc18 zo
  have hl := I.wds.lt (x / 64)
  have hk : x % 64 < 64 := by omega
  have hp := pow_bit hk
  have h1p : 1 ≤ 2 ^ (x % 64) := Nat.one_le_two_pow
  have e2 := wc_at (W := W) (n := (cntS S 65536 : Nat)) (show x / 64 < 1024 by omega)
  have g1 : (0 : Int) ≤ ((x / 64 : Nat) : Int) := by omega
  have g2 : ((x / 64 : Nat) : Int) < ((1024 : Nat) : Int) := by omega
  have e3 := ib_not' hl
  have e4 : ((2 ^ (x % 64) : Nat) - 1 : Int) % 18446744073709551616 = ((2 ^ (x % 64) - 1 : Nat) : Int) := by
    generalize 2 ^ (x % 64) = q at hp h1p ⊢
    omega
  have e5 := ib_andNot (show 2 ^ 64 - 1 - W (x / 64) < 2 ^ 64 by omega) (show 2 ^ (x % 64) - 1 < 2 ^ 64 by omega)
  have F := Fw.start (n := x) I.wds
  obtain ⟨f0, hf0⟩ : ∃ f, (2 ^ 64 - 1 - W (x / 64)) &&& (2 ^ 64 - 1 - (2 ^ (x % 64) - 1)) = f := ⟨_, rfl⟩
  rw [hf0] at e5 F
  repeat' first | simp (maxSteps := 3000000) only [go_sem, ↓reduceIte, I.box, e2, g1, g2, u64_top, e3, e4, e5] | (refine If.dec (fun h => ?_) (fun h => ?_) <;> first | simp only [decide_eq_true h] | simp only [decide_eq_false h] | skip) | (refine Grd.decd (fun h => ?_) (fun h => ?_) <;> first | simp only [decide_eq_true h] | simp only [decide_eq_false h] | skip) | (refine If.mk (fun h => ?_) (fun h => ?_) <;> first | simp only [h] | skip) | (refine Grd.two (fun h => ?_) (fun h => ?_) <;> first | simp only [h] | skip) | (apply And.intro; focus (first | omega | (simp; done))) | (refine Cal.mk (place_v hx) ?_; rintro _ _ ⟨rfl, rfl⟩ -)
  refine run_loop [4, 5, 6, 8, 25, 27, 29, 32, 33, 34, 35, 36] (fun B s => ∃ a f : Nat, B 6 = .sc (.int .i64 a) ∧ B 8 = .sc (.int .u64 f) ∧ Fw S x a f ∧ x / 64 ≤ a ∧ a < 1024 ∧ s = st) (fun B _ => 1024 - vnat (B 6)) rfl ?_ ?_
  · refine ⟨x / 64, f0, ?_, ?_, F, Nat.le_refl _, by omega, rfl⟩
    · simp (maxSteps := 3000000) only [go_sem, ↓reduceIte]
    · simp (maxSteps := 3000000) only [go_sem, ↓reduceIte]
  · rintro B s ⟨a, f, h6, h8, Fa, hxa, ha, rfl⟩
    by_cases c : f = 0
    · subst c
      have c1 : decide ((((0 : Nat) : Int)) = 0) = true := decide_eq_true rfl
      by_cases c2 : a + 1 = 1024
      · have c3 : decide (((a : Int) + 1) = 1024) = true := decide_eq_true (by omega)
        repeat' first | simp (maxSteps := 3000000) only [go_sem, ↓reduceIte, h6, h8, c1, c3] | (refine If.dec (fun h => ?_) (fun h => ?_) <;> first | simp only [decide_eq_true h] | simp only [decide_eq_false h] | skip) | (refine Grd.decd (fun h => ?_) (fun h => ?_) <;> first | simp only [decide_eq_true h] | simp only [decide_eq_false h] | skip) | (refine If.mk (fun h => ?_) (fun h => ?_) <;> first | simp only [h] | skip) | (refine Grd.two (fun h => ?_) (fun h => ?_) <;> first | simp only [h] | skip) | (apply And.intro; focus (first | omega | (simp; done)))
        refine ⟨_, _, Wk.refl _, hwf.weak, rfl, .inr ⟨rfl, fun j h1 h2 => Fa.pass j h1 (by omega)⟩⟩
      · have c3 : decide (((a : Int) + 1) = 1024) = false := decide_eq_false (by omega)
        have q1 := wc_at (W := W) (n := (cntS S 65536 : Nat)) (show a + 1 < 1024 by omega)
        have q2 : ((a : Int) + 1).toNat = a + 1 := by omega
        have q3 : (0 : Int) ≤ (a : Int) + 1 := by omega
        have q4 : (a : Int) + 1 < ((1024 : Nat) : Int) := by omega
        have q5 := ib_not' (I.wds.lt (a + 1))
        repeat' first | simp (maxSteps := 3000000) only [go_sem, ↓reduceIte, h6, h8, c1, c3, I.box, q1, q2, q3, q4, u64_top, q5] | (refine If.dec (fun h => ?_) (fun h => ?_) <;> first | simp only [decide_eq_true h] | simp only [decide_eq_false h] | skip) | (refine Grd.decd (fun h => ?_) (fun h => ?_) <;> first | simp only [decide_eq_true h] | simp only [decide_eq_false h] | skip) | (refine If.mk (fun h => ?_) (fun h => ?_) <;> first | simp only [h] | skip) | (refine Grd.two (fun h => ?_) (fun h => ?_) <;> first | simp only [h] | skip) | (apply And.intro; focus (first | omega | (simp; done)))
        exact ⟨⟨a + 1, 2 ^ 64 - 1 - W (a + 1), by simp, rfl, Fa.step I.wds (by omega), by omega, by omega⟩, by omega⟩
    · have c1 : decide (((f : Int)) = 0) = false := decide_eq_false (by omega)
      obtain ⟨k, k0, k1, k2⟩ := low_bit c Fa.lt
      have q1 := ib64_or' ha k0
      have q2 : ((64 * a + k : Nat) : Int) % 65536 = ((64 * a + k : Nat) : Int) := by omega
      repeat' first | simp (maxSteps := 3000000) only [go_sem, ↓reduceIte, h6, h8, c1, q1, q2] | (refine If.dec (fun h => ?_) (fun h => ?_) <;> first | simp only [decide_eq_true h] | simp only [decide_eq_false h] | skip) | (refine Grd.decd (fun h => ?_) (fun h => ?_) <;> first | simp only [decide_eq_true h] | simp only [decide_eq_false h] | skip) | (refine If.mk (fun h => ?_) (fun h => ?_) <;> first | simp only [h] | skip) | (refine Grd.two (fun h => ?_) (fun h => ?_) <;> first | simp only [h] | skip) | (apply And.intro; focus (first | omega | (simp; done))) | (refine Cal.mk (tz_v Fa.lt k1 k2) ?_; rintro _ _ ⟨rfl, rfl⟩ -)
      refine ⟨_, _, Wk.refl _, hwf.weak, rfl, .inl ⟨_, rfl, Fa.found ha k1 k2⟩⟩
set_option maxRecDepth 100000 in
theorem fresh_v (I : SetI st b W S) (hx : x < 65536) : VCalls Tryd.prog 7 [ptrV b, .sc (.int .u16 x)] st fun r s =>
    (65535 ≤ cntS S 65536 ∧ r = .tup [.sc (.int .u16 0), .sc (.bool false)] ∧ st = s) ∨ (cntS S 65536 < 65535 ∧ ∃ n : Nat, r = .tup [.sc (.int .u16 n), .sc (.bool true)] ∧ Frs S x n ∧ SetO st b s (updS S n true)) := by
  refine vcalls_enterq pc7 (Nat.le_of_ble_eq_true rfl) rfl fun hwf hok => ?_
  show Run _ Pc7.body (.fin (finP Pc7.res _)) _ _
  unfold Pc7 zo
  have e2 := wc_n (W := W) (n := (cntS S 65536 : Nat))
  by_cases c : 65535 ≤ cntS S 65536
  · have c1 : decide ((65535 : Int) ≤ ((cntS S 65536 : Nat) : Int)) = true := decide_eq_true (by omega)
    repeat' first | simp (maxSteps := 3000000) only [go_sem, ↓reduceIte, I.box, e2, c1] | (refine If.dec (fun h => ?_) (fun h => ?_) <;> first | simp only [decide_eq_true h] | simp only [decide_eq_false h] | skip) | (refine Grd.decd (fun h => ?_) (fun h => ?_) <;> first | simp only [decide_eq_true h] | simp only [decide_eq_false h] | skip) | (refine If.mk (fun h => ?_) (fun h => ?_) <;> first | simp only [h] | skip) | (refine Grd.two (fun h => ?_) (fun h => ?_) <;> first | simp only [h] | skip) | (apply And.intro; focus (first | omega | (simp; done)))
    exact ⟨_, _, Wk.refl _, hwf.weak, .inl ⟨c, rfl, rfl⟩⟩
  · have c1 : decide ((65535 : Int) ≤ ((cntS S 65536 : Nat) : Int)) = false := decide_eq_false (by omega)
    have hy : max ((x : Nat) : Int) 1 = ((if x = 0 then 1 else x : Nat) : Int) := by split <;> omega
    obtain ⟨y, hy2⟩ : ∃ y, (if x = 0 then 1 else x) = y := ⟨_, rfl⟩
    have hyl : y < 65536 := by rw [← hy2]; split <;> omega
    rw [hy2] at hy
    simp (maxSteps := 3000000) only [go_sem, ↓reduceIte, I.box, e2, c1, hy]
    obtain ⟨j0, g1, g2, g3⟩ := cntS_lt (k := 65535) I.z (show cntS S 65536 < 65535 by omega)
    refine Cal.mk (next_v I hyl) ?_
    rintro _ _ ⟨rfl, h | h⟩ -
    · obtain ⟨n, rfl, hn⟩ := h
      have F : Frs S x n := .up (by rw [hy2]; exact hn)
      have c2 : S n = false := F.no
      simp (maxSteps := 3000000) only [go_sem, ↓reduceIte]
      refine Cal.mk (take_v I F.lt) ?_
      rintro _ s2 (⟨rfl, rfl, h1 | h1⟩ | ⟨rfl, h1, h2, h3⟩) -
      · have := F.g1; omega
      · rw [c2] at h1; cases h1
      · simp (maxSteps := 3000000) only [go_sem, ↓reduceIte]
        obtain ⟨W2, cs, rfl, I2⟩ := h1
        exact ⟨_, _, Wk.refl _, weak_both hwf.weak, .inr ⟨by omega, n, rfl, F, W2, cs, rfl, I2⟩⟩
    · obtain ⟨rfl, h⟩ := h
      simp (maxSteps := 3000000) only [go_sem, ↓reduceIte]
      refine Cal.mk (next_v I (show 1 < 65536 by omega)) ?_
      rintro _ _ ⟨rfl, h3 | h3⟩ -
      · obtain ⟨n, rfl, hn⟩ := h3
        have F : Frs S x n := .round hx (by rw [hy2]; exact h) hn
        have c2 : S n = false := F.no
        simp (maxSteps := 3000000) only [go_sem, ↓reduceIte]
        refine Cal.mk (take_v I F.lt) ?_
        rintro _ s2 (⟨rfl, rfl, h1 | h1⟩ | ⟨rfl, h1, h2, h3⟩) -
        · have := F.g1; omega
        · rw [c2] at h1; cases h1
        · simp (maxSteps := 3000000) only [go_sem, ↓reduceIte]
          obtain ⟨W2, cs, rfl, I2⟩ := h1
          exact ⟨_, _, Wk.refl _, weak_both hwf.weak, .inr ⟨by omega, n, rfl, F, W2, cs, rfl, I2⟩⟩
      · have := h3.2 j0 g1 g2
        rw [g3] at this; cases this
def u16s (l : List Nat) : List V := l.map fun n => .sc (.int .u16 (n : Nat))
theorem u16s_len {l : List Nat} : (u16s l).length = l.length := List.length_map ..
theorem u16s_at {l : List Nat} {i n : Nat} (h : l[i]? = some n) : (u16s l)[i]? = some (.sc (.int .u16 (n : Nat))) := by simp [u16s, h]
def idxN (l : List Nat) (x : Nat) : Int := if x ∈ l then l.idxOf x else -1
set_option maxRecDepth 100000 in
theorem index16_v {l : List Nat} {tk : Tk} : VCalls Tryd.prog 15 [.sl tk (u16s l), .sc (.int .u16 x)] st fun r s => r = .sc (.int .i64 (idxN l x)) ∧ st = s := by
  refine vcalls_enterq pc15 (Nat.le_of_ble_eq_true rfl) rfl fun hwf hok => ?_
  show Run _ Pc15.body (.fin (finP Pc15.res _)) _ _
  unfold Pc15 zo
  have hm : l.length ≤ maxLen := by have := (hok (.sl tk (u16s l)) (by simp)).len; rwa [u16s_len] at this
  unfold maxLen at hm
  simp (maxSteps := 3000000) only [go_sem, ↓reduceIte, u16s_len]
  refine run_loop [4, 5, 8, 9, 14, 15, 16, 18] (fun B s => ∃ i : Nat, B 8 = .sc (.int .i64 i) ∧ i ≤ l.length ∧ (∀ j : Nat, j < i → ∀ y, l[j]? = some y → y ≠ x) ∧ s = st) (fun B _ => l.length - vnat (B 8)) rfl ?_ ?_
  · refine ⟨0, by first | (simp (maxSteps := 3000000) only [go_sem, ↓reduceIte]; done) | (simp (maxSteps := 3000000) only [go_sem, ↓reduceIte]; rfl), Nat.zero_le _, fun j h => by omega, rfl⟩
  · rintro B s ⟨i, h8, hi, hno, rfl⟩
    by_cases c : i < l.length
    · have c1 : decide ((i : Int) < (l.length : Int)) = true := decide_eq_true (by omega)
      obtain ⟨y, hy⟩ : ∃ y, l[i]? = some y := ⟨_, List.getElem?_eq_getElem c⟩
      have g1 := u16s_at hy
      by_cases c2 : x = y
      · subst c2
        have hz : idxN l x = i := by
          unfold idxN
          have hmem : x ∈ l := List.mem_of_getElem? hy
          rw [if_pos hmem]
          have h1 : l.idxOf x ≤ i := by
            by_cases c3 : l.idxOf x ≤ i
            · exact c3
            · have := List.not_of_lt_findIdx (p := (· == x)) (xs := l) (i := i) (by show i < l.idxOf x; omega)
              rw [(List.getElem?_eq_some_iff.1 hy).2] at this
              simp at this
          have h2 : ¬ l.idxOf x < i := fun c3 => hno _ c3 x (by
            have hlt : l.idxOf x < l.length := by omega
            rw [List.getElem?_eq_getElem hlt]
            exact congrArg some (List.getElem_idxOf hlt)) rfl
          omega
        have c3 : decide (((x : Nat) : Int) = ((x : Nat) : Int)) = true := decide_eq_true rfl
        rw [hz]
        simp (maxSteps := 3000000) only [go_sem, ↓reduceIte, h8, c1, g1]
        refine ⟨by omega, ?_⟩
        exact ⟨_, _, Wk.refl _, hwf.weak, rfl, rfl⟩
      · have c3 : decide (((x : Nat) : Int) = ((y : Nat) : Int)) = false := decide_eq_false (by omega)
        simp (maxSteps := 3000000) only [go_sem, ↓reduceIte, h8, c1, g1, c3]
        repeat (apply And.intro; focus (first | omega | (simp; done)))
        refine ⟨⟨i + 1, by simp, by omega, fun j hj z hz => ?_⟩, by omega⟩
        by_cases e : j = i
        · subst e
          rw [hy] at hz
          cases hz
          exact fun e => c2 e.symm
        · exact hno j (by omega) z hz
    · have c1 : decide ((i : Int) < (l.length : Int)) = false := decide_eq_false (by omega)
      have hz : idxN l x = -1 := if_neg fun hmem => by
        obtain ⟨j, hj⟩ := List.mem_iff_getElem?.1 hmem
        exact hno j (by have := (List.getElem?_eq_some_iff.1 hj).1; omega) x hj rfl
      rw [hz]
      simp (maxSteps := 3000000) only [go_sem, ↓reduceIte, h8, c1]
      exact ⟨_, _, Wk.refl _, hwf.weak, rfl, rfl⟩
theorem contains16_v {l : List Nat} {tk : Tk} : VCalls Tryd.prog 5 [.sl tk (u16s l), .sc (.int .u16 x)] st fun r s => r = .sc (.bool (decide (x ∈ l))) ∧ st = s := by
  refine vcalls_enterq pc5 (Nat.le_of_ble_eq_true rfl) rfl fun hwf hok => ?_
  show Run _ Pc5.body (.fin (finP Pc5.res _)) _ _
  unfold Pc5 zo
  have c1 : decide (0 ≤ idxN l x) = decide (x ∈ l) := by
    unfold idxN
    by_cases h : x ∈ l
    · rw [if_pos h, decide_eq_true h]; exact decide_eq_true (by omega)
    · rw [if_neg h, decide_eq_false h]; rfl
  repeat' first | simp (maxSteps := 3000000) only [go_sem, ↓reduceIte, c1] | (refine If.dec (fun h => ?_) (fun h => ?_) <;> first | simp only [decide_eq_true h] | simp only [decide_eq_false h] | skip) | (refine Grd.decd (fun h => ?_) (fun h => ?_) <;> first | simp only [decide_eq_true h] | simp only [decide_eq_false h] | skip) | (refine If.mk (fun h => ?_) (fun h => ?_) <;> first | simp only [h] | skip) | (refine Grd.two (fun h => ?_) (fun h => ?_) <;> first | simp only [h] | skip) | (apply And.intro; focus (first | omega | (simp; done))) | (refine Cal.mk (index16_v) ?_; rintro _ _ ⟨rfl, rfl⟩ -)
  exact ⟨_, _, Wk.refl _, hwf.weak, rfl, rfl⟩
end
end
section
open Go
def wz : List V := List.replicate 1024 (.sc (.int .u64 0)) ++ [.sc (.int .i64 0)]
theorem rep_map {α : Type} (n : Nat) (x : α) : List.replicate n x = (List.range n).map fun _ => x := by
  rw [List.map_const', List.length_range]
theorem wz_wc : wz = wc (fun _ => 0) (0 : Int) := by
  unfold wz wc
  rw [rep_map]
  rfl
theorem cntS_none {k : Nat} : cntS (fun _ => false) k = 0 := by
  induction k with
  | zero => rfl
  | succ k ih => simp [cntS, ih]
theorem SetI.start {s : St} {b : Nat} (h : s.box b = some wz) : SetI s b (fun _ => 0) (fun _ => false) :=
  ⟨⟨fun _ => by simp, fun _ _ _ => by simp⟩, by rw [h, wz_wc, cntS_none]; rfl, rfl⟩
section
variable {st : St} {b x : Nat} {W : Nat → Nat} {S : Nat → Bool}
set_option maxRecDepth 100000 in
theorem alive08_v : VCalls Tryd.prog 9 [] st fun r s => r = .sc (.bool true) ∧ st = s := by
  refine vcalls_enterq pc9 (Nat.le_of_ble_eq_true rfl) rfl fun hwf hok => ?_
  show Run _ Pc9.body (.fin (finP Pc9.res _)) _ _
  unfold Pc9 zg zo
  have d2 : decide (((2 : Nat) : Int) = 2) = true := rfl
  simp (maxSteps := 3000000) only [go_sem, ↓reduceIte]
  rw [show List.replicate 1024 (V.sc (Value.int IntKind.u64 0)) ++ [V.sc (Value.int IntKind.i64 0)] = wz from rfl]
  refine ⟨by rw [wz_wc, wc_len]; decide, fun b hb => ?_⟩
  have I := SetI.start (s := st.put b wz) (b := b) put_box_same
  refine Cal.mk (take_v (x := 1) I (by omega)) ?_
  rintro _ s2 (⟨rfl, rfl, h1 | h1⟩ | ⟨rfl, h1, -, -⟩) -
  · cases h1
  · cases h1
  obtain ⟨W1, cs1, hs, I1⟩ := h1
  rw [put_put] at hs
  subst hs
  have hc1 : cntS (updS (fun _ => false) 1 true) 65536 = 1 := by rw [cntS_take (by omega) rfl, cntS_none]
  simp (maxSteps := 3000000) only [go_sem, ↓reduceIte]
  refine Cal.mk (fresh_v (x := 1) I1 (by omega)) ?_
  rintro _ s3 (⟨h2, rfl, rfl⟩ | ⟨h2, n, rfl, F, h3⟩) -
  · omega
  have hn2 : n = 2 := by
    have h5 := F.key 2 (by omega) (by omega) (by rw [updS_ne (by omega)])
    have h6 := F.no
    have h7 := F.g1
    by_cases e : n = 1
    · subst e; rw [updS_same] at h6; cases h6
    · unfold keyS at h5
      rw [if_neg (by omega), if_neg (by omega)] at h5
      omega
  subst hn2
  obtain ⟨W2, cs2, hs, I2⟩ := h3
  rw [put_put] at hs
  subst hs
  have hc2 : cntS (updS (updS (fun _ => false) 1 true) 2 true) 65536 = 2 := by rw [cntS_take (by omega) (by rw [updS_ne (by omega)]), hc1]
  simp (maxSteps := 3000000) only [go_sem, ↓reduceIte, d2]
  refine Cal.mk (len_v I2) ?_
  rintro _ _ ⟨rfl, rfl⟩ -
  rw [hc2]
  simp (maxSteps := 3000000) only [go_sem, ↓reduceIte, d2]
  refine Cal.mk (take_v (x := 0) I2 (by omega)) ?_
  rintro _ s4 (⟨rfl, rfl, -⟩ | ⟨rfl, h1, h5, -⟩) -
  · simp (maxSteps := 3000000) only [go_sem, ↓reduceIte]
    exact ⟨_, _, Wk.refl _, weak_put hwf.weak hb, rfl, rfl⟩
  · exact absurd rfl h5
theorem key_inj {f a b : Nat} (ha : a < 65536) (hb : b < 65536) (h : keyS f a = keyS f b) : a = b := by
  unfold keyS at h; split at h <;> split at h <;> omega
end
end
section
open Go
def bitsW (i w : Nat) : List Nat := ((List.range 64).filter fun k => w.testBit k).map fun k => 64 * i + k
def upW (W : Nat → Nat) (i : Nat) : List Nat := (List.range i).flatMap fun j => bitsW j (W j)
theorem upW_succ {W : Nat → Nat} {i : Nat} : upW W (i + 1) = upW W i ++ bitsW i (W i) := by simp [upW, List.range_succ]
theorem bitsW_len {i w : Nat} : (bitsW i w).length ≤ 64 := by
  unfold bitsW
  rw [List.length_map]
  exact Nat.le_trans (List.length_filter_le _ _) (by simp)
theorem upW_len {W : Nat → Nat} : ∀ {i : Nat}, (upW W i).length ≤ 64 * i
  | 0 => Nat.le_refl _
  | i + 1 => by rw [upW_succ, List.length_append]; have := upW_len (W := W) (i := i); have := bitsW_len (i := i) (w := W i); omega
theorem filter_first {p q : Nat → Bool} {k : Nat} (h1 : ∀ j, j < k → p j = false) (h2 : p k = true) (hq : ∀ j, q j = (decide (j ≠ k) && p j)) : ∀ n, k < n → (List.range n).filter p = k :: (List.range n).filter q
  | n + 1, h => by
    rw [List.range_succ, List.filter_append, List.filter_append]
    by_cases c : k < n
    · rw [filter_first h1 h2 hq n c, List.cons_append]
      congr 2
      simp only [List.filter_cons, List.filter_nil, hq]
      have : decide (n ≠ k) = true := decide_eq_true (by omega)
      rw [this, Bool.true_and]
    · obtain rfl : k = n := by omega
      have e1 : (List.range k).filter p = [] := List.filter_eq_nil_iff.2 fun j hj => by rw [h1 j (List.mem_range.1 hj)]; simp
      have e2 : (List.range k).filter q = [] := List.filter_eq_nil_iff.2 fun j hj => by rw [hq, h1 j (List.mem_range.1 hj)]; simp
      rw [e1, e2]
      simp [h2, hq]
theorem and_pred {f k : Nat} (h1 : f.testBit k = true) (h2 : ∀ j, j < k → f.testBit j = false) (j : Nat) : (f &&& (f - 1)).testBit j = (decide (j ≠ k) && f.testBit j) := by
  obtain ⟨m, hm⟩ := low_split h1 h2
  have hp : 0 < 2 ^ k := Nat.pow_pos (by decide)
  have hg : f - 1 = 2 ^ k * (2 * m) + (2 ^ k - 1) := by
    have : 2 ^ k * (2 * m + 1) = 2 ^ k * (2 * m) + 2 ^ k := by rw [Nat.mul_add, Nat.mul_one]
    omega
  rw [Nat.testBit_and, hg, Nat.testBit_two_pow_mul_add _ (by omega)]
  by_cases c : j < k
  · rw [h2 j c]; simp
  · rw [if_neg c]
    by_cases e : j = k
    · subst e; simp
    · obtain ⟨i, hi⟩ : ∃ i, j - k = i + 1 := ⟨j - k - 1, by omega⟩
      rw [hm, Nat.testBit_two_pow_mul, hi]
      have q1 : (2 * m + 1).testBit (i + 1) = m.testBit i := by rw [Nat.testBit_succ]; congr 1; omega
      have q2 : (2 * m).testBit (i + 1) = m.testBit i := by rw [Nat.testBit_succ]; congr 1; omega
      rw [q1, q2, decide_eq_true e, Bool.true_and, Bool.and_assoc, Bool.and_self]
theorem bitsW_none {i : Nat} : bitsW i 0 = [] := by
  unfold bitsW
  rw [List.filter_eq_nil_iff.2 (fun j _ => by simp)]; rfl
theorem bitsW_first {i f k : Nat} (hk : k < 64) (h1 : f.testBit k = true) (h2 : ∀ j, j < k → f.testBit j = false) : bitsW i f = (64 * i + k) :: bitsW i (f &&& (f - 1)) := by
  unfold bitsW
  rw [filter_first (q := fun j => (f &&& (f - 1)).testBit j) h2 h1 (fun j => and_pred h1 h2 j) 64 hk]
  rfl
theorem and_pred_lt {f : Nat} (h : f ≠ 0) : f &&& (f - 1) < f := Nat.lt_of_le_of_lt Nat.and_le_right (by omega)
theorem bitsW_mem {i w n : Nat} : n ∈ bitsW i w ↔ n / 64 = i ∧ w.testBit (n % 64) = true := by
  unfold bitsW
  simp only [List.mem_map, List.mem_filter, List.mem_range]
  constructor
  · rintro ⟨k, ⟨h1, h2⟩, rfl⟩
    exact ⟨by omega, by rw [show (64 * i + k) % 64 = k by omega]; exact h2⟩
  · rintro ⟨rfl, h⟩
    exact ⟨n % 64, ⟨by omega, h⟩, by omega⟩
theorem upW_mem {W : Nat → Nat} {i n : Nat} : n ∈ upW W i ↔ n / 64 < i ∧ (W (n / 64)).testBit (n % 64) = true := by
  unfold upW
  simp only [List.mem_flatMap, List.mem_range, bitsW_mem]
  constructor
  · rintro ⟨j, h1, rfl, h2⟩; exact ⟨h1, h2⟩
  · rintro ⟨h1, h2⟩; exact ⟨_, h1, rfl, h2⟩
theorem bitsW_rise {i w : Nat} : (bitsW i w).Pairwise (· < ·) := by
  unfold bitsW
  rw [List.pairwise_map]
  refine (List.Pairwise.filter _ (List.pairwise_lt_range (n := 64))).imp fun h => by omega
theorem upW_rise {W : Nat → Nat} : ∀ {i : Nat}, (upW W i).Pairwise (· < ·)
  | 0 => List.Pairwise.nil
  | i + 1 => by
    rw [upW_succ, List.pairwise_append]
    refine ⟨upW_rise, bitsW_rise, fun a ha b hb => ?_⟩
    have h1 := (upW_mem.1 ha).1
    have h2 := (bitsW_mem.1 hb).1
    omega
theorem rise_eq : ∀ {l m : List Nat}, l.Pairwise (· < ·) → m.Pairwise (· < ·) → (∀ x, x ∈ l ↔ x ∈ m) → l = m
  | [], [], _, _, _ => rfl
  | [], y :: m, _, _, h => absurd ((h y).2 List.mem_cons_self) (by simp)
  | x :: l, [], _, _, h => absurd ((h x).1 List.mem_cons_self) (by simp)
  | x :: l, y :: m, h1, h2, h => by
    rw [List.pairwise_cons] at h1 h2
    have e : x = y := by
      rcases List.mem_cons.1 ((h x).1 List.mem_cons_self) with e | e
      · exact e
      · rcases List.mem_cons.1 ((h y).2 List.mem_cons_self) with e2 | e2
        · exact e2.symm
        · have := h2.1 x e; have := h1.1 y e2; omega
    subst e
    congr 1
    refine rise_eq h1.2 h2.2 fun z => ⟨fun hz => ?_, fun hz => ?_⟩
    · rcases List.mem_cons.1 ((h z).1 (List.mem_cons_of_mem _ hz)) with e | e
      · have := h1.1 z hz; omega
      · exact e
    · rcases List.mem_cons.1 ((h z).2 (List.mem_cons_of_mem _ hz)) with e | e
      · have := h2.1 z hz; omega
      · exact e
end
section
open Go Go.RowKit Go.Shelf
attribute [local go_sem] Oper.semAt_some
theorem words_below {w w' : World} {n₀ b : Nat} {W : Nat → Nat} (hb : b < n₀) (h : Below n₀ w w') (hc : ∀ j, j < 1024 → w.cell? ⟨b, j, none⟩ = some (.int .u64 (W j : Nat))) : ∀ j, j < 1024 → w'.cell? ⟨b, j, none⟩ = some (.int .u64 (W j : Nat)) := fun j hj => (h.cell (p := ⟨b, j, none⟩) hb).trans (hc j hj)
theorem tabs_below {w w' : World} {n₀ : Nat} (hn : 0 < n₀) (hT : Tabs w) (h : Below n₀ w w') : Tabs w' := fun b j v hv => by
  have hv' : (if b = 0 then (dbTab[j]?).map (fun n : Nat => Value.int .u8 (n : Nat)) else none) = some v := hv
  have hb : b = 0 := by
    by_cases e : b = 0
    · exact e
    · rw [if_neg e] at hv'; cases hv'
  subst hb
  exact (h.cell (p := ⟨0, j, none⟩) hn).trans (hT 0 j v hv)
theorem load_words {w : World} {b : Nat} {W : Nat → Nat} (hc : ∀ j, j < 1024 → w.cell? ⟨b, j, none⟩ = some (.int .u64 (W j : Nat))) :
    (Instr.loadAt 26 (.pointer (some ⟨b, 0, none⟩))).run Tryd.prog w = .ok (.agg ((List.range 1024).map fun j => Value.int .u64 (W j : Nat)).toArray) w := by
  have hl : layout Tryd.prog 26 = some (some 1024, 1024) := by kernel_rfl
  obtain ⟨d, i, hu, hi, hs, hk⟩ := layout_inv hl
  obtain hd : aggB d = true := by
    rcases hk with ⟨_, hd⟩ | ⟨h, _⟩
    · exact hd
    · cases h
  have hcells := run_loadCells (P := Tryd.prog) w ⟨b, 0, none⟩ 1024 (fun j => Value.int .u64 (W j : Nat)) (fun j hj => by rw [addr_add, Nat.zero_add]; exact hc j hj)
  simp only [Instr.loadAt, Instr.sureAddr, loadVar, Sem.run_bind, run_isAgg hu, hd, Result.andThen_ok, ↓reduceIte, run_sizeOf' hi, hs, hcells, Sem.run_pure]
theorem index_words {w : World} {W : Nat → Nat} {i : Nat} (hi : i < 1024) :
    (Instr.index 26 (.agg ((List.range 1024).map fun j => Value.int .u64 (W j : Nat)).toArray) (.int .i64 (i : Nat))).run Tryd.prog w = .ok (.int .u64 (W i : Nat)) w := by
  have h1 : cOp Tryd.prog false (.index 26 (.tmp 0) (.tmp 1)) = some (.aidx 1024 (.t 0) (.t 1)) := by kernel_rfl
  have hu := Tryd.underlying26
  obtain ⟨e, he, hs⟩ : ∃ e, Tryd.prog.info? 25 = some e ∧ e.size = 1 := by
    have : (Tryd.prog.info? 25).map (·.size) = some 1 := by kernel_rfl
    exact Option.map_eq_some_iff.1 this
  have hA : isA Tryd.prog 25 = false := by kernel_rfl
  have hU : (Tryd.prog.underlying 25).isSome = true := by kernel_rfl
  have hg : ((List.range 1024).map fun j => V.sc (.int .u64 (W j : Nat)))[i]? = some (.sc (.int .u64 (W i : Nat))) := by simp [hi]
  have hv : (vaidx 1024 (.agg ((List.range 1024).map fun j => V.sc (.int .u64 (W j : Nat)))) (.sc (.int .i64 (i : Nat)))) = ((0 : Int) ≤ (i : Nat) ∧ ((i : Nat) : Int) < ((1024 : Nat) : Int), .sc (.int .u64 (W i : Nat))) := by
    unfold vaidx
    simp only [Int.toNat_natCast, hg]
  obtain ⟨r, h2, h3⟩ := aidx_sound (P := Tryd.prog) (G := ⟨fun _ _ => none, fun _ => none⟩) hu he hs hA hU
    (x := .agg ((List.range 1024).map fun j => V.sc (.int .u64 (W j : Nat)))) (u := .agg ((List.range 1024).map fun j => Value.int .u64 (W j : Nat)).toArray) (y := .sc (.int .i64 (i : Nat))) (v := .int .i64 (i : Nat))
    (.agg _ _ (by simp) (fun j v hv => by
      simp only [List.getElem?_toArray, List.getElem?_map, Option.map_eq_some_iff] at hv
      obtain ⟨_, _, rfl⟩ := hv; rfl) (fun j c v hc hv => by
      simp only [List.getElem?_toArray, List.getElem?_map, Option.map_eq_some_iff] at hv hc
      obtain ⟨a, h, rfl⟩ := hv
      obtain ⟨a', h', rfl⟩ := hc
      rw [h] at h'; cases h'
      exact .sc _ rfl)) (.sc _ rfl) (by rw [hv]; exact ⟨by omega, by omega⟩) w
  rw [hv] at h3
  cases h3
  exact h2
set_option maxRecDepth 100000 in
set_option maxHeartbeats 2000000 in
theorem setAll1_in (n : Nat) (hn : 1 ≤ n) (l Bs n₀ b : Nat) (W : Nat → Nat) (hW : ∀ i, W i < 2 ^ 64) (hb : b < n₀) (J Jx : List Nat → World → Prop)
    (hn0 : 0 < n₀)
    (hY : ∀ pre (x : Nat) w, J pre w → pre.length < 65537 → YieldAt Fence.wide (n - 1) Tryd.prog l #[.int .u16 (x : Nat)] w fun e w' =>
      (e = .returned (.bool true) ∧ J (pre ++ [x]) w' ∧ Below n₀ w w') ∨ (e = .returned (.bool false) ∧ Jx (pre ++ [x]) w'))
    (w : World) (hBs : w.cell? ⟨Bs, 0, none⟩ = some (.pointer (some ⟨b, 0, none⟩))) (hc : ∀ j, j < 1024 → w.cell? ⟨b, j, none⟩ = some (.int .u64 (W j : Nat))) (hT : Tabs w) (h0 : J [] w) :
    CallsIn Fence.wide n Tryd.prog 36 #[.func (.yield l) #[] #[], .pointer (some ⟨Bs, 0, none⟩)] w fun e w' => (∃ v, e = .returned v) ∧
      ((∃ ys, ys = upW W 1024 ∧ J ys w') ∨ (∃ pre, True ∧ Jx pre w')) := by
  have hload := load_words hc
  obtain ⟨A, hA⟩ : ∃ A, ((List.range 1024).map fun j => Value.int .u64 (W j : Nat)).toArray = A := ⟨_, rfl⟩
  have hix : ∀ (i : Nat), i < 1024 → ∀ wr, (Instr.index 26 (.agg A) (.int .i64 (i : Nat))).run Tryd.prog wr = .ok (.int .u64 (W i : Nat)) wr := fun i hi wr => by rw [← hA]; exact index_words hi
  rw [hA] at hload
  clear hA
  refine callsIn_of_wp Tryd.func36 rfl trivial ?_ rfl
  simp only [Tryd.ntmps36, List.size_toArray, List.length_cons, List.length_nil, Nat.reduceAdd, Nat.reduceSub, Array.replicate_succ, Array.replicate_zero, List.push_toArray, List.append_toArray, List.nil_append, List.cons_append]
  gi_wp2
  refine ⟨fun _ _ => trivial, ?_⟩
  rw [show Fence.wide.round = none from rfl, Oper.semAt_none]
  change Oper.uponIn Fence.wide n Tryd.prog _ _ _ _ ((do let v ← Instr.loadAt 26 (.pointer (some ⟨b, 0, none⟩)); pure (Next.value v) : Sem Next).run Tryd.prog w)
  rw [Sem.run_bind, hload, Result.andThen_ok, Sem.run_pure, Oper.uponIn_value]
  gi_wp2
  gi_loopw [9] (fun v wr => ∃ i : Nat, i ≤ 1024 ∧ v = .int .i64 (i : Nat) ∧ J (upW W i) wr ∧ Below n₀ w wr) (fun v _ => 1024 - (intOf v).toNat)
  case atStart => exact ⟨0, Nat.zero_le _, rfl, h0, Below.refl _ _⟩
  case round =>
    obtain ⟨i, hi, rfl, hJ, hB⟩ := hrel
    by_cases c : i < 1024
    · have hAi := hix i c wr
      gi_wp2
      have hdi : decide ((i : Int) < 1024) = true := decide_eq_true (by omega)
      rw [hdi]
      generalize wr = w1 at *
      gi_loopw [4] (fun v wr => ∃ (done : List Nat) (f : Nat), v = .int .u64 (f : Nat) ∧ f < 2 ^ 64 ∧ done ++ bitsW i f = bitsW i (W i) ∧ J (upW W i ++ done) wr ∧ Below n₀ w wr) (fun v _ => (intOf v).toNat)
      case atStart => exact ⟨[], W i, rfl, hW i, rfl, by rw [List.append_nil]; exact hJ, hB⟩
      case round =>
        obtain ⟨done, f, rfl, hf, hd, hJ2, hB2⟩ := hrel
        by_cases c2 : f = 0
        · subst c2
          gi_wp2
          rw [bitsW_none, List.append_nil] at hd
          exact ⟨⟨i + 1, by omega, by simp, by rw [upW_succ, ← hd]; exact hJ2, hB2⟩, by simp [intOf]; omega⟩
        · obtain ⟨k, k0, k1, k2⟩ := low_bit c2 hf
          have hne : ((f : Int) == 0) = false := by simp; omega
          have hlen : (upW W i ++ done).length < 65537 := by
            have e1 := upW_len (W := W) (i := i)
            have e2 := bitsW_len (i := i) (w := W i)
            have e3 : done.length ≤ 64 := by rw [← hd, List.length_append] at e2; omega
            rw [List.length_append]; omega
          obtain ⟨m, hm⟩ : ∃ m, 64 * i + k = m := ⟨_, rfl⟩
          obtain ⟨fn, tmps, assign, body, hy, hR⟩ := hY (upW W i ++ done) m wr hJ2 hlen
          have hTw := tabs_below hn0 hT hB2
          have q1 : bits .or .i64 ((i : Int) * 64) (k : Int) = (m : Int) := by
            rw [← hm, ← ibit_or, ← ib64_or c k0]; congr 1; omega
          have q2 : IntKind.u16.wrap (m : Int) = (m : Int) := by
            simp only [IntKind.wrap, IntKind.signed, IntKind.bits, Bool.false_and, Bool.false_eq_true, ↓reduceIte]; omega
          gi_wp2_with (refine ⟨trivial, ?_⟩; gi_at_call 24; refine (callsIn_wide.2 (tz_w hTw hf k1 k2)).mono ?_; rintro e w' ⟨rfl, rfl⟩)
          refine hR.mono ?_
          rintro e w3 (⟨rfl, hJ3, hk3⟩ | ⟨rfl, hJx3⟩)
          · have hfirst := bitsW_first (i := i) k0 k1 k2
            rw [hm] at hfirst
            obtain ⟨g, hg⟩ : ∃ g, f &&& (f - 1) = g := ⟨_, rfl⟩
            have q4 : bits .and .u64 (f : Int) ((f : Int) - 1) = (g : Int) := by
              have e : ((f : Int) - 1) = ((f - 1 : Nat) : Int) := by omega
              rw [e, ← hg, ← ibit_and]; exact ib_and hf (by omega)
            have hgf : g < f := by rw [← hg]; exact and_pred_lt c2
            rw [hg] at hfirst
            gi_wp2
            go_roundw
            case rel => exact ⟨done ++ [m], g, rfl, by omega, by rw [← hd, hfirst, List.append_assoc]; rfl, by rw [← List.append_assoc]; exact hJ3, hB2.trans hk3⟩
            case measure => simp [intOf]; omega
          · gi_wp2
            refine bodyPost_ret (results_none rfl _ _ _) rfl ?_
            exact ⟨⟨_, rfl⟩, .inr ⟨_, trivial, hJx3⟩⟩
    · obtain rfl : i = 1024 := by omega
      gi_wp2
      go_end0
      exact ⟨⟨_, rfl⟩, .inl ⟨_, rfl, hJ⟩⟩
theorem setAll_in (n : Nat) (p0 : Option Addr) (w : World) :
    CallsIn Fence.wide n Tryd.prog 23 #[.pointer p0] w fun e w' => e = .returned (.func (.func 36) #[] #[.pointer (some ⟨w.heap.size, 0, none⟩)]) ∧ w' = w.alloc (.cells #[.pointer p0] 24) := by
  refine callsIn_of_wp Tryd.func23 rfl trivial ?_ rfl
  simp only [Tryd.ntmps23, List.size_toArray, List.length_cons, List.length_nil, Nat.reduceAdd, Nat.reduceSub, Array.replicate_succ, Array.replicate_zero, List.push_toArray, List.append_toArray, List.nil_append, List.cons_append]
  gi_wp2
  go_ret
  exact ⟨rfl, rfl⟩
theorem setAll_stops (n : Nat) (hn : 1 ≤ n) (Bn n₀ b : Nat) (W : Nat → Nat) (hW : ∀ i, W i < 2 ^ 64) (hb : b < n₀) (hn0 : 0 < n₀) (w : World) (hBn : Bn < w.heap.size) (hn₀ : n₀ ≤ w.heap.size)
    (hc : w.cell? ⟨Bn, 0, none⟩ = some (.pointer (some ⟨b, 0, none⟩))) (hL : ∀ j, j < 1024 → w.cell? ⟨b, j, none⟩ = some (.int .u64 (W j : Nat))) (hT : Tabs w) :
    SeqStopsK Fence.wide n Tryd.prog 36 #[.pointer (some ⟨Bn, 0, none⟩)] (fun x : Nat => #[Value.int .u16 (x : Nat)]) (Below n₀) (fun ys => ys = upW W 1024) (fun _ => True) 65537 w := fun l J Jx w' hW' _ _ hY h0 =>
  setAll1_in n hn l Bn n₀ b W hW hb J Jx hn0 hY w' ((hW'.cell (p := ⟨Bn, 0, none⟩) hBn).trans hc) (words_below hb (hW'.mono hn₀) hL) (tabs_below hn0 hT (hW'.mono hn₀)) h0
end
section
open Go Go.RowKit Go.Shelf
attribute [local go_sem] Oper.semAt_some
theorem info_u16 : (Tryd.prog.info? 23).map (fun i => (i.zero, i.size, i.bytes)) = some (some (.int .u16 0), 1, 2) := by kernel_rfl
theorem seq_nil (w : World) (f : Nat) (lb : Array Value) : (binOp .eql 53 (.func (.func f) #[] lb) .nilFunc).run Tryd.prog w = .ok (.bool false) w := by kernel_rfl
set_option maxRecDepth 100000 in
set_option maxHeartbeats 2000000 in
theorem all08_in (n : Nat) (hn : 3 ≤ n) (b : Nat) (W : Nat → Nat) (hW : ∀ i, W i < 2 ^ 64) (w : World) (hb : b < w.heap.size) (hT : Tabs w) (hc : ∀ j, j < 1024 → w.cell? ⟨b, j, none⟩ = some (.int .u64 (W j : Nat))) :
    CallsIn Fence.wide n Tryd.prog 14 #[.pointer (some ⟨b, 0, none⟩)] w fun e w' => ∃ v, e = .returned v ∧ w'.ownsRow w.heap.size 23 1 v (upW W 1024).length ((upW W 1024).map fun x => Value.int .u16 (x : Nat)) ∧ Below w.heap.size w w' := by
  have h1 : 1 ≤ n := by omega
  have h0 : 0 < w.heap.size := by omega
  obtain ⟨i0, hi, hz0, hz1, hz2⟩ := info_parts info_u16
  refine callsIn_of_wp_marks Tryd.func14 rfl trivial ?_ rfl
  simp only [Tryd.ntmps14, List.size_toArray, List.length_cons, List.length_nil, Nat.reduceAdd, Nat.reduceSub, Array.replicate_succ, Array.replicate_zero, List.push_toArray, List.append_toArray, List.nil_append, List.cons_append]
  gi_wp2_with (refine ⟨trivial, ?_⟩; gi_at_call 23; refine (setAll_in (n - 1) _ _).mono ?_; rintro e w' ⟨rfl, rfl⟩)
  have bO := Boxed.new w 22 (.slice none 0 0)
  have bN := Boxed.new (w.alloc (.cells #[.slice none 0 0] 22)) 24 (.pointer (some ⟨b, 0, none⟩))
  rw [World.size_alloc] at bN
  have hB0 : Below w.heap.size w ((w.alloc (.cells #[.slice none 0 0] 22)).alloc (.cells #[.pointer (some ⟨b, 0, none⟩)] 24)) := ((Below.refl _ w).alloc (Nat.le_refl _) _).alloc (by simp) _
  rw [seq_nil, Result.andThen_ok, Oper.uponIn_value]
  gi_wp2
  refine wpIn_rangeFunc_ownG rfl h1 (gf := 36) (lb := #[.pointer (some ⟨w.heap.size + 1, 0, none⟩)]) rfl trivial (enters_of Tryd.func36 (by kernel_rfl) rfl)
    (setAll_stops (n - 1) (by omega) (w.heap.size + 1) w.heap.size b W hW hb h0 _ (by simp) (by simp; omega) bN.cell (words_below hb hB0 hc) (tabs_below h0 hT hB0)) belowK_t (belowK_b (by simp; omega)) (Below.refl _ _) (fun _ => rfl)
    (fun pre W' => (∃ v, Boxed W' w.heap.size 22 v ∧ W'.ownsRow w.heap.size 23 1 v pre.length (pre.map fun x => Value.int .u16 (x : Nat)) ∧ True) ∧ Below w.heap.size w W')
    (fun _ _ _ => False)
    (OwnFrom.and (Own.from (holdsRow_own w.heap.size w.heap.size 22 23 1 (fun pre : List Nat => pre.length) (fun pre => pre.map fun x => Value.int .u16 (x : Nat)) (fun _ _ => True)) _) (ownFrom_below (Nat.le_refl _) (by simp; omega)))
    (fun _ _ _ _ _ hs _ _ => hs)
    ⟨⟨_, bO.alloc _, World.ownsRow_nil _ _ _ _, trivial⟩, hB0⟩
    (fun x => { tmps := #[.pointer (some ⟨b, 0, none⟩), undef, .slice none 0 0, .pointer (some ⟨w.heap.size, 0, none⟩), .func (.func 36) #[] #[.pointer (some ⟨w.heap.size + 1, 0, none⟩)], .int .u16 (x : Nat), .pointer (some ⟨b, 0, none⟩), .func (.func 36) #[] #[.pointer (some ⟨w.heap.size + 1, 0, none⟩)], .func (.func 36) #[] #[.pointer (some ⟨w.heap.size + 1, 0, none⟩)], .bool false, .func (.func 36) #[] #[.pointer (some ⟨w.heap.size + 1, 0, none⟩)], .int .u16 (x : Nat), undef, undef, undef, undef, undef], defers := [] }) ?assign ?body ?done ?stop
  case assign =>
    intro l x W K hK
    gi_wp2
    exact hK
  case body =>
    rintro l pre x W' ⟨⟨v, hv, hrow, -⟩, hB⟩ hlt
    have hc := hv.cell
    gi_wp2_with (gi_at_builtin; refine wpListIn_append_own _ rfl _ _ 22 rfl w.heap.size 23 i0 (.int .u16 0) 1 2 Tryd.underlying22 hi hz0 hz1 hz2 rfl (by decide) _ _ _ rfl (hrow.alloc _) ⟨W'.heap.size, 0, none⟩ 1 1 [.int .u16 (x : Nat)] rfl rfl (cell_one_new _ _ _) (by simp [Value.oneCell']) (by unfold maxLen; omega) (by omega) (by have := hB.size; simp; omega) ?_; intro v' w1 hown' hgrow _; obtain ⟨g', cap', rfl⟩ := ownsRow_succ hown'; obtain ⟨hv1, hv2, hr2, hk2, hb2⟩ := hv.appended (by decide) hrow hB.size (Nat.le_refl _) hown' hgrow; have hc1 := hv1.cell; have hf1 := hv1.frozen)
    exact ⟨hk2.from _, hb2, ⟨_, hv2, by simpa using hr2, trivial⟩, hB.trans hb2⟩
  case done =>
    rintro D ys W' hD rfl ⟨⟨v, hv, hrow, -⟩, hB⟩ hK
    have hc := hv.cell
    gi_wp2
    refine ⟨by simp, .inl ⟨_, _, rfl, run_takeDeferred hK, ?_⟩⟩
    exact ⟨_, results_tmp rfl _ _ _, v, rfl, ownsRow_putObj hrow _ hK rfl, hB.trans (belowK_b (w := w) (Nat.le_refl _) W' D _ _ (by simp at hD; omega) hK rfl rfl)⟩
  case stop =>
    rintro D c pre W _ _ h _
    exact h.elim
end
section
open Go Go.RowKit
theorem RepW.addOld {w0 : Fr} {G : Gh} {st : St} {w w' : World} (hw : RepW w0 G st w) (hB : Below w.heap.size w w') {g : Nat} {us : Array Value} (hg : w.heap.size ≤ g) (hc : ∀ o v, us[o]? = some v → w'.cell? ⟨g, o, none⟩ = some v) :
    G.le (G.addF g us) ∧ RepW w0 (G.addF g us) st w' := by
  have h2 := hw.below hB
  have hs := hw.sz
  have hle : G.le (G.addF g us) := ⟨fun b o v hf => by
    have := hw.newF hg o
    simp only [Gh.addF]
    split
    · rename_i e; subst e; rw [this] at hf; cases hf
    · exact hf, fun _ _ h => h⟩
  refine ⟨hle, fun b o v hf => ?_, h2.O, fun b cs hb => ?_, fun k m hk => ?_, h2.sz, h2.bel, fun b x hx => ⟨(h2.fr b x hx).1, fun o => ?_, (h2.fr b x hx).2.2⟩⟩
  · simp only [Gh.addF] at hf
    split at hf
    · rename_i e; subst e; exact hc o v hf
    · exact h2.F b o v hf
  · obtain ⟨k1, k2, k3, k4, k5⟩ := h2.box b cs hb
    refine ⟨k1, k2, fun o => ?_, k4, k5.mono hle⟩
    simp only [Gh.addF]
    rw [if_neg (by omega)]
    exact k3 o
  · obtain ⟨k1, k2, e, size, cap, cur, k3, k4, k5, k6, k7, k8⟩ := h2.own k m hk
    refine ⟨k1, k2, e, size, cap, cur, k3, k4, k5, k6, k7, fun o ho => ?_⟩
    simp only [Gh.addF]
    rw [if_neg (by omega)]
    exact k8 o ho
  · simp only [Gh.addF]
    rw [if_neg (by have := hw.frLt hx; omega)]
    exact (h2.fr b x hx).2.1 o
theorem u16s_flat {l : List Nat} : (u16s l).flatMap V.cells = u16s l := by
  induction l with
  | nil => rfl
  | cons x l ih => show [V.sc _] ++ (u16s l).flatMap V.cells = _; rw [ih]; rfl
set_option maxRecDepth 100000 in
theorem all08_v {st : St} {b : Nat} {W : Nat → Nat} {S : Nat → Bool} (I : SetI st b W S) : VCalls Tryd.prog 14 [ptrV b] st fun r s => (∃ tk, r = .sl tk (u16s (upW W 1024))) ∧ st = s := by
  intro w0 G w us hw hl hr
  obtain ⟨u, rfl⟩ : ∃ u, us = #[u] := by
    obtain ⟨l⟩ := us
    match l, hl with
    | [u], _ => exact ⟨u, rfl⟩
  have h0 := hr 0 _ u rfl rfl
  cases h0
  obtain ⟨hlt, _, _, _, hrb⟩ := hw.box b _ I.box
  have hbw : b < w.heap.size := Nat.lt_of_lt_of_le hlt hw.sz
  obtain ⟨vs, te, hh, hvl, hv1, hvr⟩ := hrb.row (by rw [mono_wc]; trivial)
  have hc : ∀ j, j < 1024 → w.cell? ⟨b, j, none⟩ = some (.int .u64 (W j : Nat)) := fun j hj => by
    rw [cell_of_row w b j vs te _ hh]
    have h2 := wc_at (W := W) (n := (cntS S 65536 : Nat)) hj
    have h3 := (List.getElem?_eq_some_iff.1 h2).1
    have h4 : vs[j]? = some vs[j] := Array.getElem?_eq_getElem (by omega)
    have h5 := hvr j _ _ h2 h4
    rw [h4]
    generalize vs[j] = q at h5
    cases h5; rfl
  refine (callsIn_wide.1 (all08_in 3 (Nat.le_refl _) b W I.wds.lt w hbw hw.tabs hc)).mono ?_
  rintro e w' ⟨v, rfl, hrow, hB⟩
  have hlen := hrow.1
  rcases hrow.2 with ⟨rfl, h0⟩ | ⟨g, cap, cur, rfl, hg, hgh, h1, h2, h3, h4⟩
  · have he : upW W 1024 = [] := List.length_eq_zero_iff.1 h0
    rw [he]
    exact ⟨_, .sl .nil [], st, G, rfl, ⟨⟨_, rfl⟩, rfl⟩, .nil _ (fun g k e => by cases e), .refl G, hw.below hB⟩
  · obtain ⟨L, hL⟩ : ∃ L, upW W 1024 = L := ⟨_, rfl⟩
    rw [hL] at h1 h4 hlen ⊢
    have hus : ∀ o v, (L.map fun x => Value.int .u16 (x : Nat)).toArray[o]? = some v → w'.cell? ⟨g, o, none⟩ = some v := fun o v hv => by
      rw [cell_of_row w' g o cur _ _ hgh]
      rw [← h4, List.getElem?_toArray, List.getElem?_take] at hv
      split at hv
      · simpa using hv
      · cases hv
    obtain ⟨hle, hw2⟩ := hw.addOld hB hg hus
    refine ⟨_, .sl .no (u16s L), st, _, rfl, ⟨⟨_, rfl⟩, rfl⟩, ?_, hle, hw2⟩
    have hu : (u16s L).length = L.length := u16s_len
    rw [← hu]
    refine row_rep (size := 1) (us := (L.map fun x => Value.int .u16 (x : Nat)).toArray) ?_ ?_ (fun o v hv => by simp only [Gh.addF, ↓reduceIte]; exact hv) (by rw [hu]; exact h1) h2 .no (by simp) (fun g k e => by cases e)
    · refine allLen_of fun d hd => ?_
      obtain ⟨x, _, rfl⟩ := List.mem_map.1 hd
      rfl
    · rw [u16s_flat]
      refine ⟨by simp [hu], fun o v hv => ?_, fun o c v hc2 hv => ?_⟩
      · simp only [List.getElem?_toArray, List.getElem?_map, Option.map_eq_some_iff] at hv
        obtain ⟨x, _, rfl⟩ := hv; rfl
      · simp only [List.getElem?_toArray, List.getElem?_map, Option.map_eq_some_iff] at hv
        obtain ⟨x, hx, rfl⟩ := hv
        rw [u16s_at hx] at hc2
        cases hc2
        exact .sc _ rfl
end
section
section
variable {α : Type}
theorem set_perm_cons {x y : α} : ∀ {L : List α} {j : Nat}, L[j]? = some y → (y :: L.set j x).Perm (x :: L)
  | [], j, h => by simp at h
  | z :: L, 0, h => by
    simp at h
    subst h
    exact List.Perm.swap _ _ _
  | z :: L, j + 1, h => by
    have ih := set_perm_cons (x := x) (L := L) (j := j) (by simpa using h)
    simp only [List.set_cons_succ]
    exact (List.Perm.swap _ _ _).trans ((ih.cons z).trans (List.Perm.swap _ _ _))
theorem set2_perm {L : List α} {i j : Nat} {x y : α} (hi : L[i]? = some x) (hj : L[j]? = some y) : ((L.set i y).set j x).Perm L := by
  induction L generalizing i j with
  | nil => simp at hi
  | cons z L ih =>
    cases i with
    | zero =>
      simp at hi
      subst hi
      cases j with
      | zero => simp at hj; subst hj; simp
      | succ j =>
        simp only [List.set_cons_zero, List.set_cons_succ]
        exact set_perm_cons (by simpa using hj)
    | succ i =>
      cases j with
      | zero =>
        simp at hj
        subst hj
        simp only [List.set_cons_zero, List.set_cons_succ]
        exact set_perm_cons (by simpa using hi)
      | succ j =>
        simp only [List.set_cons_succ]
        exact (ih (by simpa using hi) (by simpa using hj)).cons z
structure Ord' (lt : α → α → Bool) : Prop where
  asymm : ∀ {x y}, lt x y = true → lt y x = false
  trans : ∀ {x y z}, lt y x = false → lt z y = false → lt z x = false
theorem Ord'.irr {lt : α → α → Bool} (h : Ord' lt) (x : α) : lt x x = false := by
  cases e : lt x x with
  | false => rfl
  | true => have := h.asymm e; rw [e] at this; cases this
end
section
variable {α : Type} [Inhabited α]
theorem bang_get {L : List α} {i : Nat} (h : i < L.length) : L[i]? = some L[i]! := by
  rw [List.getElem?_eq_getElem h, getElem!_pos L i h]
theorem ext_bang {L M : List α} (h : L.length = M.length) (he : ∀ i, i < L.length → L[i]! = M[i]!) : L = M := by
  refine List.ext_getElem h fun i h1 h2 => ?_
  have := he i h1
  rwa [getElem!_pos L i h1, getElem!_pos M i h2] at this
def exch (L : List α) (i j : Nat) : List α := (L.set i L[j]!).set j L[i]!
theorem exch_len {L : List α} {i j : Nat} : (exch L i j).length = L.length := by simp [exch]
theorem exch_get {L : List α} {i j : Nat} (hi : i < L.length) (hj : j < L.length) (k : Nat) : (exch L i j)[k]! = if k = j then L[i]! else if k = i then L[j]! else L[k]! := by
  by_cases hk : k < L.length
  · rw [getElem!_pos (exch L i j) k (by rw [exch_len]; exact hk)]
    have e : (exch L i j)[k]'(by rw [exch_len]; exact hk) = if j = k then L[i]! else if i = k then L[j]! else L[k] := by
      unfold exch
      rw [List.getElem_set, List.getElem_set]
    rw [e, getElem!_pos L k hk]
    by_cases e1 : j = k
    · rw [if_pos e1, if_pos e1.symm]
    · rw [if_neg e1]
      by_cases e2 : i = k
      · rw [if_pos e2, if_neg (show ¬ k = j from fun h => e1 h.symm), if_pos e2.symm]
      · rw [if_neg e2, if_neg (show ¬ k = j from fun h => e1 h.symm), if_neg (show ¬ k = i from fun h => e2 h.symm)]
  · rw [if_neg (by omega), if_neg (by omega), getElem!_neg (exch L i j) k (by rw [exch_len]; exact hk), getElem!_neg L k hk]
theorem exch_perm {L : List α} {i j : Nat} (hi : i < L.length) (hj : j < L.length) : (exch L i j).Perm L := set2_perm (bang_get hi) (bang_get hj)
structure Mix (a b : Nat) (L M : List α) : Prop where
  perm : M.Perm L
  out : ∀ k, k < a ∨ b ≤ k → M[k]! = L[k]!
theorem Mix.len {a b : Nat} {L M : List α} (h : Mix a b L M) : M.length = L.length := h.perm.length_eq
theorem Mix.refl {a b : Nat} {L : List α} : Mix a b L L := ⟨.refl _, fun _ _ => rfl⟩
theorem Mix.trans {a b : Nat} {L M N : List α} (h : Mix a b L M) (k : Mix a b M N) : Mix a b L N := ⟨k.perm.trans h.perm, fun i hi => (k.out i hi).trans (h.out i hi)⟩
theorem Mix.wide {a b a' b' : Nat} {L M : List α} (h : Mix a b L M) (h1 : a' ≤ a) (h2 : b ≤ b') : Mix a' b' L M := ⟨h.perm, fun k hk => h.out k (by omega)⟩
theorem Mix.exch {a b i j : Nat} {L M : List α} (h : Mix a b L M) (h1 : a ≤ i) (h2 : i < b) (h3 : a ≤ j) (h4 : j < b) (hb : b ≤ L.length) : Mix a b L (exch M i j) := by
  have hl := h.len
  refine ⟨(exch_perm (by omega) (by omega)).trans h.perm, fun k hk => ?_⟩
  rw [exch_get (by omega) (by omega), if_neg (by omega), if_neg (by omega)]
  exact h.out k hk
theorem Mix.mid {a b : Nat} {L M : List α} (h : Mix a b L M) (hab : a ≤ b) (hb : b ≤ L.length) : ((M.drop a).take (b - a)).Perm ((L.drop a).take (b - a)) := by
  have hl := h.len
  have split : ∀ X : List α, X = X.take a ++ ((X.drop a).take (b - a) ++ X.drop b) := fun X => by
    have h1 : (X.drop a).take (b - a) ++ X.drop b = X.drop a := by
      have : X.drop b = (X.drop a).drop (b - a) := by rw [List.drop_drop]; congr 1; omega
      rw [this, List.take_append_drop]
    rw [h1, List.take_append_drop]
  have h1 : M.take a = L.take a := by
    refine ext_bang (by simp [hl]) fun i hi => ?_
    simp at hi
    have := h.out i (by omega)
    rw [getElem!_pos (M.take a) i (by simp; omega), getElem!_pos (L.take a) i (by simp; omega)]
    rw [getElem!_pos M i (by omega), getElem!_pos L i (by omega)] at this
    simpa using this
  have h2 : M.drop b = L.drop b := by
    refine ext_bang (by simp [hl]) fun i hi => ?_
    simp at hi
    have := h.out (b + i) (by omega)
    rw [getElem!_pos (M.drop b) i (by simp; omega), getElem!_pos (L.drop b) i (by simp; omega)]
    rw [getElem!_pos M (b + i) (by omega), getElem!_pos L (b + i) (by omega)] at this
    simpa using this
  have hp := h.perm
  rw [split M, split L, h1, h2] at hp
  exact (List.perm_append_right_iff _).1 ((List.perm_append_left_iff _).1 hp)
theorem Mix.all {a b : Nat} {L M : List α} (h : Mix a b L M) (hb : b ≤ L.length) {Q : α → Prop} (hq : ∀ k, a ≤ k → k < b → Q L[k]!) : ∀ k, a ≤ k → k < b → Q M[k]! := fun k h1 h2 => by
  have hl := h.len
  have hp := h.mid (by omega) hb
  have hm : M[k]! ∈ (M.drop a).take (b - a) := by
    rw [getElem!_pos M k (by omega)]
    refine List.mem_iff_getElem.2 ⟨k - a, by simp; omega, ?_⟩
    simp only [List.getElem_take, List.getElem_drop]
    congr 1; omega
  have := hp.mem_iff.1 hm
  obtain ⟨i, hi, he⟩ := List.mem_iff_getElem.1 this
  simp at hi
  simp only [List.getElem_take, List.getElem_drop] at he
  rw [← he, ← getElem!_pos L (a + i) (by omega)]
  exact hq (a + i) (by omega) (by omega)
def Srt (lt : α → α → Bool) (a b : Nat) (L : List α) : Prop := ∀ i j, a ≤ i → i < j → j < b → lt L[j]! L[i]! = false
variable {lt : α → α → Bool}
theorem Srt.one {a b : Nat} {L : List α} (h : b ≤ a + 1) : Srt lt a b L := fun i j h1 h2 h3 => by omega
structure Ins (lt : α → α → Bool) (a i j : Nat) (L : List α) : Prop where
  ord : ∀ p q, a ≤ p → p < q → q ≤ i → p ≠ j → q ≠ j → lt L[q]! L[p]! = false
  up : ∀ q, j < q → q ≤ i → lt L[q]! L[j]! = false
theorem Ins.start {a i : Nat} {L : List α} (h : Srt lt a i L) : Ins lt a i i L := ⟨fun p q h1 h2 h3 h4 h5 => h p q h1 h2 (by omega), fun q h1 h2 => by omega⟩
theorem Ins.done (O : Ord' lt) {a i j : Nat} {L : List α} (h : Ins lt a i j L) (hj : j ≤ i) (hs : j = a ∨ (a < j ∧ lt L[j]! L[j - 1]! = false)) : Srt lt a (i + 1) L := fun p q h1 h2 h3 => by
  by_cases e1 : q = j
  · subst e1
    rcases hs with e | ⟨h4, h5⟩
    · omega
    · by_cases e2 : p = q - 1
      · subst e2; exact h5
      · exact O.trans (h.ord p (q - 1) h1 (by omega) (by omega) (by omega) (by omega)) h5
  · by_cases e2 : p = j
    · subst e2; exact h.up q h2 (by omega)
    · exact h.ord p q h1 h2 (by omega) e2 e1
theorem Ins.step (O : Ord' lt) {a i j : Nat} {L : List α} (h : Ins lt a i j L) (hj : a < j) (hji : j ≤ i) (hi : i < L.length) (hl : lt L[j]! L[j - 1]! = true) : Ins lt a i (j - 1) (exch L j (j - 1)) := by
  have g := fun k => exch_get (L := L) (i := j) (j := j - 1) (by omega) (by omega) k
  refine ⟨fun p q h1 h2 h3 h4 h5 => ?_, fun q h1 h2 => ?_⟩
  · rw [g q, g p, if_neg h5, if_neg h4]
    by_cases e1 : q = j
    · rw [if_pos e1, if_neg (by omega)]
      exact h.ord p (j - 1) h1 (by omega) (by omega) (by omega) (by omega)
    · rw [if_neg e1]
      by_cases e2 : p = j
      · rw [if_pos e2]; exact h.ord (j - 1) q (by omega) (by omega) h3 (by omega) e1
      · rw [if_neg e2]; exact h.ord p q h1 h2 h3 e2 e1
  · rw [g q, g (j - 1), if_neg (by omega), if_pos rfl]
    by_cases e1 : q = j
    · rw [if_pos e1]; exact O.asymm hl
    · rw [if_neg e1]; exact h.up q (by omega) h2
def kid (r c : Nat) : Prop := c = 2 * r + 1 ∨ c = 2 * r + 2
def Heap (lt : α → α → Bool) (f lo hi : Nat) (L : List α) : Prop := ∀ r c, lo ≤ r → kid r c → c < hi → lt L[f + r]! L[f + c]! = false
structure Sift (lt : α → α → Bool) (f lo hi root : Nat) (L : List α) : Prop where
  own : ∀ r c, lo ≤ r → r ≠ root → kid r c → c < hi → lt L[f + r]! L[f + c]! = false
  up : ∀ p c, lo ≤ p → kid p root → kid root c → c < hi → lt L[f + p]! L[f + c]! = false
theorem Sift.start {f lo hi : Nat} {L : List α} (h : Heap lt f (lo + 1) hi L) : Sift lt f lo hi lo L :=
  ⟨fun r c h1 h2 h3 h4 => h r c (by omega) h3 h4, fun p c h1 h2 h3 h4 => by rcases h2 with h2 | h2 <;> omega⟩
theorem Sift.done {f lo hi root : Nat} {L : List α} (h : Sift lt f lo hi root L) (hr : ∀ c, kid root c → c < hi → lt L[f + root]! L[f + c]! = false) : Heap lt f lo hi L := fun r c h1 h2 h3 => by
  by_cases e : r = root
  · subst e; exact hr c h2 h3
  · exact h.own r c h1 e h2 h3
theorem Sift.step (O : Ord' lt) {f lo hi root ch : Nat} {L : List α} (h : Sift lt f lo hi root L) (hk : kid root ch) (hc : ch < hi) (hlo : lo ≤ root) (hL : f + hi ≤ L.length) (hbig : ∀ c, kid root c → c < hi → lt L[f + ch]! L[f + c]! = false) (hl : lt L[f + root]! L[f + ch]! = true) :
    Sift lt f lo hi ch (exch L (f + root) (f + ch)) := by
  have hrc : root < ch := by rcases hk with h | h <;> omega
  have g := fun k => exch_get (L := L) (i := f + root) (j := f + ch) (by omega) (by omega) k
  refine ⟨fun r c h1 h2 h3 h4 => ?_, fun p c h1 h2 h3 h4 => ?_⟩
  · have hrc' : r < c := by rcases h3 with h | h <;> omega
    rw [g (f + r), g (f + c), if_neg (by omega)]
    by_cases e1 : r = root
    · subst e1
      rw [if_pos rfl]
      by_cases e2 : c = ch
      · subst e2; rw [if_pos rfl]; exact O.asymm hl
      · rw [if_neg (by omega), if_neg (by omega)]; exact hbig c h3 h4
    · rw [if_neg (by omega)]
      have e2 : c ≠ ch := fun e => by subst e; rcases hk with h | h <;> rcases h3 with h' | h' <;> omega
      rw [if_neg (by omega)]
      by_cases e3 : c = root
      · subst e3
        rw [if_pos rfl]
        exact h.up r ch h1 h3 hk hc
      · rw [if_neg (by omega)]; exact h.own r c h1 e1 h3 h4
  · have e : p = root := by rcases hk with h | h <;> rcases h2 with h' | h' <;> omega
    have h5 : ch < c := by rcases h3 with h | h <;> omega
    subst e
    rw [g (f + p), g (f + c), if_neg (by omega), if_pos rfl, if_neg (by omega), if_neg (by omega)]
    exact h.own ch c (by omega) (by omega) h3 h4
theorem Heap.top (O : Ord' lt) {f hi : Nat} {L : List α} (h : Heap lt f 0 hi L) : ∀ k, k < hi → lt L[f]! L[f + k]! = false := by
  intro k
  induction k using Nat.strongRecOn with
  | _ k ih =>
    intro hk
    by_cases e : k = 0
    · subst e; exact O.irr _
    · have hp : kid ((k - 1) / 2) k := by unfold kid; omega
      have h1 := ih ((k - 1) / 2) (by omega) (by omega)
      exact O.trans (h _ _ (by omega) hp hk) h1
structure Fence (lt : α → α → Bool) (a b x y : Nat) (L : List α) : Prop where
  lo : ∀ i j, a ≤ i → i < x → i < j → j < b → lt L[j]! L[i]! = false
  hi : ∀ i j, a ≤ j → j < i → y ≤ i → i < b → lt L[i]! L[j]! = false
theorem Fence.nil {a b : Nat} {L : List α} : Fence lt a b a b L := ⟨fun i j h1 h2 => by omega, fun i j h1 h2 h3 h4 => by omega⟩
theorem Fence.mix {a b x y : Nat} {L M : List α} (h : Fence lt a b x y L) (hm : Mix x y L M) (hax : a ≤ x) (hyb : y ≤ b) (hb : b ≤ L.length) : Fence lt a b x y M := by
  refine ⟨fun i j h1 h2 h3 h4 => ?_, fun i j h1 h2 h3 h4 => ?_⟩
  · rw [hm.out i (by omega)]
    by_cases hj : j < x ∨ y ≤ j
    · rw [hm.out j hj]; exact h.lo i j h1 h2 h3 h4
    · exact hm.all (by omega) (Q := fun v => lt v L[i]! = false) (fun k k1 k2 => h.lo i k h1 h2 (by omega) (by omega)) j (by omega) (by omega)
  · rw [hm.out i (by omega)]
    by_cases hj : j < x ∨ y ≤ j
    · rw [hm.out j hj]; exact h.hi i j h1 h2 h3 h4
    · exact hm.all (by omega) (Q := fun v => lt L[i]! v = false) (fun k k1 k2 => h.hi i k (by omega) (by omega) h3 h4) j (by omega) (by omega)
theorem Fence.done {a b x y : Nat} {L : List α} (h : Fence lt a b x y L) (hs : Srt lt x y L) : Srt lt a b L := fun i j h1 h2 h3 => by
  by_cases e1 : i < x
  · exact h.lo i j h1 e1 h2 h3
  · by_cases e2 : y ≤ j
    · exact h.hi j i h1 h2 e2 h3
    · exact hs i j (by omega) h2 (by omega)
theorem Fence.left (O : Ord' lt) {a b x y m : Nat} {L : List α} (h : Fence lt a b x y L) (hax : a ≤ x) (hyb : y ≤ b) (hxm : x ≤ m) (hmy : m < y) (h1 : ∀ k, x ≤ k → k < m → lt L[m]! L[k]! = false) (h2 : ∀ k, m < k → k < y → lt L[k]! L[m]! = false) (hs : Srt lt x m L) : Fence lt a b (m + 1) y L := by
  refine ⟨fun i j k1 k2 k3 k4 => ?_, h.hi⟩
  by_cases e1 : i < x
  · exact h.lo i j k1 e1 k3 k4
  · by_cases e2 : y ≤ j
    · exact h.hi j i k1 k3 e2 k4
    · by_cases e3 : i = m
      · subst e3; exact h2 j k3 (by omega)
      · by_cases e4 : j < m
        · exact hs i j (by omega) k3 e4
        · by_cases e5 : j = m
          · subst e5; exact h1 i (by omega) k3
          · exact O.trans (h1 i (by omega) (by omega)) (h2 j (by omega) (by omega))
theorem Fence.right (O : Ord' lt) {a b x y m : Nat} {L : List α} (h : Fence lt a b x y L) (hax : a ≤ x) (hyb : y ≤ b) (hxm : x ≤ m) (hmy : m < y) (h1 : ∀ k, x ≤ k → k < m → lt L[m]! L[k]! = false) (h2 : ∀ k, m < k → k < y → lt L[k]! L[m]! = false) (hs : Srt lt (m + 1) y L) : Fence lt a b x m L := by
  refine ⟨h.lo, fun i j k1 k2 k3 k4 => ?_⟩
  by_cases e1 : y ≤ i
  · exact h.hi i j k1 k2 e1 k4
  · by_cases e2 : j < x
    · exact h.lo j i k1 e2 k2 k4
    · by_cases e3 : i = m
      · subst e3; exact h1 j (by omega) k2
      · by_cases e4 : m < j
        · exact hs j i (by omega) k2 (by omega)
        · by_cases e5 : j = m
          · subst e5; exact h2 i (by omega) (by omega)
          · exact O.trans (h1 j (by omega) (by omega)) (h2 i (by omega) (by omega))
theorem Fence.least {a b x y m : Nat} {L : List α} (h : Fence lt a b x y L) (hax : a ≤ x) (hyb : y ≤ b) (hxm : x ≤ m) (hmy : m ≤ y) (h1 : ∀ k j, x ≤ k → k < m → x ≤ j → j < y → lt L[j]! L[k]! = false) : Fence lt a b m y L := by
  refine ⟨fun i j k1 k2 k3 k4 => ?_, h.hi⟩
  by_cases e1 : i < x
  · exact h.lo i j k1 e1 k3 k4
  · by_cases e2 : y ≤ j
    · exact h.hi j i k1 k3 e2 k4
    · exact h1 i j (by omega) k2 (by omega) (by omega)
def LB (lt : α → α → Bool) (a b : Nat) (L : List α) : Prop := 0 < a → ∀ k, a ≤ k → k < b → lt L[k]! L[a - 1]! = false
theorem LB.mix {a b : Nat} {L M : List α} (h : LB lt a b L) (hm : Mix a b L M) (hb : b ≤ L.length) : LB lt a b M := fun h0 => by
  rw [hm.out (a - 1) (by omega)]
  exact hm.all hb (Q := fun v => lt v L[a - 1]! = false) (h h0)
theorem Fence.lb {a b x y : Nat} {L : List α} (h : Fence lt a b x y L) (hl : LB lt a b L) (hax : a ≤ x) (hyb : y ≤ b) : LB lt x y L := fun h0 k h1 h2 => by
  by_cases e : x = a
  · subst e; exact hl h0 k h1 (by omega)
  · exact h.lo (x - 1) k (by omega) (by omega) (by omega) (by omega)
theorem Srt.pw {L : List α} (h : Srt lt 0 L.length L) : L.Pairwise (fun x y => lt y x = false) := by
  rw [List.pairwise_iff_getElem]
  intro i j hi hj hij
  have := h i j (by omega) hij hj
  rwa [getElem!_pos L j hj, getElem!_pos L i hi] at this
end
end
section
open Go
def OIns (less : FuncId) : FC := ⟨49, .seq (.reg [⟨some 8, .mv (.t 1), none, []⟩, ⟨some 9, .bin .add (.t 8) (.c (.sc (.int .i64 1))), none, []⟩, ⟨some 6, .mv (.t 9), none, []⟩]) (.blk 0 (.loop (.seq (.seq (.reg [⟨some 10, .mv (.t 6), none, []⟩, ⟨some 11, .mv (.t 2), none, []⟩, ⟨some 12, .bin .lss (.t 10) (.t 11), none, []⟩]) (.cond (.t 12) .skip (.exit 0))) (.seq (.blk 1 (.seq (.reg [⟨some 15, .mv (.t 6), none, []⟩, ⟨some 7, .mv (.t 15), none, []⟩]) (.blk 2 (.loop (.seq (.seq (.reg [⟨some 16, .mv (.t 7), none, []⟩, ⟨some 17, .mv (.t 1), none, []⟩, ⟨some 18, .bin .gtr (.t 16) (.t 17), none, []⟩, ⟨some 19, .mv (.t 18), none, []⟩, ⟨some 20, .mv (.t 0), some (19, true), []⟩, ⟨some 21, .mv (.t 7), some (19, true), []⟩, ⟨some 22, .ix 1 (.t 20) (.t 21), some (19, true), []⟩, ⟨some 23, .load none (.t 22), some (19, true), []⟩, ⟨some 24, .mv (.t 0), some (19, true), []⟩, ⟨some 25, .mv (.t 7), some (19, true), []⟩, ⟨some 26, .bin .sub (.t 25) (.c (.sc (.int .i64 1))), some (19, true), []⟩, ⟨some 27, .ix 1 (.t 24) (.t 26), some (19, true), []⟩, ⟨some 28, .load none (.t 27), some (19, true), []⟩, ⟨some 29, .call less [.t 23, .t 28], some (19, true), []⟩, ⟨some 30, .pick (.t 19) (.t 29) (.c (.sc (.bool false))), none, []⟩]) (.cond (.t 30) .skip (.exit 2))) (.seq (.blk 3 (.reg [⟨some 33, .mv (.t 0), none, []⟩, ⟨some 34, .mv (.t 7), none, []⟩, ⟨some 35, .mv (.t 0), none, []⟩, ⟨some 36, .mv (.t 7), none, []⟩, ⟨some 37, .bin .sub (.t 36) (.c (.sc (.int .i64 1))), none, []⟩, ⟨some 38, .mv (.t 0), none, []⟩, ⟨some 39, .mv (.t 7), none, []⟩, ⟨some 40, .bin .sub (.t 39) (.c (.sc (.int .i64 1))), none, []⟩, ⟨some 41, .ix 1 (.t 38) (.t 40), none, []⟩, ⟨some 42, .load none (.t 41), none, []⟩, ⟨some 43, .mv (.t 0), none, []⟩, ⟨some 44, .mv (.t 7), none, []⟩, ⟨some 45, .ix 1 (.t 43) (.t 44), none, []⟩, ⟨some 46, .load none (.t 45), none, []⟩, ⟨some 47, .ix 1 (.t 33) (.t 34), none, []⟩, ⟨none, .store 1 (.t 47) (.t 42), none, []⟩, ⟨some 48, .ix 1 (.t 35) (.t 37), none, []⟩, ⟨none, .store 1 (.t 48) (.t 46), none, []⟩])) (.reg [⟨some 31, .mv (.t 7), none, []⟩, ⟨some 32, .bin .sub (.t 31) (.c (.sc (.int .i64 1))), none, []⟩, ⟨some 7, .mv (.t 32), none, []⟩]))))))) (.reg [⟨some 13, .mv (.t 6), none, []⟩, ⟨some 14, .bin .add (.t 13) (.c (.sc (.int .i64 1))), none, []⟩, ⟨some 6, .mv (.t 14), none, []⟩]))))), []⟩
def OSift (less : FuncId) : FC := ⟨76, .seq (.reg [⟨some 10, .mv (.t 1), none, []⟩, ⟨some 8, .mv (.t 10), none, []⟩]) (.blk 0 (.loop (.blk 1 (.seq (.reg [⟨some 11, .mv (.t 8), none, []⟩, ⟨some 12, .bin .mul (.c (.sc (.int .i64 2))) (.t 11), none, []⟩, ⟨some 13, .bin .add (.t 12) (.c (.sc (.int .i64 1))), none, []⟩, ⟨some 9, .mv (.t 13), none, []⟩]) (.seq (.seq (.reg [⟨some 14, .mv (.t 9), none, []⟩, ⟨some 15, .mv (.t 2), none, []⟩, ⟨some 16, .bin .geq (.t 14) (.t 15), none, []⟩]) (.cond (.t 16) (.exit 0) .skip)) (.seq (.seq (.reg [⟨some 17, .mv (.t 9), none, []⟩, ⟨some 18, .bin .add (.t 17) (.c (.sc (.int .i64 1))), none, []⟩, ⟨some 19, .mv (.t 2), none, []⟩, ⟨some 20, .bin .lss (.t 18) (.t 19), none, []⟩, ⟨some 21, .mv (.t 20), none, []⟩, ⟨some 22, .mv (.t 0), some (21, true), []⟩, ⟨some 23, .mv (.t 3), some (21, true), []⟩, ⟨some 24, .mv (.t 9), some (21, true), []⟩, ⟨some 25, .bin .add (.t 23) (.t 24), some (21, true), []⟩, ⟨some 26, .ix 1 (.t 22) (.t 25), some (21, true), []⟩, ⟨some 27, .load none (.t 26), some (21, true), []⟩, ⟨some 28, .mv (.t 0), some (21, true), []⟩, ⟨some 29, .mv (.t 3), some (21, true), []⟩, ⟨some 30, .mv (.t 9), some (21, true), []⟩, ⟨some 31, .bin .add (.t 29) (.t 30), some (21, true), []⟩, ⟨some 32, .bin .add (.t 31) (.c (.sc (.int .i64 1))), some (21, true), []⟩, ⟨some 33, .ix 1 (.t 28) (.t 32), some (21, true), []⟩, ⟨some 34, .load none (.t 33), some (21, true), []⟩, ⟨some 35, .call less [.t 27, .t 34], some (21, true), []⟩, ⟨some 36, .pick (.t 21) (.t 35) (.c (.sc (.bool false))), none, []⟩]) (.cond (.t 36) (.reg [⟨some 37, .mv (.t 9), none, []⟩, ⟨some 38, .bin .add (.t 37) (.c (.sc (.int .i64 1))), none, []⟩, ⟨some 9, .mv (.t 38), none, []⟩]) .skip)) (.seq (.seq (.reg [⟨some 39, .mv (.t 0), none, []⟩, ⟨some 40, .mv (.t 3), none, []⟩, ⟨some 41, .mv (.t 8), none, []⟩, ⟨some 42, .bin .add (.t 40) (.t 41), none, []⟩, ⟨some 43, .ix 1 (.t 39) (.t 42), none, []⟩, ⟨some 44, .load none (.t 43), none, []⟩, ⟨some 45, .mv (.t 0), none, []⟩, ⟨some 46, .mv (.t 3), none, []⟩, ⟨some 47, .mv (.t 9), none, []⟩, ⟨some 48, .bin .add (.t 46) (.t 47), none, []⟩, ⟨some 49, .ix 1 (.t 45) (.t 48), none, []⟩, ⟨some 50, .load none (.t 49), none, []⟩, ⟨some 51, .call less [.t 44, .t 50], none, []⟩, ⟨some 52, .un .not (.t 51), none, []⟩]) (.cond (.t 52) .ret .skip)) (.seq (.reg [⟨some 53, .mv (.t 0), none, []⟩, ⟨some 54, .mv (.t 3), none, []⟩, ⟨some 55, .mv (.t 8), none, []⟩, ⟨some 56, .bin .add (.t 54) (.t 55), none, []⟩, ⟨some 57, .mv (.t 0), none, []⟩, ⟨some 58, .mv (.t 3), none, []⟩, ⟨some 59, .mv (.t 9), none, []⟩, ⟨some 60, .bin .add (.t 58) (.t 59), none, []⟩, ⟨some 61, .mv (.t 0), none, []⟩, ⟨some 62, .mv (.t 3), none, []⟩, ⟨some 63, .mv (.t 9), none, []⟩, ⟨some 64, .bin .add (.t 62) (.t 63), none, []⟩, ⟨some 65, .ix 1 (.t 61) (.t 64), none, []⟩, ⟨some 66, .load none (.t 65), none, []⟩, ⟨some 67, .mv (.t 0), none, []⟩, ⟨some 68, .mv (.t 3), none, []⟩, ⟨some 69, .mv (.t 8), none, []⟩, ⟨some 70, .bin .add (.t 68) (.t 69), none, []⟩, ⟨some 71, .ix 1 (.t 67) (.t 70), none, []⟩, ⟨some 72, .load none (.t 71), none, []⟩, ⟨some 73, .ix 1 (.t 53) (.t 56), none, []⟩, ⟨none, .store 1 (.t 73) (.t 66), none, []⟩, ⟨some 74, .ix 1 (.t 57) (.t 60), none, []⟩, ⟨none, .store 1 (.t 74) (.t 72), none, []⟩]) (.reg [⟨some 75, .mv (.t 9), none, []⟩, ⟨some 8, .mv (.t 75), none, []⟩]))))))))), []⟩
def OHeap (fsift : FuncId) : FC := ⟨56, .seq (.reg [⟨some 11, .mv (.t 1), none, []⟩, ⟨some 6, .mv (.t 11), none, []⟩]) (.seq (.reg [⟨some 7, .mv (.c (.sc (.int .i64 0))), none, []⟩]) (.seq (.reg [⟨some 12, .mv (.t 2), none, []⟩, ⟨some 13, .mv (.t 1), none, []⟩, ⟨some 14, .bin .sub (.t 12) (.t 13), none, []⟩, ⟨some 8, .mv (.t 14), none, []⟩]) (.seq (.seq (.reg [⟨some 15, .mv (.t 8), none, []⟩, ⟨some 16, .bin .sub (.t 15) (.c (.sc (.int .i64 1))), none, []⟩, ⟨some 17, .bin .quo (.t 16) (.c (.sc (.int .i64 2))), none, []⟩, ⟨some 9, .mv (.t 17), none, []⟩]) (.blk 0 (.loop (.seq (.seq (.reg [⟨some 18, .mv (.t 9), none, []⟩, ⟨some 19, .bin .geq (.t 18) (.c (.sc (.int .i64 0))), none, []⟩]) (.cond (.t 19) .skip (.exit 0))) (.seq (.blk 1 (.reg [⟨some 22, .mv (.t 0), none, []⟩, ⟨some 23, .mv (.t 9), none, []⟩, ⟨some 24, .mv (.t 8), none, []⟩, ⟨some 25, .mv (.t 6), none, []⟩, ⟨some 26, .call fsift [.t 22, .t 23, .t 24, .t 25], none, []⟩])) (.reg [⟨some 20, .mv (.t 9), none, []⟩, ⟨some 21, .bin .sub (.t 20) (.c (.sc (.int .i64 1))), none, []⟩, ⟨some 9, .mv (.t 21), none, []⟩])))))) (.seq (.reg [⟨some 27, .mv (.t 8), none, []⟩, ⟨some 28, .bin .sub (.t 27) (.c (.sc (.int .i64 1))), none, []⟩, ⟨some 10, .mv (.t 28), none, []⟩]) (.blk 2 (.loop (.seq (.seq (.reg [⟨some 29, .mv (.t 10), none, []⟩, ⟨some 30, .bin .geq (.t 29) (.c (.sc (.int .i64 0))), none, []⟩]) (.cond (.t 30) .skip (.exit 2))) (.seq (.blk 3 (.seq (.reg [⟨some 33, .mv (.t 0), none, []⟩, ⟨some 34, .mv (.t 6), none, []⟩, ⟨some 35, .mv (.t 0), none, []⟩, ⟨some 36, .mv (.t 6), none, []⟩, ⟨some 37, .mv (.t 10), none, []⟩, ⟨some 38, .bin .add (.t 36) (.t 37), none, []⟩, ⟨some 39, .mv (.t 0), none, []⟩, ⟨some 40, .mv (.t 6), none, []⟩, ⟨some 41, .mv (.t 10), none, []⟩, ⟨some 42, .bin .add (.t 40) (.t 41), none, []⟩, ⟨some 43, .ix 1 (.t 39) (.t 42), none, []⟩, ⟨some 44, .load none (.t 43), none, []⟩, ⟨some 45, .mv (.t 0), none, []⟩, ⟨some 46, .mv (.t 6), none, []⟩, ⟨some 47, .ix 1 (.t 45) (.t 46), none, []⟩, ⟨some 48, .load none (.t 47), none, []⟩, ⟨some 49, .ix 1 (.t 33) (.t 34), none, []⟩, ⟨none, .store 1 (.t 49) (.t 44), none, []⟩, ⟨some 50, .ix 1 (.t 35) (.t 38), none, []⟩, ⟨none, .store 1 (.t 50) (.t 48), none, []⟩]) (.reg [⟨some 51, .mv (.t 0), none, []⟩, ⟨some 52, .mv (.t 7), none, []⟩, ⟨some 53, .mv (.t 10), none, []⟩, ⟨some 54, .mv (.t 6), none, []⟩, ⟨some 55, .call fsift [.t 51, .t 52, .t 53, .t 54], none, []⟩]))) (.reg [⟨some 31, .mv (.t 10), none, []⟩, ⟨some 32, .bin .sub (.t 31) (.c (.sc (.int .i64 1))), none, []⟩, ⟨some 10, .mv (.t 32), none, []⟩]))))))))), []⟩
def OBreak (fpow fnext : FuncId) : FC := ⟨65, .seq (.reg [⟨some 11, .mv (.t 2), none, []⟩, ⟨some 12, .mv (.t 1), none, []⟩, ⟨some 13, .bin .sub (.t 11) (.t 12), none, []⟩, ⟨some 6, .mv (.t 13), none, []⟩]) (.seq (.reg [⟨some 14, .mv (.t 6), none, []⟩, ⟨some 15, .bin .geq (.t 14) (.c (.sc (.int .i64 8))), none, []⟩]) (.cond (.t 15) (.seq (.reg [⟨some 16, .mv (.t 6), none, []⟩, ⟨some 17, .conv .u64 (.t 16), none, []⟩, ⟨some 7, .alc [.sc (.int .u64 0)], none, []⟩, ⟨none, .store 1 (.t 7) (.t 17), none, []⟩]) (.seq (.reg [⟨some 18, .mv (.t 6), none, []⟩, ⟨some 19, .call fpow [.t 18], none, []⟩, ⟨some 8, .mv (.t 19), none, []⟩]) (.seq (.reg [⟨some 20, .mv (.t 1), none, []⟩, ⟨some 21, .mv (.t 6), none, []⟩, ⟨some 22, .bin .quo (.t 21) (.c (.sc (.int .i64 4))), none, []⟩, ⟨some 23, .bin .mul (.t 22) (.c (.sc (.int .i64 2))), none, []⟩, ⟨some 24, .bin .add (.t 20) (.t 23), none, []⟩, ⟨some 25, .bin .sub (.t 24) (.c (.sc (.int .i64 1))), none, []⟩, ⟨some 9, .mv (.t 25), none, []⟩]) (.blk 0 (.loop (.seq (.seq (.reg [⟨some 26, .mv (.t 9), none, []⟩, ⟨some 27, .mv (.t 1), none, []⟩, ⟨some 28, .mv (.t 6), none, []⟩, ⟨some 29, .bin .quo (.t 28) (.c (.sc (.int .i64 4))), none, []⟩, ⟨some 30, .bin .mul (.t 29) (.c (.sc (.int .i64 2))), none, []⟩, ⟨some 31, .bin .add (.t 27) (.t 30), none, []⟩, ⟨some 32, .bin .add (.t 31) (.c (.sc (.int .i64 1))), none, []⟩, ⟨some 33, .bin .leq (.t 26) (.t 32), none, []⟩]) (.cond (.t 33) .skip (.exit 0))) (.seq (.blk 1 (.seq (.reg [⟨some 36, .call fnext [.t 7], none, []⟩, ⟨some 37, .mv (.t 8), none, []⟩, ⟨some 38, .bin .sub (.t 37) (.c (.sc (.int .u64 1))), none, []⟩, ⟨some 39, .bin .and (.t 36) (.t 38), none, []⟩, ⟨some 40, .conv .i64 (.t 39), none, []⟩, ⟨some 10, .mv (.t 40), none, []⟩]) (.seq (.seq (.reg [⟨some 41, .mv (.t 10), none, []⟩, ⟨some 42, .mv (.t 6), none, []⟩, ⟨some 43, .bin .geq (.t 41) (.t 42), none, []⟩]) (.cond (.t 43) (.reg [⟨some 44, .mv (.t 10), none, []⟩, ⟨some 45, .mv (.t 6), none, []⟩, ⟨some 46, .bin .sub (.t 44) (.t 45), none, []⟩, ⟨some 10, .mv (.t 46), none, []⟩]) .skip)) (.reg [⟨some 47, .mv (.t 0), none, []⟩, ⟨some 48, .mv (.t 9), none, []⟩, ⟨some 49, .mv (.t 0), none, []⟩, ⟨some 50, .mv (.t 1), none, []⟩, ⟨some 51, .mv (.t 10), none, []⟩, ⟨some 52, .bin .add (.t 50) (.t 51), none, []⟩, ⟨some 53, .mv (.t 0), none, []⟩, ⟨some 54, .mv (.t 1), none, []⟩, ⟨some 55, .mv (.t 10), none, []⟩, ⟨some 56, .bin .add (.t 54) (.t 55), none, []⟩, ⟨some 57, .ix 1 (.t 53) (.t 56), none, []⟩, ⟨some 58, .load none (.t 57), none, []⟩, ⟨some 59, .mv (.t 0), none, []⟩, ⟨some 60, .mv (.t 9), none, []⟩, ⟨some 61, .ix 1 (.t 59) (.t 60), none, []⟩, ⟨some 62, .load none (.t 61), none, []⟩, ⟨some 63, .ix 1 (.t 47) (.t 48), none, []⟩, ⟨none, .store 1 (.t 63) (.t 58), none, []⟩, ⟨some 64, .ix 1 (.t 49) (.t 52), none, []⟩, ⟨none, .store 1 (.t 64) (.t 62), none, []⟩])))) (.reg [⟨some 34, .mv (.t 9), none, []⟩, ⟨some 35, .bin .add (.t 34) (.c (.sc (.int .i64 1))), none, []⟩, ⟨some 9, .mv (.t 35), none, []⟩])))))))) .skip)), []⟩
def OPivot (fmeda fmed : FuncId) : FC := ⟨57, .seq (.reg [⟨some 6, .mv (.c (.sc (.int .i64 0))), none, []⟩, ⟨some 7, .mv (.c (.sc (.int .i64 0))), none, []⟩]) (.seq (.reg [⟨some 13, .mv (.t 2), none, []⟩, ⟨some 14, .mv (.t 1), none, []⟩, ⟨some 15, .bin .sub (.t 13) (.t 14), none, []⟩, ⟨some 8, .mv (.t 15), none, []⟩]) (.seq (.reg [⟨some 9, .alc [.sc (.int .i64 0)], none, []⟩]) (.seq (.reg [⟨some 16, .mv (.t 1), none, []⟩, ⟨some 17, .mv (.t 8), none, []⟩, ⟨some 18, .bin .quo (.t 17) (.c (.sc (.int .i64 4))), none, []⟩, ⟨some 19, .bin .mul (.t 18) (.c (.sc (.int .i64 1))), none, []⟩, ⟨some 20, .bin .add (.t 16) (.t 19), none, []⟩, ⟨some 10, .mv (.t 20), none, []⟩]) (.seq (.reg [⟨some 21, .mv (.t 1), none, []⟩, ⟨some 22, .mv (.t 8), none, []⟩, ⟨some 23, .bin .quo (.t 22) (.c (.sc (.int .i64 4))), none, []⟩, ⟨some 24, .bin .mul (.t 23) (.c (.sc (.int .i64 2))), none, []⟩, ⟨some 25, .bin .add (.t 21) (.t 24), none, []⟩, ⟨some 11, .mv (.t 25), none, []⟩]) (.seq (.reg [⟨some 26, .mv (.t 1), none, []⟩, ⟨some 27, .mv (.t 8), none, []⟩, ⟨some 28, .bin .quo (.t 27) (.c (.sc (.int .i64 4))), none, []⟩, ⟨some 29, .bin .mul (.t 28) (.c (.sc (.int .i64 3))), none, []⟩, ⟨some 30, .bin .add (.t 26) (.t 29), none, []⟩, ⟨some 12, .mv (.t 30), none, []⟩]) (.seq (.seq (.reg [⟨some 31, .mv (.t 8), none, []⟩, ⟨some 32, .bin .geq (.t 31) (.c (.sc (.int .i64 8))), none, []⟩]) (.cond (.t 32) (.seq (.seq (.reg [⟨some 33, .mv (.t 8), none, []⟩, ⟨some 34, .bin .geq (.t 33) (.c (.sc (.int .i64 50))), none, []⟩]) (.cond (.t 34) (.seq (.reg [⟨some 35, .mv (.t 0), none, []⟩, ⟨some 36, .mv (.t 10), none, []⟩, ⟨some 37, .call fmeda [.t 35, .t 36, .t 9], none, []⟩, ⟨some 10, .mv (.t 37), none, []⟩]) (.seq (.reg [⟨some 38, .mv (.t 0), none, []⟩, ⟨some 39, .mv (.t 11), none, []⟩, ⟨some 40, .call fmeda [.t 38, .t 39, .t 9], none, []⟩, ⟨some 11, .mv (.t 40), none, []⟩]) (.reg [⟨some 41, .mv (.t 0), none, []⟩, ⟨some 42, .mv (.t 12), none, []⟩, ⟨some 43, .call fmeda [.t 41, .t 42, .t 9], none, []⟩, ⟨some 12, .mv (.t 43), none, []⟩]))) .skip)) (.reg [⟨some 44, .mv (.t 0), none, []⟩, ⟨some 45, .mv (.t 10), none, []⟩, ⟨some 46, .mv (.t 11), none, []⟩, ⟨some 47, .mv (.t 12), none, []⟩, ⟨some 48, .call fmed [.t 44, .t 45, .t 46, .t 47, .t 9], none, []⟩, ⟨some 11, .mv (.t 48), none, []⟩])) .skip)) (.seq (.reg [⟨some 49, .load none (.t 9), none, []⟩]) (.blk 0 (.seq (.reg [⟨some 52, .bin .eql (.t 49) (.c (.sc (.int .i64 0))), none, []⟩, ⟨some 51, .mv (.t 52), none, []⟩]) (.cond (.t 51) (.seq (.reg [⟨some 53, .mv (.t 11), none, []⟩, ⟨some 6, .mv (.t 53), none, []⟩, ⟨some 7, .mv (.c (.sc (.int .i64 1))), none, []⟩]) .ret) (.seq (.reg [⟨some 55, .bin .eql (.t 49) (.c (.sc (.int .i64 12))), none, []⟩, ⟨some 54, .mv (.t 55), none, []⟩]) (.cond (.t 54) (.seq (.reg [⟨some 56, .mv (.t 11), none, []⟩, ⟨some 6, .mv (.t 56), none, []⟩, ⟨some 7, .mv (.c (.sc (.int .i64 2))), none, []⟩]) .ret) (.seq (.reg [⟨some 50, .mv (.t 11), none, []⟩, ⟨some 6, .mv (.t 50), none, []⟩, ⟨some 7, .mv (.c (.sc (.int .i64 0))), none, []⟩]) .ret))))))))))))), [.tmp 6, .tmp 7]⟩
def ORev : FC := ⟨32, .seq (.reg [⟨some 8, .mv (.t 1), none, []⟩, ⟨some 6, .mv (.t 8), none, []⟩]) (.seq (.reg [⟨some 9, .mv (.t 2), none, []⟩, ⟨some 10, .bin .sub (.t 9) (.c (.sc (.int .i64 1))), none, []⟩, ⟨some 7, .mv (.t 10), none, []⟩]) (.blk 0 (.loop (.seq (.seq (.reg [⟨some 11, .mv (.t 6), none, []⟩, ⟨some 12, .mv (.t 7), none, []⟩, ⟨some 13, .bin .lss (.t 11) (.t 12), none, []⟩]) (.cond (.t 13) .skip (.exit 0))) (.blk 1 (.seq (.reg [⟨some 14, .mv (.t 0), none, []⟩, ⟨some 15, .mv (.t 6), none, []⟩, ⟨some 16, .mv (.t 0), none, []⟩, ⟨some 17, .mv (.t 7), none, []⟩, ⟨some 18, .mv (.t 0), none, []⟩, ⟨some 19, .mv (.t 7), none, []⟩, ⟨some 20, .ix 1 (.t 18) (.t 19), none, []⟩, ⟨some 21, .load none (.t 20), none, []⟩, ⟨some 22, .mv (.t 0), none, []⟩, ⟨some 23, .mv (.t 6), none, []⟩, ⟨some 24, .ix 1 (.t 22) (.t 23), none, []⟩, ⟨some 25, .load none (.t 24), none, []⟩, ⟨some 26, .ix 1 (.t 14) (.t 15), none, []⟩, ⟨none, .store 1 (.t 26) (.t 21), none, []⟩, ⟨some 27, .ix 1 (.t 16) (.t 17), none, []⟩, ⟨none, .store 1 (.t 27) (.t 25), none, []⟩]) (.seq (.reg [⟨some 28, .mv (.t 6), none, []⟩, ⟨some 29, .bin .add (.t 28) (.c (.sc (.int .i64 1))), none, []⟩, ⟨some 6, .mv (.t 29), none, []⟩]) (.reg [⟨some 30, .mv (.t 7), none, []⟩, ⟨some 31, .bin .sub (.t 30) (.c (.sc (.int .i64 1))), none, []⟩, ⟨some 7, .mv (.t 31), none, []⟩])))))))), []⟩
def OPart (less : FuncId) : FC := ⟨133, .seq (.reg [⟨some 6, .mv (.c (.sc (.bool false))), none, []⟩]) (.seq (.reg [⟨some 11, .mv (.t 1), none, []⟩, ⟨some 12, .bin .add (.t 11) (.c (.sc (.int .i64 1))), none, []⟩, ⟨some 7, .mv (.t 12), none, []⟩]) (.seq (.seq (.reg [⟨some 8, .mv (.c (.sc (.int .i64 0))), none, []⟩]) (.blk 0 (.loop (.seq (.seq (.reg [⟨some 13, .mv (.t 8), none, []⟩, ⟨some 14, .bin .lss (.t 13) (.c (.sc (.int .i64 5))), none, []⟩]) (.cond (.t 14) .skip (.exit 0))) (.seq (.blk 1 (.seq (.blk 2 (.loop (.seq (.seq (.reg [⟨some 17, .mv (.t 7), none, []⟩, ⟨some 18, .mv (.t 2), none, []⟩, ⟨some 19, .bin .lss (.t 17) (.t 18), none, []⟩, ⟨some 20, .mv (.t 19), none, []⟩, ⟨some 21, .mv (.t 0), some (20, true), []⟩, ⟨some 22, .mv (.t 7), some (20, true), []⟩, ⟨some 23, .ix 1 (.t 21) (.t 22), some (20, true), []⟩, ⟨some 24, .load none (.t 23), some (20, true), []⟩, ⟨some 25, .mv (.t 0), some (20, true), []⟩, ⟨some 26, .mv (.t 7), some (20, true), []⟩, ⟨some 27, .bin .sub (.t 26) (.c (.sc (.int .i64 1))), some (20, true), []⟩, ⟨some 28, .ix 1 (.t 25) (.t 27), some (20, true), []⟩, ⟨some 29, .load none (.t 28), some (20, true), []⟩, ⟨some 30, .call less [.t 24, .t 29], some (20, true), []⟩, ⟨some 31, .un .not (.t 30), some (20, true), []⟩, ⟨some 32, .pick (.t 20) (.t 31) (.c (.sc (.bool false))), none, []⟩]) (.cond (.t 32) .skip (.exit 2))) (.blk 3 (.reg [⟨some 33, .mv (.t 7), none, []⟩, ⟨some 34, .bin .add (.t 33) (.c (.sc (.int .i64 1))), none, []⟩, ⟨some 7, .mv (.t 34), none, []⟩]))))) (.seq (.seq (.reg [⟨some 35, .mv (.t 7), none, []⟩, ⟨some 36, .mv (.t 2), none, []⟩, ⟨some 37, .bin .eql (.t 35) (.t 36), none, []⟩]) (.cond (.t 37) (.seq (.reg [⟨some 6, .mv (.c (.sc (.bool true))), none, []⟩]) .ret) .skip)) (.seq (.seq (.reg [⟨some 38, .mv (.t 2), none, []⟩, ⟨some 39, .mv (.t 1), none, []⟩, ⟨some 40, .bin .sub (.t 38) (.t 39), none, []⟩, ⟨some 41, .bin .lss (.t 40) (.c (.sc (.int .i64 50))), none, []⟩]) (.cond (.t 41) (.seq (.reg [⟨some 6, .mv (.c (.sc (.bool false))), none, []⟩]) .ret) .skip)) (.seq (.reg [⟨some 42, .mv (.t 0), none, []⟩, ⟨some 43, .mv (.t 7), none, []⟩, ⟨some 44, .mv (.t 0), none, []⟩, ⟨some 45, .mv (.t 7), none, []⟩, ⟨some 46, .bin .sub (.t 45) (.c (.sc (.int .i64 1))), none, []⟩, ⟨some 47, .mv (.t 0), none, []⟩, ⟨some 48, .mv (.t 7), none, []⟩, ⟨some 49, .bin .sub (.t 48) (.c (.sc (.int .i64 1))), none, []⟩, ⟨some 50, .ix 1 (.t 47) (.t 49), none, []⟩, ⟨some 51, .load none (.t 50), none, []⟩, ⟨some 52, .mv (.t 0), none, []⟩, ⟨some 53, .mv (.t 7), none, []⟩, ⟨some 54, .ix 1 (.t 52) (.t 53), none, []⟩, ⟨some 55, .load none (.t 54), none, []⟩, ⟨some 56, .ix 1 (.t 42) (.t 43), none, []⟩, ⟨none, .store 1 (.t 56) (.t 51), none, []⟩, ⟨some 57, .ix 1 (.t 44) (.t 46), none, []⟩, ⟨none, .store 1 (.t 57) (.t 55), none, []⟩]) (.seq (.seq (.reg [⟨some 58, .mv (.t 7), none, []⟩, ⟨some 59, .mv (.t 1), none, []⟩, ⟨some 60, .bin .sub (.t 58) (.t 59), none, []⟩, ⟨some 61, .bin .geq (.t 60) (.c (.sc (.int .i64 2))), none, []⟩]) (.cond (.t 61) (.seq (.reg [⟨some 62, .mv (.t 7), none, []⟩, ⟨some 63, .bin .sub (.t 62) (.c (.sc (.int .i64 1))), none, []⟩, ⟨some 9, .mv (.t 63), none, []⟩]) (.blk 4 (.loop (.seq (.seq (.reg [⟨some 64, .mv (.t 9), none, []⟩, ⟨some 65, .bin .geq (.t 64) (.c (.sc (.int .i64 1))), none, []⟩]) (.cond (.t 65) .skip (.exit 4))) (.seq (.blk 5 (.seq (.seq (.reg [⟨some 68, .mv (.t 0), none, []⟩, ⟨some 69, .mv (.t 9), none, []⟩, ⟨some 70, .ix 1 (.t 68) (.t 69), none, []⟩, ⟨some 71, .load none (.t 70), none, []⟩, ⟨some 72, .mv (.t 0), none, []⟩, ⟨some 73, .mv (.t 9), none, []⟩, ⟨some 74, .bin .sub (.t 73) (.c (.sc (.int .i64 1))), none, []⟩, ⟨some 75, .ix 1 (.t 72) (.t 74), none, []⟩, ⟨some 76, .load none (.t 75), none, []⟩, ⟨some 77, .call less [.t 71, .t 76], none, []⟩, ⟨some 78, .un .not (.t 77), none, []⟩]) (.cond (.t 78) (.exit 4) .skip)) (.reg [⟨some 79, .mv (.t 0), none, []⟩, ⟨some 80, .mv (.t 9), none, []⟩, ⟨some 81, .mv (.t 0), none, []⟩, ⟨some 82, .mv (.t 9), none, []⟩, ⟨some 83, .bin .sub (.t 82) (.c (.sc (.int .i64 1))), none, []⟩, ⟨some 84, .mv (.t 0), none, []⟩, ⟨some 85, .mv (.t 9), none, []⟩, ⟨some 86, .bin .sub (.t 85) (.c (.sc (.int .i64 1))), none, []⟩, ⟨some 87, .ix 1 (.t 84) (.t 86), none, []⟩, ⟨some 88, .load none (.t 87), none, []⟩, ⟨some 89, .mv (.t 0), none, []⟩, ⟨some 90, .mv (.t 9), none, []⟩, ⟨some 91, .ix 1 (.t 89) (.t 90), none, []⟩, ⟨some 92, .load none (.t 91), none, []⟩, ⟨some 93, .ix 1 (.t 79) (.t 80), none, []⟩, ⟨none, .store 1 (.t 93) (.t 88), none, []⟩, ⟨some 94, .ix 1 (.t 81) (.t 83), none, []⟩, ⟨none, .store 1 (.t 94) (.t 92), none, []⟩]))) (.reg [⟨some 66, .mv (.t 9), none, []⟩, ⟨some 67, .bin .sub (.t 66) (.c (.sc (.int .i64 1))), none, []⟩, ⟨some 9, .mv (.t 67), none, []⟩])))))) .skip)) (.seq (.reg [⟨some 95, .mv (.t 2), none, []⟩, ⟨some 96, .mv (.t 7), none, []⟩, ⟨some 97, .bin .sub (.t 95) (.t 96), none, []⟩, ⟨some 98, .bin .geq (.t 97) (.c (.sc (.int .i64 2))), none, []⟩]) (.cond (.t 98) (.seq (.reg [⟨some 99, .mv (.t 7), none, []⟩, ⟨some 100, .bin .add (.t 99) (.c (.sc (.int .i64 1))), none, []⟩, ⟨some 10, .mv (.t 100), none, []⟩]) (.blk 6 (.loop (.seq (.seq (.reg [⟨some 101, .mv (.t 10), none, []⟩, ⟨some 102, .mv (.t 2), none, []⟩, ⟨some 103, .bin .lss (.t 101) (.t 102), none, []⟩]) (.cond (.t 103) .skip (.exit 6))) (.seq (.blk 7 (.seq (.seq (.reg [⟨some 106, .mv (.t 0), none, []⟩, ⟨some 107, .mv (.t 10), none, []⟩, ⟨some 108, .ix 1 (.t 106) (.t 107), none, []⟩, ⟨some 109, .load none (.t 108), none, []⟩, ⟨some 110, .mv (.t 0), none, []⟩, ⟨some 111, .mv (.t 10), none, []⟩, ⟨some 112, .bin .sub (.t 111) (.c (.sc (.int .i64 1))), none, []⟩, ⟨some 113, .ix 1 (.t 110) (.t 112), none, []⟩, ⟨some 114, .load none (.t 113), none, []⟩, ⟨some 115, .call less [.t 109, .t 114], none, []⟩, ⟨some 116, .un .not (.t 115), none, []⟩]) (.cond (.t 116) (.exit 6) .skip)) (.reg [⟨some 117, .mv (.t 0), none, []⟩, ⟨some 118, .mv (.t 10), none, []⟩, ⟨some 119, .mv (.t 0), none, []⟩, ⟨some 120, .mv (.t 10), none, []⟩, ⟨some 121, .bin .sub (.t 120) (.c (.sc (.int .i64 1))), none, []⟩, ⟨some 122, .mv (.t 0), none, []⟩, ⟨some 123, .mv (.t 10), none, []⟩, ⟨some 124, .bin .sub (.t 123) (.c (.sc (.int .i64 1))), none, []⟩, ⟨some 125, .ix 1 (.t 122) (.t 124), none, []⟩, ⟨some 126, .load none (.t 125), none, []⟩, ⟨some 127, .mv (.t 0), none, []⟩, ⟨some 128, .mv (.t 10), none, []⟩, ⟨some 129, .ix 1 (.t 127) (.t 128), none, []⟩, ⟨some 130, .load none (.t 129), none, []⟩, ⟨some 131, .ix 1 (.t 117) (.t 118), none, []⟩, ⟨none, .store 1 (.t 131) (.t 126), none, []⟩, ⟨some 132, .ix 1 (.t 119) (.t 121), none, []⟩, ⟨none, .store 1 (.t 132) (.t 130), none, []⟩]))) (.reg [⟨some 104, .mv (.t 10), none, []⟩, ⟨some 105, .bin .add (.t 104) (.c (.sc (.int .i64 1))), none, []⟩, ⟨some 10, .mv (.t 105), none, []⟩])))))) .skip)))))))) (.reg [⟨some 15, .mv (.t 8), none, []⟩, ⟨some 16, .bin .add (.t 15) (.c (.sc (.int .i64 1))), none, []⟩, ⟨some 8, .mv (.t 16), none, []⟩])))))) (.seq (.reg [⟨some 6, .mv (.c (.sc (.bool false))), none, []⟩]) .ret))), [.tmp 6]⟩
def OEqual (less : FuncId) : FC := ⟨84, .seq (.reg [⟨some 8, .mv (.c (.sc (.int .i64 0))), none, []⟩]) (.seq (.reg [⟨some 11, .mv (.t 0), none, []⟩, ⟨some 12, .mv (.t 1), none, []⟩, ⟨some 13, .mv (.t 0), none, []⟩, ⟨some 14, .mv (.t 3), none, []⟩, ⟨some 15, .mv (.t 0), none, []⟩, ⟨some 16, .mv (.t 3), none, []⟩, ⟨some 17, .ix 1 (.t 15) (.t 16), none, []⟩, ⟨some 18, .load none (.t 17), none, []⟩, ⟨some 19, .mv (.t 0), none, []⟩, ⟨some 20, .mv (.t 1), none, []⟩, ⟨some 21, .ix 1 (.t 19) (.t 20), none, []⟩, ⟨some 22, .load none (.t 21), none, []⟩, ⟨some 23, .ix 1 (.t 11) (.t 12), none, []⟩, ⟨none, .store 1 (.t 23) (.t 18), none, []⟩, ⟨some 24, .ix 1 (.t 13) (.t 14), none, []⟩, ⟨none, .store 1 (.t 24) (.t 22), none, []⟩]) (.seq (.reg [⟨some 25, .mv (.t 1), none, []⟩, ⟨some 26, .bin .add (.t 25) (.c (.sc (.int .i64 1))), none, []⟩, ⟨some 27, .mv (.t 2), none, []⟩, ⟨some 28, .bin .sub (.t 27) (.c (.sc (.int .i64 1))), none, []⟩, ⟨some 9, .mv (.t 26), none, []⟩, ⟨some 10, .mv (.t 28), none, []⟩]) (.seq (.blk 0 (.loop (.blk 1 (.seq (.blk 2 (.loop (.seq (.seq (.reg [⟨some 29, .mv (.t 9), none, []⟩, ⟨some 30, .mv (.t 10), none, []⟩, ⟨some 31, .bin .leq (.t 29) (.t 30), none, []⟩, ⟨some 32, .mv (.t 31), none, []⟩, ⟨some 33, .mv (.t 0), some (32, true), []⟩, ⟨some 34, .mv (.t 1), some (32, true), []⟩, ⟨some 35, .ix 1 (.t 33) (.t 34), some (32, true), []⟩, ⟨some 36, .load none (.t 35), some (32, true), []⟩, ⟨some 37, .mv (.t 0), some (32, true), []⟩, ⟨some 38, .mv (.t 9), some (32, true), []⟩, ⟨some 39, .ix 1 (.t 37) (.t 38), some (32, true), []⟩, ⟨some 40, .load none (.t 39), some (32, true), []⟩, ⟨some 41, .call less [.t 36, .t 40], some (32, true), []⟩, ⟨some 42, .un .not (.t 41), some (32, true), []⟩, ⟨some 43, .pick (.t 32) (.t 42) (.c (.sc (.bool false))), none, []⟩]) (.cond (.t 43) .skip (.exit 2))) (.blk 3 (.reg [⟨some 44, .mv (.t 9), none, []⟩, ⟨some 45, .bin .add (.t 44) (.c (.sc (.int .i64 1))), none, []⟩, ⟨some 9, .mv (.t 45), none, []⟩]))))) (.seq (.blk 4 (.loop (.seq (.seq (.reg [⟨some 46, .mv (.t 9), none, []⟩, ⟨some 47, .mv (.t 10), none, []⟩, ⟨some 48, .bin .leq (.t 46) (.t 47), none, []⟩, ⟨some 49, .mv (.t 48), none, []⟩, ⟨some 50, .mv (.t 0), some (49, true), []⟩, ⟨some 51, .mv (.t 1), some (49, true), []⟩, ⟨some 52, .ix 1 (.t 50) (.t 51), some (49, true), []⟩, ⟨some 53, .load none (.t 52), some (49, true), []⟩, ⟨some 54, .mv (.t 0), some (49, true), []⟩, ⟨some 55, .mv (.t 10), some (49, true), []⟩, ⟨some 56, .ix 1 (.t 54) (.t 55), some (49, true), []⟩, ⟨some 57, .load none (.t 56), some (49, true), []⟩, ⟨some 58, .call less [.t 53, .t 57], some (49, true), []⟩, ⟨some 59, .pick (.t 49) (.t 58) (.c (.sc (.bool false))), none, []⟩]) (.cond (.t 59) .skip (.exit 4))) (.blk 5 (.reg [⟨some 60, .mv (.t 10), none, []⟩, ⟨some 61, .bin .sub (.t 60) (.c (.sc (.int .i64 1))), none, []⟩, ⟨some 10, .mv (.t 61), none, []⟩]))))) (.seq (.seq (.reg [⟨some 62, .mv (.t 9), none, []⟩, ⟨some 63, .mv (.t 10), none, []⟩, ⟨some 64, .bin .gtr (.t 62) (.t 63), none, []⟩]) (.cond (.t 64) (.exit 0) .skip)) (.seq (.reg [⟨some 65, .mv (.t 0), none, []⟩, ⟨some 66, .mv (.t 9), none, []⟩, ⟨some 67, .mv (.t 0), none, []⟩, ⟨some 68, .mv (.t 10), none, []⟩, ⟨some 69, .mv (.t 0), none, []⟩, ⟨some 70, .mv (.t 10), none, []⟩, ⟨some 71, .ix 1 (.t 69) (.t 70), none, []⟩, ⟨some 72, .load none (.t 71), none, []⟩, ⟨some 73, .mv (.t 0), none, []⟩, ⟨some 74, .mv (.t 9), none, []⟩, ⟨some 75, .ix 1 (.t 73) (.t 74), none, []⟩, ⟨some 76, .load none (.t 75), none, []⟩, ⟨some 77, .ix 1 (.t 65) (.t 66), none, []⟩, ⟨none, .store 1 (.t 77) (.t 72), none, []⟩, ⟨some 78, .ix 1 (.t 67) (.t 68), none, []⟩, ⟨none, .store 1 (.t 78) (.t 76), none, []⟩]) (.seq (.reg [⟨some 79, .mv (.t 9), none, []⟩, ⟨some 80, .bin .add (.t 79) (.c (.sc (.int .i64 1))), none, []⟩, ⟨some 9, .mv (.t 80), none, []⟩]) (.reg [⟨some 81, .mv (.t 10), none, []⟩, ⟨some 82, .bin .sub (.t 81) (.c (.sc (.int .i64 1))), none, []⟩, ⟨some 10, .mv (.t 82), none, []⟩]))))))))) (.seq (.reg [⟨some 83, .mv (.t 9), none, []⟩, ⟨some 8, .mv (.t 83), none, []⟩]) .ret)))), [.tmp 8]⟩
def OSplit (less : FuncId) : FC := ⟨168, .seq (.reg [⟨some 8, .mv (.c (.sc (.int .i64 0))), none, []⟩, ⟨some 9, .mv (.c (.sc (.bool false))), none, []⟩]) (.seq (.reg [⟨some 12, .mv (.t 0), none, []⟩, ⟨some 13, .mv (.t 1), none, []⟩, ⟨some 14, .mv (.t 0), none, []⟩, ⟨some 15, .mv (.t 3), none, []⟩, ⟨some 16, .mv (.t 0), none, []⟩, ⟨some 17, .mv (.t 3), none, []⟩, ⟨some 18, .ix 1 (.t 16) (.t 17), none, []⟩, ⟨some 19, .load none (.t 18), none, []⟩, ⟨some 20, .mv (.t 0), none, []⟩, ⟨some 21, .mv (.t 1), none, []⟩, ⟨some 22, .ix 1 (.t 20) (.t 21), none, []⟩, ⟨some 23, .load none (.t 22), none, []⟩, ⟨some 24, .ix 1 (.t 12) (.t 13), none, []⟩, ⟨none, .store 1 (.t 24) (.t 19), none, []⟩, ⟨some 25, .ix 1 (.t 14) (.t 15), none, []⟩, ⟨none, .store 1 (.t 25) (.t 23), none, []⟩]) (.seq (.reg [⟨some 26, .mv (.t 1), none, []⟩, ⟨some 27, .bin .add (.t 26) (.c (.sc (.int .i64 1))), none, []⟩, ⟨some 28, .mv (.t 2), none, []⟩, ⟨some 29, .bin .sub (.t 28) (.c (.sc (.int .i64 1))), none, []⟩, ⟨some 10, .mv (.t 27), none, []⟩, ⟨some 11, .mv (.t 29), none, []⟩]) (.seq (.blk 0 (.loop (.seq (.seq (.reg [⟨some 30, .mv (.t 10), none, []⟩, ⟨some 31, .mv (.t 11), none, []⟩, ⟨some 32, .bin .leq (.t 30) (.t 31), none, []⟩, ⟨some 33, .mv (.t 32), none, []⟩, ⟨some 34, .mv (.t 0), some (33, true), []⟩, ⟨some 35, .mv (.t 10), some (33, true), []⟩, ⟨some 36, .ix 1 (.t 34) (.t 35), some (33, true), []⟩, ⟨some 37, .load none (.t 36), some (33, true), []⟩, ⟨some 38, .mv (.t 0), some (33, true), []⟩, ⟨some 39, .mv (.t 1), some (33, true), []⟩, ⟨some 40, .ix 1 (.t 38) (.t 39), some (33, true), []⟩, ⟨some 41, .load none (.t 40), some (33, true), []⟩, ⟨some 42, .call less [.t 37, .t 41], some (33, true), []⟩, ⟨some 43, .pick (.t 33) (.t 42) (.c (.sc (.bool false))), none, []⟩]) (.cond (.t 43) .skip (.exit 0))) (.blk 1 (.reg [⟨some 44, .mv (.t 10), none, []⟩, ⟨some 45, .bin .add (.t 44) (.c (.sc (.int .i64 1))), none, []⟩, ⟨some 10, .mv (.t 45), none, []⟩]))))) (.seq (.blk 2 (.loop (.seq (.seq (.reg [⟨some 46, .mv (.t 10), none, []⟩, ⟨some 47, .mv (.t 11), none, []⟩, ⟨some 48, .bin .leq (.t 46) (.t 47), none, []⟩, ⟨some 49, .mv (.t 48), none, []⟩, ⟨some 50, .mv (.t 0), some (49, true), []⟩, ⟨some 51, .mv (.t 11), some (49, true), []⟩, ⟨some 52, .ix 1 (.t 50) (.t 51), some (49, true), []⟩, ⟨some 53, .load none (.t 52), some (49, true), []⟩, ⟨some 54, .mv (.t 0), some (49, true), []⟩, ⟨some 55, .mv (.t 1), some (49, true), []⟩, ⟨some 56, .ix 1 (.t 54) (.t 55), some (49, true), []⟩, ⟨some 57, .load none (.t 56), some (49, true), []⟩, ⟨some 58, .call less [.t 53, .t 57], some (49, true), []⟩, ⟨some 59, .un .not (.t 58), some (49, true), []⟩, ⟨some 60, .pick (.t 49) (.t 59) (.c (.sc (.bool false))), none, []⟩]) (.cond (.t 60) .skip (.exit 2))) (.blk 3 (.reg [⟨some 61, .mv (.t 11), none, []⟩, ⟨some 62, .bin .sub (.t 61) (.c (.sc (.int .i64 1))), none, []⟩, ⟨some 11, .mv (.t 62), none, []⟩]))))) (.seq (.seq (.reg [⟨some 63, .mv (.t 10), none, []⟩, ⟨some 64, .mv (.t 11), none, []⟩, ⟨some 65, .bin .gtr (.t 63) (.t 64), none, []⟩]) (.cond (.t 65) (.seq (.reg [⟨some 66, .mv (.t 0), none, []⟩, ⟨some 67, .mv (.t 11), none, []⟩, ⟨some 68, .mv (.t 0), none, []⟩, ⟨some 69, .mv (.t 1), none, []⟩, ⟨some 70, .mv (.t 0), none, []⟩, ⟨some 71, .mv (.t 1), none, []⟩, ⟨some 72, .ix 1 (.t 70) (.t 71), none, []⟩, ⟨some 73, .load none (.t 72), none, []⟩, ⟨some 74, .mv (.t 0), none, []⟩, ⟨some 75, .mv (.t 11), none, []⟩, ⟨some 76, .ix 1 (.t 74) (.t 75), none, []⟩, ⟨some 77, .load none (.t 76), none, []⟩, ⟨some 78, .ix 1 (.t 66) (.t 67), none, []⟩, ⟨none, .store 1 (.t 78) (.t 73), none, []⟩, ⟨some 79, .ix 1 (.t 68) (.t 69), none, []⟩, ⟨none, .store 1 (.t 79) (.t 77), none, []⟩]) (.seq (.reg [⟨some 80, .mv (.t 11), none, []⟩, ⟨some 8, .mv (.t 80), none, []⟩, ⟨some 9, .mv (.c (.sc (.bool true))), none, []⟩]) .ret)) .skip)) (.seq (.reg [⟨some 81, .mv (.t 0), none, []⟩, ⟨some 82, .mv (.t 10), none, []⟩, ⟨some 83, .mv (.t 0), none, []⟩, ⟨some 84, .mv (.t 11), none, []⟩, ⟨some 85, .mv (.t 0), none, []⟩, ⟨some 86, .mv (.t 11), none, []⟩, ⟨some 87, .ix 1 (.t 85) (.t 86), none, []⟩, ⟨some 88, .load none (.t 87), none, []⟩, ⟨some 89, .mv (.t 0), none, []⟩, ⟨some 90, .mv (.t 10), none, []⟩, ⟨some 91, .ix 1 (.t 89) (.t 90), none, []⟩, ⟨some 92, .load none (.t 91), none, []⟩, ⟨some 93, .ix 1 (.t 81) (.t 82), none, []⟩, ⟨none, .store 1 (.t 93) (.t 88), none, []⟩, ⟨some 94, .ix 1 (.t 83) (.t 84), none, []⟩, ⟨none, .store 1 (.t 94) (.t 92), none, []⟩]) (.seq (.reg [⟨some 95, .mv (.t 10), none, []⟩, ⟨some 96, .bin .add (.t 95) (.c (.sc (.int .i64 1))), none, []⟩, ⟨some 10, .mv (.t 96), none, []⟩]) (.seq (.reg [⟨some 97, .mv (.t 11), none, []⟩, ⟨some 98, .bin .sub (.t 97) (.c (.sc (.int .i64 1))), none, []⟩, ⟨some 11, .mv (.t 98), none, []⟩]) (.seq (.blk 4 (.loop (.blk 5 (.seq (.blk 6 (.loop (.seq (.seq (.reg [⟨some 99, .mv (.t 10), none, []⟩, ⟨some 100, .mv (.t 11), none, []⟩, ⟨some 101, .bin .leq (.t 99) (.t 100), none, []⟩, ⟨some 102, .mv (.t 101), none, []⟩, ⟨some 103, .mv (.t 0), some (102, true), []⟩, ⟨some 104, .mv (.t 10), some (102, true), []⟩, ⟨some 105, .ix 1 (.t 103) (.t 104), some (102, true), []⟩, ⟨some 106, .load none (.t 105), some (102, true), []⟩, ⟨some 107, .mv (.t 0), some (102, true), []⟩, ⟨some 108, .mv (.t 1), some (102, true), []⟩, ⟨some 109, .ix 1 (.t 107) (.t 108), some (102, true), []⟩, ⟨some 110, .load none (.t 109), some (102, true), []⟩, ⟨some 111, .call less [.t 106, .t 110], some (102, true), []⟩, ⟨some 112, .pick (.t 102) (.t 111) (.c (.sc (.bool false))), none, []⟩]) (.cond (.t 112) .skip (.exit 6))) (.blk 7 (.reg [⟨some 113, .mv (.t 10), none, []⟩, ⟨some 114, .bin .add (.t 113) (.c (.sc (.int .i64 1))), none, []⟩, ⟨some 10, .mv (.t 114), none, []⟩]))))) (.seq (.blk 8 (.loop (.seq (.seq (.reg [⟨some 115, .mv (.t 10), none, []⟩, ⟨some 116, .mv (.t 11), none, []⟩, ⟨some 117, .bin .leq (.t 115) (.t 116), none, []⟩, ⟨some 118, .mv (.t 117), none, []⟩, ⟨some 119, .mv (.t 0), some (118, true), []⟩, ⟨some 120, .mv (.t 11), some (118, true), []⟩, ⟨some 121, .ix 1 (.t 119) (.t 120), some (118, true), []⟩, ⟨some 122, .load none (.t 121), some (118, true), []⟩, ⟨some 123, .mv (.t 0), some (118, true), []⟩, ⟨some 124, .mv (.t 1), some (118, true), []⟩, ⟨some 125, .ix 1 (.t 123) (.t 124), some (118, true), []⟩, ⟨some 126, .load none (.t 125), some (118, true), []⟩, ⟨some 127, .call less [.t 122, .t 126], some (118, true), []⟩, ⟨some 128, .un .not (.t 127), some (118, true), []⟩, ⟨some 129, .pick (.t 118) (.t 128) (.c (.sc (.bool false))), none, []⟩]) (.cond (.t 129) .skip (.exit 8))) (.blk 9 (.reg [⟨some 130, .mv (.t 11), none, []⟩, ⟨some 131, .bin .sub (.t 130) (.c (.sc (.int .i64 1))), none, []⟩, ⟨some 11, .mv (.t 131), none, []⟩]))))) (.seq (.seq (.reg [⟨some 132, .mv (.t 10), none, []⟩, ⟨some 133, .mv (.t 11), none, []⟩, ⟨some 134, .bin .gtr (.t 132) (.t 133), none, []⟩]) (.cond (.t 134) (.exit 4) .skip)) (.seq (.reg [⟨some 135, .mv (.t 0), none, []⟩, ⟨some 136, .mv (.t 10), none, []⟩, ⟨some 137, .mv (.t 0), none, []⟩, ⟨some 138, .mv (.t 11), none, []⟩, ⟨some 139, .mv (.t 0), none, []⟩, ⟨some 140, .mv (.t 11), none, []⟩, ⟨some 141, .ix 1 (.t 139) (.t 140), none, []⟩, ⟨some 142, .load none (.t 141), none, []⟩, ⟨some 143, .mv (.t 0), none, []⟩, ⟨some 144, .mv (.t 10), none, []⟩, ⟨some 145, .ix 1 (.t 143) (.t 144), none, []⟩, ⟨some 146, .load none (.t 145), none, []⟩, ⟨some 147, .ix 1 (.t 135) (.t 136), none, []⟩, ⟨none, .store 1 (.t 147) (.t 142), none, []⟩, ⟨some 148, .ix 1 (.t 137) (.t 138), none, []⟩, ⟨none, .store 1 (.t 148) (.t 146), none, []⟩]) (.seq (.reg [⟨some 149, .mv (.t 10), none, []⟩, ⟨some 150, .bin .add (.t 149) (.c (.sc (.int .i64 1))), none, []⟩, ⟨some 10, .mv (.t 150), none, []⟩]) (.reg [⟨some 151, .mv (.t 11), none, []⟩, ⟨some 152, .bin .sub (.t 151) (.c (.sc (.int .i64 1))), none, []⟩, ⟨some 11, .mv (.t 152), none, []⟩]))))))))) (.seq (.reg [⟨some 153, .mv (.t 0), none, []⟩, ⟨some 154, .mv (.t 11), none, []⟩, ⟨some 155, .mv (.t 0), none, []⟩, ⟨some 156, .mv (.t 1), none, []⟩, ⟨some 157, .mv (.t 0), none, []⟩, ⟨some 158, .mv (.t 1), none, []⟩, ⟨some 159, .ix 1 (.t 157) (.t 158), none, []⟩, ⟨some 160, .load none (.t 159), none, []⟩, ⟨some 161, .mv (.t 0), none, []⟩, ⟨some 162, .mv (.t 11), none, []⟩, ⟨some 163, .ix 1 (.t 161) (.t 162), none, []⟩, ⟨some 164, .load none (.t 163), none, []⟩, ⟨some 165, .ix 1 (.t 153) (.t 154), none, []⟩, ⟨none, .store 1 (.t 165) (.t 160), none, []⟩, ⟨some 166, .ix 1 (.t 155) (.t 156), none, []⟩, ⟨none, .store 1 (.t 166) (.t 164), none, []⟩]) (.seq (.reg [⟨some 167, .mv (.t 11), none, []⟩, ⟨some 8, .mv (.t 167), none, []⟩, ⟨some 9, .mv (.c (.sc (.bool false))), none, []⟩]) .ret))))))))))), [.tmp 8, .tmp 9]⟩
def OMedA (fmed : FuncId) : FC := ⟨15, .seq (.reg [⟨some 6, .mv (.c (.sc (.int .i64 0))), none, []⟩]) (.seq (.reg [⟨some 7, .mv (.t 0), none, []⟩, ⟨some 8, .mv (.t 1), none, []⟩, ⟨some 9, .bin .sub (.t 8) (.c (.sc (.int .i64 1))), none, []⟩, ⟨some 10, .mv (.t 1), none, []⟩, ⟨some 11, .mv (.t 1), none, []⟩, ⟨some 12, .bin .add (.t 11) (.c (.sc (.int .i64 1))), none, []⟩, ⟨some 13, .mv (.t 2), none, []⟩, ⟨some 14, .call fmed [.t 7, .t 9, .t 10, .t 12, .t 13], none, []⟩, ⟨some 6, .mv (.t 14), none, []⟩]) .ret), [.tmp 6]⟩
def OMed (ford2 : FuncId) : FC := ⟨36, .seq (.reg [⟨some 10, .mv (.c (.sc (.int .i64 0))), none, []⟩]) (.seq (.reg [⟨some 12, .mv (.t 0), none, []⟩, ⟨some 13, .mv (.t 1), none, []⟩, ⟨some 14, .mv (.t 2), none, []⟩, ⟨some 15, .mv (.t 4), none, []⟩, ⟨some 16, .call ford2 [.t 12, .t 13, .t 14, .t 15], none, []⟩, ⟨some 11, .mv (.t 16), none, []⟩, ⟨some 17, .ext (.t 11) 0, none, []⟩, ⟨some 18, .ext (.t 11) 1, none, []⟩, ⟨some 1, .mv (.t 17), none, []⟩, ⟨some 2, .mv (.t 18), none, []⟩]) (.seq (.reg [⟨some 20, .mv (.t 0), none, []⟩, ⟨some 21, .mv (.t 2), none, []⟩, ⟨some 22, .mv (.t 3), none, []⟩, ⟨some 23, .mv (.t 4), none, []⟩, ⟨some 24, .call ford2 [.t 20, .t 21, .t 22, .t 23], none, []⟩, ⟨some 19, .mv (.t 24), none, []⟩, ⟨some 25, .ext (.t 19) 0, none, []⟩, ⟨some 26, .ext (.t 19) 1, none, []⟩, ⟨some 2, .mv (.t 25), none, []⟩, ⟨some 3, .mv (.t 26), none, []⟩]) (.seq (.reg [⟨some 28, .mv (.t 0), none, []⟩, ⟨some 29, .mv (.t 1), none, []⟩, ⟨some 30, .mv (.t 2), none, []⟩, ⟨some 31, .mv (.t 4), none, []⟩, ⟨some 32, .call ford2 [.t 28, .t 29, .t 30, .t 31], none, []⟩, ⟨some 27, .mv (.t 32), none, []⟩, ⟨some 33, .ext (.t 27) 0, none, []⟩, ⟨some 34, .ext (.t 27) 1, none, []⟩, ⟨some 1, .mv (.t 33), none, []⟩, ⟨some 2, .mv (.t 34), none, []⟩]) (.seq (.reg [⟨some 35, .mv (.t 2), none, []⟩, ⟨some 10, .mv (.t 35), none, []⟩]) .ret)))), [.tmp 10]⟩
def OOrd2 (less : FuncId) : FC := ⟨28, .seq (.reg [⟨some 8, .mv (.c (.sc (.int .i64 0))), none, []⟩, ⟨some 9, .mv (.c (.sc (.int .i64 0))), none, []⟩]) (.seq (.seq (.reg [⟨some 10, .mv (.t 0), none, []⟩, ⟨some 11, .mv (.t 2), none, []⟩, ⟨some 12, .ix 1 (.t 10) (.t 11), none, []⟩, ⟨some 13, .load none (.t 12), none, []⟩, ⟨some 14, .mv (.t 0), none, []⟩, ⟨some 15, .mv (.t 1), none, []⟩, ⟨some 16, .ix 1 (.t 14) (.t 15), none, []⟩, ⟨some 17, .load none (.t 16), none, []⟩, ⟨some 18, .call less [.t 13, .t 17], none, []⟩]) (.cond (.t 18) (.seq (.reg [⟨some 19, .mv (.t 3), none, []⟩, ⟨some 20, .nilck (.t 19), none, []⟩, ⟨some 21, .load none (.t 20), none, []⟩, ⟨some 22, .bin .add (.t 21) (.c (.sc (.int .i64 1))), none, []⟩, ⟨some 23, .nilck (.t 19), none, []⟩, ⟨none, .store 1 (.t 23) (.t 22), none, []⟩]) (.seq (.reg [⟨some 24, .mv (.t 2), none, []⟩, ⟨some 25, .mv (.t 1), none, []⟩, ⟨some 8, .mv (.t 24), none, []⟩, ⟨some 9, .mv (.t 25), none, []⟩]) .ret)) .skip)) (.seq (.reg [⟨some 26, .mv (.t 1), none, []⟩, ⟨some 27, .mv (.t 2), none, []⟩, ⟨some 8, .mv (.t 26), none, []⟩, ⟨some 9, .mv (.t 27), none, []⟩]) .ret)), [.tmp 8, .tmp 9]⟩
def OPdq (fins fheap fbreak fpivot frev fpart less fequal fsplit fpdq : FuncId) : FC := ⟨134, .seq (.reg [⟨some 8, .mv (.c (.sc (.bool true))), none, []⟩]) (.seq (.reg [⟨some 9, .mv (.c (.sc (.bool true))), none, []⟩]) (.blk 0 (.loop (.blk 1 (.seq (.reg [⟨some 19, .mv (.t 2), none, []⟩, ⟨some 20, .mv (.t 1), none, []⟩, ⟨some 21, .bin .sub (.t 19) (.t 20), none, []⟩, ⟨some 10, .mv (.t 21), none, []⟩]) (.seq (.seq (.reg [⟨some 22, .mv (.t 10), none, []⟩, ⟨some 23, .bin .leq (.t 22) (.c (.sc (.int .i64 12))), none, []⟩]) (.cond (.t 23) (.seq (.reg [⟨some 24, .mv (.t 0), none, []⟩, ⟨some 25, .mv (.t 1), none, []⟩, ⟨some 26, .mv (.t 2), none, []⟩, ⟨some 27, .call fins [.t 24, .t 25, .t 26], none, []⟩]) .ret) .skip)) (.seq (.seq (.reg [⟨some 28, .mv (.t 3), none, []⟩, ⟨some 29, .bin .eql (.t 28) (.c (.sc (.int .i64 0))), none, []⟩]) (.cond (.t 29) (.seq (.reg [⟨some 30, .mv (.t 0), none, []⟩, ⟨some 31, .mv (.t 1), none, []⟩, ⟨some 32, .mv (.t 2), none, []⟩, ⟨some 33, .call fheap [.t 30, .t 31, .t 32], none, []⟩]) .ret) .skip)) (.seq (.seq (.reg [⟨some 34, .mv (.t 8), none, []⟩, ⟨some 35, .un .not (.t 34), none, []⟩]) (.cond (.t 35) (.seq (.reg [⟨some 36, .mv (.t 0), none, []⟩, ⟨some 37, .mv (.t 1), none, []⟩, ⟨some 38, .mv (.t 2), none, []⟩, ⟨some 39, .call fbreak [.t 36, .t 37, .t 38], none, []⟩]) (.reg [⟨some 40, .mv (.t 3), none, []⟩, ⟨some 41, .bin .sub (.t 40) (.c (.sc (.int .i64 1))), none, []⟩, ⟨some 3, .mv (.t 41), none, []⟩])) .skip)) (.seq (.reg [⟨some 43, .mv (.t 0), none, []⟩, ⟨some 44, .mv (.t 1), none, []⟩, ⟨some 45, .mv (.t 2), none, []⟩, ⟨some 46, .call fpivot [.t 43, .t 44, .t 45], none, []⟩, ⟨some 42, .mv (.t 46), none, []⟩, ⟨some 47, .ext (.t 42) 0, none, []⟩, ⟨some 48, .ext (.t 42) 1, none, []⟩, ⟨some 11, .mv (.t 47), none, []⟩, ⟨some 12, .mv (.t 48), none, []⟩]) (.seq (.seq (.reg [⟨some 49, .mv (.t 12), none, []⟩, ⟨some 50, .bin .eql (.t 49) (.c (.sc (.int .i64 2))), none, []⟩]) (.cond (.t 50) (.seq (.reg [⟨some 51, .mv (.t 0), none, []⟩, ⟨some 52, .mv (.t 1), none, []⟩, ⟨some 53, .mv (.t 2), none, []⟩, ⟨some 54, .call frev [.t 51, .t 52, .t 53], none, []⟩]) (.seq (.reg [⟨some 55, .mv (.t 2), none, []⟩, ⟨some 56, .bin .sub (.t 55) (.c (.sc (.int .i64 1))), none, []⟩, ⟨some 57, .mv (.t 11), none, []⟩, ⟨some 58, .mv (.t 1), none, []⟩, ⟨some 59, .bin .sub (.t 57) (.t 58), none, []⟩, ⟨some 60, .bin .sub (.t 56) (.t 59), none, []⟩, ⟨some 11, .mv (.t 60), none, []⟩]) (.reg [⟨some 12, .mv (.c (.sc (.int .i64 1))), none, []⟩]))) .skip)) (.seq (.seq (.reg [⟨some 61, .mv (.t 8), none, []⟩, ⟨some 62, .mv (.t 61), none, []⟩, ⟨some 63, .mv (.t 9), some (62, true), []⟩, ⟨some 64, .pick (.t 62) (.t 63) (.c (.sc (.bool false))), none, []⟩, ⟨some 65, .mv (.t 64), none, []⟩, ⟨some 66, .mv (.t 12), some (65, true), []⟩, ⟨some 67, .bin .eql (.t 66) (.c (.sc (.int .i64 1))), some (65, true), []⟩, ⟨some 68, .pick (.t 65) (.t 67) (.c (.sc (.bool false))), none, []⟩]) (.cond (.t 68) (.seq (.reg [⟨some 69, .mv (.t 0), none, []⟩, ⟨some 70, .mv (.t 1), none, []⟩, ⟨some 71, .mv (.t 2), none, []⟩, ⟨some 72, .call fpart [.t 69, .t 70, .t 71], none, []⟩]) (.cond (.t 72) .ret .skip)) .skip)) (.seq (.seq (.reg [⟨some 73, .mv (.t 1), none, []⟩, ⟨some 74, .bin .gtr (.t 73) (.c (.sc (.int .i64 0))), none, []⟩, ⟨some 75, .mv (.t 74), none, []⟩, ⟨some 76, .mv (.t 0), some (75, true), []⟩, ⟨some 77, .mv (.t 1), some (75, true), []⟩, ⟨some 78, .bin .sub (.t 77) (.c (.sc (.int .i64 1))), some (75, true), []⟩, ⟨some 79, .ix 1 (.t 76) (.t 78), some (75, true), []⟩, ⟨some 80, .load none (.t 79), some (75, true), []⟩, ⟨some 81, .mv (.t 0), some (75, true), []⟩, ⟨some 82, .mv (.t 11), some (75, true), []⟩, ⟨some 83, .ix 1 (.t 81) (.t 82), some (75, true), []⟩, ⟨some 84, .load none (.t 83), some (75, true), []⟩, ⟨some 85, .call less [.t 80, .t 84], some (75, true), []⟩, ⟨some 86, .un .not (.t 85), some (75, true), []⟩, ⟨some 87, .pick (.t 75) (.t 86) (.c (.sc (.bool false))), none, []⟩]) (.cond (.t 87) (.seq (.reg [⟨some 88, .mv (.t 0), none, []⟩, ⟨some 89, .mv (.t 1), none, []⟩, ⟨some 90, .mv (.t 2), none, []⟩, ⟨some 91, .mv (.t 11), none, []⟩, ⟨some 92, .call fequal [.t 88, .t 89, .t 90, .t 91], none, []⟩, ⟨some 13, .mv (.t 92), none, []⟩]) (.seq (.reg [⟨some 93, .mv (.t 13), none, []⟩, ⟨some 1, .mv (.t 93), none, []⟩]) (.exit 1))) .skip)) (.seq (.reg [⟨some 95, .mv (.t 0), none, []⟩, ⟨some 96, .mv (.t 1), none, []⟩, ⟨some 97, .mv (.t 2), none, []⟩, ⟨some 98, .mv (.t 11), none, []⟩, ⟨some 99, .call fsplit [.t 95, .t 96, .t 97, .t 98], none, []⟩, ⟨some 94, .mv (.t 99), none, []⟩, ⟨some 100, .ext (.t 94) 0, none, []⟩, ⟨some 101, .ext (.t 94) 1, none, []⟩, ⟨some 14, .mv (.t 100), none, []⟩, ⟨some 15, .mv (.t 101), none, []⟩]) (.seq (.reg [⟨some 102, .mv (.t 15), none, []⟩, ⟨some 9, .mv (.t 102), none, []⟩]) (.seq (.reg [⟨some 103, .mv (.t 14), none, []⟩, ⟨some 104, .mv (.t 1), none, []⟩, ⟨some 105, .bin .sub (.t 103) (.t 104), none, []⟩, ⟨some 106, .mv (.t 2), none, []⟩, ⟨some 107, .mv (.t 14), none, []⟩, ⟨some 108, .bin .sub (.t 106) (.t 107), none, []⟩, ⟨some 16, .mv (.t 105), none, []⟩, ⟨some 17, .mv (.t 108), none, []⟩]) (.seq (.reg [⟨some 109, .mv (.t 10), none, []⟩, ⟨some 110, .bin .quo (.t 109) (.c (.sc (.int .i64 8))), none, []⟩, ⟨some 18, .mv (.t 110), none, []⟩]) (.seq (.reg [⟨some 111, .mv (.t 16), none, []⟩, ⟨some 112, .mv (.t 17), none, []⟩, ⟨some 113, .bin .lss (.t 111) (.t 112), none, []⟩]) (.cond (.t 113) (.seq (.reg [⟨some 114, .mv (.t 16), none, []⟩, ⟨some 115, .mv (.t 18), none, []⟩, ⟨some 116, .bin .geq (.t 114) (.t 115), none, []⟩, ⟨some 8, .mv (.t 116), none, []⟩]) (.seq (.reg [⟨some 117, .mv (.t 0), none, []⟩, ⟨some 118, .mv (.t 1), none, []⟩, ⟨some 119, .mv (.t 14), none, []⟩, ⟨some 120, .mv (.t 3), none, []⟩, ⟨some 121, .call fpdq [.t 117, .t 118, .t 119, .t 120], none, []⟩]) (.reg [⟨some 122, .mv (.t 14), none, []⟩, ⟨some 123, .bin .add (.t 122) (.c (.sc (.int .i64 1))), none, []⟩, ⟨some 1, .mv (.t 123), none, []⟩]))) (.seq (.reg [⟨some 124, .mv (.t 17), none, []⟩, ⟨some 125, .mv (.t 18), none, []⟩, ⟨some 126, .bin .geq (.t 124) (.t 125), none, []⟩, ⟨some 8, .mv (.t 126), none, []⟩]) (.seq (.reg [⟨some 127, .mv (.t 0), none, []⟩, ⟨some 128, .mv (.t 14), none, []⟩, ⟨some 129, .bin .add (.t 128) (.c (.sc (.int .i64 1))), none, []⟩, ⟨some 130, .mv (.t 2), none, []⟩, ⟨some 131, .mv (.t 3), none, []⟩, ⟨some 132, .call fpdq [.t 127, .t 129, .t 130, .t 131], none, []⟩]) (.reg [⟨some 133, .mv (.t 14), none, []⟩, ⟨some 2, .mv (.t 133), none, []⟩]))))))))))))))))))))), []⟩
def OSorts (flen fpdq : FuncId) : FC := ⟨11, .seq (.reg [⟨some 3, .mv (.t 0), none, []⟩, ⟨some 4, .len (.t 3), none, []⟩, ⟨some 2, .mv (.t 4), none, []⟩]) (.reg [⟨some 5, .mv (.t 0), none, []⟩, ⟨some 6, .mv (.t 2), none, []⟩, ⟨some 7, .mv (.t 2), none, []⟩, ⟨some 8, .conv .u64 (.t 7), none, []⟩, ⟨some 9, .call flen [.t 8], none, []⟩, ⟨some 10, .call fpdq [.t 5, .c (.sc (.int .i64 0)), .t 6, .t 9], none, []⟩]), []⟩
def OLess (fnan : FuncId) : FC := ⟨17, .seq (.reg [⟨some 4, .mv (.c (.sc (.bool false))), none, []⟩]) (.seq (.reg [⟨some 5, .mv (.t 0), none, []⟩, ⟨some 6, .call fnan [.t 5], none, []⟩, ⟨some 7, .mv (.t 6), none, []⟩, ⟨some 8, .mv (.t 1), some (7, true), []⟩, ⟨some 9, .call fnan [.t 8], some (7, true), []⟩, ⟨some 10, .un .not (.t 9), some (7, true), []⟩, ⟨some 11, .pick (.t 7) (.t 10) (.c (.sc (.bool false))), none, []⟩, ⟨some 12, .mv (.t 11), none, []⟩, ⟨some 13, .mv (.t 0), some (12, false), []⟩, ⟨some 14, .mv (.t 1), some (12, false), []⟩, ⟨some 15, .bin .lss (.t 13) (.t 14), some (12, false), []⟩, ⟨some 16, .pick (.t 12) (.c (.sc (.bool true))) (.t 15), none, []⟩, ⟨some 4, .mv (.t 16), none, []⟩]) .ret), [.tmp 4]⟩
def ONan : FC := ⟨6, .seq (.reg [⟨some 2, .mv (.c (.sc (.bool false))), none, []⟩]) (.seq (.reg [⟨some 3, .mv (.t 0), none, []⟩, ⟨some 4, .mv (.t 0), none, []⟩, ⟨some 5, .bin .neq (.t 3) (.t 4), none, []⟩, ⟨some 2, .mv (.t 5), none, []⟩]) .ret), [.tmp 2]⟩
end
section
open Go
theorem put_swp {st : St} {b c : Nat} {x y z : List V} (h : b ≠ c) : ((st.put b x).put c y).put b z = (st.put b z).put c y := by
  simp only [St.put, St.mk.injEq, true_and]
  refine ⟨funext fun q => ?_, by omega⟩
  by_cases h1 : q = b
  · subst h1; simp [h]
  · by_cases h2 : q = c
    · subst h2; simp [h1]
    · simp [h1, h2]
theorem and_u64 (x : Int) {m : Nat} (h : m < 18446744073709551616) : ∃ z : Nat, ibit .and .u64 x (m : Int) = (z : Int) ∧ z ≤ m := by
  refine ⟨(BitVec.ofInt 64 x &&& BitVec.ofInt 64 (m : Int)).toNat, ?_, ?_⟩
  · show IntKind.wrap .u64 (((BitVec.ofInt 64 x &&& BitVec.ofInt 64 (m : Int)).toNat : Nat) : Int) = _
    have := (BitVec.ofInt 64 x &&& BitVec.ofInt 64 (m : Int)).isLt
    show (((BitVec.ofInt 64 x &&& BitVec.ofInt 64 (m : Int)).toNat : Nat) : Int) % 18446744073709551616 = _
    omega
  · rw [BitVec.toNat_and]
    refine Nat.le_trans Nat.and_le_right ?_
    rw [BitVec.toNat_ofInt]
    omega
def dataV (b n cap : Nat) : V := .sc (.slice (some ⟨b, 0, none⟩) n cap)
theorem weak_re {st : St} {b : Nat} {X Y : List V} (h : (st.put b X).Wf) : (st.put b Y).weak (st.put b Y) := by
  have := (h.lt.put (b := b) (cs := Y)).weak
  rwa [put_put] at this
theorem put_selfR {st : St} {b : Nat} {cs : List V} (hb : st.box b = some cs) (h : b < st.sz) : st.put b cs = st := by
  cases st with
  | mk box own sz =>
    simp only [St.put, St.mk.injEq, true_and]
    simp only at hb h
    refine ⟨?_, by omega⟩
    funext i
    by_cases e : i = b
    · subst e; simp [hb]
    · simp [e]
section
variable {α : Type} [Inhabited α] {lt : α → α → Bool}
theorem Srt.all {L M : List α} (h : Mix 0 L.length L M) (k : Srt lt 0 L.length M) : M.Perm L ∧ M.Pairwise (fun x y => lt y x = false) := ⟨h.perm, Srt.pw (by rw [h.len]; exact k)⟩
end
end
section
open Go
section
variable {α : Type}
def row (val : α → Value) (L : List α) (sp : List V) : List V := (L.map fun x => V.sc (val x)) ++ sp
variable {val : α → Value} {L M : List α} {sp : List V}
theorem row_len : (row val L sp).length = L.length + sp.length := by simp [row]
theorem row_set {i : Nat} {y : α} (h : i < L.length) : List.take i (row val L sp) ++ [.sc (val y)] ++ List.drop (i + 1) (row val L sp) = row val (L.set i y) sp := by
  unfold row
  rw [List.take_append_of_le_length (by simp; omega), List.drop_append_of_le_length (by simp; omega), ← List.append_assoc, ← List.map_take, ← List.map_drop]
  congr 1
  rw [List.set_eq_take_append_cons_drop, if_pos h]
  simp
theorem row_mono (h : mono (row val L sp)) (hl : M.length = L.length) : mono (row val M sp) := by
  cases M with
  | nil =>
    have : L = [] := List.eq_nil_of_length_eq_zero (by simpa using hl.symm)
    subst this
    exact h
  | cons x M =>
    have : row val (x :: M) sp = .sc (val x) :: ((M.map fun x => V.sc (val x)) ++ sp) := by simp [row]
    rw [this, mono_sc]
    trivial
theorem row_get [Inhabited α] {i : Nat} (h : i < L.length) : (row val L sp)[i]? = some (.sc (val L[i]!)) := by
  unfold row
  rw [List.getElem?_append_left (by simpa using h), List.getElem?_map, bang_get h]
  rfl
structure Elt (P : Program) (less : FuncId) (val : α → Value) (lt : α → α → Bool) : Prop where
  less : ∀ (st : St) (x y : α), VCalls P less [.sc (val x), .sc (val y)] st fun r st' => r = .sc (.bool (lt x y)) ∧ st = st'
  ord : Ord' lt
end
section
variable {P : Program} {α : Type} [Inhabited α] {val : α → Value} {lt : α → α → Bool} {less f fsift : FuncId} {st : St} {b cap a c : Nat} {L : List α} {sp : List V}
set_option maxRecDepth 100000 in
set_option maxHeartbeats 2000000 in
theorem oins_v (hf : cFun P f = some (OIns less)) (E : Elt P less val lt) (hmo : mono (row val L sp)) (h1 : a ≤ c) (h2 : c ≤ L.length) (hl : L.length < 4611686018427387904) :
    VCalls P f [dataV b L.length cap, .sc (.int .i64 a), .sc (.int .i64 c)] (st.put b (row val L sp)) fun _ s => ∃ M, Mix a c L M ∧ Srt lt a c M ∧ s = st.put b (row val M sp) := by
  refine vcalls_enter hf (Nat.le_of_ble_eq_true rfl) fun hwf hok => ?_
  show Run _ (OIns less).body (.fin (finQ (OIns less).res _)) _ _
  unfold OIns
  simp (maxSteps := 3000000) only [go_sem, ↓reduceIte, dataV]
  repeat (apply And.intro; focus (first | omega | (simp; done)))
  refine run_loop [6, 7, 10, 11, 12, 13, 14, 15, 16, 17, 18, 19, 20, 21, 22, 23, 24, 25, 26, 27, 28, 29, 30, 31, 32, 33, 34, 35, 36, 37, 38, 39, 40, 41, 42, 43, 44, 45, 46, 47, 48] (fun B s => ∃ (i : Nat) (M : List α), (a + 1 ≤ i ∧ (i ≤ c ∨ i = a + 1)) ∧ B 6 = .sc (.int .i64 i) ∧ Mix a c L M ∧ Srt lt a i M ∧ s = st.put b (row val M sp)) (fun B _ => c - vnat (B 6)) rfl ?_ ?_
  · simp (maxSteps := 3000000) only [go_sem, ↓reduceIte]
    exact ⟨a + 1, L, by omega, by simp, .refl, Srt.one (by omega), rfl⟩
  · rintro B s ⟨i, M, hi, h6, hM, hS, rfl⟩
    by_cases c1 : i < c
    · have hlen := hM.len
      simp (maxSteps := 3000000) only [go_sem, ↓reduceIte, h6, decide_eq_true (show (i : Int) < (c : Int) by omega)]
      refine run_loop [7, 16, 17, 18, 19, 20, 21, 22, 23, 24, 25, 26, 27, 28, 29, 30, 31, 32, 33, 34, 35, 36, 37, 38, 39, 40, 41, 42, 43, 44, 45, 46, 47, 48] (fun C s' => ∃ (j : Nat) (M' : List α), (a ≤ j ∧ j ≤ i) ∧ C 7 = .sc (.int .i64 j) ∧ Mix a c L M' ∧ Ins lt a i j M' ∧ s' = st.put b (row val M' sp)) (fun C _ => vnat (C 7)) rfl ?_ ?_
      · simp (maxSteps := 3000000) only [go_sem, ↓reduceIte]
        exact ⟨i, M, by omega, rfl, hM, Ins.start hS, rfl⟩
      · rintro C s' ⟨j, M', hj, h7, hM', hI, rfl⟩
        have hlen' := hM'.len
        have hmo' := row_mono hmo hlen'
        by_cases c2 : a < j
        · have e1 : ((j : Int) - 1).toNat = j - 1 := by omega
          simp (maxSteps := 3000000) only [go_sem, ↓reduceIte, h7, decide_eq_true (show (a : Int) < (j : Int) by omega), e1, row_get (show j < M'.length by omega), row_get (show j - 1 < M'.length by omega)]
          repeat (apply And.intro; focus (first | omega | (simp; done)))
          refine Cal.mk (E.less _ _ _) ?_
          rintro _ _ ⟨rfl, rfl⟩ -
          cases c3 : lt M'[j]! M'[j - 1]!
          · simp (maxSteps := 3000000) only [go_sem, ↓reduceIte, h6]
            repeat (apply And.intro; focus (first | omega | (simp; done)))
            exact ⟨⟨i + 1, M', by omega, by simp, hM', hI.done E.ord (by omega) (.inr ⟨c2, c3⟩), rfl⟩, by omega⟩
          · have hs1 := row_set (val := val) (L := M') (sp := sp) (i := j) (y := M'[j - 1]!) (by omega)
            have hs2 := row_set (val := val) (L := M'.set j M'[j - 1]!) (sp := sp) (i := j - 1) (y := M'[j]!) (by simp; omega)
            have hmo2 : mono (row val (M'.set j M'[j - 1]!) sp) := row_mono hmo (by simp [hlen'])
            have hex := hM'.exch (i := j) (j := j - 1) (by omega) (by omega) (by omega) (by omega) h2
            have hst := hI.step E.ord c2 (by omega) (by omega) c3
            simp (maxSteps := 3000000) only [go_sem, ↓reduceIte, h7, e1, row_get (show j < M'.length by omega), row_get (show j - 1 < M'.length by omega), row_len, hmo', hmo2, hs1, hs2, List.length_set]
            repeat (apply And.intro; focus (first | omega | (simp; done)))
            exact ⟨⟨j - 1, exch M' j (j - 1), by omega, by rw [show ((j : Int) - 1) = ((j - 1 : Nat) : Int) by omega], hex, hst, rfl⟩, by omega⟩
        · have ej : j = a := by omega
          subst ej
          simp (maxSteps := 3000000) only [go_sem, ↓reduceIte, h7, h6]
          repeat (apply And.intro; focus (first | omega | (simp; done)))
          exact ⟨⟨i + 1, M', by omega, by simp, hM', hI.done E.ord (by omega) (.inl rfl), rfl⟩, by omega⟩
    · simp (maxSteps := 3000000) only [go_sem, ↓reduceIte, h6, decide_eq_false (show ¬ (i : Int) < (c : Int) by omega)]
      exact ⟨_, _, Wk.refl _, weak_re hwf, M, hM, by
        by_cases e : i = c
        · subst e; exact hS
        · exact Srt.one (by omega), rfl⟩
end
end
section
open Go
section
variable {α : Type} [Inhabited α] {val : α → Value} {L M : List α} {sp : List V}
theorem swapF (hmo : mono (row val L sp)) (hl : M.length = L.length) {i j : Nat} (hi : i < M.length) (hj : j < M.length) :
    (row val M sp)[i]? = some (.sc (val M[i]!)) ∧ (row val M sp)[j]? = some (.sc (val M[j]!)) ∧ List.take i (row val M sp) ++ [.sc (val M[j]!)] ++ List.drop (i + 1) (row val M sp) = row val (M.set i M[j]!) sp ∧
    List.take j (row val (M.set i M[j]!) sp) ++ [.sc (val M[i]!)] ++ List.drop (j + 1) (row val (M.set i M[j]!) sp) = row val (exch M i j) sp ∧ mono (row val M sp) ∧ mono (row val (M.set i M[j]!) sp) :=
  ⟨row_get hi, row_get hj, row_set hi, row_set (by simpa using hj), row_mono hmo hl, row_mono hmo (by simpa using hl)⟩
end
section
variable {P : Program} {α : Type} [Inhabited α] {val : α → Value} {lt : α → α → Bool} {less f fsift : FuncId} {st : St} {b cap a c : Nat} {L : List α} {sp : List V}
set_option maxRecDepth 100000 in
set_option maxHeartbeats 4000000 in
theorem osift_v (hf : cFun P f = some (OSift less)) (E : Elt P less val lt) (hmo : mono (row val L sp)) {lo hi fi : Nat} (h1 : fi + hi ≤ L.length) (hl : L.length < 4611686018427387904) (hlo : lo ≤ hi) (hH : Heap lt fi (lo + 1) hi L) :
    VCalls P f [dataV b L.length cap, .sc (.int .i64 lo), .sc (.int .i64 hi), .sc (.int .i64 fi)] (st.put b (row val L sp)) fun _ s => ∃ M, Mix fi (fi + hi) L M ∧ Heap lt fi lo hi M ∧ s = st.put b (row val M sp) := by
  refine vcalls_enter hf (Nat.le_of_ble_eq_true rfl) fun hwf hok => ?_
  show Run _ (OSift less).body (.fin (finQ (OSift less).res _)) _ _
  unfold OSift
  simp (maxSteps := 3000000) only [go_sem, ↓reduceIte, dataV]
  refine run_loop [8, 9, 11, 12, 13, 14, 15, 16, 17, 18, 19, 20, 21, 22, 23, 24, 25, 26, 27, 28, 29, 30, 31, 32, 33, 34, 35, 36, 37, 38, 39, 40, 41, 42, 43, 44, 45, 46, 47, 48, 49, 50, 51, 52, 53, 54, 55, 56, 57, 58, 59, 60, 61, 62, 63, 64, 65, 66, 67, 68, 69, 70, 71, 72, 73, 74, 75] (fun B s => ∃ (r : Nat) (M : List α), lo ≤ r ∧ r ≤ hi ∧ B 8 = .sc (.int .i64 r) ∧ Mix fi (fi + hi) L M ∧ Sift lt fi lo hi r M ∧ s = st.put b (row val M sp)) (fun B _ => hi - vnat (B 8)) rfl ?_ ?_
  · simp (maxSteps := 3000000) only [go_sem, ↓reduceIte]
    exact ⟨lo, L, by omega, hlo, rfl, .refl, Sift.start hH, rfl⟩
  · rintro B s ⟨r, M, hr, hrh, h8, hM, hS, rfl⟩
    have hlen := hM.len
    by_cases c1 : hi ≤ 2 * r + 1
    · simp (maxSteps := 3000000) only [go_sem, ↓reduceIte, h8, decide_eq_true (show (hi : Int) ≤ 2 * (r : Int) + 1 by omega)]
      repeat (apply And.intro; focus (first | omega | (simp; done)))
      exact ⟨_, _, Wk.refl _, weak_re hwf, M, hM, hS.done (fun ch hk hc => by rcases hk with h | h <;> omega), rfl⟩
    have i1 : ((fi : Int) + (2 * (r : Int) + 1)).toNat = fi + (2 * r + 1) := by omega
    have i2 : ((fi : Int) + (2 * (r : Int) + 1) + 1).toNat = fi + (2 * r + 2) := by omega
    have i3 : ((fi : Int) + (r : Int)).toNat = fi + r := by omega
    have i4 : ((fi : Int) + (2 * (r : Int) + 1 + 1)).toNat = fi + (2 * r + 2) := by omega
    by_cases c2 : 2 * r + 1 + 1 < hi
    · simp (maxSteps := 3000000) only [go_sem, ↓reduceIte, h8, decide_eq_false (show ¬ (hi : Int) ≤ 2 * (r : Int) + 1 by omega), decide_eq_true (show 2 * (r : Int) + 1 + 1 < (hi : Int) by omega), i1, i2, row_get (show fi + (2 * r + 1) < M.length by omega), row_get (show fi + (2 * r + 2) < M.length by omega)]
      repeat (apply And.intro; focus (first | omega | (simp; done)))
      refine Cal.mk (E.less _ _ _) ?_
      rintro _ _ ⟨rfl, rfl⟩ -
      cases c3 : lt M[fi + (2 * r + 1)]! M[fi + (2 * r + 2)]!
      · have hbig : ∀ k, kid r k → k < hi → lt M[fi + (2 * r + 1)]! M[fi + k]! = false := fun k hk _ => by
          rcases hk with rfl | rfl
          · exact E.ord.irr _
          · exact c3
        simp (maxSteps := 3000000) only [go_sem, ↓reduceIte, h8, i1, i3, row_get (show fi + (2 * r + 1) < M.length by omega), row_get (show fi + r < M.length by omega)]
        repeat (apply And.intro; focus (first | omega | (simp; done)))
        refine Cal.mk (E.less _ _ _) ?_
        rintro _ _ ⟨rfl, rfl⟩ -
        cases c4 : lt M[fi + r]! M[fi + (2 * r + 1)]!
        · simp (maxSteps := 3000000) only [go_sem, ↓reduceIte]
          exact ⟨_, _, Wk.refl _, weak_re hwf, M, hM, hS.done (fun k hk hkh => E.ord.trans (hbig k hk hkh) c4), rfl⟩
        · obtain ⟨g1, g2, s1, s2, m1, m2⟩ := swapF hmo hlen (i := fi + r) (j := fi + (2 * r + 1)) (by omega) (by omega)
          have hex := hM.exch (i := fi + r) (j := fi + (2 * r + 1)) (by omega) (by omega) (by omega) (by omega) h1
          have hst := hS.step E.ord (ch := 2 * r + 1) (by unfold kid; omega) (by omega) hr (by omega) hbig c4
          simp (maxSteps := 3000000) only [go_sem, ↓reduceIte, h8, i1, i3, g1, g2, s1, s2, m1, m2, row_len, List.length_set]
          repeat (apply And.intro; focus (first | omega | (simp; done)))
          exact ⟨⟨2 * r + 1, _, by omega, by omega, by rw [show (2 * (r : Int) + 1) = ((2 * r + 1 : Nat) : Int) by omega], hex, hst, rfl⟩, by omega⟩
      · have hbig : ∀ k, kid r k → k < hi → lt M[fi + (2 * r + 2)]! M[fi + k]! = false := fun k hk _ => by
          rcases hk with rfl | rfl
          · exact E.ord.asymm c3
          · exact E.ord.irr _
        simp (maxSteps := 3000000) only [go_sem, ↓reduceIte, h8, i4, i3, row_get (show fi + (2 * r + 2) < M.length by omega), row_get (show fi + r < M.length by omega)]
        repeat (apply And.intro; focus (first | omega | (simp; done)))
        refine Cal.mk (E.less _ _ _) ?_
        rintro _ _ ⟨rfl, rfl⟩ -
        cases c4 : lt M[fi + r]! M[fi + (2 * r + 2)]!
        · simp (maxSteps := 3000000) only [go_sem, ↓reduceIte]
          exact ⟨_, _, Wk.refl _, weak_re hwf, M, hM, hS.done (fun k hk hkh => E.ord.trans (hbig k hk hkh) c4), rfl⟩
        · obtain ⟨g1, g2, s1, s2, m1, m2⟩ := swapF hmo hlen (i := fi + r) (j := fi + (2 * r + 2)) (by omega) (by omega)
          have hex := hM.exch (i := fi + r) (j := fi + (2 * r + 2)) (by omega) (by omega) (by omega) (by omega) h1
          have hst := hS.step E.ord (ch := 2 * r + 2) (by unfold kid; omega) (by omega) hr (by omega) hbig c4
          simp (maxSteps := 3000000) only [go_sem, ↓reduceIte, h8, i4, i3, g1, g2, s1, s2, m1, m2, row_len, List.length_set]
          repeat (apply And.intro; focus (first | omega | (simp; done)))
          exact ⟨⟨2 * r + 2, _, by omega, by omega, by rw [show (2 * (r : Int) + 1 + 1) = ((2 * r + 2 : Nat) : Int) by omega], hex, hst, rfl⟩, by omega⟩
    · have hbig : ∀ k, kid r k → k < hi → lt M[fi + (2 * r + 1)]! M[fi + k]! = false := fun k hk hkh => by
        rcases hk with rfl | rfl
        · exact E.ord.irr _
        · omega
      simp (maxSteps := 3000000) only [go_sem, ↓reduceIte, h8, decide_eq_false (show ¬ (hi : Int) ≤ 2 * (r : Int) + 1 by omega), decide_eq_false (show ¬ 2 * (r : Int) + 1 + 1 < (hi : Int) by omega), i1, i3, row_get (show fi + (2 * r + 1) < M.length by omega), row_get (show fi + r < M.length by omega)]
      repeat (apply And.intro; focus (first | omega | (simp; done)))
      refine Cal.mk (E.less _ _ _) ?_
      rintro _ _ ⟨rfl, rfl⟩ -
      cases c4 : lt M[fi + r]! M[fi + (2 * r + 1)]!
      · simp (maxSteps := 3000000) only [go_sem, ↓reduceIte]
        exact ⟨_, _, Wk.refl _, weak_re hwf, M, hM, hS.done (fun k hk hkh => E.ord.trans (hbig k hk hkh) c4), rfl⟩
      · obtain ⟨g1, g2, s1, s2, m1, m2⟩ := swapF hmo hlen (i := fi + r) (j := fi + (2 * r + 1)) (by omega) (by omega)
        have hex := hM.exch (i := fi + r) (j := fi + (2 * r + 1)) (by omega) (by omega) (by omega) (by omega) h1
        have hst := hS.step E.ord (ch := 2 * r + 1) (by unfold kid; omega) (by omega) hr (by omega) hbig c4
        simp (maxSteps := 3000000) only [go_sem, ↓reduceIte, h8, i1, i3, g1, g2, s1, s2, m1, m2, row_len, List.length_set]
        repeat (apply And.intro; focus (first | omega | (simp; done)))
        exact ⟨⟨2 * r + 1, _, by omega, by omega, by rw [show (2 * (r : Int) + 1) = ((2 * r + 1 : Nat) : Int) by omega], hex, hst, rfl⟩, by omega⟩
set_option maxRecDepth 100000 in
set_option maxHeartbeats 4000000 in
theorem orev_v (hf : cFun P f = some ORev) (hmo : mono (row val L sp)) (h1 : a < c) (h2 : c ≤ L.length) (hl : L.length < 4611686018427387904) :
    VCalls P f [dataV b L.length cap, .sc (.int .i64 a), .sc (.int .i64 c)] (st.put b (row val L sp)) fun _ s => ∃ M, Mix a c L M ∧ s = st.put b (row val M sp) := by
  refine vcalls_enter hf (Nat.le_of_ble_eq_true rfl) fun hwf hok => ?_
  show Run _ (ORev).body (.fin (finQ (ORev).res _)) _ _
  unfold ORev
  simp (maxSteps := 3000000) only [go_sem, ↓reduceIte, dataV]
  repeat (apply And.intro; focus (first | omega | (simp; done)))
  refine run_loop [6, 7, 11, 12, 13, 14, 15, 16, 17, 18, 19, 20, 21, 22, 23, 24, 25, 26, 27, 28, 29, 30, 31] (fun B s => ∃ (i j : Nat) (M : List α), a ≤ i ∧ j < c ∧ i ≤ j + 1 ∧ B 6 = .sc (.int .i64 i) ∧ B 7 = .sc (.int .i64 j) ∧ Mix a c L M ∧ s = st.put b (row val M sp)) (fun B _ => vnat (B 7)) rfl ?_ ?_
  · simp (maxSteps := 3000000) only [go_sem, ↓reduceIte]
    exact ⟨a, c - 1, L, by omega, by omega, by omega, rfl, by rw [show ((c : Int) - 1) = ((c - 1 : Nat) : Int) by omega], .refl, rfl⟩
  · rintro B s ⟨i, j, M, hi, hj, hij, h6, h7, hM, rfl⟩
    have hlen := hM.len
    by_cases c1 : i < j
    · obtain ⟨g1, g2, s1, s2, m1, m2⟩ := swapF hmo hlen (i := i) (j := j) (by omega) (by omega)
      have hex := hM.exch (i := i) (j := j) (by omega) (by omega) (by omega) (by omega) h2
      simp (maxSteps := 3000000) only [go_sem, ↓reduceIte, h6, h7, decide_eq_true (show (i : Int) < (j : Int) by omega), g1, g2, s1, s2, m1, m2, row_len, List.length_set]
      repeat (apply And.intro; focus (first | omega | (simp; done)))
      exact ⟨⟨i + 1, j - 1, _, by omega, by omega, by omega, by simp, by rw [show ((j : Int) - 1) = ((j - 1 : Nat) : Int) by omega], hex, rfl⟩, by omega⟩
    · simp (maxSteps := 3000000) only [go_sem, ↓reduceIte, h6, h7, decide_eq_false (show ¬ (i : Int) < (j : Int) by omega)]
      exact ⟨_, _, Wk.refl _, weak_re hwf, M, hM, rfl⟩
set_option maxRecDepth 100000 in
set_option maxHeartbeats 4000000 in
theorem oheap_v (hf : cFun P f = some (OHeap fsift)) (hfs : cFun P fsift = some (OSift less)) (E : Elt P less val lt) (hmo : mono (row val L sp)) (h1 : a < c) (h2 : c ≤ L.length) (hl : L.length < 4611686018427387904) :
    VCalls P f [dataV b L.length cap, .sc (.int .i64 a), .sc (.int .i64 c)] (st.put b (row val L sp)) fun _ s => ∃ M, Mix a c L M ∧ Srt lt a c M ∧ s = st.put b (row val M sp) := by
  have e0 : (c : Int) - (a : Int) = ((c - a : Nat) : Int) := by omega
  refine vcalls_enter hf (Nat.le_of_ble_eq_true rfl) fun hwf hok => ?_
  show Run _ (OHeap fsift).body (.fin (finQ (OHeap fsift).res _)) _ _
  unfold OHeap
  simp (maxSteps := 3000000) only [go_sem, ↓reduceIte, dataV, e0]
  repeat (apply And.intro; focus (first | omega | (simp; done)))
  refine run_loop [9, 18, 19, 20, 21, 22, 23, 24, 25, 26] (fun B s => ∃ (i : Int) (M : List α), -1 ≤ i ∧ i < ((c - a : Nat) : Int) ∧ B 9 = .sc (.int .i64 i) ∧ Mix a c L M ∧ Heap lt a (i + 1).toNat (c - a) M ∧ s = st.put b (row val M sp)) (fun B _ => match B 9 with | .sc (.int _ n) => (n + 1).toNat | _ => 0) rfl ?_ ?_
  · simp (maxSteps := 3000000) only [go_sem, ↓reduceIte]
    refine ⟨(((c - a : Nat) : Int) - 1) / 2, L, by omega, by omega, rfl, .refl, fun r k hr hk hkh => ?_, rfl⟩
    exfalso
    rcases hk with h | h <;> omega
  · rintro B s ⟨i, M, hi, hi2, h9, hM, hH, rfl⟩
    have hlen := hM.len
    by_cases c1 : 0 ≤ i
    · obtain ⟨n, rfl⟩ : ∃ n : Nat, i = n := ⟨i.toNat, by omega⟩
      simp (maxSteps := 3000000) only [go_sem, ↓reduceIte, h9, decide_eq_true c1]
      have e1 : ((n : Int) + 1).toNat = n + 1 := by omega
      rw [e1] at hH
      have hmo' := row_mono hmo hlen
      have := osift_v (st := st) (b := b) (cap := cap) (sp := sp) hfs E hmo' (lo := n) (hi := c - a) (fi := a) (by omega) (by omega) (by omega) hH
      rw [hlen, dataV] at this
      refine Cal.mk this ?_
      rintro _ _ ⟨M2, k1, k2, rfl⟩ -
      have hM2 : Mix a c L M2 := hM.trans (k1.wide (Nat.le_refl _) (by omega))
      simp (maxSteps := 3000000) only [go_sem, ↓reduceIte, h9]
      repeat (apply And.intro; focus (first | omega | (simp; done)))
      exact ⟨⟨(n : Int) - 1, M2, by omega, by omega, rfl, hM2, by rw [show ((n : Int) - 1 + 1).toNat = n by omega]; exact k2, rfl⟩, by omega⟩
    · have ei : i = -1 := by omega
      subst ei
      have hH0 : Heap lt a 0 (c - a) M := hH
      simp (maxSteps := 3000000) only [go_sem, ↓reduceIte, h9]
      repeat (apply And.intro; focus (first | omega | (simp; done)))
      refine run_loop [10, 29, 30, 31, 32, 33, 34, 35, 36, 37, 38, 39, 40, 41, 42, 43, 44, 45, 46, 47, 48, 49, 50, 51, 52, 53, 54, 55] (fun B s => ∃ (i : Int) (M : List α), -1 ≤ i ∧ i < ((c - a : Nat) : Int) ∧ B 10 = .sc (.int .i64 i) ∧ Mix a c L M ∧ Heap lt a 0 (i + 1).toNat M ∧ Srt lt (a + (i + 1).toNat) c M ∧ (∀ p q, p < (i + 1).toNat → a + (i + 1).toNat ≤ q → q < c → lt M[q]! M[a + p]! = false) ∧ s = st.put b (row val M sp)) (fun B _ => match B 10 with | .sc (.int _ n) => (n + 1).toNat | _ => 0) rfl ?_ ?_
      · simp (maxSteps := 3000000) only [go_sem, ↓reduceIte]
        have e2 : (((c - a : Nat) : Int) - 1 + 1).toNat = c - a := by omega
        refine ⟨((c - a : Nat) : Int) - 1, M, by omega, by omega, rfl, hM, by rw [e2]; exact hH0, by rw [e2]; exact Srt.one (by omega), ?_, rfl⟩
        rw [e2]
        intro p q h3 h4 h5
        omega
      · clear hM hH hH0 hlen M h9
        rintro C s ⟨i, M, hi, hi2, h10, hM, hH, hS, hB, rfl⟩
        have hlen := hM.len
        by_cases c2 : 0 ≤ i
        · obtain ⟨n, rfl⟩ : ∃ n : Nat, i = n := ⟨i.toNat, by omega⟩
          have e1 : ((n : Int) + 1).toNat = n + 1 := by omega
          rw [e1] at hH hS hB
          have e3 : ((a : Int) + (n : Int)).toNat = a + n := by omega
          obtain ⟨g1, g2, s1, s2, m1, m2⟩ := swapF hmo hlen (i := a) (j := a + n) (by omega) (by omega)
          have hex := hM.exch (i := a) (j := a + n) (by omega) (by omega) (by omega) (by omega) h2
          have hlen2 := hex.len
          simp (maxSteps := 3000000) only [go_sem, ↓reduceIte, h10, decide_eq_true c2, e3, g1, g2, s1, s2, m1, m2, row_len, List.length_set]
          repeat (apply And.intro; focus (first | omega | (simp; done)))
          have gx := fun k => exch_get (L := M) (i := a) (j := a + n) (by omega) (by omega) k
          have hH2 : Heap lt a 1 n (exch M a (a + n)) := fun r k hr hk hkn => by
            have hrk : r < k := by rcases hk with h | h <;> omega
            rw [gx, gx, if_neg (by omega), if_neg (by omega), if_neg (by omega), if_neg (by omega)]
            exact hH r k (by omega) hk (by omega)
          have htop := hH.top E.ord
          have := osift_v (st := st) (b := b) (cap := cap) (sp := sp) hfs E (row_mono hmo hlen2) (lo := 0) (hi := n) (fi := a) (by omega) (by omega) (by omega) hH2
          rw [hlen2, dataV] at this
          refine Cal.mk this ?_
          rintro _ _ ⟨M2, k1, k2, rfl⟩ -
          have hM2 : Mix a c L M2 := hex.trans (k1.wide (Nat.le_refl _) (by omega))
          have hbig : ∀ q, a + n ≤ q → q < c → ∀ p, a ≤ p → p < a + n → lt M2[q]! M2[p]! = false := fun q h3 h4 p h5 h6 => by
            rw [k1.out q (by omega)]
            refine k1.all (by omega) (Q := fun v => lt (exch M a (a + n))[q]! v = false) (fun p h7 h8 => ?_) p h5 h6
            rw [gx q, gx p, if_neg (show ¬ p = a + n by omega)]
            by_cases eq : q = a + n
            · rw [if_pos eq]
              by_cases ep : p = a
              · rw [if_pos ep]
                exact htop n (by omega)
              · rw [if_neg ep]
                have := htop (p - a) (by omega)
                rwa [show a + (p - a) = p by omega] at this
            · rw [if_neg eq, if_neg (by omega)]
              by_cases ep : p = a
              · rw [if_pos ep]; exact hB n q (by omega) (by omega) h4
              · rw [if_neg ep]
                have := hB (p - a) q (by omega) (by omega) h4
                rwa [show a + (p - a) = p by omega] at this
          have hS2 : Srt lt (a + n) c M2 := fun p q h3 h4 h5 => by
            rw [k1.out p (by omega), k1.out q (by omega), gx p, gx q, if_neg (show ¬ q = a + n by omega), if_neg (show ¬ q = a by omega)]
            by_cases ep : p = a + n
            · rw [if_pos ep]
              have := hB 0 q (by omega) (by omega) h5
              rwa [Nat.add_zero] at this
            · rw [if_neg ep, if_neg (by omega)]; exact hS p q (by omega) h4 h5
          have e4 : ((n : Int) - 1 + 1).toNat = n := by omega
          simp (maxSteps := 3000000) only [go_sem, ↓reduceIte, h10]
          repeat (apply And.intro; focus (first | omega | (simp; done)))
          refine ⟨⟨(n : Int) - 1, M2, by omega, by omega, rfl, hM2, by rw [e4]; exact k2, by rw [e4]; exact hS2, ?_, rfl⟩, by omega⟩
          rw [e4]
          exact fun p q h3 h4 h5 => hbig q h4 h5 (a + p) (by omega) (by omega)
        · have ei : i = -1 := by omega
          subst ei
          simp (maxSteps := 3000000) only [go_sem, ↓reduceIte, h10]
          exact ⟨_, _, Wk.refl _, weak_re hwf, M, hM, hS, rfl⟩
end
end
section
section
variable {α : Type} [Inhabited α]
theorem by_not {x y : Bool} (h : x = y) : (!x) = !y := by rw [h]
theorem not_by {x y : Bool} (h : (!x) = y) : x = !y := by rw [← h, Bool.not_not]
structure Part (q : α → α → Bool) (a c i j : Nat) (M : List α) : Prop where
  ai : a + 1 ≤ i
  ij : i ≤ j + 1
  jc : j < c
  lo : ∀ k, a < k → k < i → q M[a]! M[k]! = true
  hi : ∀ k, j < k → k < c → q M[a]! M[k]! = false
variable {q : α → α → Bool} {a c i j : Nat} {M : List α}
theorem Part.start (h : a < c) : Part q a c (a + 1) (c - 1) M := ⟨Nat.le_refl _, by omega, by omega, fun k h1 h2 => by omega, fun k h1 h2 => by omega⟩
theorem Part.up (h : Part q a c i j M) (hij : i ≤ j) (hq : q M[a]! M[i]! = true) : Part q a c (i + 1) j M := by
  refine ⟨by have := h.ai; omega, by omega, h.jc, fun k h1 h2 => ?_, h.hi⟩
  by_cases e : k = i
  · rw [e]; exact hq
  · exact h.lo k h1 (by omega)
theorem Part.down (h : Part q a c i j M) (hij : i ≤ j) (hq : q M[a]! M[j]! = false) : Part q a c i (j - 1) M := by
  refine ⟨h.ai, by have := h.ai; omega, by have := h.jc; omega, h.lo, fun k h1 h2 => ?_⟩
  by_cases e : k = j
  · rw [e]; exact hq
  · exact h.hi k (by omega) h2
theorem Part.lt (_ : Part q a c i j M) (hij : i ≤ j) (h1 : q M[a]! M[i]! = false) (h2 : q M[a]! M[j]! = true) : i < j := by
  rcases Nat.lt_or_ge i j with h | h
  · exact h
  · have e : i = j := by omega
    rw [e, h2] at h1; cases h1
theorem Part.swap (h : Part q a c i j M) (hij : i ≤ j) (h1 : q M[a]! M[i]! = false) (h2 : q M[a]! M[j]! = true) (hc : c ≤ M.length) : Part q a c (i + 1) (j - 1) (exch M i j) := by
  have hl := h.lt hij h1 h2
  have h3 := h.ai
  have h4 := h.jc
  have g := fun k => exch_get (L := M) (i := i) (j := j) (by omega) (by omega) k
  refine ⟨by omega, by omega, by omega, fun k k1 k2 => ?_, fun k k1 k2 => ?_⟩
  · rw [g a, g k, if_neg (by omega), if_neg (by omega), if_neg (show ¬ k = j by omega)]
    by_cases e : k = i
    · rw [if_pos e]; exact h2
    · rw [if_neg e]; exact h.lo k k1 (by omega)
  · rw [g a, g k, if_neg (by omega), if_neg (by omega), if_neg (show ¬ k = i by omega)]
    by_cases e : k = j
    · rw [if_pos e]; exact h1
    · rw [if_neg e]; exact h.hi k (by omega) k2
theorem Part.head (h : Part q a c i j M) (hij : i ≤ j) (hc : c ≤ M.length) : (exch M i j)[a]! = M[a]! := by
  have h3 := h.ai
  have h4 := h.jc
  rw [exch_get (by omega) (by omega), if_neg (by omega), if_neg (by omega)]
variable {lt : α → α → Bool}
theorem Part.mid (O : Ord' lt) (h : Part (fun p x => lt x p) a c i j M) (hij : ¬ i ≤ j) (hc : c ≤ M.length) :
    (∀ k, a ≤ k → k < j → lt (exch M j a)[j]! (exch M j a)[k]! = false) ∧ (∀ k, j < k → k < c → lt (exch M j a)[k]! (exch M j a)[j]! = false) := by
  have h1 := h.ai
  have h2 := h.ij
  have h3 := h.jc
  have g := fun k => exch_get (L := M) (i := j) (j := a) (by omega) (by omega) k
  have gj : (exch M j a)[j]! = M[a]! := by
    rw [g j]
    by_cases e : j = a
    · rw [if_pos e, e]
    · rw [if_neg e, if_pos rfl]
  refine ⟨fun k k1 k2 => ?_, fun k k1 k2 => ?_⟩
  · rw [gj, g k]
    by_cases e : k = a
    · rw [if_pos e]; exact O.asymm (h.lo j (by omega) (by omega))
    · rw [if_neg e, if_neg (by omega)]; exact O.asymm (h.lo k (by omega) (by omega))
  · rw [gj, g k, if_neg (by omega), if_neg (by omega)]
    exact h.hi k k1 k2
theorem Srt.next {a i : Nat} {M : List α} (O : Ord' lt) (h : Srt lt a i M) (ha : a + 1 ≤ i) (h1 : lt M[i]! M[i - 1]! = false) : Srt lt a (i + 1) M := fun p q h2 h3 h4 => by
  by_cases e : q = i
  · subst e
    by_cases e2 : p = q - 1
    · rw [e2]; exact h1
    · exact O.trans (h p (q - 1) h2 (by omega) (by omega)) h1
  · exact h p q h2 h3 (by omega)
theorem Srt.keep {a i : Nat} {M N : List α} (h : Srt lt a i M) (he : ∀ k, a ≤ k → k < i → N[k]! = M[k]!) : Srt lt a i N := fun p q h2 h3 h4 => by
  rw [he p h2 (by omega), he q (by omega) h4]; exact h p q h2 h3 h4
theorem LB.part {x y m : Nat} {L : List α} (h : LB lt x y L) (hm : m ≤ y) : LB lt x m L := fun h0 k h1 h2 => h h0 k h1 (by omega)
theorem LB.next {y m : Nat} {L : List α} (h2 : ∀ k, m < k → k < y → lt L[k]! L[m]! = false) : LB lt (m + 1) y L := fun _ k h3 h4 => h2 k (by omega) h4
theorem Fence.fin {a c x y : Nat} {L M N : List α} (h : Fence lt a c x y M) (hM : Mix a c L M) (hax : a ≤ x) (hyc : y ≤ c) (hc : c ≤ L.length) (k1 : Mix x y M N) (k2 : Srt lt x y N) : Mix a c L N ∧ Srt lt a c N :=
  ⟨hM.trans (k1.wide hax hyc), (h.mix k1 hax hyc (by rw [hM.len]; exact hc)).done k2⟩
theorem Fence.goL (O : Ord' lt) {a c x y m : Nat} {M N : List α} (h : Fence lt a c x y M) (hax : a ≤ x) (hyc : y ≤ c) (hxm : x ≤ m) (hmy : m < y) (hc : c ≤ M.length) (h1 : ∀ k, x ≤ k → k < m → lt M[m]! M[k]! = false) (h2 : ∀ k, m < k → k < y → lt M[k]! M[m]! = false)
    (k1 : Mix x m M N) (k2 : Srt lt x m N) : Fence lt a c (m + 1) y N := by
  have hF := h.mix (k1.wide (Nat.le_refl _) (by omega)) hax hyc hc
  refine hF.left O hax hyc hxm hmy (fun k q1 q2 => ?_) (fun k q1 q2 => ?_) k2
  · rw [k1.out m (by omega)]
    exact k1.all (by omega) (Q := fun v => lt M[m]! v = false) h1 k q1 q2
  · rw [k1.out m (by omega), k1.out k (by omega)]
    exact h2 k q1 q2
theorem Fence.goR (O : Ord' lt) {a c x y m : Nat} {M N : List α} (h : Fence lt a c x y M) (hax : a ≤ x) (hyc : y ≤ c) (hxm : x ≤ m) (hmy : m < y) (hc : c ≤ M.length) (h1 : ∀ k, x ≤ k → k < m → lt M[m]! M[k]! = false) (h2 : ∀ k, m < k → k < y → lt M[k]! M[m]! = false)
    (k1 : Mix (m + 1) y M N) (k2 : Srt lt (m + 1) y N) : Fence lt a c x m N := by
  have hF := h.mix (k1.wide (by omega) (Nat.le_refl _)) hax hyc hc
  refine hF.right O hax hyc hxm hmy (fun k q1 q2 => ?_) (fun k q1 q2 => ?_) k2
  · rw [k1.out m (by omega), k1.out k (by omega)]
    exact h1 k q1 q2
  · rw [k1.out m (by omega)]
    exact k1.all (by omega) (Q := fun v => lt v M[m]! = false) (fun k q1 q2 => h2 k (by omega) q2) k (by omega) q2
theorem Fence.goE (O : Ord' lt) {a c x y m pv : Nat} {M N : List α} (h : Fence lt a c x y M) (hLB : LB lt x y M) (hx : 0 < x) (hpv : lt M[x - 1]! M[pv]! = false) (hax : a ≤ x) (hyc : y ≤ c) (hxm : x < m) (hmy : m ≤ y) (hc : c ≤ M.length) (k1 : Mix x y M N)
    (h1 : ∀ k, x ≤ k → k < m → lt M[pv]! N[k]! = false) : Fence lt a c m y N := by
  have hF := h.mix k1 hax hyc hc
  have hall : ∀ k, x ≤ k → k < y → lt N[k]! M[pv]! = false := k1.all (by omega) (Q := fun v => lt v M[pv]! = false) fun k q1 q2 => O.trans hpv (hLB hx k q1 q2)
  refine hF.least hax hyc (by omega) hmy fun k j q1 q2 q3 q4 => O.trans (h1 k q1 q2) (hall j q3 q4)
end
end
section
open Go
section
variable {P : Program} {α : Type} [Inhabited α] {val : α → Value} {lt : α → α → Bool} {less f fsift : FuncId} {st : St} {b cap a c : Nat} {L : List α} {sp : List V}
set_option maxRecDepth 100000 in
set_option maxHeartbeats 16000000 in
theorem osplit_v (hf : cFun P f = some (OSplit less)) (E : Elt P less val lt) (hmo : mono (row val L sp)) {p : Nat} (h1 : a ≤ p) (h3 : p < c) (h2 : c ≤ L.length) (hl : L.length < 4611686018427387904) :
    VCalls P f [dataV b L.length cap, .sc (.int .i64 a), .sc (.int .i64 c), .sc (.int .i64 p)] (st.put b (row val L sp)) fun r s => ∃ (m : Nat) (B : Bool) (M : List α), a ≤ m ∧ m < c ∧ Mix a c L M ∧ (∀ k, a ≤ k → k < m → lt M[m]! M[k]! = false) ∧ (∀ k, m < k → k < c → lt M[k]! M[m]! = false) ∧ r = .tup [.sc (.int .i64 m), .sc (.bool B)] ∧ s = st.put b (row val M sp) := by
  refine vcalls_enter hf (Nat.le_of_ble_eq_true rfl) fun hwf hok => ?_
  show Run _ (OSplit less).body (.fin (finQ (OSplit less).res _)) _ _
  unfold OSplit
  obtain ⟨g1, g2, s1, s2, m1, m2⟩ := swapF hmo (rfl : L.length = L.length) (i := a) (j := p) (by omega) (by omega)
  have hM := (Mix.refl (a := a) (b := c) (L := L)).exch (i := a) (j := p) (by omega) (by omega) (by omega) (by omega) h2
  simp (maxSteps := 3000000) only [go_sem, ↓reduceIte, dataV, g1, g2, s1, s2, m1, m2, row_len, List.length_set]
  repeat (apply And.intro; focus (first | omega | (simp; done)))
  obtain ⟨M, eM⟩ : ∃ M, M = exch L a p := ⟨_, rfl⟩
  rw [← eM] at hM ⊢
  have hlen := hM.len
  have hP : Part (fun p x => lt x p) a c (a + 1) (c - 1) M := Part.start (by omega)
  have h10 : ((a : Int) + 1) = ((a + 1 : Nat) : Int) := by simp
  have h11 : ((c : Int) - 1) = ((c - 1 : Nat) : Int) := by omega
  rw [h10, h11]
  clear g1 g2 s1 s2 m1 m2 eM
  have h10 : True := trivial
  have h11 : True := trivial
  generalize a + 1 = i at hP ⊢
  generalize c - 1 = j at hP ⊢
  obtain ⟨i0, ei0⟩ : ∃ i0, i0 = i := ⟨_, rfl⟩
  obtain ⟨j0, ej0⟩ : ∃ j0, j0 = j := ⟨_, rfl⟩
  have ki := Nat.le_of_eq ei0
  have kj := Nat.le_of_eq ej0.symm
  have k10 := h10
  have k11 := h11
  refine run_loop [10, 30, 31, 32, 33, 34, 35, 36, 37, 38, 39, 40, 41, 42, 43, 44, 45] (fun C s' => ∃ (i : Nat), C 10 = .sc (.int .i64 i) ∧ i0 ≤ i ∧ Part (fun p x => lt x p) a c i j M ∧ s' = st.put b (row val M sp)) (fun C _ => j + 1 - vnat (C 10)) rfl ?_ ?_
  · simp (maxSteps := 3000000) only [go_sem, ↓reduceIte]
    exact ⟨i, rfl, ki, hP⟩
  · rintro C s' ⟨i, h10, ki, hP, rfl⟩
    have ai := hP.ai
    have ij := hP.ij
    have jc := hP.jc
    by_cases ci : i ≤ j
    · simp (maxSteps := 3000000) only [go_sem, ↓reduceIte, h10, decide_eq_true (show (i : Int) ≤ (j : Int) by omega), row_get (show i < M.length by omega), row_get (show a < M.length by omega)]
      repeat (apply And.intro; focus (first | omega | (simp; done)))
      refine Cal.mk (E.less _ _ _) ?_
      rintro _ _ ⟨rfl, rfl⟩ -
      cases cq : lt M[i]! M[a]!
      · simp (maxSteps := 3000000) only [go_sem, ↓reduceIte]
        repeat (apply And.intro; focus (first | omega | (simp; done)))
        refine run_loop [11, 46, 47, 48, 49, 50, 51, 52, 53, 54, 55, 56, 57, 58, 59, 60, 61, 62] (fun D s' => ∃ (j : Nat), D 11 = .sc (.int .i64 j) ∧ j ≤ j0 ∧ Part (fun p x => lt x p) a c i j M ∧ s' = st.put b (row val M sp)) (fun D _ => vnat (D 11)) rfl ?_ ?_
        · simp (maxSteps := 3000000) only [go_sem, ↓reduceIte]
          exact ⟨j, rfl, kj, hP⟩
        · rintro D s' ⟨j, h11, kj, hP, rfl⟩
          have ij := hP.ij
          have jc := hP.jc
          by_cases cj : i ≤ j
          · simp (maxSteps := 3000000) only [go_sem, ↓reduceIte, h10, h11, decide_eq_true (show (i : Int) ≤ (j : Int) by omega), row_get (show j < M.length by omega), row_get (show a < M.length by omega)]
            repeat (apply And.intro; focus (first | omega | (simp; done)))
            refine Cal.mk (E.less _ _ _) ?_
            rintro _ _ ⟨rfl, rfl⟩ -
            cases cr : lt M[j]! M[a]!
            · simp (maxSteps := 3000000) only [go_sem, ↓reduceIte, h11]
              repeat (apply And.intro; focus (first | omega | (simp; done)))
              exact ⟨⟨j - 1, by rw [show ((j : Int) - 1) = ((j - 1 : Nat) : Int) by omega], by omega, hP.down cj cr⟩, by omega⟩
            · obtain ⟨g1, g2, s1, s2, m1, m2⟩ := swapF hmo hlen (i := i) (j := j) (by omega) (by omega)
              have hex := hM.exch (i := i) (j := j) (by omega) (by omega) (by omega) (by omega) h2
              have hPs := hP.swap cj cq cr (by omega)
              have hlt := hP.lt cj cq cr
              have hhd := hP.head cj (by omega)
              simp (maxSteps := 3000000) only [go_sem, ↓reduceIte, h10, h11, decide_eq_false (show ¬ ((j : Int) < (i : Int)) by omega), g1, g2, s1, s2, m1, m2, row_len, List.length_set]
              repeat (apply And.intro; focus (first | omega | (simp; done)))
              refine run_loop [10, 11, 99, 100, 101, 102, 103, 104, 105, 106, 107, 108, 109, 110, 111, 112, 113, 114, 115, 116, 117, 118, 119, 120, 121, 122, 123, 124, 125, 126, 127, 128, 129, 130, 131, 132, 133, 134, 135, 136, 137, 138, 139, 140, 141, 142, 143, 144, 145, 146, 147, 148, 149, 150, 151, 152] (fun B s => ∃ (i j : Nat) (M : List α), B 10 = .sc (.int .i64 i) ∧ B 11 = .sc (.int .i64 j) ∧ Part (fun p x => lt x p) a c i j M ∧ Mix a c L M ∧ s = st.put b (row val M sp)) (fun B _ => vnat (B 11) + 1 - vnat (B 10)) rfl ?_ ?_
              · simp (maxSteps := 3000000) only [go_sem, ↓reduceIte]
                exact ⟨i + 1, j - 1, _, by simp, by rw [show ((j : Int) - 1) = ((j - 1 : Nat) : Int) by omega], hPs, hex, rfl⟩
              · rintro G s ⟨i, j, M, h10, h11, hP, hM, rfl⟩
                have hlen := hM.len
                have ij0 := hP.ij
                simp (maxSteps := 3000000) only [go_sem, h10, h11]
                obtain ⟨i0, ei0⟩ : ∃ i0, i0 = i := ⟨_, rfl⟩
                obtain ⟨j0, ej0⟩ : ∃ j0, j0 = j := ⟨_, rfl⟩
                have ki := Nat.le_of_eq ei0
                have kj := Nat.le_of_eq ej0.symm
                have k10 := h10
                have k11 := h11
                refine run_loop [10, 99, 100, 101, 102, 103, 104, 105, 106, 107, 108, 109, 110, 111, 112, 113, 114] (fun C s' => ∃ (i : Nat), C 10 = .sc (.int .i64 i) ∧ i0 ≤ i ∧ Part (fun p x => lt x p) a c i j M ∧ s' = st.put b (row val M sp)) (fun C _ => j + 1 - vnat (C 10)) rfl ?_ ?_
                · simp (maxSteps := 3000000) only [go_sem, ↓reduceIte, h10]
                  exact ⟨i, rfl, ki, hP⟩
                · rintro C s' ⟨i, h10, ki, hP, rfl⟩
                  have ai := hP.ai
                  have ij := hP.ij
                  have jc := hP.jc
                  by_cases ci : i ≤ j
                  · simp (maxSteps := 3000000) only [go_sem, ↓reduceIte, h10, h11, decide_eq_true (show (i : Int) ≤ (j : Int) by omega), row_get (show i < M.length by omega), row_get (show a < M.length by omega)]
                    repeat (apply And.intro; focus (first | omega | (simp; done)))
                    refine Cal.mk (E.less _ _ _) ?_
                    rintro _ _ ⟨rfl, rfl⟩ -
                    cases cq : lt M[i]! M[a]!
                    · simp (maxSteps := 3000000) only [go_sem, ↓reduceIte]
                      repeat (apply And.intro; focus (first | omega | (simp; done)))
                      refine run_loop [11, 115, 116, 117, 118, 119, 120, 121, 122, 123, 124, 125, 126, 127, 128, 129, 130, 131] (fun D s' => ∃ (j : Nat), D 11 = .sc (.int .i64 j) ∧ j ≤ j0 ∧ Part (fun p x => lt x p) a c i j M ∧ s' = st.put b (row val M sp)) (fun D _ => vnat (D 11)) rfl ?_ ?_
                      · simp (maxSteps := 3000000) only [go_sem, ↓reduceIte, h11]
                        exact ⟨j, rfl, kj, hP⟩
                      · rintro D s' ⟨j, h11, kj, hP, rfl⟩
                        have ij := hP.ij
                        have jc := hP.jc
                        by_cases cj : i ≤ j
                        · simp (maxSteps := 3000000) only [go_sem, ↓reduceIte, h10, h11, decide_eq_true (show (i : Int) ≤ (j : Int) by omega), row_get (show j < M.length by omega), row_get (show a < M.length by omega)]
                          repeat (apply And.intro; focus (first | omega | (simp; done)))
                          refine Cal.mk (E.less _ _ _) ?_
                          rintro _ _ ⟨rfl, rfl⟩ -
                          cases cr : lt M[j]! M[a]!
                          · simp (maxSteps := 3000000) only [go_sem, ↓reduceIte, h11]
                            repeat (apply And.intro; focus (first | omega | (simp; done)))
                            exact ⟨⟨j - 1, by rw [show ((j : Int) - 1) = ((j - 1 : Nat) : Int) by omega], by omega, hP.down cj cr⟩, by omega⟩
                          · obtain ⟨g1, g2, s1, s2, m1, m2⟩ := swapF hmo hlen (i := i) (j := j) (by omega) (by omega)
                            have hex := hM.exch (i := i) (j := j) (by omega) (by omega) (by omega) (by omega) h2
                            have hPs := hP.swap cj cq cr (by omega)
                            have hlt := hP.lt cj cq cr
                            have hhd := hP.head cj (by omega)
                            simp (maxSteps := 3000000) only [go_sem, ↓reduceIte, h10, h11, decide_eq_false (show ¬ ((j : Int) < (i : Int)) by omega), g1, g2, s1, s2, m1, m2, row_len, List.length_set]
                            repeat (apply And.intro; focus (first | omega | (simp; done)))
                            exact ⟨⟨i + 1, j - 1, _, by simp, by rw [show ((j : Int) - 1) = ((j - 1 : Nat) : Int) by omega], hPs, hex, rfl⟩, by omega⟩
                        · have cj' : ¬ ((i : Int) ≤ (j : Int)) := by omega
                          obtain ⟨g1, g2, s1, s2, m1, m2⟩ := swapF hmo hlen (i := j) (j := a) (by omega) (by omega)
                          have hex := hM.exch (i := j) (j := a) (by omega) (by omega) (by omega) (by omega) h2
                          have hmid := hP.mid E.ord (by omega) (by omega)
                          simp (maxSteps := 3000000) only [go_sem, ↓reduceIte, h10, h11, decide_eq_false cj', decide_eq_true (show (j : Int) < (i : Int) by omega), g1, g2, s1, s2, m1, m2, row_len, List.length_set]
                          repeat (apply And.intro; focus (first | omega | (simp; done)))
                          exact ⟨_, _, Wk.refl _, weak_re hwf, j, false, _, by omega, by omega, hex, hmid.1, hmid.2, rfl, rfl⟩
                    · simp (maxSteps := 3000000) only [go_sem, ↓reduceIte, h10]
                      repeat (apply And.intro; focus (first | omega | (simp; done)))
                      exact ⟨⟨i + 1, by simp, by omega, hP.up ci cq⟩, by omega⟩
                  · have ci' : ¬ ((i : Int) ≤ (j : Int)) := by omega
                    simp (maxSteps := 3000000) only [go_sem, ↓reduceIte, h10, h11, decide_eq_false ci']
                    repeat (apply And.intro; focus (first | omega | (simp; done)))
                    refine run_loop [11, 115, 116, 117, 118, 119, 120, 121, 122, 123, 124, 125, 126, 127, 128, 129, 130, 131] (fun D s' => D 11 = .sc (.int .i64 j) ∧ s' = st.put b (row val M sp)) (fun D _ => 0) rfl ?_ ?_
                    · simp (maxSteps := 3000000) only [go_sem, ↓reduceIte, h11]
                    · rintro D s' ⟨h11, rfl⟩
                      have cj' := ci'
                      obtain ⟨g1, g2, s1, s2, m1, m2⟩ := swapF hmo hlen (i := j) (j := a) (by omega) (by omega)
                      have hex := hM.exch (i := j) (j := a) (by omega) (by omega) (by omega) (by omega) h2
                      have hmid := hP.mid E.ord (by omega) (by omega)
                      simp (maxSteps := 3000000) only [go_sem, ↓reduceIte, h10, h11, decide_eq_false cj', decide_eq_true (show (j : Int) < (i : Int) by omega), g1, g2, s1, s2, m1, m2, row_len, List.length_set]
                      repeat (apply And.intro; focus (first | omega | (simp; done)))
                      exact ⟨_, _, Wk.refl _, weak_re hwf, j, false, _, by omega, by omega, hex, hmid.1, hmid.2, rfl, rfl⟩
          · have cj' : ¬ ((i : Int) ≤ (j : Int)) := by omega
            obtain ⟨g1, g2, s1, s2, m1, m2⟩ := swapF hmo hlen (i := j) (j := a) (by omega) (by omega)
            have hex := hM.exch (i := j) (j := a) (by omega) (by omega) (by omega) (by omega) h2
            have hmid := hP.mid E.ord (by omega) (by omega)
            simp (maxSteps := 3000000) only [go_sem, ↓reduceIte, h10, h11, decide_eq_false cj', decide_eq_true (show (j : Int) < (i : Int) by omega), g1, g2, s1, s2, m1, m2, row_len, List.length_set]
            repeat (apply And.intro; focus (first | omega | (simp; done)))
            exact ⟨_, _, Wk.refl _, weak_re hwf, j, true, _, by omega, by omega, hex, hmid.1, hmid.2, rfl, rfl⟩
      · simp (maxSteps := 3000000) only [go_sem, ↓reduceIte, h10]
        repeat (apply And.intro; focus (first | omega | (simp; done)))
        exact ⟨⟨i + 1, by simp, by omega, hP.up ci cq⟩, by omega⟩
    · have ci' : ¬ ((i : Int) ≤ (j : Int)) := by omega
      simp (maxSteps := 3000000) only [go_sem, ↓reduceIte, h10, decide_eq_false ci']
      repeat (apply And.intro; focus (first | omega | (simp; done)))
      refine run_loop [11, 46, 47, 48, 49, 50, 51, 52, 53, 54, 55, 56, 57, 58, 59, 60, 61, 62] (fun D s' => D 11 = .sc (.int .i64 j) ∧ s' = st.put b (row val M sp)) (fun D _ => 0) rfl ?_ ?_
      · simp (maxSteps := 3000000) only [go_sem, ↓reduceIte]
      · rintro D s' ⟨h11, rfl⟩
        have cj' := ci'
        obtain ⟨g1, g2, s1, s2, m1, m2⟩ := swapF hmo hlen (i := j) (j := a) (by omega) (by omega)
        have hex := hM.exch (i := j) (j := a) (by omega) (by omega) (by omega) (by omega) h2
        have hmid := hP.mid E.ord (by omega) (by omega)
        simp (maxSteps := 3000000) only [go_sem, ↓reduceIte, h10, h11, decide_eq_false cj', decide_eq_true (show (j : Int) < (i : Int) by omega), g1, g2, s1, s2, m1, m2, row_len, List.length_set]
        repeat (apply And.intro; focus (first | omega | (simp; done)))
        exact ⟨_, _, Wk.refl _, weak_re hwf, j, true, _, by omega, by omega, hex, hmid.1, hmid.2, rfl, rfl⟩
set_option maxRecDepth 100000 in
set_option maxHeartbeats 16000000 in
theorem oequal_v (hf : cFun P f = some (OEqual less)) (E : Elt P less val lt) (hmo : mono (row val L sp)) {p : Nat} (h1 : a ≤ p) (h3 : p < c) (h2 : c ≤ L.length) (hl : L.length < 4611686018427387904) :
    VCalls P f [dataV b L.length cap, .sc (.int .i64 a), .sc (.int .i64 c), .sc (.int .i64 p)] (st.put b (row val L sp)) fun r s => ∃ (m : Nat) (M : List α), a < m ∧ m ≤ c ∧ Mix a c L M ∧ (∀ k, a ≤ k → k < m → lt L[p]! M[k]! = false) ∧ (∀ k, m ≤ k → k < c → lt L[p]! M[k]! = true) ∧ r = .sc (.int .i64 m) ∧ s = st.put b (row val M sp) := by
  refine vcalls_enter hf (Nat.le_of_ble_eq_true rfl) fun hwf hok => ?_
  show Run _ (OEqual less).body (.fin (finQ (OEqual less).res _)) _ _
  unfold OEqual
  obtain ⟨g1, g2, s1, s2, m1, m2⟩ := swapF hmo (rfl : L.length = L.length) (i := a) (j := p) (by omega) (by omega)
  have hM := (Mix.refl (a := a) (b := c) (L := L)).exch (i := a) (j := p) (by omega) (by omega) (by omega) (by omega) h2
  have hA : (exch L a p)[a]! = L[p]! := by
    rw [exch_get (by omega) (by omega)]
    by_cases e : a = p
    · rw [if_pos e, e]
    · rw [if_neg e, if_pos rfl]
  simp (maxSteps := 3000000) only [go_sem, ↓reduceIte, dataV, g1, g2, s1, s2, m1, m2, row_len, List.length_set]
  repeat (apply And.intro; focus (first | omega | (simp; done)))
  refine run_loop [9, 10, 29, 30, 31, 32, 33, 34, 35, 36, 37, 38, 39, 40, 41, 42, 43, 44, 45, 46, 47, 48, 49, 50, 51, 52, 53, 54, 55, 56, 57, 58, 59, 60, 61, 62, 63, 64, 65, 66, 67, 68, 69, 70, 71, 72, 73, 74, 75, 76, 77, 78, 79, 80, 81, 82] (fun B s => ∃ (i j : Nat) (M : List α), B 9 = .sc (.int .i64 i) ∧ B 10 = .sc (.int .i64 j) ∧ Part (fun p x => !lt p x) a c i j M ∧ Mix a c L M ∧ M[a]! = L[p]! ∧ s = st.put b (row val M sp)) (fun B _ => vnat (B 10) + 1 - vnat (B 9)) rfl ?_ ?_
  · simp (maxSteps := 3000000) only [go_sem, ↓reduceIte]
    exact ⟨a + 1, c - 1, _, by simp, by rw [show ((c : Int) - 1) = ((c - 1 : Nat) : Int) by omega], Part.start (by omega), hM, hA, rfl⟩
  · clear hM hA g1 g2 s1 s2 m1 m2
    rintro G s ⟨i, j, M, h10, h11, hP, hM, hA, rfl⟩
    have hlen := hM.len
    have ij0 := hP.ij
    simp (maxSteps := 3000000) only [go_sem, h10, h11]
    obtain ⟨i0, ei0⟩ : ∃ i0, i0 = i := ⟨_, rfl⟩
    obtain ⟨j0, ej0⟩ : ∃ j0, j0 = j := ⟨_, rfl⟩
    have ki := Nat.le_of_eq ei0
    have kj := Nat.le_of_eq ej0.symm
    have k10 := h10
    have k11 := h11
    refine run_loop [9, 29, 30, 31, 32, 33, 34, 35, 36, 37, 38, 39, 40, 41, 42, 43, 44, 45] (fun C s' => ∃ (i : Nat), C 9 = .sc (.int .i64 i) ∧ i0 ≤ i ∧ Part (fun p x => !lt p x) a c i j M ∧ s' = st.put b (row val M sp)) (fun C _ => j + 1 - vnat (C 9)) rfl ?_ ?_
    · simp (maxSteps := 3000000) only [go_sem, ↓reduceIte, h10]
      exact ⟨i, rfl, ki, hP⟩
    · rintro C s' ⟨i, h10, ki, hP, rfl⟩
      have ai := hP.ai
      have ij := hP.ij
      have jc := hP.jc
      by_cases ci : i ≤ j
      · simp (maxSteps := 3000000) only [go_sem, ↓reduceIte, h10, h11, decide_eq_true (show (i : Int) ≤ (j : Int) by omega), row_get (show i < M.length by omega), row_get (show a < M.length by omega)]
        repeat (apply And.intro; focus (first | omega | (simp; done)))
        refine Cal.mk (E.less _ _ _) ?_
        rintro _ _ ⟨rfl, rfl⟩ -
        cases cq : lt M[a]! M[i]!
        · simp (maxSteps := 3000000) only [go_sem, ↓reduceIte, h10]
          repeat (apply And.intro; focus (first | omega | (simp; done)))
          exact ⟨⟨i + 1, by simp, by omega, hP.up ci (by_not cq)⟩, by omega⟩
        · simp (maxSteps := 3000000) only [go_sem, ↓reduceIte]
          repeat (apply And.intro; focus (first | omega | (simp; done)))
          refine run_loop [10, 46, 47, 48, 49, 50, 51, 52, 53, 54, 55, 56, 57, 58, 59, 60, 61] (fun D s' => ∃ (j : Nat), D 10 = .sc (.int .i64 j) ∧ j ≤ j0 ∧ Part (fun p x => !lt p x) a c i j M ∧ s' = st.put b (row val M sp)) (fun D _ => vnat (D 10)) rfl ?_ ?_
          · simp (maxSteps := 3000000) only [go_sem, ↓reduceIte, h11]
            exact ⟨j, rfl, kj, hP⟩
          · rintro D s' ⟨j, h11, kj, hP, rfl⟩
            have ij := hP.ij
            have jc := hP.jc
            by_cases cj : i ≤ j
            · simp (maxSteps := 3000000) only [go_sem, ↓reduceIte, h10, h11, decide_eq_true (show (i : Int) ≤ (j : Int) by omega), row_get (show j < M.length by omega), row_get (show a < M.length by omega)]
              repeat (apply And.intro; focus (first | omega | (simp; done)))
              refine Cal.mk (E.less _ _ _) ?_
              rintro _ _ ⟨rfl, rfl⟩ -
              cases cr : lt M[a]! M[j]!
              · obtain ⟨g1, g2, s1, s2, m1, m2⟩ := swapF hmo hlen (i := i) (j := j) (by omega) (by omega)
                have hex := hM.exch (i := i) (j := j) (by omega) (by omega) (by omega) (by omega) h2
                have hPs := hP.swap cj (by_not cq) (by_not cr) (by omega)
                have hlt := hP.lt cj (by_not cq) (by_not cr)
                have hhd := hP.head cj (by omega)
                simp (maxSteps := 3000000) only [go_sem, ↓reduceIte, h10, h11, decide_eq_false (show ¬ ((j : Int) < (i : Int)) by omega), g1, g2, s1, s2, m1, m2, row_len, List.length_set]
                repeat (apply And.intro; focus (first | omega | (simp; done)))
                exact ⟨⟨i + 1, j - 1, _, by simp, by rw [show ((j : Int) - 1) = ((j - 1 : Nat) : Int) by omega], hPs, hex, hhd.trans hA, rfl⟩, by omega⟩
              · simp (maxSteps := 3000000) only [go_sem, ↓reduceIte, h11]
                repeat (apply And.intro; focus (first | omega | (simp; done)))
                exact ⟨⟨j - 1, by rw [show ((j : Int) - 1) = ((j - 1 : Nat) : Int) by omega], by omega, hP.down cj (by_not cr)⟩, by omega⟩
            · have cj' : ¬ ((i : Int) ≤ (j : Int)) := by omega
              simp (maxSteps := 3000000) only [go_sem, ↓reduceIte, h10, h11, decide_eq_false cj', decide_eq_true (show (j : Int) < (i : Int) by omega)]
              repeat (apply And.intro; focus (first | omega | (simp; done)))
              exact ⟨_, _, Wk.refl _, weak_re hwf, i, M, by omega, by omega, hM, fun k k1 k2 => by
                rw [← hA]
                by_cases e : k = a
                · rw [e]; exact E.ord.irr _
                · exact not_by (hP.lo k (by omega) k2), fun k k1 k2 => by
                rw [← hA]
                exact not_by (hP.hi k (by omega) k2), rfl, rfl⟩
      · have ci' : ¬ ((i : Int) ≤ (j : Int)) := by omega
        simp (maxSteps := 3000000) only [go_sem, ↓reduceIte, h10, h11, decide_eq_false ci']
        repeat (apply And.intro; focus (first | omega | (simp; done)))
        refine run_loop [10, 46, 47, 48, 49, 50, 51, 52, 53, 54, 55, 56, 57, 58, 59, 60, 61] (fun D s' => D 10 = .sc (.int .i64 j) ∧ s' = st.put b (row val M sp)) (fun D _ => 0) rfl ?_ ?_
        · simp (maxSteps := 3000000) only [go_sem, ↓reduceIte, h11]
        · rintro D s' ⟨h11, rfl⟩
          have cj' := ci'
          simp (maxSteps := 3000000) only [go_sem, ↓reduceIte, h10, h11, decide_eq_false cj', decide_eq_true (show (j : Int) < (i : Int) by omega)]
          repeat (apply And.intro; focus (first | omega | (simp; done)))
          exact ⟨_, _, Wk.refl _, weak_re hwf, i, M, by omega, by omega, hM, fun k k1 k2 => by
            rw [← hA]
            by_cases e : k = a
            · rw [e]; exact E.ord.irr _
            · exact not_by (hP.lo k (by omega) k2), fun k k1 k2 => by
            rw [← hA]
            exact not_by (hP.hi k (by omega) k2), rfl, rfl⟩
end
end
section
open Go
section
variable {P : Program} {α : Type} [Inhabited α] {val : α → Value} {lt : α → α → Bool} {less f fsift : FuncId} {st : St} {b cap a c : Nat} {L : List α} {sp : List V}
set_option maxRecDepth 100000 in
set_option maxHeartbeats 16000000 in
theorem opart_v (hf : cFun P f = some (OPart less)) (E : Elt P less val lt) (hmo : mono (row val L sp)) (h1 : a < c) (h2 : c ≤ L.length) (hl : L.length < 4611686018427387904) (hLB : LB lt a c L) :
    VCalls P f [dataV b L.length cap, .sc (.int .i64 a), .sc (.int .i64 c)] (st.put b (row val L sp)) fun r s => ∃ (B : Bool) (M : List α), Mix a c L M ∧ (B = true → Srt lt a c M) ∧ r = .sc (.bool B) ∧ s = st.put b (row val M sp) := by
  refine vcalls_enter hf (Nat.le_of_ble_eq_true rfl) fun hwf hok => ?_
  show Run _ (OPart less).body (.fin (finQ (OPart less).res _)) _ _
  unfold OPart
  simp (maxSteps := 3000000) only [go_sem, ↓reduceIte, dataV]
  repeat (apply And.intro; focus (first | omega | (simp; done)))
  refine run_loop [6, 7, 8, 9, 10, 13, 14, 15, 16, 17, 18, 19, 20, 21, 22, 23, 24, 25, 26, 27, 28, 29, 30, 31, 32, 33, 34, 35, 36, 37, 38, 39, 40, 41, 42, 43, 44, 45, 46, 47, 48, 49, 50, 51, 52, 53, 54, 55, 56, 57, 58, 59, 60, 61, 62, 63, 64, 65, 66, 67, 68, 69, 70, 71, 72, 73, 74, 75, 76, 77, 78, 79, 80, 81, 82, 83, 84, 85, 86, 87, 88, 89, 90, 91, 92, 93, 94, 95, 96, 97, 98, 99, 100, 101, 102, 103, 104, 105, 106, 107, 108, 109, 110, 111, 112, 113, 114, 115, 116, 117, 118, 119, 120, 121, 122, 123, 124, 125, 126, 127, 128, 129, 130, 131, 132] (fun B s => ∃ (n i : Nat) (M : List α), B 8 = .sc (.int .i64 n) ∧ B 7 = .sc (.int .i64 i) ∧ a + 1 ≤ i ∧ i ≤ c ∧ Mix a c L M ∧ Srt lt a i M ∧ s = st.put b (row val M sp)) (fun B _ => 5 - vnat (B 8)) rfl ?_ ?_
  · simp (maxSteps := 3000000) only [go_sem, ↓reduceIte]
    exact ⟨0, a + 1, L, rfl, by simp, by omega, by omega, .refl, Srt.one (by omega), rfl⟩
  · rintro B s ⟨n, i, M, h8, h7, hi1, hi2, hM, hS, rfl⟩
    have hlen := hM.len
    by_cases cn : n < 5
    · simp (maxSteps := 3000000) only [go_sem, ↓reduceIte, h8, decide_eq_true (show (n : Int) < 5 by omega)]
      refine run_loop [7, 17, 18, 19, 20, 21, 22, 23, 24, 25, 26, 27, 28, 29, 30, 31, 32, 33, 34] (fun C s' => ∃ (i : Nat), C 7 = .sc (.int .i64 i) ∧ a + 1 ≤ i ∧ i ≤ c ∧ Srt lt a i M ∧ s' = st.put b (row val M sp)) (fun C _ => c - vnat (C 7)) rfl ?_ ?_
      · simp (maxSteps := 3000000) only [go_sem, ↓reduceIte, h7]
        exact ⟨i, rfl, hi1, hi2, hS⟩
      · clear hi1 hi2 hS
        rintro C s' ⟨i, h7, hi1, hi2, hS, rfl⟩
        have e1 : ((i : Int) - 1).toNat = i - 1 := by omega
        have hLM := hLB.mix hM h2
        by_cases ci : i < c
        · simp (maxSteps := 3000000) only [go_sem, ↓reduceIte, h7, e1, decide_eq_true (show (i : Int) < (c : Int) by omega), row_get (show i < M.length by omega), row_get (show i - 1 < M.length by omega)]
          repeat (apply And.intro; focus (first | omega | (simp; done)))
          refine Cal.mk (E.less _ _ _) ?_
          rintro _ _ ⟨rfl, rfl⟩ -
          cases cq : lt M[i]! M[i - 1]!
          · simp (maxSteps := 3000000) only [go_sem, ↓reduceIte, h7]
            repeat (apply And.intro; focus (first | omega | (simp; done)))
            exact ⟨⟨i + 1, by simp, by omega, by omega, hS.next E.ord hi1 cq⟩, by omega⟩
          · simp (maxSteps := 3000000) only [go_sem, ↓reduceIte, h7, decide_eq_false (show ¬ (i : Int) = (c : Int) by omega)]
            repeat (apply And.intro; focus (first | omega | (simp; done)))
            by_cases c5 : (c : Int) - (a : Int) < 50
            · simp (maxSteps := 3000000) only [go_sem, ↓reduceIte, decide_eq_true c5]
              exact ⟨_, _, Wk.refl _, weak_re hwf, false, M, hM, (fun h => by cases h), rfl, rfl⟩
            · obtain ⟨g1, g2, s1, s2, m1, m2⟩ := swapF hmo hlen (i := i) (j := i - 1) (by omega) (by omega)
              have hex := hM.exch (i := i) (j := i - 1) (by omega) (by omega) (by omega) (by omega) h2
              have hS1 : Srt lt a (i - 1) (exch M i (i - 1)) := fun p q k1 k2 k3 => by
                rw [exch_get (by omega) (by omega), exch_get (by omega) (by omega), if_neg (by omega), if_neg (by omega), if_neg (by omega), if_neg (by omega)]
                exact hS p q k1 k2 (by omega)
              simp (maxSteps := 3000000) only [go_sem, ↓reduceIte, h7, e1, decide_eq_false c5, g1, g2, s1, s2, m1, m2, row_len, List.length_set]
              repeat (apply And.intro; focus (first | omega | (simp; done)))
              clear hM hS hLM g1 g2 s1 s2 m1 m2 cq
              generalize exch M i (i - 1) = M at hex hS1 ⊢
              by_cases c2 : (2 : Int) ≤ (i : Int) - (a : Int)
              · simp (maxSteps := 3000000) only [go_sem, ↓reduceIte, h7, decide_eq_true c2]
                repeat (apply And.intro; focus (first | omega | (simp; done)))
                refine run_loop [9, 64, 65, 66, 67, 68, 69, 70, 71, 72, 73, 74, 75, 76, 77, 78, 79, 80, 81, 82, 83, 84, 85, 86, 87, 88, 89, 90, 91, 92, 93, 94] (fun D s' => ∃ (j : Nat) (M : List α), D 9 = .sc (.int .i64 j) ∧ a ≤ j ∧ j ≤ i - 1 ∧ Mix a c L M ∧ Ins lt a (i - 1) j M ∧ s' = st.put b (row val M sp)) (fun D _ => vnat (D 9)) rfl ?_ ?_
                · simp (maxSteps := 3000000) only [go_sem, ↓reduceIte]
                  exact ⟨i - 1, M, by rw [show ((i : Int) - 1) = ((i - 1 : Nat) : Int) by omega], by omega, by omega, hex, Ins.start hS1, rfl⟩
                · clear hex hS1 hlen M
                  rintro D s' ⟨j, M, h9, hj1, hj2, hM, hI, rfl⟩
                  have hlen := hM.len
                  by_cases cj : 1 ≤ j
                  · have e2 : ((j : Int) - 1).toNat = j - 1 := by omega
                    simp (maxSteps := 3000000) only [go_sem, ↓reduceIte, h9, e2, decide_eq_true (show (1 : Int) ≤ (j : Int) by omega), row_get (show j < M.length by omega), row_get (show j - 1 < M.length by omega)]
                    repeat (apply And.intro; focus (first | omega | (simp; done)))
                    refine Cal.mk (E.less _ _ _) ?_
                    rintro _ _ ⟨rfl, rfl⟩ -
                    cases cq : lt M[j]! M[j - 1]!
                    · have hS : Srt lt a i M := by
                        have := hI.done E.ord (by omega) (if e : j = a then .inl e else .inr ⟨by omega, cq⟩)
                        rwa [Nat.sub_add_cancel (by omega)] at this
                      simp (maxSteps := 3000000) only [go_sem, ↓reduceIte, h7]
                      repeat (apply And.intro; focus (first | omega | (simp; done)))
                      by_cases c3 : (2 : Int) ≤ (c : Int) - (i : Int)
                      · simp (maxSteps := 3000000) only [go_sem, ↓reduceIte, h7, decide_eq_true c3]
                        repeat (apply And.intro; focus (first | omega | (simp; done)))
                        refine run_loop [10, 101, 102, 103, 104, 105, 106, 107, 108, 109, 110, 111, 112, 113, 114, 115, 116, 117, 118, 119, 120, 121, 122, 123, 124, 125, 126, 127, 128, 129, 130, 131, 132] (fun G s' => ∃ (j : Nat) (M : List α), G 10 = .sc (.int .i64 j) ∧ i + 1 ≤ j ∧ j ≤ c ∧ Mix a c L M ∧ Srt lt a i M ∧ s' = st.put b (row val M sp)) (fun G _ => c - vnat (G 10)) rfl ?_ ?_
                        · simp (maxSteps := 3000000) only [go_sem, ↓reduceIte]
                          exact ⟨i + 1, M, by simp, by omega, by omega, hM, hS, rfl⟩
                        · rintro G s' ⟨j, M, h10, hj1, hj2, hM, hS, rfl⟩
                          have hlen := hM.len
                          by_cases cj : j < c
                          · have e2 : ((j : Int) - 1).toNat = j - 1 := by omega
                            simp (maxSteps := 3000000) only [go_sem, ↓reduceIte, h10, e2, decide_eq_true (show (j : Int) < (c : Int) by omega), row_get (show j < M.length by omega), row_get (show j - 1 < M.length by omega)]
                            repeat (apply And.intro; focus (first | omega | (simp; done)))
                            refine Cal.mk (E.less _ _ _) ?_
                            rintro _ _ ⟨rfl, rfl⟩ -
                            cases cr : lt M[j]! M[j - 1]!
                            · simp (maxSteps := 3000000) only [go_sem, ↓reduceIte, h7, h8]
                              repeat (apply And.intro; focus (first | omega | (simp; done)))
                              first | exact ⟨⟨n + 1, i, M, by simp, rfl, hi1, hi2, hM, hS, rfl⟩, by omega⟩ | omega
                            · obtain ⟨g1, g2, s1, s2, m1, m2⟩ := swapF hmo hlen (i := j) (j := j - 1) (by omega) (by omega)
                              have hex := hM.exch (i := j) (j := j - 1) (by omega) (by omega) (by omega) (by omega) h2
                              have hS2 : Srt lt a i (exch M j (j - 1)) := hS.keep fun k k1 k2 => by rw [exch_get (by omega) (by omega), if_neg (by omega), if_neg (by omega)]
                              simp (maxSteps := 3000000) only [go_sem, ↓reduceIte, h10, e2, g1, g2, s1, s2, m1, m2, row_len, List.length_set]
                              repeat (apply And.intro; focus (first | omega | (simp; done)))
                              exact ⟨⟨j + 1, _, by simp, by omega, by omega, hex, hS2, rfl⟩, by omega⟩
                          · simp (maxSteps := 3000000) only [go_sem, ↓reduceIte, h7, h8, h10, decide_eq_false (show ¬ (j : Int) < (c : Int) by omega)]
                            repeat (apply And.intro; focus (first | omega | (simp; done)))
                            first | exact ⟨⟨n + 1, i, M, by simp, rfl, hi1, hi2, hM, hS, rfl⟩, by omega⟩ | omega
                      · simp (maxSteps := 3000000) only [go_sem, ↓reduceIte, h7, h8, decide_eq_false c3]
                        repeat (apply And.intro; focus (first | omega | (simp; done)))
                        first | exact ⟨⟨n + 1, i, M, by simp, rfl, hi1, hi2, hM, hS, rfl⟩, by omega⟩ | omega
                    · have haj : a < j := by
                        rcases Nat.lt_or_ge a j with h | h
                        · exact h
                        · have e : j = a := by omega
                          have := hLB.mix hM h2 (by omega) j (by omega) (by omega)
                          rw [e] at this cq
                          rw [this] at cq; cases cq
                      obtain ⟨g1, g2, s1, s2, m1, m2⟩ := swapF hmo hlen (i := j) (j := j - 1) (by omega) (by omega)
                      have hex := hM.exch (i := j) (j := j - 1) (by omega) (by omega) (by omega) (by omega) h2
                      have hst := hI.step E.ord haj (by omega) (by omega) cq
                      simp (maxSteps := 3000000) only [go_sem, ↓reduceIte, h9, e2, g1, g2, s1, s2, m1, m2, row_len, List.length_set]
                      repeat (apply And.intro; focus (first | omega | (simp; done)))
                      exact ⟨⟨j - 1, _, by rw [show ((j : Int) - 1) = ((j - 1 : Nat) : Int) by omega], by omega, by omega, hex, hst, rfl⟩, by omega⟩
                  · have hS : Srt lt a i M := by
                      have := hI.done E.ord (by omega) (.inl (by omega))
                      rwa [Nat.sub_add_cancel (by omega)] at this
                    simp (maxSteps := 3000000) only [go_sem, ↓reduceIte, h9, h7, decide_eq_false (show ¬ (1 : Int) ≤ (j : Int) by omega)]
                    repeat (apply And.intro; focus (first | omega | (simp; done)))
                    by_cases c3 : (2 : Int) ≤ (c : Int) - (i : Int)
                    · simp (maxSteps := 3000000) only [go_sem, ↓reduceIte, h7, decide_eq_true c3]
                      repeat (apply And.intro; focus (first | omega | (simp; done)))
                      refine run_loop [10, 101, 102, 103, 104, 105, 106, 107, 108, 109, 110, 111, 112, 113, 114, 115, 116, 117, 118, 119, 120, 121, 122, 123, 124, 125, 126, 127, 128, 129, 130, 131, 132] (fun G s' => ∃ (j : Nat) (M : List α), G 10 = .sc (.int .i64 j) ∧ i + 1 ≤ j ∧ j ≤ c ∧ Mix a c L M ∧ Srt lt a i M ∧ s' = st.put b (row val M sp)) (fun G _ => c - vnat (G 10)) rfl ?_ ?_
                      · simp (maxSteps := 3000000) only [go_sem, ↓reduceIte]
                        exact ⟨i + 1, M, by simp, by omega, by omega, hM, hS, rfl⟩
                      · rintro G s' ⟨j, M, h10, hj1, hj2, hM, hS, rfl⟩
                        have hlen := hM.len
                        by_cases cj : j < c
                        · have e2 : ((j : Int) - 1).toNat = j - 1 := by omega
                          simp (maxSteps := 3000000) only [go_sem, ↓reduceIte, h10, e2, decide_eq_true (show (j : Int) < (c : Int) by omega), row_get (show j < M.length by omega), row_get (show j - 1 < M.length by omega)]
                          repeat (apply And.intro; focus (first | omega | (simp; done)))
                          refine Cal.mk (E.less _ _ _) ?_
                          rintro _ _ ⟨rfl, rfl⟩ -
                          cases cr : lt M[j]! M[j - 1]!
                          · simp (maxSteps := 3000000) only [go_sem, ↓reduceIte, h7, h8]
                            repeat (apply And.intro; focus (first | omega | (simp; done)))
                            first | exact ⟨⟨n + 1, i, M, by simp, rfl, hi1, hi2, hM, hS, rfl⟩, by omega⟩ | omega
                          · obtain ⟨g1, g2, s1, s2, m1, m2⟩ := swapF hmo hlen (i := j) (j := j - 1) (by omega) (by omega)
                            have hex := hM.exch (i := j) (j := j - 1) (by omega) (by omega) (by omega) (by omega) h2
                            have hS2 : Srt lt a i (exch M j (j - 1)) := hS.keep fun k k1 k2 => by rw [exch_get (by omega) (by omega), if_neg (by omega), if_neg (by omega)]
                            simp (maxSteps := 3000000) only [go_sem, ↓reduceIte, h10, e2, g1, g2, s1, s2, m1, m2, row_len, List.length_set]
                            repeat (apply And.intro; focus (first | omega | (simp; done)))
                            exact ⟨⟨j + 1, _, by simp, by omega, by omega, hex, hS2, rfl⟩, by omega⟩
                        · simp (maxSteps := 3000000) only [go_sem, ↓reduceIte, h7, h8, h10, decide_eq_false (show ¬ (j : Int) < (c : Int) by omega)]
                          repeat (apply And.intro; focus (first | omega | (simp; done)))
                          first | exact ⟨⟨n + 1, i, M, by simp, rfl, hi1, hi2, hM, hS, rfl⟩, by omega⟩ | omega
                    · simp (maxSteps := 3000000) only [go_sem, ↓reduceIte, h7, h8, decide_eq_false c3]
                      repeat (apply And.intro; focus (first | omega | (simp; done)))
                      first | exact ⟨⟨n + 1, i, M, by simp, rfl, hi1, hi2, hM, hS, rfl⟩, by omega⟩ | omega
              · simp (maxSteps := 3000000) only [go_sem, ↓reduceIte, h7, decide_eq_false c2]
                have hS : Srt lt a i M := Srt.one (by omega)
                have hlen := hex.len
                have hM := hex
                by_cases c3 : (2 : Int) ≤ (c : Int) - (i : Int)
                · simp (maxSteps := 3000000) only [go_sem, ↓reduceIte, h7, decide_eq_true c3]
                  repeat (apply And.intro; focus (first | omega | (simp; done)))
                  refine run_loop [10, 101, 102, 103, 104, 105, 106, 107, 108, 109, 110, 111, 112, 113, 114, 115, 116, 117, 118, 119, 120, 121, 122, 123, 124, 125, 126, 127, 128, 129, 130, 131, 132] (fun G s' => ∃ (j : Nat) (M : List α), G 10 = .sc (.int .i64 j) ∧ i + 1 ≤ j ∧ j ≤ c ∧ Mix a c L M ∧ Srt lt a i M ∧ s' = st.put b (row val M sp)) (fun G _ => c - vnat (G 10)) rfl ?_ ?_
                  · simp (maxSteps := 3000000) only [go_sem, ↓reduceIte]
                    exact ⟨i + 1, M, by simp, by omega, by omega, hM, hS, rfl⟩
                  · rintro G s' ⟨j, M, h10, hj1, hj2, hM, hS, rfl⟩
                    have hlen := hM.len
                    by_cases cj : j < c
                    · have e2 : ((j : Int) - 1).toNat = j - 1 := by omega
                      simp (maxSteps := 3000000) only [go_sem, ↓reduceIte, h10, e2, decide_eq_true (show (j : Int) < (c : Int) by omega), row_get (show j < M.length by omega), row_get (show j - 1 < M.length by omega)]
                      repeat (apply And.intro; focus (first | omega | (simp; done)))
                      refine Cal.mk (E.less _ _ _) ?_
                      rintro _ _ ⟨rfl, rfl⟩ -
                      cases cr : lt M[j]! M[j - 1]!
                      · simp (maxSteps := 3000000) only [go_sem, ↓reduceIte, h7, h8]
                        repeat (apply And.intro; focus (first | omega | (simp; done)))
                        first | exact ⟨⟨n + 1, i, M, by simp, rfl, hi1, hi2, hM, hS, rfl⟩, by omega⟩ | omega
                      · obtain ⟨g1, g2, s1, s2, m1, m2⟩ := swapF hmo hlen (i := j) (j := j - 1) (by omega) (by omega)
                        have hex := hM.exch (i := j) (j := j - 1) (by omega) (by omega) (by omega) (by omega) h2
                        have hS2 : Srt lt a i (exch M j (j - 1)) := hS.keep fun k k1 k2 => by rw [exch_get (by omega) (by omega), if_neg (by omega), if_neg (by omega)]
                        simp (maxSteps := 3000000) only [go_sem, ↓reduceIte, h10, e2, g1, g2, s1, s2, m1, m2, row_len, List.length_set]
                        repeat (apply And.intro; focus (first | omega | (simp; done)))
                        exact ⟨⟨j + 1, _, by simp, by omega, by omega, hex, hS2, rfl⟩, by omega⟩
                    · simp (maxSteps := 3000000) only [go_sem, ↓reduceIte, h7, h8, h10, decide_eq_false (show ¬ (j : Int) < (c : Int) by omega)]
                      repeat (apply And.intro; focus (first | omega | (simp; done)))
                      first | exact ⟨⟨n + 1, i, M, by simp, rfl, hi1, hi2, hM, hS, rfl⟩, by omega⟩ | omega
                · simp (maxSteps := 3000000) only [go_sem, ↓reduceIte, h7, h8, decide_eq_false c3]
                  repeat (apply And.intro; focus (first | omega | (simp; done)))
                  first | exact ⟨⟨n + 1, i, M, by simp, rfl, hi1, hi2, hM, hS, rfl⟩, by omega⟩ | omega
        · have ei : i = c := by omega
          subst ei
          simp (maxSteps := 3000000) only [go_sem, ↓reduceIte, h7]
          exact ⟨_, _, Wk.refl _, weak_re hwf, true, M, hM, fun _ => hS, rfl, rfl⟩
    · simp (maxSteps := 3000000) only [go_sem, ↓reduceIte, h8, decide_eq_false (show ¬ (n : Int) < 5 by omega)]
      exact ⟨_, _, Wk.refl _, weak_re hwf, false, M, hM, (fun h => by cases h), rfl, rfl⟩
end
end
section
open Go
section
variable {P : Program} {α : Type} [Inhabited α] {val : α → Value} {lt : α → α → Bool} {less f fsift : FuncId} {st : St} {b cap a c : Nat} {L : List α} {sp : List V}
variable {fo fm fa fpow fnext : FuncId} {r : Nat}
set_option maxRecDepth 100000 in
set_option maxHeartbeats 16000000 in
theorem oord2_v (hf : cFun P f = some (OOrd2 less)) (E : Elt P less val lt) (hbr : b < r) {i j n : Nat} (hi : i < L.length) (hj : j < L.length) (hn : n < 4611686018427387904) (hmo : mono (row val L sp)) (hl : L.length < 4611686018427387904) :
    VCalls P f [dataV b L.length cap, .sc (.int .i64 i), .sc (.int .i64 j), ptrV r] ((st.put b (row val L sp)).put r [.sc (.int .i64 n)]) fun v s => ∃ (x y m : Nat), ((x = i ∧ y = j) ∨ (x = j ∧ y = i)) ∧ m ≤ n + 1 ∧ v = .tup [.sc (.int .i64 x), .sc (.int .i64 y)] ∧ s = (st.put b (row val L sp)).put r [.sc (.int .i64 m)] := by
  refine vcalls_enter hf (Nat.le_of_ble_eq_true rfl) fun hwf hok => ?_
  show Run _ (OOrd2 less).body (.fin (finQ (OOrd2 less).res _)) _ _
  unfold OOrd2
  simp (maxSteps := 3000000) only [go_sem, ↓reduceIte, dataV, put_box_ne (Nat.ne_of_lt hbr), row_get hi, row_get hj]
  repeat (apply And.intro; focus (first | omega | (simp; done)))
  refine Cal.mk (E.less _ _ _) ?_
  rintro _ _ ⟨rfl, rfl⟩ -
  cases cq : lt L[j]! L[i]!
  · simp (maxSteps := 3000000) only [go_sem, ↓reduceIte]
    exact ⟨_, _, Wk.refl _, weak_re hwf, i, j, n, .inl ⟨rfl, rfl⟩, by omega, rfl, rfl⟩
  · simp (maxSteps := 3000000) only [go_sem, ↓reduceIte]
    repeat (apply And.intro; focus (first | omega | (simp; done)))
    exact ⟨_, _, Wk.refl _, weak_re hwf, j, i, n + 1, .inr ⟨rfl, rfl⟩, by omega, rfl, by simp⟩
set_option maxRecDepth 100000 in
set_option maxHeartbeats 16000000 in
theorem omed_v (hf : cFun P f = some (OMed fo)) (hfo : cFun P fo = some (OOrd2 less)) (E : Elt P less val lt) (hbr : b < r) {i j k n : Nat} (hi : i < L.length) (hj : j < L.length) (hk : k < L.length) (hn : n < 4611686018427387) (hmo : mono (row val L sp)) (hl : L.length < 4611686018427387904) :
    VCalls P f [dataV b L.length cap, .sc (.int .i64 i), .sc (.int .i64 j), .sc (.int .i64 k), ptrV r] ((st.put b (row val L sp)).put r [.sc (.int .i64 n)]) fun v s => ∃ (x m : Nat), (x = i ∨ x = j ∨ x = k) ∧ m ≤ n + 3 ∧ v = .sc (.int .i64 x) ∧ s = (st.put b (row val L sp)).put r [.sc (.int .i64 m)] := by
  refine vcalls_enter hf (Nat.le_of_ble_eq_true rfl) fun hwf hok => ?_
  show Run _ (OMed fo).body (.fin (finQ (OMed fo).res _)) _ _
  unfold OMed
  simp (maxSteps := 3000000) only [go_sem, ↓reduceIte, dataV]
  refine Cal.mk (oord2_v (n := n) hfo E hbr (i := i) (j := j) (by omega) (by omega) (by omega) hmo hl) ?_
  rintro _ _ ⟨x1, y1, n1, h1, m1, rfl, rfl⟩ -
  simp (maxSteps := 3000000) only [go_sem, ↓reduceIte]
  refine Cal.mk (oord2_v (n := n1) hfo E hbr (i := y1) (j := k) (by omega) (by omega) (by omega) hmo hl) ?_
  rintro _ _ ⟨x2, y2, n2, h2, m2, rfl, rfl⟩ -
  simp (maxSteps := 3000000) only [go_sem, ↓reduceIte]
  refine Cal.mk (oord2_v (n := n2) hfo E hbr (i := x1) (j := x2) (by omega) (by omega) (by omega) hmo hl) ?_
  rintro _ _ ⟨x3, y3, n3, h3, m3, rfl, rfl⟩ -
  simp (maxSteps := 3000000) only [go_sem, ↓reduceIte]
  exact ⟨_, _, Wk.refl _, weak_re hwf, y3, n3, by omega, by omega, rfl, rfl⟩
set_option maxRecDepth 100000 in
set_option maxHeartbeats 16000000 in
theorem omeda_v (hf : cFun P f = some (OMedA fm)) (hfm : cFun P fm = some (OMed fo)) (hfo : cFun P fo = some (OOrd2 less)) (E : Elt P less val lt) (hbr : b < r) {i n : Nat} (hi : 1 ≤ i) (hj : i + 1 < L.length) (hn : n < 4611686018427387) (hmo : mono (row val L sp)) (hl : L.length < 4611686018427387904) :
    VCalls P f [dataV b L.length cap, .sc (.int .i64 i), ptrV r] ((st.put b (row val L sp)).put r [.sc (.int .i64 n)]) fun v s => ∃ (x m : Nat), i ≤ x + 1 ∧ x ≤ i + 1 ∧ m ≤ n + 3 ∧ v = .sc (.int .i64 x) ∧ s = (st.put b (row val L sp)).put r [.sc (.int .i64 m)] := by
  refine vcalls_enter hf (Nat.le_of_ble_eq_true rfl) fun hwf hok => ?_
  show Run _ (OMedA fm).body (.fin (finQ (OMedA fm).res _)) _ _
  unfold OMedA
  have e1 : ((i : Int) - 1) = ((i - 1 : Nat) : Int) := by omega
  have e2 : ((i : Int) + 1) = ((i + 1 : Nat) : Int) := by omega
  simp (maxSteps := 3000000) only [go_sem, ↓reduceIte, dataV, e1, e2]
  repeat (apply And.intro; focus (first | omega | (simp; done)))
  refine Cal.mk (omed_v (n := n) hfm hfo E hbr (i := i - 1) (j := i) (k := i + 1) (by omega) (by omega) (by omega) (by omega) hmo hl) ?_
  rintro _ _ ⟨x, m, hx, hm, rfl, rfl⟩ -
  simp (maxSteps := 3000000) only [go_sem, ↓reduceIte]
  exact ⟨_, _, Wk.refl _, weak_re hwf, x, m, by omega, by omega, by omega, rfl, rfl⟩
set_option maxRecDepth 100000 in
set_option maxHeartbeats 16000000 in
theorem opivot_v (hf : cFun P f = some (OPivot fa fm)) (hfa : cFun P fa = some (OMedA fm)) (hfm : cFun P fm = some (OMed fo)) (hfo : cFun P fo = some (OOrd2 less)) (E : Elt P less val lt) (h1 : a < c) (h2 : c ≤ L.length) (hmo : mono (row val L sp)) (hl : L.length < 4611686018427387904) :
    VCalls P f [dataV b L.length cap, .sc (.int .i64 a), .sc (.int .i64 c)] (st.put b (row val L sp)) fun v s => ∃ (p : Nat) (h : Int), a ≤ p ∧ p < c ∧ v = .tup [.sc (.int .i64 p), .sc (.int .i64 h)] ∧ s = st.put b (row val L sp) := by
  refine vcalls_enter hf (Nat.le_of_ble_eq_true rfl) fun hwf hok => ?_
  show Run _ (OPivot fa fm).body (.fin (finQ (OPivot fa fm).res _)) _ _
  unfold OPivot
  have e0 : (c : Int) - (a : Int) = ((c - a : Nat) : Int) := by omega
  have e1 : (a : Int) + ((c - a : Nat) : Int) / 4 * 1 = ((a + (c - a) / 4 * 1 : Nat) : Int) := by omega
  have e2 : (a : Int) + ((c - a : Nat) : Int) / 4 * 2 = ((a + (c - a) / 4 * 2 : Nat) : Int) := by omega
  have e3 : (a : Int) + ((c - a : Nat) : Int) / 4 * 3 = ((a + (c - a) / 4 * 3 : Nat) : Int) := by omega
  simp (maxSteps := 3000000) only [go_sem, ↓reduceIte, dataV, e0, e1, e2, e3]
  repeat (apply And.intro; focus (first | omega | (simp; done)))
  intro r hr
  have hbr : b < r := by omega
  have hrn : (st.put b (row val L sp)).box r = none := by
    rw [put_box_ne (Nat.ne_of_gt hbr)]
    cases e : st.box r with
    | none => rfl
    | some X =>
      have := hwf.lt.box r X (by rw [put_box_ne (Nat.ne_of_gt hbr)]; exact e)
      simp only [put_sz] at this
      omega
  obtain ⟨i1, ei1⟩ : ∃ i, i = a + (c - a) / 4 := ⟨_, rfl⟩
  obtain ⟨i2, ei2⟩ : ∃ i, i = a + (c - a) / 4 * 2 := ⟨_, rfl⟩
  obtain ⟨i3, ei3⟩ : ∃ i, i = a + (c - a) / 4 * 3 := ⟨_, rfl⟩
  by_cases c8 : (8 : Int) ≤ ((c - a : Nat) : Int)
  · by_cases c50 : (50 : Int) ≤ ((c - a : Nat) : Int)
    · simp (maxSteps := 3000000) only [go_sem, ↓reduceIte, decide_eq_true c8, decide_eq_true c50]
      repeat (apply And.intro; focus (first | omega | (simp; done)))
      rw [← ei1, ← ei2, ← ei3]
      refine Cal.mk (omeda_v (n := 0) hfa hfm hfo E hbr (i := i1) (by omega) (by omega) (by omega) hmo hl) ?_
      rintro _ _ ⟨x1, n1, h1, i1, m1, rfl, rfl⟩ -
      simp (maxSteps := 3000000) only [go_sem, ↓reduceIte]
      refine Cal.mk (omeda_v (n := n1) hfa hfm hfo E hbr (i := i2) (by omega) (by omega) (by omega) hmo hl) ?_
      rintro _ _ ⟨x2, n2, h2, i2, m2, rfl, rfl⟩ -
      simp (maxSteps := 3000000) only [go_sem, ↓reduceIte]
      refine Cal.mk (omeda_v (n := n2) hfa hfm hfo E hbr (i := i3) (by omega) (by omega) (by omega) hmo hl) ?_
      rintro _ _ ⟨x3, n3, h3, i3, m3, rfl, rfl⟩ -
      simp (maxSteps := 3000000) only [go_sem, ↓reduceIte]
      refine Cal.mk (omed_v (n := n3) hfm hfo E hbr (i := x1) (j := x2) (k := x3) (by omega) (by omega) (by omega) (by omega) hmo hl) ?_
      rintro _ _ ⟨x, m, hx, hm, rfl, rfl⟩ -
      simp (maxSteps := 3000000) only [go_sem, ↓reduceIte]
      by_cases k0 : ((m : Nat) : Int) = 0
      · simp (maxSteps := 3000000) only [go_sem, ↓reduceIte, decide_eq_true k0]
        exact ⟨_, _, Wk.refl _, weak_putF (weak_re hwf) hrn, x, 1, by omega, by omega, rfl, rfl⟩
      · by_cases k12 : ((m : Nat) : Int) = 12
        · simp (maxSteps := 3000000) only [go_sem, ↓reduceIte, decide_eq_false k0, decide_eq_true k12]
          exact ⟨_, _, Wk.refl _, weak_putF (weak_re hwf) hrn, x, 2, by omega, by omega, rfl, rfl⟩
        · simp (maxSteps := 3000000) only [go_sem, ↓reduceIte, decide_eq_false k0, decide_eq_false k12]
          exact ⟨_, _, Wk.refl _, weak_putF (weak_re hwf) hrn, x, 0, by omega, by omega, rfl, rfl⟩
    · simp (maxSteps := 3000000) only [go_sem, ↓reduceIte, decide_eq_true c8, decide_eq_false c50]
      repeat (apply And.intro; focus (first | omega | (simp; done)))
      rw [← ei1, ← ei2, ← ei3]
      refine Cal.mk (omed_v (n := 0) hfm hfo E hbr (i := i1) (j := i2) (k := i3) (by omega) (by omega) (by omega) (by omega) hmo hl) ?_
      rintro _ _ ⟨x, m, hx, hm, rfl, rfl⟩ -
      simp (maxSteps := 3000000) only [go_sem, ↓reduceIte]
      by_cases k0 : ((m : Nat) : Int) = 0
      · simp (maxSteps := 3000000) only [go_sem, ↓reduceIte, decide_eq_true k0]
        exact ⟨_, _, Wk.refl _, weak_putF (weak_re hwf) hrn, x, 1, by omega, by omega, rfl, rfl⟩
      · by_cases k12 : ((m : Nat) : Int) = 12
        · simp (maxSteps := 3000000) only [go_sem, ↓reduceIte, decide_eq_false k0, decide_eq_true k12]
          exact ⟨_, _, Wk.refl _, weak_putF (weak_re hwf) hrn, x, 2, by omega, by omega, rfl, rfl⟩
        · simp (maxSteps := 3000000) only [go_sem, ↓reduceIte, decide_eq_false k0, decide_eq_false k12]
          exact ⟨_, _, Wk.refl _, weak_putF (weak_re hwf) hrn, x, 0, by omega, by omega, rfl, rfl⟩
  · simp (maxSteps := 3000000) only [go_sem, ↓reduceIte, decide_eq_false c8]
    repeat (apply And.intro; focus (first | omega | (simp; done)))
    exact ⟨_, _, Wk.refl _, weak_putF (weak_re hwf) hrn, a + (c - a) / 4 * 2, 1, by omega, by omega, rfl, rfl⟩
set_option maxRecDepth 100000 in
set_option maxHeartbeats 16000000 in
theorem obreak_v (hf : cFun P f = some (OBreak fpow fnext)) (hpow : ∀ (st : St) (n : Nat), 0 < n → n < 4611686018427387904 → VCalls P fpow [.sc (.int .i64 n)] st fun v s => st = s ∧ ∃ m : Nat, n < m ∧ m ≤ 2 * n ∧ v = .sc (.int .u64 m))
    (hnext : ∀ (st : St) (r : Nat) (x : Int), VCalls P fnext [ptrV r] (st.put r [.sc (.int .u64 x)]) fun v s => ∃ y, v = .sc (.int .u64 y) ∧ s = st.put r [.sc (.int .u64 y)]) (h1 : a ≤ c) (h2 : c ≤ L.length) (hmo : mono (row val L sp)) (hl : L.length < 4611686018427387904) :
    VCalls P f [dataV b L.length cap, .sc (.int .i64 a), .sc (.int .i64 c)] (st.put b (row val L sp)) fun v s => ∃ M, Mix a c L M ∧ s = st.put b (row val M sp) := by
  refine vcalls_enter hf (Nat.le_of_ble_eq_true rfl) fun hwf hok => ?_
  show Run _ (OBreak fpow fnext).body (.fin (finQ (OBreak fpow fnext).res _)) _ _
  unfold OBreak
  have e0 : (c : Int) - (a : Int) = ((c - a : Nat) : Int) := by omega
  have e1 : ((c - a : Nat) : Int) % 18446744073709551616 = ((c - a : Nat) : Int) := by omega
  by_cases c8 : (8 : Int) ≤ ((c - a : Nat) : Int)
  · simp (maxSteps := 3000000) only [go_sem, ↓reduceIte, dataV, e0, e1, decide_eq_true c8]
    repeat (apply And.intro; focus (first | omega | (simp; done)))
    intro r hr
    have hbr : b < r := by omega
    have hrn : (st.put b (row val L sp)).box r = none := by
      rw [put_box_ne (Nat.ne_of_gt hbr)]
      cases e : st.box r with
      | none => rfl
      | some X =>
        have := hwf.lt.box r X (by rw [put_box_ne (Nat.ne_of_gt hbr)]; exact e)
        simp only [put_sz] at this
        omega
    refine Cal.mk (hpow _ (c - a) (by omega) (by omega)) ?_
    rintro _ _ ⟨rfl, m, hm1, hm2, rfl⟩ -
    obtain ⟨q, eq⟩ : ∃ q : Nat, q = (c - a) / 4 * 2 := ⟨_, rfl⟩
    have e2 : ((c - a : Nat) : Int) / 4 * 2 = (q : Int) := by omega
    have e3 : ((m : Int) - 1) % 18446744073709551616 = ((m - 1 : Nat) : Int) := by omega
    simp (maxSteps := 3000000) only [go_sem, ↓reduceIte, e2]
    repeat (apply And.intro; focus (first | omega | (simp; done)))
    refine run_loop [9, 10, 26, 27, 28, 29, 30, 31, 32, 33, 34, 35, 36, 37, 38, 39, 40, 41, 42, 43, 44, 45, 46, 47, 48, 49, 50, 51, 52, 53, 54, 55, 56, 57, 58, 59, 60, 61, 62, 63, 64] (fun B s => ∃ (k : Nat) (x : Int) (M : List α), B 9 = .sc (.int .i64 k) ∧ a + q ≤ k + 1 ∧ k ≤ a + q + 2 ∧ Mix a c L M ∧ s = (st.put b (row val M sp)).put r [.sc (.int .u64 x)]) (fun B _ => a + q + 2 - vnat (B 9)) rfl ?_ ?_
    · simp (maxSteps := 3000000) only [go_sem, ↓reduceIte]
      exact ⟨a + q - 1, _, L, by rw [show (a : Int) + (q : Int) - 1 = ((a + q - 1 : Nat) : Int) by omega], by omega, by omega, .refl, rfl⟩
    · rintro B s ⟨k, x, M, h9, hk1, hk2, hM, rfl⟩
      have hlen := hM.len
      by_cases ck : (k : Int) ≤ (a : Int) + (q : Int) + 1
      · simp (maxSteps := 3000000) only [go_sem, ↓reduceIte, h9, e2, decide_eq_true ck]
        repeat (apply And.intro; focus (first | omega | (simp; done)))
        refine Cal.mk (hnext _ r x) ?_
        rintro _ _ ⟨y, rfl, rfl⟩ -
        obtain ⟨z, ez, hz⟩ := and_u64 y (m := m - 1) (by omega)
        by_cases cz : ((c - a : Nat) : Int) ≤ (z : Int)
        · have ezz : (z : Int) - ((c - a : Nat) : Int) = ((z - (c - a) : Nat) : Int) := by omega
          obtain ⟨g1, g2, s1, s2, m1, m2⟩ := swapF hmo hlen (i := k) (j := a + (z - (c - a))) (by omega) (by omega)
          have hex := hM.exch (i := k) (j := a + (z - (c - a))) (by omega) (by omega) (by omega) (by omega) h2
          have ej : ((a : Int) + ((z - (c - a) : Nat) : Int)).toNat = a + (z - (c - a)) := by omega
          simp (maxSteps := 3000000) only [go_sem, ↓reduceIte, h9, ez, ezz, e3, decide_eq_true cz, ej, g1, g2, s1, s2, m1, m2, row_len, List.length_set, put_swp (Nat.ne_of_lt hbr), put_box_ne (Nat.ne_of_lt hbr)]
          repeat (apply And.intro; focus (first | omega | (simp; done)))
          exact ⟨⟨k + 1, y, _, by simp, by omega, by omega, hex, rfl⟩, by omega⟩
        · obtain ⟨g1, g2, s1, s2, m1, m2⟩ := swapF hmo hlen (i := k) (j := a + z) (by omega) (by omega)
          have hex := hM.exch (i := k) (j := a + z) (by omega) (by omega) (by omega) (by omega) h2
          have ej : ((a : Int) + (z : Int)).toNat = a + z := by omega
          simp (maxSteps := 3000000) only [go_sem, ↓reduceIte, h9, ez, e3, decide_eq_false cz, ej, g1, g2, s1, s2, m1, m2, row_len, List.length_set, put_swp (Nat.ne_of_lt hbr), put_box_ne (Nat.ne_of_lt hbr)]
          repeat (apply And.intro; focus (first | omega | (simp; done)))
          exact ⟨⟨k + 1, y, _, by simp, by omega, by omega, hex, rfl⟩, by omega⟩
      · simp (maxSteps := 3000000) only [go_sem, ↓reduceIte, h9, e2, decide_eq_false ck]
        repeat (apply And.intro; focus (first | omega | (simp; done)))
        exact ⟨_, _, Wk.refl _, weak_putF (weak_re hwf) (by rw [put_box_ne (Nat.ne_of_gt hbr)] at hrn ⊢; exact hrn), M, hM, rfl⟩
  · simp (maxSteps := 3000000) only [go_sem, ↓reduceIte, dataV, e0, decide_eq_false c8]
    repeat (apply And.intro; focus (first | omega | (simp; done)))
    exact ⟨_, _, Wk.refl _, weak_re hwf, L, .refl, rfl⟩
end
end
end Go.Proofs.YtcffgogjhfkaeaaDoor
