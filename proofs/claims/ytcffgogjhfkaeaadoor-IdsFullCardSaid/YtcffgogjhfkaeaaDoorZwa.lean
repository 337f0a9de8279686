/- Steps of the proof, joined: VIdsLaw, VIdsC, VRows, VCut, VWk, VIds1, Base, VTz, VIds2, VIds3, Open, VEnter, VSeat, VIdsSeat. -/
import Derived.Test.YtcffgogjhfkaeaaDoorZec
import Derived.Test.YtcffgogjhfkaeaaDoorVc
import Derived.Test.YtcffgogjhfkaeaaDoorPc
import Derived.Test.YtcffgogjhfkaeaaDoorProg
import Derived.WalkKit
import Derived.WalkSpells
import Derived.WalkLawsBesides
import Derived.Deep.RegionHeld3
import Derived.Deep.DrawnRows
import Derived.BigQuiet
import Derived.Lib.Hide
import Derived.ProofKit
import Derived.OpenShut
import Derived.Deep.Slices
import Derived.Test.YtcffgogjhfkaeaaDoorRows
import Derived.Lib.LaidTab
import Derived.LaidMore
import Derived.MakeChecks
namespace Go.Proofs.YtcffgogjhfkaeaaDoor
open Go
attribute [local go_sem] run_skip run_reg run_seq run_blk run_exit run_ret run_cond if_true if_false at_code_n at_code_x at_code_r at_blk_n at_blk_x at_blk_r at_rnd_n at_rnd_x at_rnd_r at_fin_n at_fin_r ops_nil ops_grd grd_und grd_tt grd_ff grd_tf grd_ft ops_mv ops_pick ops_bin ops_un ops_binb ops_eqs ops_isnil ops_pnil ops_b2s ops_s2b ops_b2sB ops_s2a ops_slcA ops_aidx vaidx vb2sB vs2a vslcA ops_sidx vs2b vsidx srcX ops_appx apx_mk ops_mks ops_mko mks_int mko_int vbinb veqs visnil vpnil vb2s ops_conv ops_fld ops_ix ops_ixa ops_load ops_nilck ops_ext ops_len ops_slen ops_mn ops_mx ops_bld ops_bsl ops_slc ops_sslc ops_box ops_alc ops_alcX ops_boxX ops_bslo ops_store ops_app ops_call ev_t ev_c put_get put_none opv_mk stb_some sto_ptr over_get rel_mk vnat Bx Stp vbld vbsl put_box_same put_box_ne put_sz put_own use_box use_sz put_put args0 List.getD_cons_zero List.getD_cons_succ List.getD_nil vpick vbin vbinI vbinS vun vconv norm vfld vnil vlen vslen vext vmm vix vixa vload takeV takeB mono_nil mono_two mono_sc mono_any mono_und mono_sl mono_agg mono_ep vmlk vmlen vmnil vent vmfn allSc vslc3 kOk fitsV ops_mlk ops_mlen ops_mnil ops_ent ops_mfn ops_slc3 ops_mkm ops_mup mup_map mub_some ops_mdel mdl_nil mdl_map mdb_some ops_rng rng_none rng_map rgb_some ops_nxt ops_ment met_map meb_some ops_est est_map esb_some ops_clr clr_nil clr_box clb_some ops_calv clv_func vslc vsslc fillV splice V.cells strip strip1 allLen ptrV obsOk shAmt IntKind.bits List.map_cons List.map_nil List.length_cons List.length_nil List.getElem?_cons_zero List.getElem?_cons_succ List.take_succ_cons List.take_zero List.drop_succ_cons List.drop_zero List.cons_append List.nil_append List.append_nil List.take_nil List.drop_nil Option.map_some Option.map_none and_true true_and Int.toNat_natCast Nat.min_def Nat.zero_add Nat.add_zero Nat.zero_mul Nat.mul_one Nat.one_mul vret rvAll rvVal resv_1 resv_2 decide_true decide_false Int.lt_irrefl Bool.not_true Bool.not_false ne_eq not_true_eq_false not_false_eq_true eq_self Bool.true_eq_false Bool.false_eq_true List.contains_cons List.contains_nil Bool.false_or Bool.true_or Bool.or_false Bool.or_true List.mem_cons List.not_mem_nil or_false or_true true_or false_or mono_bs ops_aidxn vaidxn ops_fv vfv ops_mki vmki ops_inv ops_cpy cpy_box cpb_some at_finp_n at_finp_r vretp rpAll rpVal vpv resp_0 resp_1 resp_2 Nat.reduceEqDiff Nat.reduceAdd Nat.reduceMul Nat.reduceSub Nat.reduceLT Nat.reduceLeDiff Int.reduceToNat Int.reduceLE Int.reduceLT Int.reducePow Int.reduceMul Int.reduceAdd Int.reduceSub Int.reduceNeg Int.reduceEq Int.reduceMod Int.reduceDiv Nat.reducePow Nat.reduceMod Nat.reduceDiv reduceCtorEq Nat.reduceBEq
section
open Go
theorem leastS {p : Nat → Bool} : ∀ n : Nat, (∃ j, j < n ∧ p j = true) → ∃ k, k < n ∧ p k = true ∧ ∀ j, j < k → p j = false
  | 0, h => by obtain ⟨j, hj, _⟩ := h; omega
  | n + 1, h => by
    by_cases c : ∃ j, j < n ∧ p j = true
    · obtain ⟨k, h1, h2, h3⟩ := leastS n c
      exact ⟨k, by omega, h2, h3⟩
    · obtain ⟨j, h1, h2⟩ := h
      refine ⟨j, h1, h2, fun i hi => ?_⟩
      cases e : p i with
      | false => rfl
      | true => exact absurd ⟨i, by omega, e⟩ c
theorem low_bit {f : Nat} (h : f ≠ 0) (hf : f < 2 ^ 64) : ∃ k, k < 64 ∧ f.testBit k = true ∧ ∀ j, j < k → f.testBit j = false := by
  refine leastS 64 ?_
  obtain ⟨j, hj⟩ := Nat.exists_testBit_of_ne_zero h
  refine ⟨j, ?_, hj⟩
  by_cases c : j < 64
  · exact c
  · have : f < 2 ^ j := Nat.lt_of_lt_of_le hf (Nat.pow_le_pow_right (by decide) (by omega))
    rw [Nat.testBit_lt_two_pow this] at hj
    cases hj
theorem low_split {f k : Nat} (h1 : f.testBit k = true) (h2 : ∀ j, j < k → f.testBit j = false) : ∃ m, f = 2 ^ k * (2 * m + 1) := by
  have hm : f % 2 ^ k = 0 := Nat.eq_of_testBit_eq fun j => by
    rw [Nat.testBit_mod_two_pow, Nat.zero_testBit]
    by_cases c : j < k
    · simp [h2 j c]
    · simp [c]
  have hd : f = 2 ^ k * (f / 2 ^ k) := by have := Nat.div_add_mod f (2 ^ k); omega
  have ho : (f / 2 ^ k) % 2 = 1 := by
    rw [Nat.testBit_eq_decide_div_mod_eq] at h1
    exact of_decide_eq_true h1
  refine ⟨f / 2 ^ k / 2, ?_⟩
  have : 2 * (f / 2 ^ k / 2) + 1 = f / 2 ^ k := by omega
  rw [this]
  exact hd
theorem and_neg {f k : Nat} (hf : f < 2 ^ 64) (h1 : f.testBit k = true) (h2 : ∀ j, j < k → f.testBit j = false) : f &&& (2 ^ 64 - f) = 2 ^ k := by
  obtain ⟨m, hm⟩ := low_split h1 h2
  have hp : 0 < 2 ^ k := Nat.pow_pos (by decide)
  have hf0 : 0 < f := by rw [hm]; exact Nat.mul_pos hp (by omega)
  obtain ⟨g, rfl⟩ : ∃ g, f = g + 1 := ⟨f - 1, by omega⟩
  have hg : g = 2 ^ k * (2 * m) + (2 ^ k - 1) := by
    have : 2 ^ k * (2 * m + 1) = 2 ^ k * (2 * m) + 2 ^ k := by rw [Nat.mul_add, Nat.mul_one]
    omega
  refine Nat.eq_of_testBit_eq fun j => ?_
  rw [Nat.testBit_and, Nat.testBit_two_pow_sub_succ (by omega), Nat.testBit_two_pow, hg, Nat.testBit_two_pow_mul_add _ (by omega)]
  rw [← hg, hm, Nat.testBit_two_pow_mul]
  have hk : k < 64 := by
    by_cases c : k < 64
    · exact c
    · have : g + 1 < 2 ^ k := Nat.lt_of_lt_of_le hf (Nat.pow_le_pow_right (by decide) (by omega))
      rw [Nat.testBit_lt_two_pow this] at h1
      cases h1
  rcases Nat.lt_trichotomy j k with c | c | c
  · have e : ¬ k ≤ j := by omega
    have e2 : ¬ k = j := by omega
    simp [e, e2]
  · subst c
    have e : ¬ j < j := by omega
    simp [hk, e]
  · have e1 : ¬ j < k := by omega
    have e2 : k ≤ j := by omega
    have e3 : ¬ k = j := by omega
    obtain ⟨i, hi⟩ : ∃ i, j - k = i + 1 := ⟨j - k - 1, by omega⟩
    have q1 : (2 * m + 1).testBit (i + 1) = m.testBit i := by rw [Nat.testBit_succ]; congr 1; omega
    have q2 : (2 * m).testBit (i + 1) = m.testBit i := by rw [Nat.testBit_succ]; congr 1; omega
    simp only [e1, e2, e3, decide_true, decide_false, Bool.true_and, hi, q1, q2]
    cases m.testBit i <;> simp
def dbTab : List Nat := [0, 1, 56, 2, 57, 49, 28, 3, 61, 58, 42, 50, 38, 29, 17, 4, 62, 47, 59, 36, 45, 43, 51, 22, 53, 39, 33, 30, 24, 18, 12, 5, 63, 55, 48, 27, 60, 41, 37, 16, 46, 35, 44, 21, 52, 32, 23, 11, 54, 26, 40, 15, 34, 20, 31, 10, 25, 14, 19, 9, 13, 8, 7, 6]
theorem dbTab_at : ∀ k : Nat, k < 64 → dbTab[2 ^ k * 285870213051353865 % 18446744073709551616 / 2 ^ 58]? = some k := by decide
theorem bit_lt {f k : Nat} (hf : f < 2 ^ 64) (h : f.testBit k = true) : k < 64 := by
  by_cases c : k < 64
  · exact c
  · have : f < 2 ^ k := Nat.lt_of_lt_of_le hf (Nat.pow_le_pow_right (by decide) (by omega))
    rw [Nat.testBit_lt_two_pow this] at h
    cases h
theorem tz_tab {f k : Nat} (hf : f < 2 ^ 64) (h1 : f.testBit k = true) (h2 : ∀ j, j < k → f.testBit j = false) : dbTab[(f &&& (2 ^ 64 - f)) * 285870213051353865 % 18446744073709551616 / 2 ^ 58]? = some k := by
  rw [and_neg hf h1 h2]
  exact dbTab_at k (bit_lt hf h1)
structure Wds (W : Nat → Nat) (S : Nat → Bool) : Prop where
  lt : ∀ i, W i < 2 ^ 64
  bit : ∀ i j, j < 64 → (W i).testBit j = S (64 * i + j)
def updS {α : Type} (f : Nat → α) (i : Nat) (x : α) : Nat → α := fun j => if j = i then x else f j
theorem updS_same {α : Type} {f : Nat → α} {i : Nat} {x : α} : updS f i x i = x := if_pos rfl
theorem updS_ne {α : Type} {f : Nat → α} {i j : Nat} {x : α} (h : j ≠ i) : updS f i x j = f j := if_neg h
theorem and_bit {x k : Nat} : x &&& 2 ^ k = if x.testBit k = true then 2 ^ k else 0 := Nat.eq_of_testBit_eq fun j => by
  rw [Nat.testBit_and, Nat.testBit_two_pow]
  by_cases e : k = j
  · subst e
    cases h : x.testBit k <;> simp []
  · cases h : x.testBit k <;> simp [e]
section
variable {W : Nat → Nat} {S : Nat → Bool} {n : Nat}
theorem Wds.has (h : Wds W S) : (W (n / 64) &&& 2 ^ (n % 64) ≠ 0) ↔ S n = true := by
  have e := h.bit (n / 64) (n % 64) (Nat.mod_lt _ (by decide))
  rw [Nat.div_add_mod] at e
  rw [and_bit, e]
  have : 0 < 2 ^ (n % 64) := Nat.pow_pos (by decide)
  cases S n
  · simp
  · simp
theorem Wds.take (h : Wds W S) : Wds (updS W (n / 64) (W (n / 64) ||| 2 ^ (n % 64))) (updS S n true) := by
  have hm : n % 64 < 64 := Nat.mod_lt _ (by decide)
  have hp : 2 ^ (n % 64) < 2 ^ 64 := Nat.pow_lt_pow_right (by decide) hm
  refine ⟨fun i => ?_, fun i j hj => ?_⟩
  · by_cases e : i = n / 64
    · subst e; rw [updS_same]; exact Nat.or_lt_two_pow (h.lt _) hp
    · rw [updS_ne e]; exact h.lt i
  · by_cases e : i = n / 64
    · subst e
      rw [updS_same, Nat.testBit_or, Nat.testBit_two_pow, h.bit _ j hj]
      by_cases e2 : n % 64 = j
      · have : 64 * (n / 64) + j = n := by omega
        rw [this, updS_same]; simp [e2]
      · rw [updS_ne (by omega)]; simp [e2]
    · rw [updS_ne e, h.bit i j hj, updS_ne (by omega)]
theorem not_bit {x j : Nat} (hx : x < 2 ^ 64) : (2 ^ 64 - 1 - x).testBit j = (decide (j < 64) && !x.testBit j) := by
  have e : 2 ^ 64 - 1 - x = 2 ^ 64 - (x + 1) := by omega
  rw [e, Nat.testBit_two_pow_sub_succ hx]
theorem mask_bit {x k j : Nat} (hk : k < 64) (hx : x < 2 ^ 64) : (x &&& (2 ^ 64 - 1 - (2 ^ k - 1))).testBit j = (decide (k ≤ j) && x.testBit j) := by
  have hp : 2 ^ k - 1 < 2 ^ 64 := by have := Nat.pow_lt_pow_right (a := 2) (by decide) hk; omega
  rw [Nat.testBit_and, not_bit hp, Nat.testBit_two_pow_sub_one]
  by_cases c : j < 64
  · by_cases c2 : j < k
    · have : ¬ k ≤ j := by omega
      simp [c2, this]
    · have : k ≤ j := by omega
      simp [c, c2, this]
  · have : x < 2 ^ j := Nat.lt_of_lt_of_le hx (Nat.pow_le_pow_right (by decide) (by omega))
    simp [Nat.testBit_lt_two_pow this]
end
def cntS (S : Nat → Bool) : Nat → Nat
  | 0 => 0
  | k + 1 => cntS S k + if S k = true then 1 else 0
section
variable {S : Nat → Bool} {n k : Nat}
theorem cntS_le : cntS S k ≤ k := by
  induction k with
  | zero => exact Nat.le_refl 0
  | succ k ih => simp only [cntS]; split <;> omega
theorem cntS_ge (h : k ≤ n) {x : Bool} : cntS (updS S n x) k = cntS S k := by
  induction k with
  | zero => rfl
  | succ k ih => simp only [cntS]; rw [ih (by omega), updS_ne (by omega)]
theorem cntS_take (h : n < k) (hn : S n = false) : cntS (updS S n true) k = cntS S k + 1 := by
  induction k with
  | zero => omega
  | succ k ih =>
    simp only [cntS]
    by_cases e : n = k
    · subst e
      rw [cntS_ge (Nat.le_refl _), updS_same, hn]; simp
    · rw [ih (by omega), updS_ne (by omega)]; omega
theorem cntS_all (h0 : S 0 = false) : (∀ j, 1 ≤ j → j < k + 1 → S j = true) → cntS S (k + 1) = k := by
  induction k with
  | zero => intro _; simp [cntS, h0]
  | succ k ih =>
    intro h
    rw [cntS, ih (fun j h1 h2 => h j h1 (by omega)), h (k + 1) (by omega) (by omega)]
    simp
theorem cntS_lt (h0 : S 0 = false) (h : cntS S (k + 1) < k) : ∃ j, 1 ≤ j ∧ j < k + 1 ∧ S j = false := by
  have c : ¬ ∀ j, 1 ≤ j → j < k + 1 → S j = true := fun c => by have := cntS_all h0 c; omega
  refine Classical.byContradiction fun e => c fun j h1 h2 => ?_
  cases hj : S j with
  | true => rfl
  | false => exact absurd ⟨j, h1, h2, hj⟩ e
end
structure Nxt1 (S : Nat → Bool) (from_ n : Nat) : Prop where
  ge : from_ ≤ n
  lt : n < 65536
  no : S n = false
  all : ∀ j, from_ ≤ j → j < n → S j = true
def keyS (from_ n : Nat) : Nat := if n < from_ then n + 65536 else n
structure Frs (S : Nat → Bool) (from_ n : Nat) : Prop where
  g1 : 1 ≤ n
  lt : n < 65536
  no : S n = false
  key : ∀ j, 1 ≤ j → j < 65536 → S j = false → keyS from_ n ≤ keyS from_ j
theorem Frs.up {S : Nat → Bool} {f n : Nat} (h : Nxt1 S (if f = 0 then 1 else f) n) : Frs S f n := by
  have g := h.ge
  refine ⟨by split at g <;> omega, h.lt, h.no, fun j h1 h2 h3 => ?_⟩
  have hj : ¬ ((if f = 0 then 1 else f) ≤ j ∧ j < n) := fun e => by
    rw [h.all j e.1 e.2] at h3; cases h3
  have := h.lt
  unfold keyS
  split at g <;> split <;> split <;> simp_all <;> omega
theorem Frs.round {S : Nat → Bool} {f n : Nat} (hf : f < 65536) (h0 : ∀ j, (if f = 0 then 1 else f) ≤ j → j < 65536 → S j = true) (h : Nxt1 S 1 n) : Frs S f n := by
  have g := h.ge
  have l := h.lt
  have hn : n < f := by
    by_cases c : n < f
    · exact c
    · have := h0 n (by split <;> omega) h.lt
      rw [h.no] at this; cases this
  refine ⟨h.ge, h.lt, h.no, fun j h1 h2 h3 => ?_⟩
  have hj : ¬ (1 ≤ j ∧ j < n) := fun e => by
    rw [h.all j e.1 e.2] at h3; cases h3
  have hj2 : ¬ ((if f = 0 then 1 else f) ≤ j) := fun e => by rw [h0 j e h2] at h3; cases h3
  unfold keyS
  rw [if_pos hn, if_pos (by split at hj2 <;> omega)]
  omega
structure Fw (S : Nat → Bool) (from_ at_ f : Nat) : Prop where
  lt : f < 2 ^ 64
  bit : ∀ j, j < 64 → f.testBit j = (decide (from_ ≤ 64 * at_ + j) && !S (64 * at_ + j))
  all : ∀ j, from_ ≤ j → j < 64 * at_ → S j = true
section
variable {W : Nat → Nat} {S : Nat → Bool} {n a f : Nat}
theorem Fw.start (h : Wds W S) : Fw S n (n / 64) ((2 ^ 64 - 1 - W (n / 64)) &&& (2 ^ 64 - 1 - (2 ^ (n % 64) - 1))) := by
  have hm : n % 64 < 64 := Nat.mod_lt _ (by decide)
  have hl := h.lt (n / 64)
  refine ⟨Nat.lt_of_le_of_lt Nat.and_le_left (by omega), fun j hj => ?_, fun j h1 h2 => by omega⟩
  rw [mask_bit hm (by omega), not_bit hl, h.bit _ j hj]
  have e : decide (n % 64 ≤ j) = decide (n ≤ 64 * (n / 64) + j) := by
    by_cases c : n % 64 ≤ j
    · rw [decide_eq_true c, decide_eq_true (by omega)]
    · rw [decide_eq_false c, decide_eq_false (by omega)]
  rw [e, decide_eq_true hj, Bool.true_and]
theorem Fw.pass (h : Fw S n a 0) : ∀ j, n ≤ j → j < 64 * (a + 1) → S j = true := fun j h1 h2 => by
  by_cases c : j < 64 * a
  · exact h.all j h1 c
  · have e := h.bit (j - 64 * a) (by omega)
    rw [Nat.zero_testBit, show 64 * a + (j - 64 * a) = j by omega, decide_eq_true h1, Bool.true_and] at e
    cases hs : S j with
    | true => rfl
    | false => rw [hs] at e; cases e
theorem Fw.step (hw : Wds W S) (hn : n < 64 * (a + 1)) (h : Fw S n a 0) : Fw S n (a + 1) (2 ^ 64 - 1 - W (a + 1)) := by
  have hl := hw.lt (a + 1)
  refine ⟨by omega, fun j hj => ?_, h.pass⟩
  rw [not_bit hl, hw.bit _ j hj, decide_eq_true hj, decide_eq_true (show n ≤ 64 * (a + 1) + j by omega)]
theorem Fw.found (h : Fw S n a f) (ha : a < 1024) {k : Nat} (h1 : f.testBit k = true) (h2 : ∀ j, j < k → f.testBit j = false) : Nxt1 S n (64 * a + k) := by
  have hk := bit_lt h.lt h1
  have e := h.bit k hk
  rw [h1] at e
  have e1 : n ≤ 64 * a + k ∧ S (64 * a + k) = false := by
    by_cases c : n ≤ 64 * a + k
    · rw [decide_eq_true c, Bool.true_and] at e
      refine ⟨c, ?_⟩
      cases hs : S (64 * a + k) with
      | false => rfl
      | true => rw [hs] at e; cases e
    · rw [decide_eq_false c] at e; cases e
  refine ⟨e1.1, by omega, e1.2, fun j g1 g2 => ?_⟩
  by_cases c : j < 64 * a
  · exact h.all j g1 c
  · have e := h.bit (j - 64 * a) (by omega)
    rw [h2 _ (by omega), show 64 * a + (j - 64 * a) = j by omega, decide_eq_true g1, Bool.true_and] at e
    cases hs : S j with
    | true => rfl
    | false => rw [hs] at e; cases e
end
end
section
open Go
def wc (W : Nat → Nat) (n : Int) : List V := (List.range 1024).map (fun i => .sc (.int .u64 (W i : Nat))) ++ [.sc (.int .i64 n)]
section
variable {W : Nat → Nat} {n m : Int} {i x : Nat}
theorem wc_len : (wc W n).length = 1025 := by simp [wc]
theorem wc_at (h : i < 1024) : (wc W n)[i]? = some (.sc (.int .u64 (W i : Nat))) := by
  unfold wc
  rw [List.getElem?_append_left (by simp; omega)]
  simp [h]
theorem wc_n : (wc W n)[1024]? = some (.sc (.int .i64 n)) := by
  unfold wc
  rw [List.getElem?_append_right (by simp)]
  simp
theorem splice_one {cs : List V} {o : Nat} {d : V} (h : o < cs.length) : splice cs o [d] = cs.set o d := by
  rw [List.set_eq_take_append_cons_drop, if_pos h]
  unfold splice
  simp
theorem wc_set (h : i < 1024) : splice (wc W n) i [.sc (.int .u64 (x : Nat))] = wc (updS W i x) n := by
  rw [splice_one (by rw [wc_len]; omega)]
  refine List.ext_getElem? fun j => ?_
  rw [List.getElem?_set, wc_len]
  by_cases c : i = j
  · subst c
    rw [if_pos rfl, if_pos (by omega), wc_at h, updS_same]
  · rw [if_neg c]
    by_cases c2 : j < 1024
    · rw [wc_at c2, wc_at c2, updS_ne (fun e => c e.symm)]
    · by_cases c3 : j = 1024
      · subst c3; rw [wc_n, wc_n]
      · rw [List.getElem?_eq_none (by rw [wc_len]; omega), List.getElem?_eq_none (by rw [wc_len]; omega)]
theorem wc_setn : splice (wc W n) 1024 [.sc (.int .i64 m)] = wc W m := by
  rw [splice_one (by rw [wc_len]; omega)]
  refine List.ext_getElem? fun j => ?_
  rw [List.getElem?_set, wc_len]
  by_cases c : 1024 = j
  · subst c
    rw [if_pos rfl, if_pos (by omega), wc_n]
  · rw [if_neg c]
    by_cases c2 : j < 1024
    · rw [wc_at c2, wc_at c2]
    · rw [List.getElem?_eq_none (by rw [wc_len]; omega), List.getElem?_eq_none (by rw [wc_len]; omega)]
end
end
section
open Go
variable {size : Nat} {base s s' : St} {r x : V} {l l' : List V}
end
section
open Go
def cutQ (I : (Nat → V) → St → Prop) : VQ
  | .normal, A, st => I A st
  | _, _, _ => False
def cutK (I : (Nat → V) → St → Prop) (Q : VQ) : VQ
  | .normal, A, st => I A st
  | e, A, st => Q e A st
section
variable {P : Program} {k : Kt} {A : Nat → V} {st : St}
theorem over_same {ws : List Nat} {B : Nat → V} (h : ∀ t, t ∉ ws → B t = A t) : over ws B A = B := funext fun t => by
  simp only [over]
  split
  · rfl
  · rename_i ht; exact (h t ht).symm
theorem Grd.cut {v : V} {w : Bool} {o : VO} {rest : List VO} {c : VC} (ws : List Nat) (I : (Nat → V) → Prop) (hw : (((o :: rest).flatMap VO.w).all fun t => ws.contains t) = true)
    (h1 : Grd P v w o rest (.fin (cutQ fun B s => s = st ∧ I B)) A st) (h2 : ∀ B, I B → Run P c k (over ws B A) st) : Grd P v w o rest (.code c k) A st := by
  have hw' : ∀ t ∈ (o :: rest).flatMap VO.w, t ∈ ws := fun t ht => by
    have := List.all_eq_true.1 hw t ht
    simpa using this
  have hk : ∀ B s, (∀ t, t ∉ ws → B t = A t) → (s = st ∧ I B) → At P (.code c k) .normal B s := fun B s hB hI => by
    have := h2 B hI.2
    rw [over_same hB] at this
    rw [hI.1]
    exact this
  have hwr : ∀ t ∈ rest.flatMap VO.w, t ∈ ws := fun t ht => hw' t (by simp only [List.flatMap_cons, List.mem_append]; exact .inr ht)
  have hput : ∀ r, ∀ t, t ∉ ws → putV A o.dst r t = A t := fun r t ht => by
    cases hd : o.dst with
    | none => rfl
    | some d =>
      simp only [putV]
      rw [if_neg (fun e => ht (hw' t (by subst e; simp [VO.w, hd])))]
  unfold Grd at h1 ⊢
  split at h1
  · exact ⟨fun e => vops_writes ws A (fun B s hB hI => hk B s hB hI) (o :: rest) hw' (fun t _ => rfl) (h1.1 e), fun e => vops_writes ws A (fun B s hB hI => hk B s hB hI) rest hwr (hput _) (h1.2 e)⟩
  · exact vops_writes ws A (fun B s hB hI => hk B s hB hI) rest hwr (hput _) h1
  · exact h1
theorem Run.cut {c rest : VC} (ws : List Nat) (I : (Nat → V) → St → Prop) (hw : (c.writes.all fun t => ws.contains t) = true)
    (h1 : Run P c (.fin (cutK I (k.q P))) A st) (h2 : ∀ B s, I B s → Run P rest k (over ws B A) s) : Run P c (.code rest k) A st := by
  have hw' : ∀ t ∈ c.writes, t ∈ ws := fun t ht => by
    have := List.all_eq_true.1 hw t ht
    simpa using this
  refine vwp_writes ws A c hw' (fun e B s hB hq => ?_) (fun t _ => rfl) h1
  cases e with
  | normal =>
    have := h2 B s hq
    rw [over_same hB] at this
    exact this
  | exit id => exact hq
  | ret => exact hq
theorem If.cut {v : V} {a b rest : VC} (ws : List Nat) (I : (Nat → V) → St → Prop) (hw : ((a.writes ++ b.writes).all fun t => ws.contains t) = true)
    (h1 : If P v a b (.fin (cutK I (k.q P))) A st) (h2 : ∀ B s, I B s → Run P rest k (over ws B A) s) : If P v a b (.code rest k) A st := by
  rw [List.all_append, Bool.and_eq_true] at hw
  unfold If at h1 ⊢
  split at h1
  · exact ⟨fun e => Run.cut ws I hw.1 (h1.1 e) h2, fun e => Run.cut ws I hw.2 (h1.2 e) h2⟩
  · exact h1
end
end
section
open Go
section
variable {P : Program} {k : Kt} {A : Nat → V} {st : St}
theorem Grd.decd {p : Prop} {_ : Decidable p} {w : Bool} {o : VO} {rest : List VO} (h1 : p → Grd P (.sc (.bool (decide p))) w o rest k A st) (h2 : ¬ p → Grd P (.sc (.bool (decide p))) w o rest k A st) : Grd P (.sc (.bool (decide p))) w o rest k A st := by
  by_cases h : p
  · exact h1 h
  · exact h2 h
theorem Grd.two {b : Bool} {w : Bool} {o : VO} {rest : List VO} (h1 : b = true → Grd P (.sc (.bool b)) w o rest k A st) (h2 : b = false → Grd P (.sc (.bool b)) w o rest k A st) : Grd P (.sc (.bool b)) w o rest k A st := by
  cases h : b
  · exact h2 h |> fun x => by rw [h] at x; exact x
  · exact h1 h |> fun x => by rw [h] at x; exact x
end
end
section
open Go
theorem u64_wrap {x : Nat} (h : x < 2 ^ 64) : IntKind.u64.wrap ((x : Nat) : Int) = x := by
  simp only [IntKind.wrap, IntKind.signed, IntKind.bits, Bool.false_and, Bool.false_eq_true, ↓reduceIte]; omega
theorem u64_of {x : Nat} (h : x < 2 ^ 64) : (BitVec.ofInt 64 (x : Int)).toNat = x := by rw [BitVec.toNat_ofInt]; omega
theorem ib_and {a b : Nat} (ha : a < 2 ^ 64) (hb : b < 2 ^ 64) : ibit .and .u64 (a : Int) (b : Int) = ((a &&& b : Nat) : Int) := by
  have g : ibit .and .u64 (a : Int) (b : Int) = IntKind.u64.wrap ((BitVec.ofInt 64 (a : Int) &&& BitVec.ofInt 64 (b : Int)).toNat : Int) := rfl
  rw [g, BitVec.toNat_and, u64_of ha, u64_of hb, u64_wrap (Nat.and_lt_two_pow _ hb)]
theorem ib_or {a b : Nat} (ha : a < 2 ^ 64) (hb : b < 2 ^ 64) : ibit .or .u64 (a : Int) (b : Int) = ((a ||| b : Nat) : Int) := by
  have g : ibit .or .u64 (a : Int) (b : Int) = IntKind.u64.wrap ((BitVec.ofInt 64 (a : Int) ||| BitVec.ofInt 64 (b : Int)).toNat : Int) := rfl
  rw [g, BitVec.toNat_or, u64_of ha, u64_of hb, u64_wrap (Nat.or_lt_two_pow ha hb)]
theorem ib_not {a : Nat} (ha : a < 2 ^ 64) : ibit .xor .u64 IntKind.u64.max (a : Int) = ((2 ^ 64 - 1 - a : Nat) : Int) := by
  have g : ibit .xor .u64 IntKind.u64.max (a : Int) = IntKind.u64.wrap ((BitVec.ofInt 64 IntKind.u64.max ^^^ BitVec.ofInt 64 (a : Int)).toNat : Int) := rfl
  have e : BitVec.ofInt 64 IntKind.u64.max = BitVec.allOnes 64 := by decide
  rw [g, e, BitVec.allOnes_xor, BitVec.toNat_not, u64_of ha, u64_wrap (by omega)]
theorem ib_andNot {a b : Nat} (ha : a < 2 ^ 64) (hb : b < 2 ^ 64) : ibit .andNot .u64 (a : Int) (b : Int) = ((a &&& (2 ^ 64 - 1 - b) : Nat) : Int) := by
  have g : ibit .andNot .u64 (a : Int) (b : Int) = IntKind.u64.wrap ((BitVec.ofInt 64 (a : Int) &&& ~~~BitVec.ofInt 64 (b : Int)).toNat : Int) := rfl
  rw [g, BitVec.toNat_and, BitVec.toNat_not, u64_of ha, u64_of hb, u64_wrap (Nat.and_lt_two_pow _ (by omega))]
theorem ib16_63 {a : Nat} (ha : a < 65536) : ibit .and .u16 (a : Int) 63 = ((a % 64 : Nat) : Int) := by
  have g : ibit .and .u16 (a : Int) 63 = IntKind.u16.wrap ((BitVec.ofInt 16 (a : Int) &&& BitVec.ofInt 16 63).toNat : Int) := rfl
  have e : (BitVec.ofInt 16 (a : Int)).toNat = a := by rw [BitVec.toNat_ofInt]; omega
  have f : (BitVec.ofInt 16 (a : Int) &&& BitVec.ofInt 16 63).toNat = a % 64 := by
    rw [BitVec.toNat_and, e]; exact Nat.and_two_pow_sub_one_eq_mod a 6
  rw [g, f]
  simp only [IntKind.wrap, IntKind.signed, IntKind.bits, Bool.false_and, Bool.false_eq_true, ↓reduceIte]; omega
theorem ib64_or {a k : Nat} (ha : a < 1024) (hk : k < 64) : ibit .or .i64 ((64 * a : Nat) : Int) (k : Int) = ((64 * a + k : Nat) : Int) := by
  have g : ibit .or .i64 ((64 * a : Nat) : Int) (k : Int) = IntKind.i64.wrap ((BitVec.ofInt 64 ((64 * a : Nat) : Int) ||| BitVec.ofInt 64 (k : Int)).toNat : Int) := rfl
  have e : 64 * a ||| k = 64 * a + k := (Nat.two_pow_add_eq_or_of_lt (i := 6) (b := k) (by omega) a).symm
  rw [g, BitVec.toNat_or, u64_of (by omega), u64_of (by omega), e, IntWalk.i64_in _ (by omega)]
theorem sh_pow {k : Nat} (hk : k < 64) : (1 : Int) * 2 ^ k % 18446744073709551616 = ((2 ^ k : Nat) : Int) := by
  have : 2 ^ k < 2 ^ 64 := Nat.pow_lt_pow_right (by decide) hk
  have e : ((2 ^ k : Nat) : Int) = (2 : Int) ^ k := by simp
  rw [Int.one_mul, ← e]
  generalize 2 ^ k = q at this ⊢
  omega
theorem pow_bit {k : Nat} (hk : k < 64) : 2 ^ k < 2 ^ 64 := Nat.pow_lt_pow_right (by decide) hk
theorem mono_wc {W : Nat → Nat} {n : Int} : mono (wc W n) = True := by
  refine eq_true ?_
  have := wc_len (W := W) (n := n)
  generalize wc W n = l at this
  match l, this with
  | a :: b :: l, _ => exact trivial
theorem wc_set' {W : Nat → Nat} {n : Int} {i y : Nat} (h : i < 1024) : List.take i (wc W n) ++ [.sc (.int .u64 (y : Nat))] ++ List.drop (i + 1) (wc W n) = wc (updS W i y) n := wc_set h
theorem wc_setn' {W : Nat → Nat} {n m : Int} : List.take 1024 (wc W n) ++ [.sc (.int .i64 m)] ++ List.drop 1025 (wc W n) = wc W m := wc_setn
structure SetI (st : St) (b : Nat) (W : Nat → Nat) (S : Nat → Bool) : Prop where
  wds : Wds W S
  box : st.box b = some (wc W (cntS S 65536))
  z : S 0 = false
section
variable {st : St} {b x : Nat} {W : Nat → Nat} {S : Nat → Bool}
theorem place_v (hx : x < 65536) : VCalls Tryd.prog 17 [.sc (.int .u16 x)] st fun r s => r = .tup [.sc (.int .i64 (x / 64 : Nat)), .sc (.int .u64 (2 ^ (x % 64) : Nat))] ∧ st = s := by
  refine vcalls_enterq pc17 (Nat.le_of_ble_eq_true rfl) rfl fun hwf hok => ?_
  show Run _ Pc17.body (.fin (finP Pc17.res _)) _ _
  unfold Pc17 zo
  have e1 := ib16_63 hx
  have e2 : ((x : Int)) / 64 = ((x / 64 : Nat) : Int) := by omega
  have e3 : (if x % 64 ≤ 64 then x % 64 else 64) = x % 64 := if_pos (by omega)
  have e4 := sh_pow (show x % 64 < 64 by omega)
  have g1 : (0 : Int) ≤ ((x % 64 : Nat) : Int) := by omega
  simp (maxSteps := 3000000) only [go_sem, ↓reduceIte, e1, e2, e3, e4, g1]
  refine ⟨by omega, ?_⟩
  exact ⟨_, _, Wk.refl _, hwf.weak, rfl, rfl⟩
theorem has_v (I : SetI st b W S) (hx : x < 65536) : VCalls Tryd.prog 16 [ptrV b, .sc (.int .u16 x)] st fun r s => r = .sc (.bool (S x)) ∧ st = s := by
  refine vcalls_enterq pc16 (Nat.le_of_ble_eq_true rfl) rfl fun hwf hok => ?_
  show Run _ Pc16.body (.fin (finP Pc16.res _)) _ _
  unfold Pc16 zo
  have hl := I.wds.lt (x / 64)
  have hp := pow_bit (show x % 64 < 64 by omega)
  have e1 := ib_and hl hp
  have e2 := wc_at (W := W) (n := (cntS S 65536 : Nat)) (show x / 64 < 1024 by omega)
  have g1 : (0 : Int) ≤ ((x / 64 : Nat) : Int) := by omega
  have g2 : ((x / 64 : Nat) : Int) < ((1024 : Nat) : Int) := by omega
  have e3 : decide (¬ ((W (x / 64) &&& 2 ^ (x % 64) : Nat) : Int) = 0) = S x := by
    have := I.wds.has (n := x)
    by_cases c : S x = true
    · rw [c]; exact decide_eq_true (by have := this.2 c; omega)
    · rw [Bool.not_eq_true] at c
      rw [c]
      refine decide_eq_false fun h => ?_
      rw [this.1 (by omega)] at c; cases c
  repeat' first | simp (maxSteps := 3000000) only [go_sem, ↓reduceIte, I.box, e1, e2, e3, g1, g2] | (refine If.dec (fun h => ?_) (fun h => ?_) <;> first | simp only [decide_eq_true h] | simp only [decide_eq_false h] | skip) | (refine Grd.decd (fun h => ?_) (fun h => ?_) <;> first | simp only [decide_eq_true h] | simp only [decide_eq_false h] | skip) | (refine If.mk (fun h => ?_) (fun h => ?_) <;> first | simp only [h] | skip) | (refine Grd.two (fun h => ?_) (fun h => ?_) <;> first | simp only [h] | skip) | (apply And.intro; focus (first | omega | (simp; done))) | (refine Cal.mk (place_v hx) ?_; rintro _ _ ⟨rfl, rfl⟩ -)
  exact ⟨_, _, Wk.refl _, hwf.weak, rfl, rfl⟩
theorem len_v (I : SetI st b W S) : VCalls Tryd.prog 8 [ptrV b] st fun r s => r = .sc (.int .i64 (cntS S 65536 : Nat)) ∧ st = s := by
  refine vcalls_enterq pc8 (Nat.le_of_ble_eq_true rfl) rfl fun hwf hok => ?_
  show Run _ Pc8.body (.fin (finP Pc8.res _)) _ _
  unfold Pc8 zo
  have e2 := wc_n (W := W) (n := (cntS S 65536 : Nat))
  repeat' first | simp (maxSteps := 3000000) only [go_sem, ↓reduceIte, I.box, e2] | (refine If.dec (fun h => ?_) (fun h => ?_) <;> first | simp only [decide_eq_true h] | simp only [decide_eq_false h] | skip) | (refine Grd.decd (fun h => ?_) (fun h => ?_) <;> first | simp only [decide_eq_true h] | simp only [decide_eq_false h] | skip) | (refine If.mk (fun h => ?_) (fun h => ?_) <;> first | simp only [h] | skip) | (refine Grd.two (fun h => ?_) (fun h => ?_) <;> first | simp only [h] | skip) | (apply And.intro; focus (first | omega | (simp; done)))
  exact ⟨_, _, Wk.refl _, hwf.weak, rfl, rfl⟩
theorem SetI.take (I : SetI st b W S) (h0 : x ≠ 0) (hx : x < 65536) (hn : S x = false) (s : St) : SetI (s.put b (wc (updS W (x / 64) (W (x / 64) ||| 2 ^ (x % 64))) ((cntS S 65536 : Nat) + 1 : Int))) b (updS W (x / 64) (W (x / 64) ||| 2 ^ (x % 64))) (updS S x true) :=
  ⟨I.wds.take, by rw [put_box_same, cntS_take hx hn]; rfl, by rw [updS_ne (by omega)]; exact I.z⟩
def SetO (st : St) (b : Nat) (s : St) (S : Nat → Bool) : Prop := ∃ W cs, s = st.put b cs ∧ SetI s b W S
set_option maxRecDepth 100000 in
theorem take_v (I : SetI st b W S) (hx : x < 65536) : VCalls Tryd.prog 6 [ptrV b, .sc (.int .u16 x)] st fun r s => (r = .sc (.bool false) ∧ st = s ∧ (x = 0 ∨ S x = true)) ∨ (r = .sc (.bool true) ∧ SetO st b s (updS S x true) ∧ x ≠ 0 ∧ S x = false) := by
  refine vcalls_enterq pc6 (Nat.le_of_ble_eq_true rfl) rfl fun hwf hok => ?_
  show Run _ Pc6.body (.fin (finP Pc6.res _)) _ _
  unfold Pc6 zg zn zo
  have hl := I.wds.lt (x / 64)
  have hp := pow_bit (show x % 64 < 64 by omega)
  have e1 := ib_or hl hp
  have e2 := wc_at (W := W) (n := (cntS S 65536 : Nat)) (show x / 64 < 1024 by omega)
  have g1 : (0 : Int) ≤ ((x / 64 : Nat) : Int) := by omega
  have g2 : ((x / 64 : Nat) : Int) < ((1024 : Nat) : Int) := by omega
  by_cases c0 : x = 0
  · have c1 : decide ((x : Int) = 0) = true := decide_eq_true (by omega)
    repeat' first | simp (maxSteps := 3000000) only [go_sem, ↓reduceIte, c1] | (refine If.dec (fun h => ?_) (fun h => ?_) <;> first | simp only [decide_eq_true h] | simp only [decide_eq_false h] | skip) | (refine Grd.decd (fun h => ?_) (fun h => ?_) <;> first | simp only [decide_eq_true h] | simp only [decide_eq_false h] | skip) | (refine If.mk (fun h => ?_) (fun h => ?_) <;> first | simp only [h] | skip) | (refine Grd.two (fun h => ?_) (fun h => ?_) <;> first | simp only [h] | skip) | (apply And.intro; focus (first | omega | (simp; done)))
    exact ⟨_, _, Wk.refl _, hwf.weak, .inl ⟨rfl, rfl, .inl c0⟩⟩
  · have c1 : decide ((x : Int) = 0) = false := decide_eq_false (by omega)
    by_cases c2 : S x = true
    · repeat' first | simp (maxSteps := 3000000) only [go_sem, ↓reduceIte, c1, c2] | (refine If.dec (fun h => ?_) (fun h => ?_) <;> first | simp only [decide_eq_true h] | simp only [decide_eq_false h] | skip) | (refine Grd.decd (fun h => ?_) (fun h => ?_) <;> first | simp only [decide_eq_true h] | simp only [decide_eq_false h] | skip) | (refine If.mk (fun h => ?_) (fun h => ?_) <;> first | simp only [h] | skip) | (refine Grd.two (fun h => ?_) (fun h => ?_) <;> first | simp only [h] | skip) | (apply And.intro; focus (first | omega | (simp; done))) | (refine Cal.mk (has_v I hx) ?_; rintro _ _ ⟨rfl, rfl⟩ -)
      exact ⟨_, _, Wk.refl _, hwf.weak, .inl ⟨rfl, rfl⟩⟩
    · rw [Bool.not_eq_true] at c2
      have g3 : x / 64 + 1 ≤ 1025 := by omega
      have e5 := wc_set' (W := W) (n := (cntS S 65536 : Nat)) (y := W (x / 64) ||| 2 ^ (x % 64)) (show x / 64 < 1024 by omega)
      have hc : cntS S 65536 ≤ 65536 := cntS_le
      repeat' first | simp (maxSteps := 3000000) only [go_sem, ↓reduceIte, I.box, c1, c2, e1, e2, g1, g2, g3, wc_len, mono_wc, e5, wc_n, wc_setn'] | (refine If.dec (fun h => ?_) (fun h => ?_) <;> first | simp only [decide_eq_true h] | simp only [decide_eq_false h] | skip) | (refine Grd.decd (fun h => ?_) (fun h => ?_) <;> first | simp only [decide_eq_true h] | simp only [decide_eq_false h] | skip) | (refine If.mk (fun h => ?_) (fun h => ?_) <;> first | simp only [h] | skip) | (refine Grd.two (fun h => ?_) (fun h => ?_) <;> first | simp only [h] | skip) | (apply And.intro; focus (first | omega | (simp; done))) | (refine Cal.mk (has_v I hx) ?_; rintro _ _ ⟨rfl, rfl⟩ -) | (refine Cal.mk (place_v hx) ?_; rintro _ _ ⟨rfl, rfl⟩ -)
      exact ⟨_, _, Wk.refl _, weak_both hwf.weak, .inr ⟨rfl, ⟨_, _, rfl, I.take c0 hx c2 st⟩, c0⟩⟩
end
end
section
open Go Go.RowKit
def Pure (w : World) (v : Value) (e : Ending) (w' : World) : Prop := e = .returned v ∧ Below w.heap.size w w'
theorem lt_of_cell {w : World} {a : Addr} {v : Value} (h : w.cell? a = some v) : a.block < w.heap.size := by
  rcases Nat.lt_or_ge a.block w.heap.size with hlt | hge
  · exact hlt
  · simp [World.cell?, Array.getElem?_eq_none hge] at h
theorem keep_cell {w w1 : World} {a : Addr} {v : Value} (h : w.cell? a = some v) (hb : Below w.heap.size w w1) : w1.cell? a = some v := (hb.cell (lt_of_cell h)).trans h
structure More where
  blocks : List Obj
  count : Nat
instance : Nonempty More := ⟨⟨[], 0⟩⟩
def ext (w : World) (e : More) : World := { w with heap := w.heap ++ e.blocks.toArray, drawn := e.count }
def Holds (w : World) (L : List (Addr × Value)) : Prop := ∀ p ∈ L, w.cell? p.1 = some p.2
theorem Holds.keep {w w1 : World} {L : List (Addr × Value)} (h : Holds w L) (hb : Below w.heap.size w w1) : Holds w1 L := fun p hp => keep_cell (h p hp) hb
theorem Holds.cons {w : World} {a : Addr} {v : Value} {L : List (Addr × Value)} : Holds w ((a, v) :: L) ↔ w.cell? a = some v ∧ Holds w L := by
  simp [Holds]
theorem Holds.nil {w : World} : Holds w [] ↔ True := by simp [Holds]
theorem Holds.append {w : World} {L M : List (Addr × Value)} (h : Holds w L) (h' : Holds w M) : Holds w (L ++ M) := by
  intro p hp
  rcases List.mem_append.1 hp with hp | hp
  · exact h p hp
  · exact h' p hp
def elemL (b o : Nat) : List Value → List (Addr × Value)
  | [] => []
  | v :: cs => (⟨b, o, none⟩, v) :: elemL b (o + 1) cs
theorem elemL_holds {w : World} {b : Nat} : ∀ (cs : List Value) (o : Nat), (∀ j v, cs[j]? = some v → w.cell? ⟨b, o + j, none⟩ = some v) → Holds w (elemL b o cs)
  | [], _, _ => by simp [elemL, Holds]
  | v :: cs, o, h => by
    rw [elemL, Holds.cons]
    refine ⟨by simpa using h 0 v rfl, elemL_holds cs (o + 1) fun j u hu => ?_⟩
    rw [show o + 1 + j = o + (j + 1) from by omega]
    exact h (j + 1) u (by simpa using hu)
end
section
open Go Go.RowKit
attribute [local go_sem ↓] Go.wp_at_zero Go.wp_at_succ
theorem ktab_at {k j : Nat} (h : dbTab[j]? = some k) : ktab 0 j = some (.int .u8 (k : Nat)) := by
  show (if 0 = 0 then (dbTab[j]?).map (fun n : Nat => Value.int .u8 (n : Nat)) else none) = _
  rw [if_pos rfl, h]; rfl
set_option maxHeartbeats 400000 in
theorem tz_w {w : World} (hT : Tabs w) {f k : Nat} (hf : f < 2 ^ 64) (h1 : f.testBit k = true) (h2 : ∀ j, j < k → f.testBit j = false) :
    Calls Tryd.prog 24 #[.int .u64 (f : Nat)] w fun e w' => e = .returned (.int .i64 (k : Nat)) ∧ w = w' := by
  have hk := bit_lt hf h1
  have hf0 : f ≠ 0 := fun e => by subst e; rw [Nat.zero_testBit] at h1; cases h1
  have ht := tz_tab hf h1 h2
  obtain ⟨j, hj⟩ : ∃ j, (f &&& (2 ^ 64 - f)) * 285870213051353865 % 18446744073709551616 / 2 ^ 58 = j := ⟨_, rfl⟩
  rw [hj] at ht
  have hj64 : j < 64 := by have := (List.getElem?_eq_some_iff.1 ht).1; simpa [dbTab] using this
  have hc := hT 0 j _ (ktab_at ht)
  have hd : decide ((f : Int) = 0) = false := decide_eq_false (by omega)
  have e1 : IntKind.u64.wrap (-(f : Int)) = ((2 ^ 64 - f : Nat) : Int) := by
    simp only [IntKind.wrap, IntKind.signed, IntKind.bits, Bool.false_and, Bool.false_eq_true, ↓reduceIte]; omega
  have e2 : bits .and .u64 (f : Int) (IntKind.u64.wrap (-(f : Int))) = ((f &&& (2 ^ 64 - f) : Nat) : Int) := by
    rw [e1, ← ibit_and]; exact ib_and hf (by omega)
  have eJ : IntKind.u64.wrap (bits .and .u64 (f : Int) (IntKind.u64.wrap (-(f : Int))) * 285870213051353865) / 288230376151711744 = (j : Int) := by
    rw [e2, ← hj]
    simp only [IntKind.wrap, IntKind.signed, IntKind.bits, Bool.false_and, Bool.false_eq_true, ↓reduceIte]
    generalize f &&& (2 ^ 64 - f) = q
    omega
  have g1 : (0 : Int) ≤ (j : Int) := by omega
  have g2 : (j : Int) < 64 := by omega
  clear h1 h2 hT ht e1 e2 hj
  go_enter Tryd.func24, Tryd.ntmps24
  go_wp2
  all_goals (go_ret; exact ⟨rfl, rfl⟩)
theorem tz_v {st : St} {f k : Nat} (hf : f < 2 ^ 64) (h1 : f.testBit k = true) (h2 : ∀ j, j < k → f.testBit j = false) :
    VCalls Tryd.prog 24 [.sc (.int .u64 (f : Nat))] st fun r s => r = .sc (.int .i64 (k : Nat)) ∧ st = s := by
  intro w0 G w us hw hl hr
  obtain ⟨u, rfl⟩ : ∃ u, us = #[u] := by
    obtain ⟨l⟩ := us
    match l, hl with
    | [u], _ => exact ⟨u, rfl⟩
  have h0 := hr 0 _ u rfl rfl
  cases h0
  refine (tz_w hw.tabs hf h1 h2).mono ?_
  rintro e w' ⟨rfl, rfl⟩
  exact ⟨_, _, st, G, rfl, ⟨rfl, rfl⟩, .sc _ rfl, .refl G, hw⟩
end
section
open Go
theorem u64_top : (if IntKind.u64.signed = true then (-1 : Int) else IntKind.u64.max) = 18446744073709551615 := rfl
theorem ib_not' {a : Nat} (ha : a < 2 ^ 64) : ibit .xor .u64 18446744073709551615 (a : Int) = ((2 ^ 64 - 1 - a : Nat) : Int) := ib_not ha
theorem ib64_or' {a k : Nat} (ha : a < 1024) (hk : k < 64) : ibit .or .i64 ((a : Int) * 64) (k : Int) = ((64 * a + k : Nat) : Int) := by
  rw [← ib64_or ha hk]; congr 1; omega
section
variable {st : St} {b x : Nat} {W : Nat → Nat} {S : Nat → Bool}
set_option maxRecDepth 100000 in
theorem next_v (I : SetI st b W S) (hx : x < 65536) : VCalls Tryd.prog 18 [ptrV b, .sc (.int .u16 x)] st fun r s => st = s ∧
    ((∃ n : Nat, r = .tup [.sc (.int .u16 n), .sc (.bool true)] ∧ Nxt1 S x n) ∨ (r = .tup [.sc (.int .u16 0), .sc (.bool false)] ∧ ∀ j, x ≤ j → j < 65536 → S j = true)) := by
  refine vcalls_enterq pc18 (Nat.le_of_ble_eq_true rfl) rfl fun hwf hok => ?_
  show Run _ Pc18.body (.fin (finP Pc18.res _)) _ _
  unfold Pc18 zo
  have hl := I.wds.lt (x / 64)
  have hk : x % 64 < 64 := by omega
  have hp := pow_bit hk
  have h1p : 1 ≤ 2 ^ (x % 64) := Nat.one_le_two_pow
  have e2 := wc_at (W := W) (n := (cntS S 65536 : Nat)) (show x / 64 < 1024 by omega)
  have g1 : (0 : Int) ≤ ((x / 64 : Nat) : Int) := by omega
  have g2 : ((x / 64 : Nat) : Int) < ((1024 : Nat) : Int) := by omega
  have e3 := ib_not' hl
  have e4 : ((2 ^ (x % 64) : Nat) - 1 : Int) % 18446744073709551616 = ((2 ^ (x % 64) - 1 : Nat) : Int) := by
    generalize 2 ^ (x % 64) = q at hp h1p ⊢
    omega
  have e5 := ib_andNot (show 2 ^ 64 - 1 - W (x / 64) < 2 ^ 64 by omega) (show 2 ^ (x % 64) - 1 < 2 ^ 64 by omega)
  have F := Fw.start (n := x) I.wds
  obtain ⟨f0, hf0⟩ : ∃ f, (2 ^ 64 - 1 - W (x / 64)) &&& (2 ^ 64 - 1 - (2 ^ (x % 64) - 1)) = f := ⟨_, rfl⟩
  rw [hf0] at e5 F
  repeat' first | simp (maxSteps := 3000000) only [go_sem, ↓reduceIte, I.box, e2, g1, g2, u64_top, e3, e4, e5] | (refine If.dec (fun h => ?_) (fun h => ?_) <;> first | simp only [decide_eq_true h] | simp only [decide_eq_false h] | skip) | (refine Grd.decd (fun h => ?_) (fun h => ?_) <;> first | simp only [decide_eq_true h] | simp only [decide_eq_false h] | skip) | (refine If.mk (fun h => ?_) (fun h => ?_) <;> first | simp only [h] | skip) | (refine Grd.two (fun h => ?_) (fun h => ?_) <;> first | simp only [h] | skip) | (apply And.intro; focus (first | omega | (simp; done))) | (refine Cal.mk (place_v hx) ?_; rintro _ _ ⟨rfl, rfl⟩ -)
  refine run_loop [4, 5, 6, 8, 25, 27, 29, 32, 33, 34, 35, 36] (fun B s => ∃ a f : Nat, B 6 = .sc (.int .i64 a) ∧ B 8 = .sc (.int .u64 f) ∧ Fw S x a f ∧ x / 64 ≤ a ∧ a < 1024 ∧ s = st) (fun B _ => 1024 - vnat (B 6)) rfl ?_ ?_
  · refine ⟨x / 64, f0, ?_, ?_, F, Nat.le_refl _, by omega, rfl⟩
    · simp (maxSteps := 3000000) only [go_sem, ↓reduceIte]
    · simp (maxSteps := 3000000) only [go_sem, ↓reduceIte]
  · rintro B s ⟨a, f, h6, h8, Fa, hxa, ha, rfl⟩
    by_cases c : f = 0
    · subst c
      have c1 : decide ((((0 : Nat) : Int)) = 0) = true := decide_eq_true rfl
      by_cases c2 : a + 1 = 1024
      · have c3 : decide (((a : Int) + 1) = 1024) = true := decide_eq_true (by omega)
        repeat' first | simp (maxSteps := 3000000) only [go_sem, ↓reduceIte, h6, h8, c1, c3] | (refine If.dec (fun h => ?_) (fun h => ?_) <;> first | simp only [decide_eq_true h] | simp only [decide_eq_false h] | skip) | (refine Grd.decd (fun h => ?_) (fun h => ?_) <;> first | simp only [decide_eq_true h] | simp only [decide_eq_false h] | skip) | (refine If.mk (fun h => ?_) (fun h => ?_) <;> first | simp only [h] | skip) | (refine Grd.two (fun h => ?_) (fun h => ?_) <;> first | simp only [h] | skip) | (apply And.intro; focus (first | omega | (simp; done)))
        refine ⟨_, _, Wk.refl _, hwf.weak, rfl, .inr ⟨rfl, fun j h1 h2 => Fa.pass j h1 (by omega)⟩⟩
      · have c3 : decide (((a : Int) + 1) = 1024) = false := decide_eq_false (by omega)
        have q1 := wc_at (W := W) (n := (cntS S 65536 : Nat)) (show a + 1 < 1024 by omega)
        have q2 : ((a : Int) + 1).toNat = a + 1 := by omega
        have q3 : (0 : Int) ≤ (a : Int) + 1 := by omega
        have q4 : (a : Int) + 1 < ((1024 : Nat) : Int) := by omega
        have q5 := ib_not' (I.wds.lt (a + 1))
        repeat' first | simp (maxSteps := 3000000) only [go_sem, ↓reduceIte, h6, h8, c1, c3, I.box, q1, q2, q3, q4, u64_top, q5] | (refine If.dec (fun h => ?_) (fun h => ?_) <;> first | simp only [decide_eq_true h] | simp only [decide_eq_false h] | skip) | (refine Grd.decd (fun h => ?_) (fun h => ?_) <;> first | simp only [decide_eq_true h] | simp only [decide_eq_false h] | skip) | (refine If.mk (fun h => ?_) (fun h => ?_) <;> first | simp only [h] | skip) | (refine Grd.two (fun h => ?_) (fun h => ?_) <;> first | simp only [h] | skip) | (apply And.intro; focus (first | omega | (simp; done)))
        exact ⟨⟨a + 1, 2 ^ 64 - 1 - W (a + 1), by simp, rfl, Fa.step I.wds (by omega), by omega, by omega⟩, by omega⟩
    · have c1 : decide (((f : Int)) = 0) = false := decide_eq_false (by omega)
      obtain ⟨k, k0, k1, k2⟩ := low_bit c Fa.lt
      have q1 := ib64_or' ha k0
      have q2 : ((64 * a + k : Nat) : Int) % 65536 = ((64 * a + k : Nat) : Int) := by omega
      repeat' first | simp (maxSteps := 3000000) only [go_sem, ↓reduceIte, h6, h8, c1, q1, q2] | (refine If.dec (fun h => ?_) (fun h => ?_) <;> first | simp only [decide_eq_true h] | simp only [decide_eq_false h] | skip) | (refine Grd.decd (fun h => ?_) (fun h => ?_) <;> first | simp only [decide_eq_true h] | simp only [decide_eq_false h] | skip) | (refine If.mk (fun h => ?_) (fun h => ?_) <;> first | simp only [h] | skip) | (refine Grd.two (fun h => ?_) (fun h => ?_) <;> first | simp only [h] | skip) | (apply And.intro; focus (first | omega | (simp; done))) | (refine Cal.mk (tz_v Fa.lt k1 k2) ?_; rintro _ _ ⟨rfl, rfl⟩ -)
      refine ⟨_, _, Wk.refl _, hwf.weak, rfl, .inl ⟨_, rfl, Fa.found ha k1 k2⟩⟩
set_option maxRecDepth 100000 in
theorem fresh_v (I : SetI st b W S) (hx : x < 65536) : VCalls Tryd.prog 7 [ptrV b, .sc (.int .u16 x)] st fun r s =>
    (65535 ≤ cntS S 65536 ∧ r = .tup [.sc (.int .u16 0), .sc (.bool false)] ∧ st = s) ∨ (cntS S 65536 < 65535 ∧ ∃ n : Nat, r = .tup [.sc (.int .u16 n), .sc (.bool true)] ∧ Frs S x n ∧ SetO st b s (updS S n true)) := by
  refine vcalls_enterq pc7 (Nat.le_of_ble_eq_true rfl) rfl fun hwf hok => ?_
  show Run _ Pc7.body (.fin (finP Pc7.res _)) _ _
  unfold Pc7 zo
  have e2 := wc_n (W := W) (n := (cntS S 65536 : Nat))
  by_cases c : 65535 ≤ cntS S 65536
  · have c1 : decide ((65535 : Int) ≤ ((cntS S 65536 : Nat) : Int)) = true := decide_eq_true (by omega)
    repeat' first | simp (maxSteps := 3000000) only [go_sem, ↓reduceIte, I.box, e2, c1] | (refine If.dec (fun h => ?_) (fun h => ?_) <;> first | simp only [decide_eq_true h] | simp only [decide_eq_false h] | skip) | (refine Grd.decd (fun h => ?_) (fun h => ?_) <;> first | simp only [decide_eq_true h] | simp only [decide_eq_false h] | skip) | (refine If.mk (fun h => ?_) (fun h => ?_) <;> first | simp only [h] | skip) | (refine Grd.two (fun h => ?_) (fun h => ?_) <;> first | simp only [h] | skip) | (apply And.intro; focus (first | omega | (simp; done)))
    exact ⟨_, _, Wk.refl _, hwf.weak, .inl ⟨c, rfl, rfl⟩⟩
  · have c1 : decide ((65535 : Int) ≤ ((cntS S 65536 : Nat) : Int)) = false := decide_eq_false (by omega)
    have hy : max ((x : Nat) : Int) 1 = ((if x = 0 then 1 else x : Nat) : Int) := by split <;> omega
    obtain ⟨y, hy2⟩ : ∃ y, (if x = 0 then 1 else x) = y := ⟨_, rfl⟩
    have hyl : y < 65536 := by rw [← hy2]; split <;> omega
    rw [hy2] at hy
    simp (maxSteps := 3000000) only [go_sem, ↓reduceIte, I.box, e2, c1, hy]
    obtain ⟨j0, g1, g2, g3⟩ := cntS_lt (k := 65535) I.z (show cntS S 65536 < 65535 by omega)
    refine Cal.mk (next_v I hyl) ?_
    rintro _ _ ⟨rfl, h | h⟩ -
    · obtain ⟨n, rfl, hn⟩ := h
      have F : Frs S x n := .up (by rw [hy2]; exact hn)
      have c2 : S n = false := F.no
      simp (maxSteps := 3000000) only [go_sem, ↓reduceIte]
      refine Cal.mk (take_v I F.lt) ?_
      rintro _ s2 (⟨rfl, rfl, h1 | h1⟩ | ⟨rfl, h1, h2, h3⟩) -
      · have := F.g1; omega
      · rw [c2] at h1; cases h1
      · simp (maxSteps := 3000000) only [go_sem, ↓reduceIte]
        obtain ⟨W2, cs, rfl, I2⟩ := h1
        exact ⟨_, _, Wk.refl _, weak_both hwf.weak, .inr ⟨by omega, n, rfl, F, W2, cs, rfl, I2⟩⟩
    · obtain ⟨rfl, h⟩ := h
      simp (maxSteps := 3000000) only [go_sem, ↓reduceIte]
      refine Cal.mk (next_v I (show 1 < 65536 by omega)) ?_
      rintro _ _ ⟨rfl, h3 | h3⟩ -
      · obtain ⟨n, rfl, hn⟩ := h3
        have F : Frs S x n := .round hx (by rw [hy2]; exact h) hn
        have c2 : S n = false := F.no
        simp (maxSteps := 3000000) only [go_sem, ↓reduceIte]
        refine Cal.mk (take_v I F.lt) ?_
        rintro _ s2 (⟨rfl, rfl, h1 | h1⟩ | ⟨rfl, h1, h2, h3⟩) -
        · have := F.g1; omega
        · rw [c2] at h1; cases h1
        · simp (maxSteps := 3000000) only [go_sem, ↓reduceIte]
          obtain ⟨W2, cs, rfl, I2⟩ := h1
          exact ⟨_, _, Wk.refl _, weak_both hwf.weak, .inr ⟨by omega, n, rfl, F, W2, cs, rfl, I2⟩⟩
      · have := h3.2 j0 g1 g2
        rw [g3] at this; cases this
def u16s (l : List Nat) : List V := l.map fun n => .sc (.int .u16 (n : Nat))
theorem u16s_len {l : List Nat} : (u16s l).length = l.length := List.length_map ..
theorem u16s_at {l : List Nat} {i n : Nat} (h : l[i]? = some n) : (u16s l)[i]? = some (.sc (.int .u16 (n : Nat))) := by simp [u16s, h]
def idxN (l : List Nat) (x : Nat) : Int := if x ∈ l then l.idxOf x else -1
set_option maxRecDepth 100000 in
theorem index16_v {l : List Nat} {tk : Tk} : VCalls Tryd.prog 15 [.sl tk (u16s l), .sc (.int .u16 x)] st fun r s => r = .sc (.int .i64 (idxN l x)) ∧ st = s := by
  refine vcalls_enterq pc15 (Nat.le_of_ble_eq_true rfl) rfl fun hwf hok => ?_
  show Run _ Pc15.body (.fin (finP Pc15.res _)) _ _
  unfold Pc15 zo
  have hm : l.length ≤ maxLen := by have := (hok (.sl tk (u16s l)) (by simp)).len; rwa [u16s_len] at this
  unfold maxLen at hm
  simp (maxSteps := 3000000) only [go_sem, ↓reduceIte, u16s_len]
  refine run_loop [4, 5, 8, 9, 14, 15, 16, 18] (fun B s => ∃ i : Nat, B 8 = .sc (.int .i64 i) ∧ i ≤ l.length ∧ (∀ j : Nat, j < i → ∀ y, l[j]? = some y → y ≠ x) ∧ s = st) (fun B _ => l.length - vnat (B 8)) rfl ?_ ?_
  · refine ⟨0, by first | (simp (maxSteps := 3000000) only [go_sem, ↓reduceIte]; done) | (simp (maxSteps := 3000000) only [go_sem, ↓reduceIte]; rfl), Nat.zero_le _, fun j h => by omega, rfl⟩
  · rintro B s ⟨i, h8, hi, hno, rfl⟩
    by_cases c : i < l.length
    · have c1 : decide ((i : Int) < (l.length : Int)) = true := decide_eq_true (by omega)
      obtain ⟨y, hy⟩ : ∃ y, l[i]? = some y := ⟨_, List.getElem?_eq_getElem c⟩
      have g1 := u16s_at hy
      by_cases c2 : x = y
      · subst c2
        have hz : idxN l x = i := by
          unfold idxN
          have hmem : x ∈ l := List.mem_of_getElem? hy
          rw [if_pos hmem]
          have h1 : l.idxOf x ≤ i := by
            by_cases c3 : l.idxOf x ≤ i
            · exact c3
            · have := List.not_of_lt_findIdx (p := (· == x)) (xs := l) (i := i) (by show i < l.idxOf x; omega)
              rw [(List.getElem?_eq_some_iff.1 hy).2] at this
              simp at this
          have h2 : ¬ l.idxOf x < i := fun c3 => hno _ c3 x (by
            have hlt : l.idxOf x < l.length := by omega
            rw [List.getElem?_eq_getElem hlt]
            exact congrArg some (List.getElem_idxOf hlt)) rfl
          omega
        have c3 : decide (((x : Nat) : Int) = ((x : Nat) : Int)) = true := decide_eq_true rfl
        rw [hz]
        simp (maxSteps := 3000000) only [go_sem, ↓reduceIte, h8, c1, g1]
        refine ⟨by omega, ?_⟩
        exact ⟨_, _, Wk.refl _, hwf.weak, rfl, rfl⟩
      · have c3 : decide (((x : Nat) : Int) = ((y : Nat) : Int)) = false := decide_eq_false (by omega)
        simp (maxSteps := 3000000) only [go_sem, ↓reduceIte, h8, c1, g1, c3]
        repeat (apply And.intro; focus (first | omega | (simp; done)))
        refine ⟨⟨i + 1, by simp, by omega, fun j hj z hz => ?_⟩, by omega⟩
        by_cases e : j = i
        · subst e
          rw [hy] at hz
          cases hz
          exact fun e => c2 e.symm
        · exact hno j (by omega) z hz
    · have c1 : decide ((i : Int) < (l.length : Int)) = false := decide_eq_false (by omega)
      have hz : idxN l x = -1 := if_neg fun hmem => by
        obtain ⟨j, hj⟩ := List.mem_iff_getElem?.1 hmem
        exact hno j (by have := (List.getElem?_eq_some_iff.1 hj).1; omega) x hj rfl
      rw [hz]
      simp (maxSteps := 3000000) only [go_sem, ↓reduceIte, h8, c1]
      exact ⟨_, _, Wk.refl _, hwf.weak, rfl, rfl⟩
theorem contains16_v {l : List Nat} {tk : Tk} : VCalls Tryd.prog 5 [.sl tk (u16s l), .sc (.int .u16 x)] st fun r s => r = .sc (.bool (decide (x ∈ l))) ∧ st = s := by
  refine vcalls_enterq pc5 (Nat.le_of_ble_eq_true rfl) rfl fun hwf hok => ?_
  show Run _ Pc5.body (.fin (finP Pc5.res _)) _ _
  unfold Pc5 zo
  have c1 : decide (0 ≤ idxN l x) = decide (x ∈ l) := by
    unfold idxN
    by_cases h : x ∈ l
    · rw [if_pos h, decide_eq_true h]; exact decide_eq_true (by omega)
    · rw [if_neg h, decide_eq_false h]; rfl
  repeat' first | simp (maxSteps := 3000000) only [go_sem, ↓reduceIte, c1] | (refine If.dec (fun h => ?_) (fun h => ?_) <;> first | simp only [decide_eq_true h] | simp only [decide_eq_false h] | skip) | (refine Grd.decd (fun h => ?_) (fun h => ?_) <;> first | simp only [decide_eq_true h] | simp only [decide_eq_false h] | skip) | (refine If.mk (fun h => ?_) (fun h => ?_) <;> first | simp only [h] | skip) | (refine Grd.two (fun h => ?_) (fun h => ?_) <;> first | simp only [h] | skip) | (apply And.intro; focus (first | omega | (simp; done))) | (refine Cal.mk (index16_v) ?_; rintro _ _ ⟨rfl, rfl⟩ -)
  exact ⟨_, _, Wk.refl _, hwf.weak, rfl, rfl⟩
end
end
section
open Go
def wz : List V := List.replicate 1024 (.sc (.int .u64 0)) ++ [.sc (.int .i64 0)]
theorem rep_map {α : Type} (n : Nat) (x : α) : List.replicate n x = (List.range n).map fun _ => x := by
  rw [List.map_const', List.length_range]
theorem wz_wc : wz = wc (fun _ => 0) (0 : Int) := by
  unfold wz wc
  rw [rep_map]
  rfl
theorem cntS_none {k : Nat} : cntS (fun _ => false) k = 0 := by
  induction k with
  | zero => rfl
  | succ k ih => simp [cntS, ih]
theorem SetI.start {s : St} {b : Nat} (h : s.box b = some wz) : SetI s b (fun _ => 0) (fun _ => false) :=
  ⟨⟨fun _ => by simp, fun _ _ _ => by simp⟩, by rw [h, wz_wc, cntS_none]; rfl, rfl⟩
section
variable {st : St} {b x : Nat} {W : Nat → Nat} {S : Nat → Bool}
set_option maxRecDepth 100000 in
theorem alive08_v : VCalls Tryd.prog 9 [] st fun r s => r = .sc (.bool true) ∧ st = s := by
  refine vcalls_enterq pc9 (Nat.le_of_ble_eq_true rfl) rfl fun hwf hok => ?_
  show Run _ Pc9.body (.fin (finP Pc9.res _)) _ _
  unfold Pc9 zg zo
  have d2 : decide (((2 : Nat) : Int) = 2) = true := rfl
  simp (maxSteps := 3000000) only [go_sem, ↓reduceIte]
  rw [show List.replicate 1024 (V.sc (Value.int IntKind.u64 0)) ++ [V.sc (Value.int IntKind.i64 0)] = wz from rfl]
  refine ⟨by rw [wz_wc, wc_len]; decide, fun b hb => ?_⟩
  have I := SetI.start (s := st.put b wz) (b := b) put_box_same
  refine Cal.mk (take_v (x := 1) I (by omega)) ?_
  rintro _ s2 (⟨rfl, rfl, h1 | h1⟩ | ⟨rfl, h1, -, -⟩) -
  · cases h1
  · cases h1
  obtain ⟨W1, cs1, hs, I1⟩ := h1
  rw [put_put] at hs
  subst hs
  have hc1 : cntS (updS (fun _ => false) 1 true) 65536 = 1 := by rw [cntS_take (by omega) rfl, cntS_none]
  simp (maxSteps := 3000000) only [go_sem, ↓reduceIte]
  refine Cal.mk (fresh_v (x := 1) I1 (by omega)) ?_
  rintro _ s3 (⟨h2, rfl, rfl⟩ | ⟨h2, n, rfl, F, h3⟩) -
  · omega
  have hn2 : n = 2 := by
    have h5 := F.key 2 (by omega) (by omega) (by rw [updS_ne (by omega)])
    have h6 := F.no
    have h7 := F.g1
    by_cases e : n = 1
    · subst e; rw [updS_same] at h6; cases h6
    · unfold keyS at h5
      rw [if_neg (by omega), if_neg (by omega)] at h5
      omega
  subst hn2
  obtain ⟨W2, cs2, hs, I2⟩ := h3
  rw [put_put] at hs
  subst hs
  have hc2 : cntS (updS (updS (fun _ => false) 1 true) 2 true) 65536 = 2 := by rw [cntS_take (by omega) (by rw [updS_ne (by omega)]), hc1]
  simp (maxSteps := 3000000) only [go_sem, ↓reduceIte, d2]
  refine Cal.mk (len_v I2) ?_
  rintro _ _ ⟨rfl, rfl⟩ -
  rw [hc2]
  simp (maxSteps := 3000000) only [go_sem, ↓reduceIte, d2]
  refine Cal.mk (take_v (x := 0) I2 (by omega)) ?_
  rintro _ s4 (⟨rfl, rfl, -⟩ | ⟨rfl, h1, h5, -⟩) -
  · simp (maxSteps := 3000000) only [go_sem, ↓reduceIte]
    exact ⟨_, _, Wk.refl _, weak_put hwf.weak hb, rfl, rfl⟩
  · exact absurd rfl h5
def sN (l : List Nat) (n : Nat) (j : Nat) : Bool := decide (1 ≤ j ∧ j < n ∧ j ∉ l)
def mN (l : List Nat) (n : Nat) : Nat := cntS (fun j => decide (1 ≤ j ∧ j ∈ l)) n
theorem sN_one {l : List Nat} : sN l 1 = fun _ => false := funext fun j => decide_eq_false (by omega)
theorem sN_take {l : List Nat} {n : Nat} (h1 : 1 ≤ n) (h : n ∉ l) : updS (sN l n) n true = sN l (n + 1) := by
  funext j
  by_cases e : j = n
  · subst e; rw [updS_same]; exact (decide_eq_true ⟨h1, by omega, h⟩).symm
  · rw [updS_ne e]; exact decide_eq_decide.2 ⟨fun q => ⟨q.1, by omega, q.2.2⟩, fun q => ⟨q.1, by omega, q.2.2⟩⟩
theorem sN_pass {l : List Nat} {n : Nat} (h : n ∈ l) : sN l n = sN l (n + 1) := by
  funext j
  refine decide_eq_decide.2 ⟨fun q => ⟨q.1, by omega, q.2.2⟩, fun q => ⟨q.1, ?_, q.2.2⟩⟩
  have : j ≠ n := fun e => q.2.2 (e ▸ h)
  omega
theorem sN_cnt {l : List Nat} {n : Nat} : ∀ k, k ≤ n → cntS (sN l n) k + mN l k = k - 1
  | 0, _ => rfl
  | k + 1, h => by
    have ih := sN_cnt (l := l) (n := n) k (by omega)
    unfold mN at ih ⊢
    simp only [cntS, sN, decide_eq_true_eq] at ih ⊢
    by_cases h1 : 1 ≤ k
    · by_cases h2 : k ∈ l
      · rw [if_neg (fun q => q.2.2 h2), if_pos ⟨h1, h2⟩]; omega
      · rw [if_pos ⟨h1, by omega, h2⟩, if_neg (fun q => h2 q.2)]; omega
    · rw [if_neg (fun q => h1 q.1), if_neg (fun q => h1 q.1)]; omega
theorem mN_in {l : List Nat} {n : Nat} (h1 : 1 ≤ n) (h : n ∈ l) : mN l (n + 1) = mN l n + 1 := by
  unfold mN; simp only [cntS]; rw [if_pos (decide_eq_true ⟨h1, h⟩)]
theorem mN_out {l : List Nat} {n : Nat} (h : n ∉ l) : mN l (n + 1) = mN l n := by
  unfold mN; simp only [cntS]; rw [if_neg (by simp [h])]; rfl
theorem key_inj {f a b : Nat} (ha : a < 65536) (hb : b < 65536) (h : keyS f a = keyS f b) : a = b := by
  unfold keyS at h; split at h <;> split at h <;> omega
structure Frsh (l : List Nat) (f : Nat) (S : Nat → Bool) (last : Int) : Prop where
  free : ∀ j, 1 ≤ j → j < 65536 → S j = false → j ∈ l ∧ last < keyS f j
theorem Frsh.next {l : List Nat} {f n : Nat} {S : Nat → Bool} {last : Int} (h : Frsh l f S last) (F : Frs S f n) : n ∈ l ∧ last < keyS f n ∧ Frsh l f (updS S n true) (keyS f n) := by
  have h1 := h.free n F.g1 F.lt F.no
  refine ⟨h1.1, h1.2, ⟨fun j j1 j2 j3 => ?_⟩⟩
  by_cases e : j = n
  · subst e; rw [updS_same] at j3; cases j3
  · rw [updS_ne e] at j3
    have h2 := F.key j j1 j2 j3
    have h3 : keyS f n ≠ keyS f j := fun q => e (key_inj F.lt j2 q).symm
    exact ⟨(h.free j j1 j2 j3).1, by omega⟩
set_option maxRecDepth 100000 in
set_option maxHeartbeats 1000000 in
theorem idsFull_v {l : List Nat} {tk : Tk} (hl : ∀ n ∈ l, n < 65536) (hx : x < 65536) : VCalls Tryd.prog 3 [.sl tk (u16s l), .sc (.int .u16 x)] st fun r s => r = .sc (.bool true) := by
  refine vcalls_enterq pc3 (Nat.le_of_ble_eq_true rfl) rfl fun hwf hok => ?_
  show Run _ Pc3.body (.fin (finP Pc3.res _)) _ _
  unfold Pc3 zg zo
  by_cases c : 10 < l.length
  · have c1 : decide ((10 : Int) < (l.length : Int)) = true := decide_eq_true (by omega)
    repeat' first | simp (maxSteps := 3000000) only [go_sem, ↓reduceIte, u16s_len, c1] | (refine If.dec (fun h => ?_) (fun h => ?_) <;> first | simp only [decide_eq_true h] | simp only [decide_eq_false h] | skip) | (refine Grd.decd (fun h => ?_) (fun h => ?_) <;> first | simp only [decide_eq_true h] | simp only [decide_eq_false h] | skip) | (refine If.mk (fun h => ?_) (fun h => ?_) <;> first | simp only [h] | skip) | (refine Grd.two (fun h => ?_) (fun h => ?_) <;> first | simp only [h] | skip) | (apply And.intro; focus (first | omega | (simp; done)))
    exact ⟨_, _, Wk.refl _, hwf.weak, rfl⟩
  have c1 : decide ((10 : Int) < (l.length : Int)) = false := decide_eq_false (by omega)
  simp (maxSteps := 3000000) only [go_sem, ↓reduceIte, u16s_len, c1]
  rw [show List.replicate 1024 (V.sc (Value.int IntKind.u64 0)) ++ [V.sc (Value.int IntKind.i64 0)] = wz from rfl]
  refine ⟨by rw [wz_wc, wc_len]; decide, fun b hb => ?_⟩
  refine run_loop [4, 6, 7, 21, 23, 26, 27, 29, 32, 33, 34] (fun B s => ∃ n : Nat, 1 ≤ n ∧ n ≤ 65536 ∧ B 7 = .sc (.int .i64 n) ∧ B 6 = .sc (.int .i64 (mN l n : Nat)) ∧ ∃ W cs, s = st.put b cs ∧ SetI s b W (sN l n)) (fun B _ => 65536 - vnat (B 7)) rfl ?_ ?_
  · refine ⟨1, Nat.le_refl _, by omega, by simp (maxSteps := 3000000) only [go_sem, ↓reduceIte]; rfl, by simp (maxSteps := 3000000) only [go_sem, ↓reduceIte]; rfl, fun _ => 0, wz, rfl, ?_⟩
    rw [sN_one]; exact SetI.start put_box_same
  · rintro B s ⟨n, n1, n2, h7, h6, W, cs, rfl, I⟩
    by_cases c2 : n ≤ 65535
    · have c3 : decide ((n : Int) ≤ 65535) = true := decide_eq_true (by omega)
      have e1 : (n : Int) % 65536 = n := by omega
      by_cases c4 : n ∈ l
      · have c5 : decide (n ∈ l) = true := decide_eq_true c4
        have hm := mN_in n1 c4
        have hml : mN l n ≤ 65536 := Nat.le_trans cntS_le n2
        repeat' first | simp (maxSteps := 3000000) only [go_sem, ↓reduceIte, h7, h6, c3, e1, c5] | (refine If.dec (fun h => ?_) (fun h => ?_) <;> first | simp only [decide_eq_true h] | simp only [decide_eq_false h] | skip) | (refine Grd.decd (fun h => ?_) (fun h => ?_) <;> first | simp only [decide_eq_true h] | simp only [decide_eq_false h] | skip) | (refine If.mk (fun h => ?_) (fun h => ?_) <;> first | simp only [h] | skip) | (refine Grd.two (fun h => ?_) (fun h => ?_) <;> first | simp only [h] | skip) | (apply And.intro; focus (first | omega | (simp; done))) | (refine Cal.mk (contains16_v) ?_; rintro _ _ ⟨rfl, rfl⟩ -)
        refine ⟨⟨n + 1, by omega, by omega, by simp, by rw [hm]; simp, W, cs, rfl, ?_⟩, by omega⟩
        rw [← sN_pass c4]; exact I
      · have c5 : decide (n ∈ l) = false := decide_eq_false c4
        have hm := mN_out c4
        repeat' first | simp (maxSteps := 3000000) only [go_sem, ↓reduceIte, h7, c3, e1, c5] | (refine If.dec (fun h => ?_) (fun h => ?_) <;> first | simp only [decide_eq_true h] | simp only [decide_eq_false h] | skip) | (refine Grd.decd (fun h => ?_) (fun h => ?_) <;> first | simp only [decide_eq_true h] | simp only [decide_eq_false h] | skip) | (refine If.mk (fun h => ?_) (fun h => ?_) <;> first | simp only [h] | skip) | (refine Grd.two (fun h => ?_) (fun h => ?_) <;> first | simp only [h] | skip) | (apply And.intro; focus (first | omega | (simp; done))) | (refine Cal.mk (contains16_v) ?_; rintro _ _ ⟨rfl, rfl⟩ -)
        refine Cal.mk (take_v I (by omega)) ?_
        rintro _ s2 (⟨rfl, rfl, h1 | h1⟩ | ⟨rfl, h1, -, -⟩) -
        · omega
        · exact absurd (of_decide_eq_true h1).2.1 (by omega)
        · obtain ⟨W2, cs2, hs, I2⟩ := h1
          rw [put_put] at hs
          subst hs
          rw [sN_take n1 c4] at I2
          simp (maxSteps := 3000000) only [go_sem, ↓reduceIte, h7, h6]
          have hml : mN l n ≤ 65536 := Nat.le_trans cntS_le n2
          refine ⟨by omega, ⟨n + 1, by omega, by omega, by simp, by rw [hm], W2, cs2, rfl, I2⟩, by omega⟩
    · obtain rfl : n = 65536 := by omega
      have c3 : decide (((65536 : Nat) : Int) ≤ 65535) = false := decide_eq_false (by omega)
      have hcnt := sN_cnt (l := l) (n := 65536) 65536 (Nat.le_refl _)
      have hfr : Frsh l x (sN l 65536) (-1) := ⟨fun j j1 j2 j3 => by
        have := of_decide_eq_false j3
        refine ⟨Classical.byContradiction fun e => this ⟨j1, j2, e⟩, by omega⟩⟩
      obtain ⟨M, hM⟩ : ∃ M, mN l 65536 = M := ⟨_, rfl⟩
      rw [hM] at h6 hcnt
      obtain ⟨S0, hS0⟩ : ∃ S0, sN l 65536 = S0 := ⟨_, rfl⟩
      rw [hS0] at hcnt hfr I
      clear hM hS0
      simp (maxSteps := 3000000) only [go_sem, ↓reduceIte, h7, c3]
      refine run_loop [4, 8, 9, 10, 11, 12, 37, 39, 43, 44, 45, 47, 50, 52, 54, 56, 57, 58, 59, 60, 62, 63, 64, 65] (fun D s => ∃ (i : Nat) (S : Nat → Bool) (last : Int), i ≤ M ∧ D 9 = .sc (.int .i64 i) ∧ D 8 = .sc (.int .i64 last) ∧ Frsh l x S last ∧ cntS S 65536 + M = 65535 + i ∧ ∃ W cs, s = st.put b cs ∧ SetI s b W S) (fun D _ => M - vnat (D 9)) rfl ?_ ?_
      · exact ⟨0, S0, -1, Nat.zero_le _, by simp (maxSteps := 3000000) only [go_sem, ↓reduceIte]; rfl, by simp (maxSteps := 3000000) only [go_sem, ↓reduceIte], hfr, by omega, W, cs, rfl, I⟩
      · rintro D s ⟨i, S, last, hi, h9, h8, hF, hc, W, cs, rfl, I⟩
        by_cases c4 : i < M
        · have c5 : decide ((i : Int) < (M : Int)) = true := decide_eq_true (by omega)
          simp (maxSteps := 3000000) only [go_sem, ↓reduceIte, h9, h6, c5]
          refine Cal.mk (fresh_v I hx) ?_
          rintro _ s2 (⟨h2, -, -⟩ | ⟨h2, n, rfl, F, h3⟩) -
          · omega
          obtain ⟨g1, g2, g3⟩ := hF.next F
          obtain ⟨W2, cs2, hs, I2⟩ := h3
          rw [put_put] at hs
          subst hs
          have hcn := cntS_take F.lt F.no
          have c6 : decide (n ∈ l) = true := decide_eq_true g1
          have hlt := F.lt
          by_cases c7 : n < x
          · have k1 : keyS x n = n + 65536 := if_pos c7
            rw [k1] at g2 g3
            have c8 : decide ((n : Int) < (x : Int)) = true := decide_eq_true (by omega)
            have c9 : decide ((n : Int) + 65536 ≤ last) = false := decide_eq_false (by omega)
            repeat' first | simp (maxSteps := 3000000) only [go_sem, ↓reduceIte, h9, h8, c8, c6, c9] | (refine If.dec (fun h => ?_) (fun h => ?_) <;> first | simp only [decide_eq_true h] | simp only [decide_eq_false h] | skip) | (refine Grd.decd (fun h => ?_) (fun h => ?_) <;> first | simp only [decide_eq_true h] | simp only [decide_eq_false h] | skip) | (refine If.mk (fun h => ?_) (fun h => ?_) <;> first | simp only [h] | skip) | (refine Grd.two (fun h => ?_) (fun h => ?_) <;> first | simp only [h] | skip) | (apply And.intro; focus (first | omega | (simp; done))) | (refine Cal.mk (contains16_v) ?_; rintro _ _ ⟨rfl, rfl⟩ -)
            exact ⟨⟨i + 1, _, _, by omega, by simp, by rw [show ((n + 65536 : Nat) : Int) = (n : Int) + 65536 by omega], g3, by omega, W2, cs2, rfl, I2⟩, by omega⟩
          · have k1 : keyS x n = n := if_neg c7
            rw [k1] at g2 g3
            have c8 : decide ((n : Int) < (x : Int)) = false := decide_eq_false (by omega)
            have c9 : decide ((n : Int) ≤ last) = false := decide_eq_false (by omega)
            repeat' first | simp (maxSteps := 3000000) only [go_sem, ↓reduceIte, h9, h8, c8, c6, c9] | (refine If.dec (fun h => ?_) (fun h => ?_) <;> first | simp only [decide_eq_true h] | simp only [decide_eq_false h] | skip) | (refine Grd.decd (fun h => ?_) (fun h => ?_) <;> first | simp only [decide_eq_true h] | simp only [decide_eq_false h] | skip) | (refine If.mk (fun h => ?_) (fun h => ?_) <;> first | simp only [h] | skip) | (refine Grd.two (fun h => ?_) (fun h => ?_) <;> first | simp only [h] | skip) | (apply And.intro; focus (first | omega | (simp; done))) | (refine Cal.mk (contains16_v) ?_; rintro _ _ ⟨rfl, rfl⟩ -)
            exact ⟨⟨i + 1, _, _, by omega, by simp, rfl, g3, by omega, W2, cs2, rfl, I2⟩, by omega⟩
        · have c5 : decide ((i : Int) < (M : Int)) = false := decide_eq_false (by omega)
          obtain rfl : i = M := by omega
          simp (maxSteps := 3000000) only [go_sem, ↓reduceIte, h9, h6]
          refine Cal.mk (fresh_v I hx) ?_
          rintro _ s2 (⟨h2, rfl, rfl⟩ | ⟨h2, -⟩) -
          · have c6 : ((cntS S 65536 : Nat) : Int) = 65535 := by omega
            have c7 : decide ((65535 : Int) = 65535) = true := rfl
            have c8 : decide ((0 : Int) = 0) = true := rfl
            repeat' first | simp (maxSteps := 3000000) only [go_sem, ↓reduceIte, c6] | (refine If.dec (fun h => ?_) (fun h => ?_) <;> first | simp only [decide_eq_true h] | simp only [decide_eq_false h] | skip) | (refine Grd.decd (fun h => ?_) (fun h => ?_) <;> first | simp only [decide_eq_true h] | simp only [decide_eq_false h] | skip) | (refine If.mk (fun h => ?_) (fun h => ?_) <;> first | simp only [h] | skip) | (refine Grd.two (fun h => ?_) (fun h => ?_) <;> first | simp only [h] | skip) | (apply And.intro; focus (first | omega | (simp; done))) | (refine Cal.mk (len_v I) ?_; rintro _ _ ⟨rfl, rfl⟩ -) | (refine Cal.mk (alive08_v) ?_; rintro _ _ ⟨rfl, rfl⟩ -)
            exact ⟨_, _, Wk.refl _, weak_put hwf.weak hb, rfl⟩
          · omega
end
end
section
open Go Go.RowKit Go.ChangeShapes Go.WideShapes Go.Deep
section
variable {H : Type} {enc : TypeId × Value → H} {P : Program} {w : World} {base : Nat} {spare : Nat → Bool} {held : Bool} {fuel : Nat} {t : TypeId} {cs : List Value} {x : DataW H × List MemPlace}
theorem trod_len {fs : Array Field} (ht : P.underlying t = some (.struct fs)) (h : DataW.trod enc P w base spare held fuel t cs = some x) : cs.length = P.cellsOf t := by
  obtain ⟨_, _, _, _, hl, _⟩ := DataW.trod_struct ht h
  exact hl
theorem trod_field {fs : Array Field} (ht : P.underlying t = some (.struct fs)) (h : DataW.trod enc P w base spare held fuel t cs = some x) (j : Nat) (f : Field) (hj : fs[j]? = some f) :
    ∃ n y, DataW.trod enc P w base spare held n f.type ((cs.drop f.offset).take (P.cellsOf f.type)) = some y := by
  obtain ⟨xs, n, _, _, _, hlen, hf⟩ := DataW.trod_struct ht h
  have h1 := hf j f hj
  have hjl : j < xs.length := by rw [hlen]; exact (Array.getElem?_eq_some_iff.1 hj).1
  exact ⟨n, xs[j], h1.trans (List.getElem?_eq_getElem hjl)⟩
theorem open_struct {r : Reach} {b0 : Nat} {v : Value} {d : DataW H} {p : List MemPlace} {fs : Array Field} (ht : P.underlying t = some (.struct fs)) (hv : Value.okWide P w r b0 t v) (h : DataW.Trod enc P w base spare held t v d p) :
    ∃ (cs : List Value) (fuel : Nat), v = .agg cs.toArray ∧ DataW.trod enc P w base spare held fuel t cs = some (d, p) := by
  obtain ⟨cs, rfl, _⟩ := okWide_struct ht hv
  obtain ⟨fuel, hf⟩ := h
  exact ⟨cs.toList, fuel, rfl, hf⟩
theorem list_of {α : Type} {Q : Nat → α → Prop} : ∀ (n : Nat), (∀ i, i < n → ∃ r, Q i r) → ∃ l : List α, l.length = n ∧ ∀ (i : Nat) (r : α), l[i]? = some r → Q i r
  | 0, _ => ⟨[], rfl, by simp⟩
  | n + 1, h => by
    obtain ⟨l, hl, hq⟩ := list_of n (fun i hi => h i (by omega))
    obtain ⟨r, hr⟩ := h n (by omega)
    refine ⟨l ++ [r], by simp [hl], fun i r' hi => ?_⟩
    rw [List.getElem?_append] at hi
    split at hi
    · exact hq i r' hi
    · rename_i hge
      obtain rfl : i = n := by
        have := (List.getElem?_eq_some_iff.1 hi).1
        simp at this
        omega
      simp [hl] at hi
      subst hi
      exact hr
theorem open_elems {e : TypeId} {size : Nat} {v : Value} (ht : P.underlying t = some (.slice e)) (hc : P.cellsOf e = size) (hs : 0 < size) (h : DataW.trod enc P w base spare held fuel t [v] = some x) :
    ∃ A len cap, v = .slice A len cap ∧ len ≤ cap ∧ cap ≤ maxLen ∧ (A = none → len = 0 ∧ cap = 0) ∧
      ∀ i, i < len → ∃ b o cs n y, A = some ⟨b, o, none⟩ ∧ cs.length = size ∧ Holds w (elemL b (o + i * size) cs) ∧ DataW.trod enc P w base spare held n e cs = some y := by
  rcases open_slice ht h with ⟨e1, _⟩ | ⟨a, len, cap, m, n, D, Pl, e1, hb, hl, hm, hmm, _, hi⟩
  · cases e1
    exact ⟨none, 0, 0, rfl, by omega, by omega, fun _ => ⟨rfl, rfl⟩, fun i hi => by omega⟩
  · cases e1
    refine ⟨some a, len, cap, rfl, hl, hm, (by intro h; cases h), fun i hil => ?_⟩
    obtain ⟨cs', hcs, ht'⟩ := hi i (by rw [hmm]; split <;> omega)
    rw [hc] at hcs
    obtain ⟨_, hlen, hcell⟩ := World.cells?_some hcs
    have h0 := hcell 0 hs
    have hlt0 : 0 < cs'.length := by omega
    rw [List.getElem?_eq_getElem hlt0] at h0
    have hspot := World.cell?_spot h0
    obtain ⟨b, o, sp⟩ := a
    have hsp : sp = none := by
      by_cases hz : i * size = 0
      · simpa [Addr.add, hz] using hspot
      · rcases Nat.eq_zero_or_pos i with h0' | h0'
        · simp [h0'] at hz
        · obtain ⟨cs0, hcs0, _⟩ := hi 0 (by rw [hmm]; split <;> omega)
          rw [hc] at hcs0
          obtain ⟨_, hlen0, hcell0⟩ := World.cells?_some hcs0
          have h00 := hcell0 0 hs
          rw [List.getElem?_eq_getElem (by omega)] at h00
          simpa [Addr.add] using World.cell?_spot h00
    subst hsp
    refine ⟨b, o, cs', n, _, rfl, hlen, elemL_holds _ _ fun j u hu => ?_, ht'⟩
    have hj : j < size := by have := (List.getElem?_eq_some_iff.1 hu).1; omega
    have := (hcell j hj).trans hu
    have ea : ((⟨b, o, none⟩ : Addr).add (i * size)).add j = ⟨b, o + i * size + j, none⟩ := by
      unfold Addr.add
      by_cases h1 : i * size = 0 <;> by_cases h2 : j = 0 <;> simp [h1, h2]
    rwa [ea] at this
end
structure ArgIn {H : Type} (enc : TypeId × Value → H) (P : Program) (W : World) (base : Nat) (t : TypeId) (v : Value) (d : DataW H) (p : List MemPlace) : Prop where
  wide : Value.okWide P W .any base t v
  trod : DataW.Trod enc P W 0 (fun _ => true) true t v d p
section
variable {H : Type} {enc : TypeId × Value → H} {P : Program} {W : World} {base : Nat} {t : TypeId} {v : Value} {d : DataW H} {p : List MemPlace}
theorem ArgIn.slice {e : TypeId} (h : ArgIn enc P W base t v d p) (ht : P.underlying t = some (.slice e)) :
    ∃ A l c fuel, v = .slice A l c ∧ DataW.trod enc P W 0 (fun _ => true) true fuel t [.slice A l c] = some (d, p) := by
  obtain ⟨A, l, c, rfl⟩ := okWide_slice ht h.wide
  obtain ⟨fuel, hf⟩ := h.trod
  exact ⟨A, l, c, fuel, rfl, hf⟩
theorem ArgIn.struct {fs : Array Field} (h : ArgIn enc P W base t v d p) (ht : P.underlying t = some (.struct fs)) :
    ∃ (cs : List Value) (fuel : Nat), v = .agg cs.toArray ∧ DataW.trod enc P W 0 (fun _ => true) true fuel t cs = some (d, p) :=
  open_struct ht h.wide h.trod
theorem ArgIn.int {k : IntKind} (h : ArgIn enc P W base t v d p) (ht : P.underlying t = some (.int k)) : ∃ n, v = .int k n ∧ (Lit.int k n).wf = true := by
  obtain ⟨n, rfl, _, _, hw⟩ := open_int ht h.wide h.trod
  exact ⟨n, rfl, hw⟩
theorem ArgIn.bool (h : ArgIn enc P W base t v d p) (ht : P.underlying t = some .bool) : ∃ b, v = .bool b := by
  obtain ⟨b, rfl, _⟩ := open_bool ht h.wide h.trod
  exact ⟨b, rfl⟩
theorem ArgIn.string (h : ArgIn enc P W base t v d p) (ht : P.underlying t = some .string) : ∃ s : ByteArray, v = .string s ∧ s.size ≤ maxLen := by
  obtain ⟨s, rfl, _, _, hs⟩ := Go.ChangeMaps.open_string ht h.wide h.trod
  exact ⟨s, rfl, hs⟩
end
end
section
open Go Go.RowKit Go.ChangeShapes Go.WideShapes Go.Deep
theorem elemL_get {w : World} {b : Nat} : ∀ {cs : List Value} {o : Nat} (_ : Holds w (elemL b o cs)) {j : Nat} {v : Value} (_ : cs[j]? = some v), w.cell? ⟨b, o + j, none⟩ = some v
  | [], _, _, _, _, h => by simp at h
  | c :: cs, o, hh, j, v, h => by
    rw [elemL, Holds.cons] at hh
    cases j with
    | zero => simp at h; subst h; exact hh.1
    | succ j => rw [show o + (j + 1) = o + 1 + j by omega]; exact elemL_get hh.2 (by simpa using h)
inductive Sh where
  | int (k : IntKind)
  | bool
  | str
  | sl (s : Sh)
  | st (l : List Sh)
def shFields (P : Program) (g : TypeId → Option Sh) : Nat → List Field → Option (List Sh)
  | _, [] => some []
  | o, f :: fs => if f.offset = o then do
      let s ← g f.type
      let l ← shFields P g (o + P.cellsOf f.type) fs
      pure (s :: l)
    else none
def fieldsEnd (P : Program) : Nat → List Field → Nat
  | o, [] => o
  | o, f :: fs => fieldsEnd P (o + P.cellsOf f.type) fs
def shOf (P : Program) : Nat → TypeId → Option Sh
  | 0, _ => none
  | n + 1, t => match P.underlying t with
    | some (.int k) => if P.cellsOf t = 1 then some (.int k) else none
    | some .bool => if P.cellsOf t = 1 then some .bool else none
    | some .string => if P.cellsOf t = 1 then some .str else none
    | some (.slice e) => if P.cellsOf t = 1 ∧ 0 < P.cellsOf e then (shOf P n e).map .sl else none
    | some (.struct fs) => if fieldsEnd P 0 fs.toList = P.cellsOf t then (shFields P (shOf P n) 0 fs.toList).map .st else none
    | some (.array k e) => if k * P.cellsOf e = P.cellsOf t then (shOf P n e).map fun s => .st (List.replicate k s) else none
    | _ => none
def Sh.pack : Sh → List V → V
  | .st _, ds => .agg ds
  | _, d :: _ => d
  | _, [] => .und
mutual
inductive Sh.Has : Sh → List V → Prop where
  | int (k : IntKind) (n : Int) (h : (Lit.int k n).wf = true) : Sh.Has (.int k) [.sc (.int k n)]
  | bool (b : Bool) : Sh.Has .bool [.sc (.bool b)]
  | str (s : ByteArray) (h : s.size ≤ maxLen) : Sh.Has .str [.sc (.string s)]
  | sl (s : Sh) (l : List V) (h : Sh.Hasl s l) : Sh.Has (.sl s) [.sl .no l]
  | st (l : List Sh) (ds : List V) (h : Sh.Hass l ds) : Sh.Has (.st l) ds
inductive Sh.Hasl : Sh → List V → Prop where
  | nil (s : Sh) : Sh.Hasl s []
  | cons (s : Sh) (ds l : List V) (h : Sh.Has s ds) (k : Sh.Hasl s l) : Sh.Hasl s (s.pack ds :: l)
inductive Sh.Hass : List Sh → List V → Prop where
  | nil : Sh.Hass [] []
  | cons (s : Sh) (l : List Sh) (a b : List V) (h : Sh.Has s a) (k : Sh.Hass l b) : Sh.Hass (s :: l) (a ++ b)
end
theorem hasl_of {s : Sh} : ∀ (l : List V), (∀ d, d ∈ l → ∃ ds, d = s.pack ds ∧ Sh.Has s ds) → Sh.Hasl s l
  | [], _ => .nil s
  | d :: l, h => by
    obtain ⟨ds, rfl, hd⟩ := h d (List.mem_cons_self ..)
    exact .cons s ds l hd (hasl_of l fun e he => h e (List.mem_cons_of_mem _ he))
def ghOf (w : World) : Gh := ⟨fun b o => w.cell? ⟨b, o, none⟩, fun _ => none⟩
def RepR (G : Gh) (ds : List V) (cs : List Value) : Prop := ds.length = cs.length ∧ (∀ v ∈ cs, v.oneCell' = true) ∧ (∀ (i : Nat) (d : V) (v : Value), ds[i]? = some d → cs[i]? = some v → Rep1 G d v) ∧ ∀ d ∈ ds, d.cells = [d]
theorem RepR.one {G : Gh} {d : V} {v : Value} (h : Rep1 G d v) (h1 : v.oneCell' = true) (h2 : d.cells = [d]) : RepR G [d] [v] :=
  ⟨rfl, by simpa using h1, fun i d' v' hd hv => by
    cases i with
    | zero => simp at hd hv; subst hd hv; exact h
    | succ i => simp at hd, by simpa using h2⟩
theorem RepR.append {G : Gh} {a b : List V} {c d : List Value} (h : RepR G a c) (k : RepR G b d) : RepR G (a ++ b) (c ++ d) :=
  ⟨by simp [h.1, k.1], fun v hv => by
    rcases List.mem_append.1 hv with h' | h'
    · exact h.2.1 v h'
    · exact k.2.1 v h', fun i x v hx hv => by
    rw [List.getElem?_append] at hx hv
    rw [← h.1] at hv
    split at hx
    · rename_i hlt
      rw [if_pos hlt] at hv
      exact h.2.2.1 i x v hx hv
    · rename_i hlt
      rw [if_neg hlt] at hv
      exact k.2.2.1 _ x v hx hv, fun x hx => by
    rcases List.mem_append.1 hx with h' | h'
    · exact h.2.2.2 x h'
    · exact k.2.2.2 x h'⟩
theorem pack_cells {s : Sh} {ds : List V} (h : s.Has ds) (hc : ∀ d ∈ ds, d.cells = [d]) : (s.pack ds).cells = ds := by
  cases h with
  | int => rfl
  | bool => rfl
  | str => rfl
  | sl => rfl
  | st => rfl
section
variable {H : Type} {enc : TypeId × Value → H} {P : Program} {w : World} {base : Nat} {spare : Nat → Bool} {held : Bool}
theorem open_sh : ∀ (n : Nat) {t : TypeId} {s : Sh} (_ : shOf P n t = some s) {fuel : Nat} {cs : List Value} {x : DataW H × List MemPlace} (_ : DataW.trod enc P w base spare held fuel t cs = some x),
    ∃ ds, s.Has ds ∧ RepR (ghOf w) ds cs ∧ cs.length = P.cellsOf t
  | 0, _, _, hs, _, _, _, _ => by simp [shOf] at hs
  | n + 1, t, s, hs, fuel, cs, x, h => by
    unfold shOf at hs
    split at hs
    · rename_i k hu
      split at hs
      · rename_i hc
        cases hs
        obtain ⟨m, rfl, _, hw⟩ := DataW.trod_int hu h
        exact ⟨_, .int k m hw, .one (.sc _ rfl) rfl rfl, by rw [hc]; rfl⟩
      · cases hs
    · rename_i hu
      split at hs
      · rename_i hc
        cases hs
        obtain ⟨m, rfl, _⟩ := DataW.trod_bool hu h
        exact ⟨_, .bool m, .one (.sc _ rfl) rfl rfl, by rw [hc]; rfl⟩
      · cases hs
    · rename_i hu
      split at hs
      · rename_i hc
        cases hs
        obtain ⟨m, rfl, _, hm⟩ := DataW.trod_string hu h
        exact ⟨_, .str m hm, .one (.sc _ rfl) rfl rfl, by rw [hc]; rfl⟩
      · cases hs
    · rename_i e hu
      split at hs
      · rename_i hc
        obtain ⟨s', hs', rfl⟩ := Option.map_eq_some_iff.1 hs
        have hlen1 : ∃ v, cs = [v] := by
          rcases DataW.trod_slice hu h with ⟨rfl, _⟩ | ⟨a, len, cap, _, _, _, _, rfl, _⟩
          · exact ⟨_, rfl⟩
          · exact ⟨_, rfl⟩
        obtain ⟨v, rfl⟩ := hlen1
        obtain ⟨A, len, cap, rfl, hle, hm, hA, hel⟩ := open_elems hu rfl hc.2 h
        obtain ⟨l, hl, hq⟩ := list_of (Q := fun i (p : V × List Value) => ∃ b o, A = some ⟨b, o, none⟩ ∧ p.2.length = P.cellsOf e ∧ Holds w (elemL b (o + i * P.cellsOf e) p.2) ∧ ∃ ds, p.1 = s'.pack ds ∧ s'.Has ds ∧ RepR (ghOf w) ds p.2) len (fun i hi => by
          obtain ⟨b, o, cs', n', y, hA', hlen, hh, ht⟩ := hel i hi
          obtain ⟨ds, k1, k2, k3⟩ := open_sh n hs' ht
          exact ⟨(s'.pack ds, cs'), b, o, hA', hlen, hh, ds, rfl, k1, k2⟩)
        refine ⟨[.sl .no (l.map (·.1))], .sl s' _ (hasl_of _ fun d hd => ?_), .one ?_ rfl rfl, by rw [hc.1]; rfl⟩
        · obtain ⟨p, hp, rfl⟩ := List.mem_map.1 hd
          obtain ⟨i, hi, rfl⟩ := List.mem_iff_getElem.1 hp
          obtain ⟨_, _, _, _, _, ds, k1, k2, _⟩ := hq i _ (List.getElem?_eq_getElem hi)
          exact ⟨ds, k1, k2⟩
        · cases A with
          | none =>
            obtain ⟨rfl, rfl⟩ := hA rfl
            obtain rfl := List.eq_nil_of_length_eq_zero hl
            exact .nil .no (fun g k e => by cases e)
          | some a =>
            by_cases h0 : len = 0
            · subst h0
              obtain rfl := List.eq_nil_of_length_eq_zero hl
              exact .emp a cap hm
            · obtain ⟨b, o, _, _, _, hA', _⟩ := hel 0 (by omega)
              cases hA'
              have hlm : len = (l.map (·.1)).length := by simp [hl]
              rw [hlm]
              refine .sl .no _ b o (P.cellsOf e) cap (fun i j => ((l[i]?.map (·.2)).getD []).getD j default) (fun i d hd => ?_) (fun i j hi hj => ?_) (fun i j hi hj => ?_) (fun i d j c hd hc' => ?_) (by simp; omega) hm (by simp) (fun g k e => by cases e)
              · rw [List.getElem?_map] at hd
                obtain ⟨p, hp, rfl⟩ := Option.map_eq_some_iff.1 hd
                obtain ⟨_, _, _, k1, _, ds, k2, k3, k4⟩ := hq i p hp
                rw [k2, pack_cells k3 k4.2.2.2, k4.1, k1]
              · obtain ⟨p, hp⟩ : ∃ p, l[i]? = some p := ⟨_, List.getElem?_eq_getElem (by simpa using hi)⟩
                obtain ⟨b', o', e', k1, k0, ds, k2, k3, k4⟩ := hq i p hp
                cases e'
                have hj' : j < p.2.length := by omega
                simp only [hp, Option.map_some, Option.getD_some, ghOf]
                have := elemL_get k0 (List.getElem?_eq_getElem hj')
                rw [this]
                simp [List.getD, hj']
              · obtain ⟨p, hp⟩ : ∃ p, l[i]? = some p := ⟨_, List.getElem?_eq_getElem (by simpa using hi)⟩
                obtain ⟨b', o', e', k1, k0, ds, k2, k3, k4⟩ := hq i p hp
                have hj' : j < p.2.length := by omega
                simp only [hp, Option.map_some, Option.getD_some]
                simp only [List.getD, List.getElem?_eq_getElem hj', Option.getD_some]
                exact k4.2.1 _ (List.getElem_mem hj')
              · rw [List.getElem?_map] at hd
                obtain ⟨p, hp, rfl⟩ := Option.map_eq_some_iff.1 hd
                obtain ⟨_, _, _, k1, _, ds, k2, k3, k4⟩ := hq i p hp
                rw [k2, pack_cells k3 k4.2.2.2] at hc'
                have hj' : j < p.2.length := by rw [← k4.1]; exact (List.getElem?_eq_some_iff.1 hc').1
                simp only [hp, Option.map_some, Option.getD_some]
                simp only [List.getD, List.getElem?_eq_getElem hj', Option.getD_some]
                exact k4.2.2.1 j c _ hc' (List.getElem?_eq_getElem hj')
      · cases hs
    · rename_i fs hu
      split at hs
      · rename_i hend
        obtain ⟨ss, hss, rfl⟩ := Option.map_eq_some_iff.1 hs
        have hl := trod_len hu h
        have key : ∀ (gs : List Field) (j0 o : Nat) (ss : List Sh), (∀ i f, gs[i]? = some f → fs[j0 + i]? = some f) → shFields P (shOf P n) o gs = some ss → fieldsEnd P o gs = cs.length →
            ∃ ds, Sh.Hass ss ds ∧ RepR (ghOf w) ds (cs.drop o) := by
          intro gs
          induction gs with
          | nil =>
            intro j0 o ss _ hss he
            simp only [shFields, Option.some.injEq] at hss
            subst hss
            simp only [fieldsEnd] at he
            exact ⟨[], .nil, by rw [List.drop_of_length_le (by omega)]; exact ⟨rfl, by simp, by simp, by simp⟩⟩
          | cons f gs ih =>
            intro j0 o ss hg hss he
            simp only [shFields] at hss
            split at hss
            · rename_i hof
              simp only [Option.bind_eq_bind, Option.bind_eq_some_iff] at hss
              obtain ⟨s0, h0, ss', h1, h2⟩ := hss
              cases h2
              simp only [fieldsEnd] at he
              obtain ⟨ds', k1, k2⟩ := ih (j0 + 1) _ ss' (fun i g hi => by rw [show j0 + 1 + i = j0 + (i + 1) by omega]; exact hg (i + 1) g (by simpa using hi)) h1 he
              obtain ⟨m, y, hy⟩ := trod_field hu h j0 f (by simpa using hg 0 f rfl)
              rw [hof] at hy
              obtain ⟨ds0, q1, q2, q3⟩ := open_sh n h0 hy
              refine ⟨ds0 ++ ds', .cons _ _ _ _ q1 k1, ?_⟩
              have := q2.append k2
              rwa [← List.drop_drop, List.take_append_drop] at this
            · cases hss
        obtain ⟨ds, k1, k2⟩ := key fs.toList 0 0 ss (fun i f hf => by simpa using hf) hss (by rw [hend, hl])
        exact ⟨ds, .st _ _ k1, by simpa using k2, hl⟩
      · cases hs
    · rename_i k e hu
      split at hs
      · rename_i hend
        obtain ⟨s', hs', rfl⟩ := Option.map_eq_some_iff.1 hs
        obtain ⟨xs, m, _, _, hl, hxl, hget⟩ := DataW.trod_array hu h
        have key : ∀ (j i : Nat), i + j = k → ∃ ds, Sh.Hass (List.replicate j s') ds ∧ RepR (ghOf w) ds (cs.drop (i * P.cellsOf e)) := by
          intro j
          induction j with
          | zero =>
            intro i hij
            refine ⟨[], .nil, ?_⟩
            have : i = k := by omega
            subst this
            rw [List.drop_of_length_le (by omega)]
            exact ⟨rfl, by simp, by simp, by simp⟩
          | succ j ih =>
            intro i hij
            obtain ⟨ds', k1, k2⟩ := ih (i + 1) (by omega)
            have hlt : i < xs.length := by omega
            have hy := hget i (by omega)
            rw [List.getElem?_eq_getElem hlt] at hy
            obtain ⟨ds0, q1, q2, q3⟩ := open_sh n hs' hy
            refine ⟨ds0 ++ ds', .cons _ _ _ _ q1 k1, ?_⟩
            have := q2.append k2
            rwa [Nat.add_mul, Nat.one_mul, ← List.drop_drop, List.take_append_drop] at this
        obtain ⟨ds, k1, k2⟩ := key k 0 (by omega)
        exact ⟨ds, .st _ _ k1, by simpa using k2, hl⟩
      · cases hs
    · cases hs
theorem RepR.agg {G : Gh} {ds : List V} {cs : List Value} (h : RepR G ds cs) : Rep1 G (.agg ds) (.agg cs.toArray) :=
  .agg ds _ (by simp [h.1]) (fun i v hv => h.2.1 v (List.mem_of_getElem? (by simpa using hv))) (fun i c v hc hv => h.2.2.1 i c v hc (by simpa using hv))
theorem RepR.head {G : Gh} {d : V} {v : Value} (h : RepR G [d] [v]) : Rep1 G d v := h.2.2.1 0 d v rfl rfl
theorem arg_sh {W : World} (n : Nat) {t : TypeId} {s : Sh} {v : Value} {d : DataW H} {p : List MemPlace} (hs : shOf P n t = some s) (h : ArgIn enc P W base t v d p) : ∃ ds, s.Has ds ∧ Rep1 (ghOf W) (s.pack ds) v := by
  cases n with
  | zero => simp [shOf] at hs
  | succ n =>
  have hs0 := hs
  unfold shOf at hs
  split at hs
  · rename_i k hu
    split at hs
    · cases hs
      obtain ⟨m, rfl, hw⟩ := h.int hu
      exact ⟨_, .int k m hw, .sc _ rfl⟩
    · cases hs
  · rename_i hu
    split at hs
    · cases hs
      obtain ⟨b, rfl⟩ := h.bool hu
      exact ⟨_, .bool b, .sc _ rfl⟩
    · cases hs
  · rename_i hu
    split at hs
    · cases hs
      obtain ⟨b, rfl, hm⟩ := h.string hu
      exact ⟨_, .str b hm, .sc _ rfl⟩
    · cases hs
  · rename_i e hu
    split at hs
    · obtain ⟨s', hs', rfl⟩ := Option.map_eq_some_iff.1 hs
      obtain ⟨A, l, c, fuel, rfl, ht⟩ := h.slice hu
      obtain ⟨ds, k1, k2, _⟩ := open_sh _ hs0 ht
      refine ⟨ds, k1, ?_⟩
      cases k1 with
      | sl _ l' h' => exact k2.head
    · cases hs
  · rename_i fs hu
    split at hs
    · obtain ⟨ss, hss, rfl⟩ := Option.map_eq_some_iff.1 hs
      obtain ⟨cs, fuel, rfl, ht⟩ := h.struct hu
      obtain ⟨ds, k1, k2, _⟩ := open_sh _ hs0 ht
      exact ⟨ds, k1, k2.agg⟩
    · cases hs
  · rename_i k e hu
    split at hs
    · obtain ⟨s', hs', rfl⟩ := Option.map_eq_some_iff.1 hs
      have hwd := h.wide
      simp only [Value.okWide, hu] at hwd
      obtain ⟨cs, rfl, _⟩ := hwd
      obtain ⟨fuel, ht⟩ := h.trod
      obtain ⟨ds, k1, k2, _⟩ := open_sh _ hs0 ht
      have ha := k2.agg
      rw [show (Value.agg cs).cells.toList.toArray = cs from by simp [Value.cells]] at ha
      exact ⟨ds, k1, ha⟩
    · cases hs
  · cases hs
end
def st0 (w : World) : St := ⟨fun _ => none, fun _ => none, w.heap.size⟩
theorem repW0 (w : World) (hT : Tabs w) : RepW (Fr.of w hT) (ghOf w) (st0 w) w :=
  ⟨fun _ _ _ h => h, fun _ _ h => (by cases h), fun _ _ h => (by cases h), fun _ _ h => (by cases h), Nat.le_refl _, Below.refl _ _, fun _ _ h => (by cases h)⟩
theorem v_calls {P : Program} {f : FuncId} {args : List V} {us : Array Value} {w : World} (h : VCalls P f args (st0 w) fun r _ => r = .sc (.bool true)) (hl : us.size = args.length)
    (hr : ∀ (i : Nat) (d : V) (u : Value), args[i]? = some d → us[i]? = some u → Rep1 (ghOf w) d u) (hT : Tabs w := by intro _ _ _ h; cases h) : Calls P f us w (Pure w (.bool true)) :=
  (h (Fr.of w hT) (ghOf w) w us (repW0 w hT) hl hr).mono fun e w' ⟨u, r, st', G', h1, h2, h3, _, h5⟩ => by
    subst h2
    cases h3
    exact ⟨h1, h5.bel⟩
theorem reps2 {G : Gh} {d e : V} {u q : Value} (h : Rep1 G d u) (k : Rep1 G e q) : ∀ (i : Nat) (x : V) (v : Value), [d, e][i]? = some x → #[u, q][i]? = some v → Rep1 G x v := fun i x v hx hv => by
  match i with
  | 0 => simp at hx hv; subst hx hv; exact h
  | 1 => simp at hx hv; subst hx hv; exact k
  | i + 2 => simp at hx
end
section
open Go Go.RowKit
theorem own : ownKnob Tryd.prog.godebug = none := by kernel_rfl
theorem laidOut : laidOutB Tryd.prog = true := by kernel_rfl
end
section
open Go Go.RowKit
theorem gTab : Tryd.prog.globalNamed "math/bits.deBruijn64tab" = some 0 := by kernel_rfl
theorem gTabType : (Tryd.prog.globals[0]?).map (·.type) = some 67 := by kernel_rfl
theorem cells_u8 : Tryd.prog.cellsOf 5 = 1 := by kernel_rfl
theorem cells_tab : Tryd.prog.cellsOf 67 = 64 := by kernel_rfl
theorem tab_datum {H : Type} : (Rows.laid_math_bits_deBruijn64tab : DataW H) = Lib.tabData .u8 (dbTab.map fun n : Nat => (n : Int)) := rfl
abbrev laidL : List (String × DataW Unit) := [("math/bits.deBruijn64tab", Rows.laid_math_bits_deBruijn64tab)]
theorem tabs_of {W : World} (h : laidMetH Tryd.prog laidL W) : Tabs W := by
  rw [MakeChecks.laidMetH_plain _ _ _ (by kernel_rfl)] at h
  unfold laidL at h
  rw [tab_datum] at h
  have hT := Lib.tabIs_of_head gTab gTabType Tryd.underlying67 Tryd.underlying5 cells_u8 cells_tab h
  intro b j v hv
  have hv' : (if b = 0 then (dbTab[j]?).map (fun n : Nat => Value.int .u8 (n : Nat)) else none) = some v := hv
  split at hv'
  · rename_i hb
    subst hb
    obtain ⟨n, hn, rfl⟩ := Option.map_eq_some_iff.1 hv'
    have hj := (List.getElem?_eq_some_iff.1 hn).1
    have := hT.cell gTab j (by simpa using hj)
    rw [this]
    simp [List.getD, List.getElem?_map, hn]
  · cases hv'
theorem door_met (os : Os) (args : Array Value) : laidMetH Tryd.prog laidL ((World.doorLaid Tryd.prog 400 os).forCall (fun _ _ => 0) ⟨#[], args, []⟩).memory :=
  laidMetH_of_parts3 (fuel := 8) (laidMet_of_run' 8 (by kernel_rfl) (by kernel_rfl)) (by kernel_rfl) (by kernel_rfl)
theorem has_u16s {ds : List V} (h : Sh.Has (.sl (.int .u16)) ds) : ∃ l : List Nat, (∀ n ∈ l, n < 65536) ∧ ds = [.sl .no (u16s l)] := by
  cases h with
  | sl _ l h =>
    suffices g : ∀ {l : List V}, Sh.Hasl (.int .u16) l → ∃ L : List Nat, (∀ n ∈ L, n < 65536) ∧ l = u16s L by
      obtain ⟨L, hL, rfl⟩ := g h
      exact ⟨L, hL, rfl⟩
    clear h
    intro l
    induction l with
    | nil => exact fun _ => ⟨[], by intro x hx; (cases hx), rfl⟩
    | cons d l ih =>
      intro h
      cases h with
      | cons _ ds _ h k =>
        obtain ⟨L, hB, rfl⟩ := ih k
        cases h with
        | int _ n hw =>
          have hb := bounds_u16 hw
          refine ⟨n.toNat :: L, ?_, ?_⟩
          · intro x hx
            rcases List.mem_cons.1 hx with rfl | hx
            · omega
            · exact hB x hx
          · show [V.sc (.int .u16 n)] ++ u16s L = _
            have : ((n.toNat : Nat) : Int) = n := by omega
            simp [u16s, this]
end
end Go.Proofs.YtcffgogjhfkaeaaDoor
