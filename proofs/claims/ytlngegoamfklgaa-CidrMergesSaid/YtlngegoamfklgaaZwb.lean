/- Steps of the proof, joined: VCmp, VSortP, CidrLaw, VPfx1, CoverLaw, VMrgLaw, VSortCN, VRows, VRowC, VDelLaw, VDelN, VPfxs, VMrg1, VMrg2, VR26, VMrg3, VMrg4, VMrg5, VMrg6, Base, Open, VEnter, VSeat, VOpenB. -/
import Derived.Test.YtlngegoamfklgaaVc
import Derived.Test.YtlngegoamfklgaaZwa
import Derived.Laws.BitsAllLaws
import Derived.Test.YtlngegoamfklgaaZeb
import Derived.Test.YtlngegoamfklgaaProg
import Derived.WalkKit
import Derived.WalkSpells
import Derived.WalkLawsBesides
import Derived.Deep.RegionHeld3
import Derived.Deep.DrawnRows
import Derived.BigQuiet
import Derived.Lib.Hide
import Derived.ProofKit
import Derived.OpenShut
import Derived.Deep.Slices
namespace Go.Proofs.Ytlngegoamfklgaa
open Go
attribute [local go_sem] run_skip run_reg run_seq run_blk run_exit run_ret run_cond if_true if_false at_code_n at_code_x at_code_r at_blk_n at_blk_x at_blk_r at_rnd_n at_rnd_x at_rnd_r at_fin_n at_fin_r ops_nil ops_grd grd_und grd_tt grd_ff grd_tf grd_ft ops_mv ops_pick ops_bin ops_un ops_binb ops_eqs ops_isnil ops_pnil ops_b2s ops_s2b ops_b2sB ops_s2a ops_slcA ops_aidx vaidx vb2sB vs2a vslcA ops_sidx vs2b vsidx srcX ops_appx apx_mk ops_mks ops_mko mks_int mko_int vbinb veqs visnil vpnil vb2s ops_conv ops_fld ops_ix ops_ixa ops_load ops_nilck ops_ext ops_len ops_slen ops_mn ops_mx ops_bld ops_bsl ops_slc ops_sslc ops_box ops_alc ops_alcX ops_boxX ops_bslo ops_store ops_app ops_call ev_t ev_c put_get put_none opv_mk stb_some sto_ptr over_get rel_mk vnat Bx Stp vbld vbsl put_box_same put_box_ne put_sz put_own use_box use_sz put_put args0 List.getD_cons_zero List.getD_cons_succ List.getD_nil vpick vbin vbinI vbinS vun vconv norm vfld vnil vlen vslen vext vmm vix vixa vload takeV takeB mono_nil mono_two mono_sc mono_any mono_und mono_sl mono_agg mono_ep vmlk vmlen vmnil vent vmfn allSc vslc3 kOk fitsV ops_mlk ops_mlen ops_mnil ops_ent ops_mfn ops_slc3 ops_mkm ops_mup mup_map mub_some ops_mdel mdl_nil mdl_map mdb_some ops_rng rng_none rng_map rgb_some ops_nxt ops_ment met_map meb_some ops_est est_map esb_some ops_clr clr_nil clr_box clb_some ops_calv clv_func vslc vsslc fillV splice V.cells strip strip1 allLen ptrV obsOk shAmt IntKind.bits List.map_cons List.map_nil List.length_cons List.length_nil List.getElem?_cons_zero List.getElem?_cons_succ List.take_succ_cons List.take_zero List.drop_succ_cons List.drop_zero List.cons_append List.nil_append List.append_nil List.take_nil List.drop_nil Option.map_some Option.map_none and_true true_and Int.toNat_natCast Nat.min_def Nat.zero_add Nat.add_zero Nat.zero_mul Nat.mul_one Nat.one_mul vret rvAll rvVal resv_1 resv_2 decide_true decide_false Int.lt_irrefl Bool.not_true Bool.not_false ne_eq not_true_eq_false not_false_eq_true eq_self Bool.true_eq_false Bool.false_eq_true List.contains_cons List.contains_nil Bool.false_or Bool.true_or Bool.or_false Bool.or_true List.mem_cons List.not_mem_nil or_false or_true true_or false_or ops_aidxn vaidxn ops_mki vmki ops_inv ops_cpy cpy_box cpb_some
section
open Go

/-- -1, 0, 1. -/
def cmp3 (x y : Int) : Int := if x < y then -1 else if y < x then 1 else 0
def orI (L : List Int) : Int := (L.find? (fun n => n ≠ 0)).getD 0
section
variable {st : St} {tk : Tk}
set_option maxRecDepth 100000 in
theorem nanInt_v {x : Int} : VCalls Try.prog 138 [.sc (.int .i64 x)] st fun v s => v = .sc (.bool false) ∧ st = s := by
  refine vcalls_enter vc138 (Nat.le_of_ble_eq_true rfl) fun hwf hok => ?_
  show Run _ Vc138.body (.fin (finQ Vc138.res _)) _ _
  unfold Vc138
  simp (config := {maxSteps := 3000000}) only [go_sem, Nat.reduceEqDiff, ↓reduceIte, reduceCtorEq]
  exact ⟨_, _, Wk.refl _, hwf.weak, rfl, rfl⟩
set_option maxRecDepth 100000 in
theorem compareInt_v {x y : Int} : VCalls Try.prog 90 [.sc (.int .i64 x), .sc (.int .i64 y)] st fun v s => v = .sc (.int .i64 (cmp3 x y)) ∧ st = s := by
  refine vcalls_enter vc90 (Nat.le_of_ble_eq_true rfl) fun hwf hok => ?_
  show Run _ Vc90.body (.fin (finQ Vc90.res _)) _ _
  unfold Vc90
  simp (config := {maxSteps := 3000000}) only [go_sem, Int.reduceNeg, ↓reduceIte, reduceCtorEq]
  refine Cal.mk nanInt_v ?_
  rintro _ _ ⟨rfl, rfl⟩ -
  simp (config := {maxSteps := 3000000}) only [go_sem, Nat.reduceEqDiff, Int.reduceNeg, ↓reduceIte]
  refine Cal.mk nanInt_v ?_
  rintro _ _ ⟨rfl, rfl⟩ -
  by_cases c1 : x < y
  · simp (config := {maxSteps := 3000000}) only [go_sem, Nat.reduceEqDiff, Int.reduceNeg, ↓reduceIte, reduceCtorEq, decide_eq_true c1]
    exact ⟨_, _, Wk.refl _, hwf.weak, by simp [cmp3, c1], rfl⟩
  by_cases c2 : y < x
  · simp (config := {maxSteps := 3000000}) only [go_sem, Nat.reduceEqDiff, Int.reduceNeg, ↓reduceIte, reduceCtorEq, decide_eq_false c1, decide_eq_true c2]
    exact ⟨_, _, Wk.refl _, hwf.weak, by simp [cmp3, c1, c2], rfl⟩
  · simp (config := {maxSteps := 3000000}) only [go_sem, Nat.reduceEqDiff, Int.reduceNeg, ↓reduceIte, reduceCtorEq, decide_eq_false c1, decide_eq_false c2]
    exact ⟨_, _, Wk.refl _, hwf.weak, by simp [cmp3, c1, c2], rfl⟩
set_option maxRecDepth 100000 in
theorem nanU16_v {x : Int} : VCalls Try.prog 139 [.sc (.int .u16 x)] st fun v s => v = .sc (.bool false) ∧ st = s := by
  refine vcalls_enter vc139 (Nat.le_of_ble_eq_true rfl) fun hwf hok => ?_
  show Run _ Vc139.body (.fin (finQ Vc139.res _)) _ _
  unfold Vc139
  simp (config := {maxSteps := 3000000}) only [go_sem, Nat.reduceEqDiff, ↓reduceIte, reduceCtorEq]
  exact ⟨_, _, Wk.refl _, hwf.weak, rfl, rfl⟩
set_option maxRecDepth 100000 in
theorem compareU16_v {x y : Int} : VCalls Try.prog 91 [.sc (.int .u16 x), .sc (.int .u16 y)] st fun v s => v = .sc (.int .i64 (cmp3 x y)) ∧ st = s := by
  refine vcalls_enter vc91 (Nat.le_of_ble_eq_true rfl) fun hwf hok => ?_
  show Run _ Vc91.body (.fin (finQ Vc91.res _)) _ _
  unfold Vc91
  simp (config := {maxSteps := 3000000}) only [go_sem, Int.reduceNeg, ↓reduceIte, reduceCtorEq]
  refine Cal.mk nanU16_v ?_
  rintro _ _ ⟨rfl, rfl⟩ -
  simp (config := {maxSteps := 3000000}) only [go_sem, Nat.reduceEqDiff, Int.reduceNeg, ↓reduceIte]
  refine Cal.mk nanU16_v ?_
  rintro _ _ ⟨rfl, rfl⟩ -
  by_cases c1 : x < y
  · simp (config := {maxSteps := 3000000}) only [go_sem, Nat.reduceEqDiff, Int.reduceNeg, ↓reduceIte, reduceCtorEq, decide_eq_true c1]
    exact ⟨_, _, Wk.refl _, hwf.weak, by simp [cmp3, c1], rfl⟩
  by_cases c2 : y < x
  · simp (config := {maxSteps := 3000000}) only [go_sem, Nat.reduceEqDiff, Int.reduceNeg, ↓reduceIte, reduceCtorEq, decide_eq_false c1, decide_eq_true c2]
    exact ⟨_, _, Wk.refl _, hwf.weak, by simp [cmp3, c1, c2], rfl⟩
  · simp (config := {maxSteps := 3000000}) only [go_sem, Nat.reduceEqDiff, Int.reduceNeg, ↓reduceIte, reduceCtorEq, decide_eq_false c1, decide_eq_false c2]
    exact ⟨_, _, Wk.refl _, hwf.weak, by simp [cmp3, c1, c2], rfl⟩
set_option maxRecDepth 100000 in
theorem nanAddr_v {x : Int} : VCalls Try.prog 166 [.sc (.int .u32 x)] st fun v s => v = .sc (.bool false) ∧ st = s := by
  refine vcalls_enter vc166 (Nat.le_of_ble_eq_true rfl) fun hwf hok => ?_
  show Run _ Vc166.body (.fin (finQ Vc166.res _)) _ _
  unfold Vc166
  simp (config := {maxSteps := 3000000}) only [go_sem, Nat.reduceEqDiff, ↓reduceIte, reduceCtorEq]
  exact ⟨_, _, Wk.refl _, hwf.weak, rfl, rfl⟩
set_option maxRecDepth 100000 in
theorem compareAddr_v {x y : Int} : VCalls Try.prog 134 [.sc (.int .u32 x), .sc (.int .u32 y)] st fun v s => v = .sc (.int .i64 (cmp3 x y)) ∧ st = s := by
  refine vcalls_enter vc134 (Nat.le_of_ble_eq_true rfl) fun hwf hok => ?_
  show Run _ Vc134.body (.fin (finQ Vc134.res _)) _ _
  unfold Vc134
  simp (config := {maxSteps := 3000000}) only [go_sem, Int.reduceNeg, ↓reduceIte, reduceCtorEq]
  refine Cal.mk nanAddr_v ?_
  rintro _ _ ⟨rfl, rfl⟩ -
  simp (config := {maxSteps := 3000000}) only [go_sem, Nat.reduceEqDiff, Int.reduceNeg, ↓reduceIte]
  refine Cal.mk nanAddr_v ?_
  rintro _ _ ⟨rfl, rfl⟩ -
  by_cases c1 : x < y
  · simp (config := {maxSteps := 3000000}) only [go_sem, Nat.reduceEqDiff, Int.reduceNeg, ↓reduceIte, reduceCtorEq, decide_eq_true c1]
    exact ⟨_, _, Wk.refl _, hwf.weak, by simp [cmp3, c1], rfl⟩
  by_cases c2 : y < x
  · simp (config := {maxSteps := 3000000}) only [go_sem, Nat.reduceEqDiff, Int.reduceNeg, ↓reduceIte, reduceCtorEq, decide_eq_false c1, decide_eq_true c2]
    exact ⟨_, _, Wk.refl _, hwf.weak, by simp [cmp3, c1, c2], rfl⟩
  · simp (config := {maxSteps := 3000000}) only [go_sem, Nat.reduceEqDiff, Int.reduceNeg, ↓reduceIte, reduceCtorEq, decide_eq_false c1, decide_eq_false c2]
    exact ⟨_, _, Wk.refl _, hwf.weak, by simp [cmp3, c1, c2], rfl⟩
def isV (L : List Int) : List V := L.map fun n => .sc (.int .i64 n)
theorem isV_get {L : List Int} {i : Nat} {x : Int} (h : L[i]? = some x) : (isV L)[i]? = some (.sc (.int .i64 x)) := by simp [isV, h]
theorem isV_len {L : List Int} : (isV L).length = L.length := by simp [isV]
theorem orI_at {L : List Int} {i : Nat} {x : Int} (h : L[i]? = some x) (hx : x ≠ 0) (hb : ∀ (j : Nat) (y : Int), j < i → L[j]? = some y → y = 0) : orI L = x := by
  unfold orI
  have : L.find? (fun n => decide (n ≠ 0)) = some x := by
    rw [List.find?_eq_some_iff_getElem]
    obtain ⟨h1, h2⟩ := List.getElem?_eq_some_iff.1 h
    refine ⟨by simpa using hx, i, h1, h2, fun j hj => ?_⟩
    have := hb j L[j] hj (List.getElem?_eq_getElem (by omega))
    simp [this]
  rw [this]; rfl
theorem orI_none {L : List Int} (hb : ∀ (j : Nat) (y : Int), L[j]? = some y → y = 0) : orI L = 0 := by
  unfold orI
  have : L.find? (fun n => decide (n ≠ 0)) = none := by
    rw [List.find?_eq_none]
    intro x hx
    obtain ⟨j, hj⟩ := List.mem_iff_getElem?.1 hx
    simp [hb j x hj]
  rw [this]; rfl
set_option maxRecDepth 100000 in
theorem cmpOr_v {L : List Int} : VCalls Try.prog 89 [.sl tk (isV L)] st fun v s => v = .sc (.int .i64 (orI L)) ∧ st = s := by
  refine vcalls_enter vc89 (Nat.le_of_ble_eq_true rfl) fun hwf hok => ?_
  show Run _ Vc89.body (.fin (finQ Vc89.res _)) _ _
  unfold Vc89
  have hsm := vlen_max (hok (.sl tk (isV L)) (by simp))
  rw [isV_len] at hsm
  simp (config := {maxSteps := 3000000}) only [go_sem, ↓reduceIte, reduceCtorEq]
  refine run_loop [2, 5, 8, 9, 10, 11, 12, 13, 14, 15, 16] (fun B s => ∃ i : Nat, i ≤ L.length ∧ B 8 = .sc (.int .i64 i) ∧ (∀ (j : Nat) (y : Int), j < i → L[j]? = some y → y = 0) ∧ s = st) (fun B _ => L.length - vnat (B 8)) rfl ?_ ?_
  · simp (config := {maxSteps := 3000000}) only [go_sem, ↓reduceIte]
    exact ⟨0, by omega, rfl, fun j y hj => by omega⟩
  · rintro B s ⟨i, hi, h8, hb, rfl⟩
    by_cases c1 : i < L.length
    · have hx := List.getElem?_eq_getElem c1
      generalize L[i] = x at hx
      by_cases c2 : x = 0
      · subst c2
        simp (config := {maxSteps := 3000000}) only [go_sem, Nat.reduceEqDiff, Int.reduceNeg, ↓reduceIte, Nat.reduceBEq, h8, isV_get hx, isV_len, decide_eq_true (show (i : Int) < (L.length : Int) by omega)]
        repeat (apply And.intro; focus (first | omega | (simp; done)))
        refine ⟨⟨i + 1, by omega, by simp, fun j y hj hy => ?_⟩, by omega⟩
        by_cases e : j = i
        · subst e
          rw [hx] at hy
          exact (Option.some.inj hy).symm
        · exact hb j y (by omega) hy
      · simp (config := {maxSteps := 3000000}) only [go_sem, Nat.reduceEqDiff, ↓reduceIte, Nat.reduceBEq, h8, isV_get hx, isV_len, decide_eq_true (show (i : Int) < (L.length : Int) by omega), decide_eq_true (show x ≠ 0 from c2)]
        repeat (apply And.intro; focus (first | omega | (simp; done)))
        exact ⟨_, _, Wk.refl _, hwf.weak, by rw [orI_at hx c2 hb], rfl⟩
    · have hall : ∀ (j : Nat) (y : Int), L[j]? = some y → y = 0 := fun j y hy => hb j y (by have := (List.getElem?_eq_some_iff.1 hy).1; omega) hy
      simp (config := {maxSteps := 3000000}) only [go_sem, Nat.reduceEqDiff, ↓reduceIte, Nat.reduceBEq, h8, isV_len, decide_eq_false (show ¬ (i : Int) < (L.length : Int) by omega)]
      exact ⟨_, _, Wk.refl _, hwf.weak, by rw [orI_none hall], rfl⟩
end
end
section
open Go

set_option maxRecDepth 100000 in
theorem sortsP : SortsC Try.prog 133 167 168 169 170 171 172 173 174 190 191 192 204 158 159 :=
  ⟨vc133, vc167, vc168, vc190, vc169, vc170, vc191, vc192, vc204, vc171, vc172, vc173, vc174,
    fun _ _ h0 hn => bpow_v vc158 vc71 vc120 tab_ok h0 hn, fun st r x => bnext_v vc159 st r x⟩
/-- A row sorted. -/
theorem sortP_v {α : Type} [Inhabited α] {val : α → V × V} {lt : α → α → Bool} {g : FuncId} (E : EltC Try.prog g val lt) {st : St} {b cap : Nat} {L : List α} {sp : List V} (hmo : mono (rowc val L sp)) (hl : L.length < 4611686018427387904) :
    VCalls Try.prog 80 [dataV b L.length cap, cmpV g] (st.put b (rowc val L sp)) fun _ s => ∃ M : List α, M.Perm L ∧ M.Pairwise (fun x y => lt y x = false) ∧ s = st.put b (rowc val M sp) :=
  csort_v vc80 vc71 vc120 tab_ok sortsP E hmo hl
end
section
open Go

/-- The mask of so many bits, as the program reckons it. -/
def maskN (b : Int) : Int := if b < 0 then 0 else if 32 < b then 4294967295 else 4294967295 * 2 ^ (32 - b).toNat % 4294967296
/-- How many addresses a prefix of so many bits has. -/
def sizeN (b : Int) : Int := 2 ^ (32 - b).toNat
/-- May the prefix be? -/
def rightB (a b : Int) : Bool := decide (0 ≤ b ∧ b ≤ 32 ∧ a % sizeN b = 0)
/-- Has it the address? -/
def hasB (a b x : Int) : Bool := rightB a b && decide (a ≤ x ∧ x ≤ a + sizeN b - 1)
/-- Has 'a/b' all of 'c/d'? -/
def withinB (a b c d : Int) : Bool := rightB a b && rightB c d && decide (c ≤ a ∧ a + sizeN b - 1 ≤ c + sizeN d - 1)

theorem sizeN_pos (b : Int) : 0 < sizeN b := by
  unfold sizeN; exact Int.pow_pos (by omega)
theorem sizeN_le (b : Int) (h : 0 ≤ b) : sizeN b ≤ 4294967296 := by
  unfold sizeN
  have : (2 : Int) ^ (32 - b).toNat ≤ 2 ^ 32 := by
    have h1 : (2 : Nat) ^ (32 - b).toNat ≤ 2 ^ 32 := Nat.pow_le_pow_right (by omega) (by omega)
    exact_mod_cast h1
  simpa using this
theorem sizeN_nat (b : Int) : sizeN b = ((2 ^ (32 - b).toNat : Nat) : Int) := by
  unfold sizeN; rw [Int.natCast_pow]; rfl
theorem sizeN_dvd (b d : Int) (h : d ≤ b) : sizeN b ∣ sizeN d := by
  unfold sizeN
  exact ⟨2 ^ ((32 - d).toNat - (32 - b).toNat), by rw [← Int.pow_add]; congr 1; omega⟩
theorem sizeN_mono (b d : Int) (h : d ≤ b) : sizeN b ≤ sizeN d :=
  Int.le_of_dvd (sizeN_pos d) (sizeN_dvd b d h)
theorem maskN_in (b : Int) (h0 : 0 ≤ b) (h1 : b ≤ 32) : maskN b = 4294967296 - sizeN b := by
  have h := sizeN_pos b
  have h' := sizeN_le b h0
  unfold maskN
  rw [if_neg (by omega), if_neg (by omega)]
  unfold sizeN at *
  omega

theorem nat_and_high (x k : Nat) (hk : k ≤ 32) (hx : x < 4294967296) : x &&& (4294967296 - 2 ^ k) = x - x % 2 ^ k := by
  have e1 : 4294967296 - 2 ^ k = (2 ^ (32 - k) - 1) <<< k := by
    have : (2 : Nat) ^ (32 - k) * 2 ^ k = 4294967296 := by rw [← Nat.pow_add, show 32 - k + k = 32 from by omega]
    rw [Nat.shiftLeft_eq, Nat.sub_mul, this, Nat.one_mul]
  have e2 : x - x % 2 ^ k = (x >>> k) <<< k := by
    rw [Nat.shiftLeft_eq, Nat.shiftRight_eq_div_pow]
    have := Nat.div_add_mod x (2 ^ k)
    rw [Nat.mul_comm] at this
    omega
  rw [e1, e2]
  apply Nat.eq_of_testBit_eq
  intro i
  rw [Nat.testBit_and, Nat.testBit_shiftLeft, Nat.testBit_shiftLeft, Nat.testBit_two_pow_sub_one, Nat.testBit_shiftRight]
  by_cases hi : k ≤ i
  · rw [show k + (i - k) = i from by omega]
    by_cases h32 : i < 32
    · have : i - k < 32 - k := by omega
      simp [hi, this]
    · have hf : x.testBit i = false := Nat.testBit_lt_two_pow (Nat.lt_of_lt_of_le hx (by
        have : (2 : Nat) ^ 32 ≤ 2 ^ i := Nat.pow_le_pow_right (by omega) (by omega)
        simpa using this))
      simp [hf]
  · simp [hi]

theorem andNot_mask (a b : Int) (h0 : 0 ≤ a) (h1 : a < 4294967296) (hb0 : 0 ≤ b) (hb1 : b ≤ 32) : bits .andNot .u32 a (maskN b) = a % sizeN b := by
  have hp := sizeN_pos b
  have hl := sizeN_le b hb0
  have hm := maskN_in b hb0 hb1
  rw [u32_andNot a _ h0 h1 (by omega) (by omega), hm]
  have e : 4294967295 - (4294967296 - sizeN b).toNat = 2 ^ (32 - b).toNat - 1 := by
    have := sizeN_nat b
    omega
  rw [e, Nat.and_two_pow_sub_one_eq_mod, Int.natCast_emod, sizeN_nat]
  congr 1
  omega

theorem and_mask (x b : Int) (h0 : 0 ≤ x) (h1 : x < 4294967296) (hb0 : 0 ≤ b) (hb1 : b ≤ 32) : bits .and .u32 x (maskN b) = x - x % sizeN b := by
  have hp := sizeN_pos b
  have hl := sizeN_le b hb0
  have hm := maskN_in b hb0 hb1
  rw [u32_and x _ h0 h1 (by omega) (by omega), hm]
  have e : (4294967296 - sizeN b).toNat = 4294967296 - 2 ^ (32 - b).toNat := by
    have := sizeN_nat b
    omega
  rw [e, nat_and_high _ _ (by omega) (by omega)]
  have h2 : x.toNat % 2 ^ (32 - b).toNat ≤ x.toNat := Nat.mod_le _ _
  rw [Int.ofNat_sub h2, Int.natCast_emod, ← sizeN_nat]
  have : ((x.toNat : Nat) : Int) = x := by omega
  rw [this]

/-- The program's own test of an address. -/
theorem has_eq (a b x : Int) (h0 : 0 ≤ a) (x0 : 0 ≤ x) (hr : rightB a b = true) : (x - x % sizeN b == a) = decide (a ≤ x ∧ x ≤ a + sizeN b - 1) := by
  simp only [rightB, decide_eq_true_eq] at hr
  obtain ⟨hb0, hb1, hm⟩ := hr
  have hp := sizeN_pos b
  have e1 : a = sizeN b * (a / sizeN b) := by have := Int.mul_ediv_add_emod a (sizeN b); omega
  have e2 := Int.mul_ediv_add_emod x (sizeN b)
  have e3 := Int.emod_nonneg x (show sizeN b ≠ 0 by omega)
  have e4 := Int.emod_lt_of_pos x hp
  rw [Bool.eq_iff_iff]
  simp only [beq_iff_eq, decide_eq_true_eq]
  constructor
  · intro h; omega
  · rintro ⟨h, h'⟩
    have : x / sizeN b = a / sizeN b := by
      apply Int.le_antisymm
      · have : x / sizeN b < a / sizeN b + 1 := by
          apply Int.ediv_lt_of_lt_mul hp
          rw [Int.add_mul, Int.mul_comm]
          omega
        omega
      · exact Int.ediv_le_ediv hp h
    rw [this] at e2
    omega
theorem sizeN_lt (b d : Int) (hb : b < d) (hd : d ≤ 32) : sizeN d < sizeN b := by
  have h1 := sizeN_mono (b + 1) d |> fun _ => sizeN_mono d (b + 1) (by omega)
  have h2 : sizeN b = 2 * sizeN (b + 1) := by
    unfold sizeN
    rw [show (32 - b).toNat = (32 - (b + 1)).toNat + 1 from by omega, Int.pow_succ]
    omega
  have := sizeN_pos (b + 1)
  omega
theorem within_eq (a b c d : Int) (hr : rightB a b = true) : withinB a b c d = (decide (d ≤ b) && hasB c d a) := by
  have hr' := hr
  simp only [rightB, decide_eq_true_eq] at hr'
  obtain ⟨hb0, hb1, hm⟩ := hr'
  unfold withinB hasB
  rw [hr, Bool.true_and]
  cases hc : rightB c d
  · simp
  · simp only [rightB, decide_eq_true_eq] at hc
    obtain ⟨hd0, hd1, hm2⟩ := hc
    rw [Bool.true_and, Bool.true_and, Bool.eq_iff_iff]
    simp only [Bool.and_eq_true, decide_eq_true_eq]
    have p1 := sizeN_pos b
    have p2 := sizeN_pos d
    constructor
    · rintro ⟨h1, h2⟩
      have hdb : d ≤ b := by
        rcases Int.lt_or_le b d with h | h
        · have := sizeN_lt b d h hd1; omega
        · exact h
      exact ⟨hdb, h1, by omega⟩
    · rintro ⟨h1, h2, h3⟩
      refine ⟨h2, ?_⟩
      obtain ⟨q, hq⟩ := sizeN_dvd b d h1
      have ea := Int.mul_ediv_add_emod a (sizeN b)
      have ec := Int.mul_ediv_add_emod c (sizeN d)
      rw [hm] at ea
      rw [hm2] at ec
      have e3 : c + sizeN d = sizeN b * (q * (c / sizeN d) + q) := by
        rw [Int.mul_add, ← Int.mul_assoc, ← hq]
        omega
      generalize q * (c / sizeN d) + q = m at e3
      have h4 : a / sizeN b < m := by
        apply Int.lt_of_mul_lt_mul_left (a := sizeN b) _ (by omega)
        omega
      have h5 : sizeN b * (a / sizeN b + 1) ≤ sizeN b * m := Int.mul_le_mul_of_nonneg_left (by omega) (by omega)
      rw [Int.mul_add] at h5
      omega

def clampN (b : Int) : Int := if b < 0 then 0 else if 32 < b then 32 else b
theorem clampN_in (b : Int) : 0 ≤ clampN b ∧ clampN b ≤ 32 := by
  unfold clampN
  split
  · omega
  · split <;> omega
theorem maskN_clamp (b : Int) : maskN b = maskN (clampN b) := by
  unfold clampN
  split
  · rename_i h; simp [maskN, h]
  · split
    · rename_i h h'; simp [maskN, h, h']
    · rfl
def cmpI (a b : Int) : Int := if a < b then -1 else if b < a then 1 else 0
def cmpP (a b c d : Int) : Int := if cmpI a c = 0 then cmpI b d else cmpI a c
end
section
open Go

/-- A prefix: an address, bits. -/
abbrev Pfx := Int × Int
def pval (p : Pfx) : V × V := (.sc (.int .u32 p.1), .sc (.int .i64 p.2))
def pfxV (p : Pfx) : V := .agg [.sc (.int .u32 p.1), .sc (.int .i64 p.2)]
def ltP (x y : Pfx) : Bool := decide (x.1 < y.1 ∨ x.1 = y.1 ∧ x.2 < y.2)
theorem ltP_ord : Ord' ltP := ⟨fun {x y} h => by simp only [ltP, decide_eq_true_eq, decide_eq_false_iff_not] at h ⊢; omega, fun {x y z} h k => by simp only [ltP, decide_eq_false_iff_not] at h k ⊢; omega⟩
theorem ltP_tight (x y : Pfx) (h : ltP x y = false) (k : ltP y x = false) : x = y := by
  simp only [ltP, decide_eq_false_iff_not] at h k
  exact Prod.ext (by omega) (by omega)
theorem orP (x y : Pfx) : decide (orI [cmp3 x.1 y.1, cmp3 x.2 y.2] < 0) = ltP x y := by
  unfold orI cmp3 ltP
  by_cases c1 : x.1 < y.1
  · simp [c1]
  · by_cases c2 : y.1 < x.1
    · have : ¬ x.1 = y.1 := by omega
      simp [c1, c2, this]
    · have : x.1 = y.1 := by omega
      by_cases c3 : x.2 < y.2
      · simp [this, c3]
      · by_cases c4 : y.2 < x.2
        · simp [this, c3, c4]
        · simp [this, c3, c4]
section
variable {st : St}
set_option maxRecDepth 100000 in
theorem pfxCmp_v {x y : Pfx} : VCalls Try.prog 81 [.agg [(pval x).1, (pval x).2], .agg [(pval y).1, (pval y).2]] st fun v s => ∃ n : Int, decide (n < 0) = ltP x y ∧ v = .sc (.int .i64 n) ∧ st = s := by
  refine vcalls_enter vc81 (Nat.le_of_ble_eq_true rfl) fun hwf hok => ?_
  show Run _ Vc81.body (.fin (finQ Vc81.res _)) _ _
  unfold Vc81
  simp (config := {maxSteps := 3000000}) only [go_sem, Nat.reduceEqDiff, Nat.reduceAdd, ↓reduceIte, reduceCtorEq, pval]
  intro b hb c hc
  have hbc : b < c := by omega
  have hc2 : st.sz ≤ c := by omega
  clear hc
  simp (config := {maxSteps := 3000000}) only [go_sem, Nat.reduceEqDiff, ↓reduceIte, put_box_ne (Nat.ne_of_lt hbc)]
  refine Cal.mk compareAddr_v ?_
  rintro _ _ ⟨rfl, rfl⟩ -
  simp (config := {maxSteps := 3000000}) only [go_sem, Nat.reduceEqDiff, ↓reduceIte, put_box_ne (Nat.ne_of_lt hbc)]
  refine Cal.mk compareInt_v ?_
  rintro _ _ ⟨rfl, rfl⟩ -
  simp (config := {maxSteps := 3000000}) only [go_sem, Nat.reduceEqDiff, ↓reduceIte]
  refine Bo.own (by simp [allLen, V.cells]) ?_
  intro g hg
  simp (config := {maxSteps := 3000000}) only [go_sem, Nat.reduceAdd, ↓reduceIte]
  refine Cal.mk (cmpOr_v (L := [cmp3 x.1 y.1, cmp3 x.2 y.2])) ?_
  rintro _ _ ⟨rfl, rfl⟩ -
  simp (config := {maxSteps := 3000000}) only [go_sem, ↓reduceIte]
  exact ⟨_, _, Wk.refl _, weak_use (weak_put (weak_put hwf.weak hb) hc2) (by simp only [put_sz] at hg; omega), _, orP x y, rfl, rfl⟩
theorem eltP : EltC Try.prog 81 pval ltP := ⟨fun _ _ _ => pfxCmp_v, by kernel_rfl, ltP_ord⟩
theorem sortP_uniq {L M N : List Pfx} (h1 : M.Perm L) (h2 : N.Perm L) (k1 : M.Pairwise (fun x y => ltP y x = false)) (k2 : N.Pairwise (fun x y => ltP y x = false)) : M = N := srt_eq ltP_ord ltP_tight (h1.trans h2.symm) k1 k2
theorem maskN_nat' {b : Int} (h0 : 0 ≤ b) (h1 : b ≤ 32) : 4294967295 * 2 ^ (32 - b).toNat % 4294967296 = maskN b := by
  unfold maskN
  rw [if_neg (by omega), if_neg (by omega)]
theorem pMask_v {b : Int} (h0 : 0 ≤ b) (h1 : b ≤ 32) : VCalls Try.prog 121 [.sc (.int .i64 b)] st fun r st' => r = .sc (.int .u32 (maskN b)) ∧ st = st' := by
  refine vcalls_enter vc121 (Nat.le_of_ble_eq_true rfl) fun hwf hok => ?_
  show Run _ Vc121.body (.fin (finQ Vc121.res _)) _ _
  unfold Vc121
  rw [← maskN_nat' h0 h1]
  have e1 : min (max b 0) 32 = b := by omega
  have e2 : (32 - b).toNat ≤ 32 := by omega
  simp (config := {maxSteps := 3000000}) only [go_sem, Int.reduceNeg, ↓reduceIte, reduceCtorEq, e1, e2]
  repeat (apply And.intro; focus (first | omega | (simp; done)))
  exact ⟨_, _, Wk.refl _, hwf.weak, rfl, rfl⟩
theorem pRight_v {a b : Int} (h0 : 0 ≤ a) (h1 : a < 4294967296) : VCalls Try.prog 72 [.agg [.sc (.int .u32 a), .sc (.int .i64 b)]] st fun r st' => r = .sc (.bool (rightB a b)) ∧ st = st' := by
  refine vcalls_enter vc72 (Nat.le_of_ble_eq_true rfl) fun hwf hok => ?_
  show Run _ Vc72.body (.fin (finQ Vc72.res _)) _ _
  unfold Vc72
  by_cases c1 : 0 ≤ b
  case neg =>
    have hr : rightB a b = false := decide_eq_false (fun h => c1 h.1)
    rw [hr]
    simp (config := {maxSteps := 3000000}) only [go_sem, Nat.reduceEqDiff, Nat.reduceAdd, ↓reduceIte, reduceCtorEq]
    intro c hc
    simp (config := {maxSteps := 3000000}) only [go_sem, Nat.reduceEqDiff, ↓reduceIte, decide_eq_false c1]
    exact ⟨_, _, Wk.refl _, weak_put hwf.weak hc, rfl, rfl⟩
  by_cases c2 : b ≤ 32
  case neg =>
    have hr : rightB a b = false := decide_eq_false (fun h => c2 h.2.1)
    rw [hr]
    simp (config := {maxSteps := 3000000}) only [go_sem, Nat.reduceEqDiff, Nat.reduceAdd, ↓reduceIte, reduceCtorEq]
    intro c hc
    simp (config := {maxSteps := 3000000}) only [go_sem, Nat.reduceEqDiff, ↓reduceIte, decide_eq_true c1, decide_eq_false c2]
    exact ⟨_, _, Wk.refl _, weak_put hwf.weak hc, rfl, rfl⟩
  have hm := andNot_mask a b h0 h1 c1 c2
  have hr : rightB a b = decide (a % sizeN b = 0) := decide_eq_decide.2 ⟨fun h => h.2.2, fun h => ⟨c1, c2, h⟩⟩
  rw [hr]
  simp (config := {maxSteps := 3000000}) only [go_sem, Nat.reduceEqDiff, Nat.reduceAdd, ↓reduceIte, reduceCtorEq]
  intro c hc
  simp (config := {maxSteps := 3000000}) only [go_sem, Nat.reduceEqDiff, ↓reduceIte, decide_eq_true c1, decide_eq_true c2]
  refine Cal.mk (pMask_v c1 c2) ?_
  rintro _ _ ⟨rfl, rfl⟩ -
  simp (config := {maxSteps := 3000000}) only [go_sem, Nat.reduceEqDiff, ↓reduceIte, ibit_andNot, hm]
  exact ⟨_, _, Wk.refl _, weak_put hwf.weak hc, rfl, rfl⟩
theorem pOf_v {a b : Int} (h0 : 0 ≤ a) (h1 : a < 4294967296) (hb0 : 0 ≤ b) (hb1 : b ≤ 32) : VCalls Try.prog 73 [.sc (.int .u32 a), .sc (.int .i64 b)] st fun r st' => r = .agg [.sc (.int .u32 (a - a % sizeN b)), .sc (.int .i64 b)] ∧ st = st' := by
  have hm := and_mask a b h0 h1 hb0 hb1
  refine vcalls_enter vc73 (Nat.le_of_ble_eq_true rfl) fun hwf hok => ?_
  show Run _ Vc73.body (.fin (finQ Vc73.res _)) _ _
  unfold Vc73
  have e1 : min (max b 0) 32 = b := by omega
  simp (config := {maxSteps := 3000000}) only [go_sem, Nat.reduceEqDiff, ↓reduceIte, reduceCtorEq]
  intro c hc
  refine Cal.mk (pMask_v hb0 hb1) ?_
  rintro _ _ ⟨rfl, rfl⟩ -
  simp (config := {maxSteps := 3000000}) only [go_sem, Nat.reduceEqDiff, Nat.reduceAdd, Nat.reduceLT, Nat.reduceLeDiff, ↓reduceIte, ibit_and, hm, e1]
  exact ⟨_, _, Wk.refl _, weak_put hwf.weak hc, rfl, rfl⟩
end
end
section
open Go

/-- May a prefix of b bits begin at f, without going beyond t? -/
def okB (f t b : Int) : Bool := decide (f % sizeN b = 0 ∧ f + sizeN b - 1 ≤ t)
/-- The least bits that may. -/
def bitsOf (f t : Int) : Int := (((List.range 33).findIdx fun b => okB f t (b : Nat)) : Nat)

theorem sizeN_32 : sizeN 32 = 1 := rfl
theorem okB_32 {f t : Int} (h : f ≤ t) : okB f t 32 = true := by
  unfold okB
  rw [decide_eq_true_eq, sizeN_32]
  exact ⟨Int.emod_one f, by omega⟩
theorem bits_lt {f t : Int} (h : f ≤ t) : ((List.range 33).findIdx fun b => okB f t (b : Nat)) < 33 := by
  have := List.findIdx_lt_length_of_exists (p := fun b : Nat => okB f t (b : Nat)) (xs := List.range 33) ⟨32, by simp, okB_32 h⟩
  simpa using this
theorem bits_range {f t : Int} (h : f ≤ t) : 0 ≤ bitsOf f t ∧ bitsOf f t ≤ 32 := by
  have := bits_lt h
  unfold bitsOf
  omega
theorem bitsOf_ok {f t : Int} (h : f ≤ t) : okB f t (bitsOf f t) = true := by
  have h1 := bits_lt h
  have := List.findIdx_getElem (p := fun b : Nat => okB f t (b : Nat)) (xs := List.range 33) (w := by simpa using h1)
  simpa [bitsOf] using this
theorem bits_min {f t b : Int} (hb : 0 ≤ b) (h : b < bitsOf f t) : okB f t b = false := by
  obtain ⟨n, rfl⟩ := Int.eq_ofNat_of_zero_le hb
  unfold bitsOf at h
  have h1 := List.not_of_lt_findIdx (p := fun b : Nat => okB f t (b : Nat)) (xs := List.range 33) (i := n) (by omega)
  simpa using h1
theorem okB_mono {f t b c : Int} (h : okB f t b = true) (hbc : b ≤ c) : okB f t c = true := by
  simp only [okB, decide_eq_true_eq] at *
  obtain ⟨h1, h2⟩ := h
  have hd := sizeN_dvd c b hbc
  have hm := sizeN_mono c b hbc
  refine ⟨?_, by omega⟩
  have : sizeN b ∣ f := Int.dvd_of_emod_eq_zero h1
  exact Int.emod_eq_zero_of_dvd (Int.dvd_trans hd this)
theorem bits_go {f t b : Int} (h : bitsOf f t < b) (hb : b ≤ 32) (hft : f ≤ t) : okB f t (b - 1) = true := okB_mono (bitsOf_ok hft) (by omega)
theorem bits_at {f t b : Int} (hb : 0 ≤ b) (h : b = bitsOf f t) (hft : f ≤ t) : okB f t b = true ∧ (0 < b → okB f t (b - 1) = false) :=
  ⟨by rw [h]; exact bitsOf_ok hft, fun h0 => bits_min (by omega) (by omega)⟩

/-- The list, with fuel. -/
def coverF : Nat → Int → Int → List (Int × Int)
  | 0, _, _ => []
  | n + 1, f, t => if f ≤ t then (f, bitsOf f t) :: coverF n (f + sizeN (bitsOf f t)) t else []
def coverL (f t : Int) : List (Int × Int) := coverF (t + 1 - f).toNat f t
theorem coverF_fuel : ∀ (n m : Nat) (f t : Int), (t + 1 - f).toNat ≤ n → (t + 1 - f).toNat ≤ m → coverF n f t = coverF m f t
  | 0, 0, _, _, _, _ => rfl
  | 0, m + 1, f, t, h, _ => by simp only [coverF]; rw [if_neg (by omega)]
  | n + 1, 0, f, t, _, h => by simp only [coverF]; rw [if_neg (by omega)]
  | n + 1, m + 1, f, t, hn, hm => by
    simp only [coverF]
    split
    · have := sizeN_pos (bitsOf f t)
      rw [coverF_fuel n m _ t (by omega) (by omega)]
    · rfl
theorem coverL_step {f t : Int} (h : f ≤ t) : coverL f t = (f, bitsOf f t) :: coverL (f + sizeN (bitsOf f t)) t := by
  have hp := sizeN_pos (bitsOf f t)
  have e : (t + 1 - f).toNat = (t - f).toNat + 1 := by omega
  unfold coverL
  rw [e]
  simp only [coverF]
  rw [if_pos h, coverF_fuel _ _ _ t (by omega) (Nat.le_refl _)]
theorem coverL_end {f t : Int} (h : t < f) : coverL f t = [] := by
  unfold coverL
  rw [show (t + 1 - f).toNat = 0 from by omega]
  rfl
theorem bits_next {f t : Int} (h : f ≤ t) : f + sizeN (bitsOf f t) ≤ t + 1 := by
  have := bitsOf_ok h
  simp only [okB, decide_eq_true_eq] at this
  omega
theorem bits_mod {f t : Int} (h : f ≤ t) : f % sizeN (bitsOf f t) = 0 := by
  have := bitsOf_ok h
  simp only [okB, decide_eq_true_eq] at this
  exact this.1

/-- 'a | ^mask': the last address of the prefix that begins at a. -/
theorem or_low (a b : Int) (h0 : 0 ≤ a) (h1 : a < 4294967296) (hb0 : 0 ≤ b) (hb1 : b ≤ 32) (hm : a % sizeN b = 0) : bits .or .u32 a (sizeN b - 1) = a + (sizeN b - 1) := by
  have hp := sizeN_pos b
  have hl := sizeN_le b hb0
  rw [u32_or a _ h0 h1 (by omega) (by omega)]
  have e := sizeN_nat b
  have e2 : (sizeN b - 1).toNat < 2 ^ (32 - b).toNat := by omega
  rw [nat_join (32 - b).toNat _ _ ?_ e2]
  · omega
  · have : ((a.toNat % 2 ^ (32 - b).toNat : Nat) : Int) = 0 := by
      rw [Int.natCast_emod, ← e]
      have : ((a.toNat : Nat) : Int) = a := by omega
      rw [this, hm]
    omega
theorem xor_mask (b : Int) (hb0 : 0 ≤ b) (hb1 : b ≤ 32) : bits .xor .u32 IntKind.u32.max (maskN b) = sizeN b - 1 := by
  have hp := sizeN_pos b
  have hl := sizeN_le b hb0
  have hm := maskN_in b hb0 hb1
  have hk : IntKind.u32.max = 4294967295 := rfl
  rw [hk, u32_xor _ _ (by omega) (by omega) (by omega) (by omega)]
  have h : ∀ x : Nat, x < 4294967296 → 4294967295 ^^^ x = 4294967295 - x := by
    intro x hx
    have h1 : (BitVec.allOnes 32 ^^^ BitVec.ofNat 32 x) = ~~~ (BitVec.ofNat 32 x) := BitVec.allOnes_xor
    have h2 := congrArg BitVec.toNat h1
    rw [BitVec.toNat_xor, BitVec.toNat_not, BitVec.toNat_ofNat, BitVec.toNat_allOnes, Nat.mod_eq_of_lt (by omega)] at h2
    simpa using h2
  have e : (4294967295 : Int).toNat = 4294967295 := rfl
  rw [e, h _ (by omega)]
  omega
theorem last_at (f b : Int) (h0 : 0 ≤ f) (h1 : f < 4294967296) (hb0 : 0 ≤ b) (hb1 : b ≤ 32) (hm : f % sizeN b = 0) :
    bits .or .u32 f (bits .xor .u32 IntKind.u32.max (maskN b)) = f + (sizeN b - 1) := by
  rw [xor_mask b hb0 hb1, or_low f b h0 h1 hb0 hb1 hm]
end
section
open Go

/-- A prefix that may be. -/
structure OkP (p : Pfx) : Prop where
  lo : 0 ≤ p.1
  hi : p.1 < 4294967296
  right : rightB p.1 p.2 = true
/-- Has it the address? -/
def inP (p : Pfx) (x : Int) : Prop := p.1 ≤ x ∧ x < p.1 + sizeN p.2
theorem OkP.bits {p : Pfx} (h : OkP p) : 0 ≤ p.2 ∧ p.2 ≤ 32 := by have := of_decide_eq_true h.right; exact ⟨this.1, this.2.1⟩
theorem OkP.dvd {p : Pfx} (h : OkP p) : sizeN p.2 ∣ p.1 := Int.dvd_of_emod_eq_zero (of_decide_eq_true h.right).2.2
theorem OkP.mk' {p : Pfx} (h0 : 0 ≤ p.1) (h1 : p.1 < 4294967296) (h2 : 0 ≤ p.2) (h3 : p.2 ≤ 32) (h4 : sizeN p.2 ∣ p.1) : OkP p := ⟨h0, h1, decide_eq_true ⟨h2, h3, Int.emod_eq_zero_of_dvd h4⟩⟩
theorem dvd_next {m a b : Int} (hm : 0 < m) (ha : m ∣ a) (hb : m ∣ b) (h : a < b) : a + m ≤ b := by
  obtain ⟨c, rfl⟩ := ha
  obtain ⟨d, rfl⟩ := hb
  have h1 : c < d := Int.lt_of_mul_lt_mul_left h (by omega)
  have h2 : m * (c + 1) ≤ m * d := Int.mul_le_mul_of_nonneg_left (by omega) (by omega)
  rw [Int.mul_add, Int.mul_one] at h2
  exact h2
theorem sizeN_0 : sizeN 0 = 4294967296 := rfl
theorem OkP.top {p : Pfx} (h : OkP p) : p.1 + sizeN p.2 ≤ 4294967296 := by
  obtain ⟨h0, h1⟩ := h.bits
  refine dvd_next (sizeN_pos _) h.dvd ?_ h.hi
  have := sizeN_dvd p.2 0 h0
  rwa [sizeN_0] at this
theorem sizeN_half {b : Int} (h0 : 0 ≤ b) (h1 : b < 32) : sizeN b = 2 * sizeN (b + 1) := by
  unfold sizeN
  have : (32 - b).toNat = (32 - (b + 1)).toNat + 1 := by omega
  rw [this, Int.pow_succ, Int.mul_comm]
theorem sizeN_inj {b d : Int} (hb : b ≤ 32) (hd : d ≤ 32) (h : sizeN b = sizeN d) : b = d := by
  rcases Int.lt_trichotomy b d with c | c | c
  · have := sizeN_lt b d c hd; omega
  · exact c
  · have := sizeN_lt d b c hb; omega
theorem has_in {p : Pfx} (h : OkP p) (x : Int) : hasB p.1 p.2 x = true ↔ inP p x := by
  unfold hasB inP
  rw [h.right, Bool.true_and, decide_eq_true_eq]
  omega
/-- Two that are alike begin where one ends, and one of one bit less has both. -/
def Bud (p q : Pfx) : Prop := p.2 = q.2 ∧ 0 < p.2 ∧ q.1 = p.1 + sizeN p.2 ∧ sizeN (p.2 - 1) ∣ p.1
structure Canon (L : List Pfx) : Prop where
  ok : ∀ p ∈ L, OkP p
  gap : L.Pairwise fun p q => p.1 + sizeN p.2 ≤ q.1
  bud : ∀ p ∈ L, ∀ q ∈ L, ¬ Bud p q
/-- All addresses. -/
def Un (L : List Pfx) (x : Int) : Prop := ∃ p ∈ L, inP p x
theorem Canon.same {L : List Pfx} (h : Canon L) {p q : Pfx} (hp : p ∈ L) (hq : q ∈ L) {x : Int} (h1 : inP p x) (h2 : inP q x) : p = q := by
  obtain ⟨i, hi, rfl⟩ := List.mem_iff_getElem.1 hp
  obtain ⟨j, hj, rfl⟩ := List.mem_iff_getElem.1 hq
  unfold inP at h1 h2
  rcases Nat.lt_trichotomy i j with c | c | c
  · have := List.pairwise_iff_getElem.1 h.gap i j hi hj c; omega
  · subst c; rfl
  · have := List.pairwise_iff_getElem.1 h.gap j i hj hi c; omega
theorem Canon.within {L : List Pfx} (h : Canon L) : ∀ (n : Nat) (q : Pfx), (32 - q.2).toNat = n → OkP q → (∀ x, inP q x → Un L x) → ∃ p ∈ L, p.1 ≤ q.1 ∧ q.1 + sizeN q.2 ≤ p.1 + sizeN p.2
  | 0, q, hn, hq, hU => by
    obtain ⟨b0, b1⟩ := hq.bits
    have e : q.2 = 32 := by omega
    have hs : sizeN q.2 = 1 := by rw [e]; rfl
    obtain ⟨p, hp, h1, h2⟩ := hU q.1 ⟨by omega, by omega⟩
    exact ⟨p, hp, h1, by omega⟩
  | n + 1, q, hn, hq, hU => by
    obtain ⟨b0, b1⟩ := hq.bits
    have hb : q.2 < 32 := by omega
    have hs := sizeN_half b0 hb
    have hsp := sizeN_pos (q.2 + 1)
    have htop := hq.top
    have hd1 : sizeN (q.2 + 1) ∣ q.1 := Int.dvd_trans (sizeN_dvd _ _ (by omega)) hq.dvd
    have ok0 : OkP (q.1, q.2 + 1) := OkP.mk' hq.lo hq.hi (by simp; omega) (by simp; omega) hd1
    have ok1 : OkP (q.1 + sizeN (q.2 + 1), q.2 + 1) := OkP.mk' (by have := hq.lo; simp; omega) (by simp; omega) (by simp; omega) (by simp; omega) (Int.dvd_add hd1 (Int.dvd_refl _))
    obtain ⟨p0, hp0, a1, a2⟩ := h.within n (q.1, q.2 + 1) (by simp; omega) ok0 fun x hx => hU x (by unfold inP at hx ⊢; simp at hx; omega)
    obtain ⟨p1, hp1, a3, a4⟩ := h.within n (q.1 + sizeN (q.2 + 1), q.2 + 1) (by simp; omega) ok1 fun x hx => hU x (by unfold inP at hx ⊢; simp at hx; omega)
    simp only at a1 a2 a3 a4
    have o0 := h.ok p0 hp0
    have o1 := h.ok p1 hp1
    have s0 := sizeN_pos p0.2
    have s1 := sizeN_pos p1.2
    by_cases c0 : p0.2 ≤ q.2
    · refine ⟨p0, hp0, a1, ?_⟩
      have hd := sizeN_dvd q.2 p0.2 c0
      exact dvd_next (sizeN_pos _) hq.dvd (Int.dvd_add (Int.dvd_trans hd o0.dvd) hd) (by omega)
    by_cases c1 : p1.2 ≤ q.2
    · have hd := sizeN_dvd q.2 p1.2 c1
      have hm := sizeN_mono q.2 p1.2 c1
      have hl : p1.1 ≤ q.1 := by
        have := dvd_next (sizeN_pos q.2) (Int.dvd_trans hd o1.dvd) (Int.dvd_add hq.dvd (Int.dvd_refl _)) (show p1.1 < q.1 + sizeN q.2 by omega)
        omega
      refine ⟨p1, hp1, hl, ?_⟩
      have := dvd_next (sizeN_pos q.2) hq.dvd (Int.dvd_add (Int.dvd_trans hd o1.dvd) hd) (show q.1 < p1.1 + sizeN p1.2 by omega)
      exact this
    · exfalso
      have m0 : sizeN p0.2 ≤ sizeN (q.2 + 1) := sizeN_mono _ _ (by omega)
      have m1 : sizeN p1.2 ≤ sizeN (q.2 + 1) := sizeN_mono _ _ (by omega)
      have e0 : p0.2 = q.2 + 1 := sizeN_inj o0.bits.2 (by omega) (by omega)
      have e1 : p1.2 = q.2 + 1 := sizeN_inj o1.bits.2 (by omega) (by omega)
      refine h.bud p0 hp0 p1 hp1 ⟨by omega, by omega, by rw [e0]; omega, ?_⟩
      have e2 : p0.1 = q.1 := by rw [e0] at a2; omega
      rw [e0, e2, Int.add_sub_cancel]
      exact hq.dvd
theorem Canon.sub {L M : List Pfx} (h : Canon L) (k : Canon M) (hU : ∀ x, Un L x ↔ Un M x) : ∀ p ∈ L, p ∈ M := fun p hp => by
  have op := h.ok p hp
  obtain ⟨m, hm, m1, m2⟩ := k.within _ p rfl op fun x hx => (hU x).1 ⟨p, hp, hx⟩
  have om := k.ok m hm
  obtain ⟨p', hp', p1, p2⟩ := h.within _ m rfl om fun x hx => (hU x).2 ⟨m, hm, hx⟩
  have s0 := sizeN_pos p.2
  have e : p = p' := h.same hp hp' (x := p.1) ⟨by omega, by omega⟩ ⟨by omega, by omega⟩
  subst e
  have e1 : m.1 = p.1 := by omega
  have e2 : m.2 = p.2 := sizeN_inj om.bits.2 op.bits.2 (by omega)
  have : p = m := Prod.ext e1.symm e2.symm
  rw [this]; exact hm
theorem Canon.srt {L : List Pfx} (h : Canon L) : L.Pairwise fun x y => ltP y x = false := h.gap.imp fun {p q} hpq => by
  have := sizeN_pos p.2
  simp only [ltP, decide_eq_false_iff_not]
  omega
theorem Canon.nodup {L : List Pfx} (h : Canon L) : L.Nodup := h.gap.imp fun {p q} hpq e => by
  have := sizeN_pos p.2
  subst e; omega
/-- The fewest that have just some addresses are one list alone. -/
theorem Canon.uniq {L M : List Pfx} (h : Canon L) (k : Canon M) (hU : ∀ x, Un L x ↔ Un M x) : L = M :=
  srt_eq ltP_ord ltP_tight ((List.perm_ext_iff_of_nodup h.nodup k.nodup).2 fun p => ⟨h.sub k hU p, k.sub h (fun x => (hU x).symm) p⟩) h.srt k.srt
theorem Canon.nil : Canon [] := ⟨fun p hp => (by cases hp), .nil, fun p hp => (by cases hp)⟩

/-! ### From one address up to another one -/
theorem cover_in : ∀ (n : Nat) (f t : Int), (t + 1 - f).toNat = n → ∀ p ∈ coverL f t, f ≤ p.1 ∧ p.1 + sizeN p.2 ≤ t + 1 := fun n => by
  induction n using Nat.strongRecOn with
  | ind n ih =>
    intro f t hn p hp
    by_cases c : f ≤ t
    · rw [coverL_step c] at hp
      have hs := sizeN_pos (bitsOf f t)
      have hx := bits_next c
      rcases List.mem_cons.1 hp with rfl | hp
      · exact ⟨by simp, hx⟩
      · have := ih _ (by omega) (f + sizeN (bitsOf f t)) t rfl p hp
        omega
    · rw [coverL_end (by omega)] at hp
      cases hp
theorem cover_un : ∀ (n : Nat) (f t : Int), (t + 1 - f).toNat = n → ∀ x, Un (coverL f t) x ↔ f ≤ x ∧ x ≤ t := fun n => by
  induction n using Nat.strongRecOn with
  | ind n ih =>
    intro f t hn x
    by_cases c : f ≤ t
    · have hs := sizeN_pos (bitsOf f t)
      have hx := bits_next c
      have hi := ih _ (by omega) (f + sizeN (bitsOf f t)) t rfl x
      rw [coverL_step c]
      have e : Un ((f, bitsOf f t) :: coverL (f + sizeN (bitsOf f t)) t) x ↔ inP (f, bitsOf f t) x ∨ Un (coverL (f + sizeN (bitsOf f t)) t) x := by
        unfold Un
        simp only [List.mem_cons, exists_eq_or_imp]
      rw [e, hi]
      unfold inP
      simp only
      omega
    · rw [coverL_end (by omega)]
      unfold Un
      simp
      omega
theorem cover_canon : ∀ (n : Nat) (f t : Int), (t + 1 - f).toNat = n → 0 ≤ f → t < 4294967296 → Canon (coverL f t) := fun n => by
  induction n using Nat.strongRecOn with
  | ind n ih =>
    intro f t hn h0 h1
    by_cases c : f ≤ t
    · have hs := sizeN_pos (bitsOf f t)
      have hx := bits_next c
      obtain ⟨b0, b1⟩ := bits_range c
      have hi := ih _ (by omega) (f + sizeN (bitsOf f t)) t rfl (by omega) h1
      have hin := cover_in _ (f + sizeN (bitsOf f t)) t rfl
      rw [coverL_step c]
      refine ⟨fun p hp => ?_, List.pairwise_cons.2 ⟨fun q hq => (hin q hq).1, hi.gap⟩, fun p hp q hq hb => ?_⟩
      · rcases List.mem_cons.1 hp with rfl | hp
        · exact OkP.mk' h0 (by simp; omega) b0 b1 (Int.dvd_of_emod_eq_zero (bits_mod c))
        · exact hi.ok p hp
      · rcases List.mem_cons.1 hp with rfl | hp
        · rcases List.mem_cons.1 hq with rfl | hq
          · have := hb.2.2.1; simp only at this; omega
          · obtain ⟨k1, k2, k3, k4⟩ := hb
            simp only at k1 k2 k3 k4
            have hq2 := (hin q hq).2
            rw [k3, ← k1] at hq2
            have hh := sizeN_half (b := bitsOf f t - 1) (by omega) (by omega)
            rw [Int.sub_add_cancel] at hh
            have : okB f t (bitsOf f t - 1) = true := by
              unfold okB
              rw [decide_eq_true_eq]
              exact ⟨Int.emod_eq_zero_of_dvd k4, by omega⟩
            rw [bits_min (by omega) (by omega)] at this
            cases this
        · rcases List.mem_cons.1 hq with rfl | hq
          · have k3 := hb.2.2.1
            have := (hin p hp).1
            have := sizeN_pos p.2
            simp only at k3; omega
          · exact hi.bud p hp q hq hb
    · rw [coverL_end (by omega)]
      exact .nil
theorem Canon.append {L M : List Pfx} (h : Canon L) (k : Canon M) {at' : Int} (h1 : ∀ p ∈ L, p.1 + sizeN p.2 ≤ at') (h2 : ∀ q ∈ M, at' < q.1 ∨ L = []) : Canon (L ++ M) := by
  refine ⟨fun p hp => ?_, List.pairwise_append.2 ⟨h.gap, k.gap, fun p hp q hq => ?_⟩, fun p hp q hq hb => ?_⟩
  · rcases List.mem_append.1 hp with hp | hp
    · exact h.ok p hp
    · exact k.ok p hp
  · have := h1 p hp
    rcases h2 q hq with c | c
    · omega
    · subst c; cases hp
  · have s0 := sizeN_pos p.2
    have s1 := sizeN_pos q.2
    have k3 := hb.2.2.1
    rcases List.mem_append.1 hp with hp | hp
    · rcases List.mem_append.1 hq with hq | hq
      · exact h.bud p hp q hq hb
      · have := h1 p hp
        rcases h2 q hq with c | c
        · omega
        · subst c; cases hp
    · rcases List.mem_append.1 hq with hq | hq
      · have := h1 q hq
        rcases h2 p hp with c | c
        · omega
        · subst c; cases hq
      · exact k.bud p hp q hq hb
theorem un_append {L M : List Pfx} {x : Int} : Un (L ++ M) x ↔ Un L x ∨ Un M x := by
  unfold Un
  simp only [List.mem_append]
  exact ⟨fun ⟨p, hp, hx⟩ => hp.elim (fun h => .inl ⟨p, h, hx⟩) (fun h => .inr ⟨p, h, hx⟩), fun h => h.elim (fun ⟨p, hp, hx⟩ => ⟨p, .inl hp, hx⟩) (fun ⟨p, hp, hx⟩ => ⟨p, .inr hp, hx⟩)⟩

/-! ### The program's way: sorted, then two by two -/
theorem Canon.snoc {A : List Pfx} {q : Pfx} (h : Canon A) (hq : OkP q) (h1 : ∀ y ∈ A, y.1 + sizeN y.2 ≤ q.1) (h2 : ∀ y ∈ A, ¬ Bud y q) : Canon (A ++ [q]) := by
  refine ⟨fun p hp => ?_, List.pairwise_append.2 ⟨h.gap, by simp, fun y hy z hz => ?_⟩, fun y hy z hz hb => ?_⟩
  · rcases List.mem_append.1 hp with hp | hp
    · exact h.ok p hp
    · simp only [List.mem_singleton] at hp; subst hp; exact hq
  · simp only [List.mem_singleton] at hz; subst hz; exact h1 y hy
  · have s0 := sizeN_pos y.2
    have s1 := sizeN_pos z.2
    rcases List.mem_append.1 hy with hy | hy
    · rcases List.mem_append.1 hz with hz | hz
      · exact h.bud y hy z hz hb
      · simp only [List.mem_singleton] at hz; rw [hz] at hb; exact h2 y hy hb
    · simp only [List.mem_singleton] at hy
      subst hy
      have k3 := hb.2.2.1
      rcases List.mem_append.1 hz with hz | hz
      · have := h1 z hz; omega
      · simp only [List.mem_singleton] at hz; subst hz; omega
structure MrgI (L0 out : List Pfx) (i : Nat) : Prop where
  il : i ≤ out.length
  ok : ∀ p ∈ out, OkP p
  srt : out.Pairwise fun x y => ltP y x = false
  can : Canon (out.take i)
  un : ∀ x, Un out x ↔ Un L0 x
variable {L0 A B : List Pfx} {p q : Pfx}
theorem take_a1 {α : Type} (A M : List α) (p : α) : (A ++ p :: M).take (A.length + 1) = A ++ [p] := by
  induction A with
  | nil => rfl
  | cons a A ih => simp only [List.cons_append, List.length_cons, List.take_succ_cons, ih]
theorem take_a2 {α : Type} (A M : List α) (p q : α) : (A ++ p :: q :: M).take (A.length + 1 + 1) = A ++ [p] ++ [q] := by
  induction A with
  | nil => rfl
  | cons a A ih => simp only [List.cons_append, List.length_cons, List.take_succ_cons, ih]
theorem within_sub (hp : OkP p) (hq : OkP q) (h : withinB q.1 q.2 p.1 p.2 = true) : p.1 ≤ q.1 ∧ q.1 + sizeN q.2 ≤ p.1 + sizeN p.2 := by
  unfold withinB at h
  rw [hp.right, hq.right, Bool.true_and, Bool.true_and, decide_eq_true_eq] at h
  omega
theorem within_not (hp : OkP p) (hq : OkP q) (hs : ltP q p = false) (h : withinB q.1 q.2 p.1 p.2 = false) : p.1 + sizeN p.2 ≤ q.1 := by
  unfold withinB at h
  rw [hp.right, hq.right, Bool.true_and, Bool.true_and, decide_eq_false_iff_not] at h
  simp only [ltP, decide_eq_false_iff_not] at hs
  have s0 := sizeN_pos p.2
  have s1 := sizeN_pos q.2
  by_cases c : p.2 ≤ q.2
  · have hm := sizeN_mono q.2 p.2 c
    have hd := sizeN_dvd q.2 p.2 c
    by_cases c2 : q.1 < p.1 + sizeN p.2
    · have := dvd_next s1 hq.dvd (Int.dvd_add (Int.dvd_trans hd hp.dvd) hd) c2
      omega
    · omega
  · have hd := sizeN_dvd p.2 q.2 (by omega)
    exact dvd_next s0 hp.dvd (Int.dvd_trans hd hq.dvd) (by omega)
theorem MrgI.within (h : MrgI L0 (A ++ p :: q :: B) (A.length + 1)) (hw : withinB q.1 q.2 p.1 p.2 = true) : MrgI L0 (A ++ p :: B) (A.length + 1) := by
  have hp := h.ok p (by simp)
  have hq := h.ok q (by simp)
  have hsub : List.Sublist (A ++ p :: B) (A ++ p :: q :: B) := (List.sublist_cons_self q B).cons_cons p |>.append_left A
  have e1 : (A ++ p :: q :: B).take (A.length + 1) = A ++ [p] := take_a1 _ _ _
  have e2 : (A ++ p :: B).take (A.length + 1) = A ++ [p] := take_a1 _ _ _
  have hs := within_sub hp hq hw
  refine ⟨by simp, fun y hy => h.ok y (hsub.subset hy), h.srt.sublist hsub, by rw [e2, ← e1]; exact h.can, fun x => ⟨fun ⟨y, hy, hx⟩ => (h.un x).1 ⟨y, hsub.subset hy, hx⟩, fun hx => ?_⟩⟩
  obtain ⟨y, hy, hyx⟩ := (h.un x).2 hx
  simp only [List.mem_append, List.mem_cons] at hy
  rcases hy with hy | rfl | rfl | hy
  · exact ⟨y, by simp [hy], hyx⟩
  · exact ⟨y, by simp, hyx⟩
  · exact ⟨p, by simp, by unfold inP at hyx ⊢; omega⟩
  · exact ⟨y, by simp [hy], hyx⟩
theorem MrgI.bits (h : MrgI L0 (A ++ p :: q :: B) (A.length + 1)) (hw : withinB q.1 q.2 p.1 p.2 = false) (hb : q.2 = p.2) : 1 ≤ q.2 := by
  have hp := h.ok p (by simp)
  have hq := h.ok q (by simp)
  have hs : ltP q p = false := (List.pairwise_cons.1 (List.pairwise_append.1 h.srt).2.1).1 q (by simp)
  have hg := within_not hp hq hs hw
  have b0 := hq.bits
  by_cases c : q.2 = 0
  · have : sizeN p.2 = 4294967296 := by rw [← hb, c]; rfl
    have := hq.hi
    have := hp.lo
    omega
  · omega
theorem MrgI.two (h : MrgI L0 (A ++ p :: q :: B) (A.length + 1)) (hw : withinB q.1 q.2 p.1 p.2 = false) (hb : q.2 = p.2)
    (hc : p.1 - p.1 % sizeN (q.2 - 1) = q.1 - q.1 % sizeN (q.2 - 1)) : MrgI L0 (A ++ (p.1, p.2 - 1) :: B) A.length := by
  have hp := h.ok p (by simp)
  have hq := h.ok q (by simp)
  have hs : ltP q p = false := (List.pairwise_cons.1 (List.pairwise_append.1 h.srt).2.1).1 q (by simp)
  have hg := within_not hp hq hs hw
  have b1 := h.bits hw hb
  have b32 := hq.bits.2
  have hh := sizeN_half (b := q.2 - 1) (by omega) (by omega)
  rw [Int.sub_add_cancel] at hh
  have s1 := sizeN_pos q.2
  have m0 := Int.emod_nonneg p.1 (show sizeN (q.2 - 1) ≠ 0 by omega)
  have m1 := Int.emod_lt_of_pos q.1 (show 0 < sizeN (q.2 - 1) by omega)
  have hd : sizeN q.2 ∣ sizeN (q.2 - 1) := sizeN_dvd _ _ (by omega)
  have hB : sizeN (q.2 - 1) ∣ p.1 - p.1 % sizeN (q.2 - 1) := Int.dvd_self_sub_emod
  obtain ⟨K, hK⟩ : ∃ K, K = p.1 - p.1 % sizeN (q.2 - 1) := ⟨_, rfl⟩
  rw [← hK] at hB
  have k1 := dvd_next s1 hq.dvd (Int.dvd_add (Int.dvd_trans hd hB) hd) (by omega)
  rw [← hb] at hg
  have e1 : p.1 = K := by omega
  have e2 : q.1 = p.1 + sizeN q.2 := by omega
  have hr : OkP (p.1, p.2 - 1) := OkP.mk' hp.lo hp.hi (by simp; omega) (by simp; omega) (by simp only; rw [← hb, e1]; exact hB)
  have hun : ∀ x, inP (p.1, p.2 - 1) x ↔ inP p x ∨ inP q x := fun x => by
    unfold inP
    simp only
    rw [← hb]
    omega
  have e3 : (A ++ p :: q :: B).take (A.length + 1) = A ++ [p] := take_a1 _ _ _
  have e4 : (A ++ (p.1, p.2 - 1) :: B).take A.length = A := by rw [List.take_append]; simp
  have hcan := h.can
  rw [e3] at hcan
  obtain ⟨g1, g2, g3⟩ := List.pairwise_append.1 hcan.gap
  obtain ⟨q1, q2, q3⟩ := List.pairwise_append.1 h.srt
  obtain ⟨q4, q5⟩ := List.pairwise_cons.1 q2
  obtain ⟨q6, q7⟩ := List.pairwise_cons.1 q5
  refine ⟨by simp, fun y hy => ?_, ?_, ?_, fun x => ?_⟩
  · simp only [List.mem_append, List.mem_cons] at hy
    rcases hy with hy | rfl | hy
    · exact h.ok y (by simp [hy])
    · exact hr
    · exact h.ok y (by simp [hy])
  · rw [List.pairwise_append]
    refine ⟨q1, List.pairwise_cons.2 ⟨fun z hz => ?_, q7⟩, fun y hy z hz => ?_⟩
    · have := q6 z hz
      simp only [ltP, decide_eq_false_iff_not] at this ⊢
      omega
    · rcases List.mem_cons.1 hz with rfl | hz
      · have := g3 y hy p (by simp)
        have := sizeN_pos y.2
        simp only [ltP, decide_eq_false_iff_not]
        omega
      · exact q3 y hy z (by simp [hz])
  · rw [e4]
    exact ⟨fun y hy => hcan.ok y (by simp [hy]), g1, fun y hy z hz => hcan.bud y (by simp [hy]) z (by simp [hz])⟩
  · rw [← h.un x]
    unfold Un
    refine ⟨fun ⟨y, hy, hx⟩ => ?_, fun ⟨y, hy, hx⟩ => ?_⟩
    · simp only [List.mem_append, List.mem_cons] at hy
      rcases hy with hy | rfl | hy
      · exact ⟨y, by simp [hy], hx⟩
      · rcases (hun x).1 hx with hx | hx
        · exact ⟨p, by simp, hx⟩
        · exact ⟨q, by simp, hx⟩
      · exact ⟨y, by simp [hy], hx⟩
    · simp only [List.mem_append, List.mem_cons] at hy
      rcases hy with hy | rfl | rfl | hy
      · exact ⟨y, by simp [hy], hx⟩
      · exact ⟨_, by simp, (hun x).2 (.inl hx)⟩
      · exact ⟨_, by simp, (hun x).2 (.inr hx)⟩
      · exact ⟨y, by simp [hy], hx⟩
theorem MrgI.next (h : MrgI L0 (A ++ p :: q :: B) (A.length + 1)) (hw : withinB q.1 q.2 p.1 p.2 = false)
    (hc : ¬ (q.2 = p.2 ∧ p.1 - p.1 % sizeN (q.2 - 1) = q.1 - q.1 % sizeN (q.2 - 1))) : MrgI L0 (A ++ p :: q :: B) (A.length + 1 + 1) := by
  have hp := h.ok p (by simp)
  have hq := h.ok q (by simp)
  have hs : ltP q p = false := (List.pairwise_cons.1 (List.pairwise_append.1 h.srt).2.1).1 q (by simp)
  have hg := within_not hp hq hs hw
  have s0 := sizeN_pos p.2
  have e3 : (A ++ p :: q :: B).take (A.length + 1) = A ++ [p] := take_a1 _ _ _
  have e4 : (A ++ p :: q :: B).take (A.length + 1 + 1) = A ++ [p] ++ [q] := take_a2 _ _ _ _
  have hcan := h.can
  rw [e3] at hcan
  obtain ⟨g1, g2, g3⟩ := List.pairwise_append.1 hcan.gap
  refine ⟨by simp only [List.length_append, List.length_cons]; omega, h.ok, h.srt, ?_, h.un⟩
  rw [e4]
  refine hcan.snoc hq (fun y hy => ?_) (fun y hy hb => ?_)
  · rcases List.mem_append.1 hy with hy | hy
    · have := g3 y hy p (by simp); omega
    · simp only [List.mem_singleton] at hy; subst hy; exact hg
  · obtain ⟨k1, k2, k3, k4⟩ := hb
    rcases List.mem_append.1 hy with hy | hy
    · have := g3 y hy p (by simp); omega
    · simp only [List.mem_singleton] at hy
      subst hy
      refine hc ⟨k1.symm, ?_⟩
      have b1 := hq.bits
      have hh := sizeN_half (b := q.2 - 1) (by omega) (by omega)
      rw [Int.sub_add_cancel] at hh
      rw [k1] at k4 k3
      have s1 := sizeN_pos q.2
      have z1 := Int.emod_eq_zero_of_dvd k4
      have z2 : q.1 % sizeN (q.2 - 1) = sizeN q.2 := by
        rw [k3, Int.add_emod, z1, Int.zero_add, Int.emod_emod, Int.emod_eq_of_lt (by omega) (by omega)]
      omega
theorem MrgI.one (h : MrgI L0 (q :: B) 0) : MrgI L0 (q :: B) 1 :=
  ⟨by simp, h.ok, h.srt, by simpa using Canon.nil.snoc (h.ok q (by simp)) (fun y hy => by cases hy) (fun y hy => by cases hy), h.un⟩
theorem MrgI.done {out : List Pfx} (h : MrgI L0 out out.length) : Canon out := by
  have := h.can
  rwa [List.take_length] at this

/-! ### The document's way: by spans -/
structure MrgR (L out : List Pfx) (at' : Int) : Prop where
  can : Canon out
  lt : ∀ p ∈ out, p.1 + sizeN p.2 ≤ at'
  un : ∀ x, Un out x ↔ Un L x ∧ x < at'
  pos : 0 ≤ at'
  free : at' = 0 ∨ ¬ Un L at'
theorem un_pos {L : List Pfx} (h : ∀ p ∈ L, OkP p) {x : Int} (hx : Un L x) : 0 ≤ x ∧ x < 4294967296 := by
  obtain ⟨p, hp, h1, h2⟩ := hx
  have := (h p hp).lo
  have := (h p hp).top
  omega
theorem MrgR.start {L : List Pfx} (h : ∀ p ∈ L, OkP p) : MrgR L [] 0 :=
  ⟨.nil, fun p hp => (by cases hp), fun x => ⟨fun ⟨p, hp, _⟩ => (by cases hp), fun ⟨h1, h2⟩ => by have := (un_pos h h1).1; omega⟩, Int.le_refl _, .inl rfl⟩
/-- The span that begins first, at some address or behind it: among the first n. -/
def FirstQ (L : List Pfx) (at' : Int) (n : Nat) (first last : Int) : Prop :=
  (first = 4294967296 ∧ last = -1 ∧ ∀ (j : Nat) (p : Pfx), j < n → L[j]? = some p → p.1 + sizeN p.2 - 1 < at') ∨
  ∃ p ∈ L, first = p.1 ∧ last = p.1 + sizeN p.2 - 1 ∧ at' ≤ last ∧ ∀ (j : Nat) (q : Pfx), j < n → L[j]? = some q → at' ≤ q.1 + sizeN q.2 - 1 → first ≤ q.1
section
variable {L out : List Pfx} {at' first last : Int} {n : Nat} {x : Pfx}
theorem FirstQ.start : FirstQ L at' 0 4294967296 (-1) := .inl ⟨rfl, rfl, fun j p hj => by omega⟩
theorem FirstQ.skip (h : FirstQ L at' n first last) (hx : L[n]? = some x) (hn : ¬ (at' ≤ x.1 + sizeN x.2 - 1 ∧ x.1 < first)) (ok : OkP x) : FirstQ L at' (n + 1) first last := by
  rcases h with ⟨h1, h2, h3⟩ | ⟨p, h1, h2, h3, h4, h5⟩
  · refine .inl ⟨h1, h2, fun j y hj hy => ?_⟩
    by_cases e : j = n
    · subst e; rw [hx] at hy; cases hy
      have := ok.hi; omega
    · exact h3 j y (by omega) hy
  · refine .inr ⟨p, h1, h2, h3, h4, fun j y hj hy hk => ?_⟩
    by_cases e : j = n
    · subst e; rw [hx] at hy; cases hy; omega
    · exact h5 j y (by omega) hy hk
theorem FirstQ.take (h : FirstQ L at' n first last) (hx : L[n]? = some x) (h1 : at' ≤ x.1 + sizeN x.2 - 1) (h2 : x.1 < first) : FirstQ L at' (n + 1) x.1 (x.1 + sizeN x.2 - 1) := by
  refine .inr ⟨x, List.mem_of_getElem? hx, rfl, rfl, h1, fun j y hj hy hk => ?_⟩
  by_cases e : j = n
  · subst e; rw [hx] at hy; cases hy; omega
  · rcases h with ⟨_, _, h3⟩ | ⟨p, _, _, _, _, h5⟩
    · have := h3 j y (by omega) hy; omega
    · have := h5 j y (by omega) hy hk; omega
theorem MrgR.end' (h : MrgR L out at') (hF : FirstQ L at' L.length first last) (hl : last < 0) : ∀ x, Un out x ↔ Un L x := fun x => by
  rw [h.un x]
  refine ⟨fun k => k.1, fun k => ⟨k, ?_⟩⟩
  obtain ⟨p, hp, h1, h2⟩ := k
  obtain ⟨j, hj⟩ := List.mem_iff_getElem?.1 hp
  rcases hF with ⟨_, _, h3⟩ | ⟨q, hq, h3, h4, h5, _⟩
  · have := h3 j p (List.getElem?_eq_some_iff.1 hj).1 hj; omega
  · have := h.pos; omega
theorem MrgR.all (h : MrgR L out at') (hok : ∀ p ∈ L, OkP p) (hl : 4294967296 ≤ at') : ∀ x, Un out x ↔ Un L x := fun x => by
  rw [h.un x]
  exact ⟨fun k => k.1, fun k => ⟨k, by have := (un_pos hok k).2; omega⟩⟩
/-- All from one up to another one are there. -/
def Filled (L : List Pfx) (first last : Int) : Prop := first ≤ last ∧ last < 4294967296 ∧ ∀ x, first ≤ x → x ≤ last → Un L x
theorem FirstQ.filled (hok : ∀ p ∈ L, OkP p) (h : FirstQ L at' n first last) (hl : ¬ last < 0) : Filled L first last := by
  rcases h with ⟨_, h2, _⟩ | ⟨p, h1, h2, h3, h4, h5⟩
  · omega
  · have := sizeN_pos p.2
    have := (hok p h1).top
    exact ⟨by omega, by omega, fun x k1 k2 => ⟨p, h1, by omega, by omega⟩⟩
theorem Filled.grow (h : Filled L first last) (hok : ∀ p ∈ L, OkP p) (hx : x ∈ L) (h1 : x.1 ≤ last + 1) (h2 : last < x.1 + sizeN x.2 - 1) : Filled L first (x.1 + sizeN x.2 - 1) := by
  have := (hok x hx).top
  refine ⟨by have := h.1; omega, by omega, fun y k1 k2 => ?_⟩
  by_cases c : y ≤ last
  · exact h.2.2 y k1 c
  · exact ⟨x, hx, by omega, by omega⟩
theorem FirstQ.lo (h : MrgR L out at') (hF : FirstQ L at' n first last) (hl : ¬ last < 0) : at' ≤ first ∧ (at' < first ∨ at' = 0) ∨ at' = 0 := by
  rcases hF with ⟨_, h2, _⟩ | ⟨p, h1, h2, h3, h4, h5⟩
  · omega
  · rcases h.free with h6 | h6
    · exact .inr h6
    · by_cases c : at' < first
      · exact .inl ⟨by omega, .inl c⟩
      · exact absurd ⟨p, h1, by omega, by omega⟩ h6
theorem FirstQ.nn (hok : ∀ p ∈ L, OkP p) (hF : FirstQ L at' n first last) : 0 ≤ first := by
  rcases hF with ⟨h1, _, _⟩ | ⟨p, h1, h2, _⟩
  · omega
  · have := (hok p h1).lo; omega
theorem MrgR.step {l2 : Int} (h : MrgR L out at') (hok : ∀ p ∈ L, OkP p) (hF : FirstQ L at' L.length first last) (hl : ¬ last < 0) (hG : Filled L first l2)
    (hend : ∀ p ∈ L, ¬ (p.1 ≤ l2 + 1 ∧ l2 < p.1 + sizeN p.2 - 1)) : MrgR L (out ++ coverL first l2) (l2 + 1) := by
  have hlo := hF.lo h hl
  have hnn := hF.nn hok
  have hpos := h.pos
  obtain ⟨g1, g2, g3⟩ := hG
  have hc := cover_canon _ first l2 rfl hnn g2
  have hi := cover_in _ first l2 rfl
  have hu := cover_un _ first l2 rfl
  have h0 : at' = 0 → out = [] := fun e => by
    cases out with
    | nil => rfl
    | cons p out =>
      have := h.lt p (by simp)
      have := (h.can.ok p (by simp)).lo
      have := sizeN_pos p.2
      omega
  have hafl : at' ≤ first := by omega
  refine ⟨h.can.append hc h.lt fun q hq => ?_, fun p hp => ?_, fun x => ?_, by omega, .inr fun ⟨p, hp, k1, k2⟩ => hend p hp ⟨k1, by omega⟩⟩
  · by_cases e : at' = 0
    · exact .inr (h0 e)
    · exact .inl (by have := (hi q hq).1; omega)
  · rcases List.mem_append.1 hp with hp | hp
    · have := h.lt p hp; omega
    · exact (hi p hp).2
  · rw [un_append, h.un, hu]
    refine ⟨fun k => ?_, fun ⟨k1, k2⟩ => ?_⟩
    · rcases k with ⟨k1, k2⟩ | ⟨k1, k2⟩
      · exact ⟨k1, by omega⟩
      · exact ⟨g3 x k1 k2, by omega⟩
    · by_cases c : x < at'
      · exact .inl ⟨k1, c⟩
      · refine .inr ⟨?_, by omega⟩
        obtain ⟨p, hp, k3, k4⟩ := k1
        obtain ⟨j, hj⟩ := List.mem_iff_getElem?.1 hp
        rcases hF with ⟨_, h2, _⟩ | ⟨q, _, h2, h3, h4, h5⟩
        · omega
        · have := h5 j p (List.getElem?_eq_some_iff.1 hj).1 hj (by omega)
          omega
end
end
section
open Go

section
variable {P : Program} {g f fsift fins fheap fbreak fpivot frev fpart fequal fsplit fa fm fo fpow fnext fpdq flen flen32 flen64 : FuncId} {st : St} {T : ByteArray}
set_option maxRecDepth 100000 in
set_option maxHeartbeats 4000000 in
theorem cins0_v (hf : cFun P f = some CIns) : VCalls P f [.sl .nil [], .sc (.int .i64 0), .sc (.int .i64 0), cmpV g] st fun _ s => st = s := by
  refine vcalls_enter hf (Nat.le_of_ble_eq_true rfl) fun hwf hok => ?_
  show Run _ CIns.body (.fin (finQ CIns.res _)) _ _
  unfold CIns
  simp (config := {maxSteps := 3000000}) only [go_sem, Int.reduceLE, Int.reduceAdd, Int.reduceNeg, ↓reduceIte, cmpV]
  refine run_loop [8, 9, 12, 13, 14, 15, 16, 17, 18, 19, 20, 21, 22, 23, 24, 25, 26, 27, 28, 29, 30, 31, 32, 33, 34, 35, 36, 37, 38, 39, 40, 41, 42, 43, 44, 45, 46, 47, 48, 49, 50, 51, 52] (fun B s => B 8 = .sc (.int .i64 1) ∧ s = st) (fun B _ => 0) rfl ?_ ?_
  · simp (config := {maxSteps := 3000000}) only [go_sem, ↓reduceIte]
  · rintro B s ⟨h6, rfl⟩
    simp (config := {maxSteps := 3000000}) only [go_sem, Nat.reduceEqDiff, Int.reduceLT, ↓reduceIte, Nat.reduceBEq, h6]
    exact ⟨_, _, Wk.refl _, hwf.weak, rfl⟩
set_option maxRecDepth 100000 in
set_option maxHeartbeats 4000000 in
theorem cpdq0_v (hc : SortsC P f fins fheap fbreak fpivot frev fpart fequal fsplit fsift fa fm fo fpow fnext) {lim : Int} : VCalls P f [.sl .nil [], .sc (.int .i64 0), .sc (.int .i64 0), .sc (.int .i64 lim), cmpV g] st fun _ s => st = s := by
  refine vcalls_enter hc.pdq (Nat.le_of_ble_eq_true rfl) fun hwf hok => ?_
  show Run _ (CPdq fins fheap fbreak fpivot frev fpart fequal fsplit f).body (.fin (finQ (CPdq fins fheap fbreak fpivot frev fpart fequal fsplit f).res _)) _ _
  unfold CPdq
  simp (config := {maxSteps := 3000000}) only [go_sem, cmpV]
  refine run_loop [1, 2, 3, 10, 11, 12, 13, 14, 15, 16, 17, 18, 19, 20, 21, 22, 23, 24, 25, 26, 27, 28, 29, 30, 31, 32, 33, 34, 35, 36, 37, 38, 39, 40, 41, 42, 43, 44, 45, 46, 47, 48, 49, 50, 51, 52, 53, 54, 55, 56, 57, 58, 59, 60, 61, 62, 63, 64, 65, 66, 67, 68, 69, 70, 71, 72, 73, 74, 75, 76, 77, 78, 79, 80, 81, 82, 83, 84, 85, 86, 87, 88, 89, 90, 91, 92, 93, 94, 95, 96, 97, 98, 99, 100, 101, 102, 103, 104, 105, 106, 107, 108, 109, 110, 111, 112, 113, 114, 115, 116, 117, 118, 119, 120, 121, 122, 123, 124, 125, 126, 127, 128, 129, 130, 131, 132, 133, 134, 135, 136, 137, 138, 139, 140, 141, 142, 143, 144, 145, 146, 147] (fun B s => B 1 = .sc (.int .i64 0) ∧ B 2 = .sc (.int .i64 0) ∧ s = st) (fun B _ => 0) rfl ?_ ?_
  · simp (config := {maxSteps := 3000000}) only [go_sem, Nat.reduceEqDiff, ↓reduceIte]
  · rintro B s ⟨h1, h2, rfl⟩
    simp (config := {maxSteps := 3000000}) only [go_sem, Nat.reduceEqDiff, Int.reduceLE, Int.reduceSub, Int.reduceNeg, ↓reduceIte, reduceCtorEq, Nat.reduceBEq, h1, h2]
    have cc := cins0_v (st := s) (g := g) hc.ins
    rw [cmpV] at cc
    refine Cal.mk cc ?_
    rintro _ _ rfl -
    simp (config := {maxSteps := 3000000}) only [go_sem]
    exact ⟨_, _, Wk.refl _, hwf.weak, rfl⟩
set_option maxRecDepth 100000 in
set_option maxHeartbeats 4000000 in
theorem csort0_v (hf : cFun P f = some (CSorts flen fpdq)) (hfl : cFun P flen = some (BLen flen32 flen64)) (h64 : cFun P flen64 = some (BLen64 T)) (hT : TabOk T) (hc : SortsC P fpdq fins fheap fbreak fpivot frev fpart fequal fsplit fsift fa fm fo fpow fnext) :
    VCalls P f [.sl .nil [], cmpV g] st fun _ s => st = s := by
  refine vcalls_enter hf (Nat.le_of_ble_eq_true rfl) fun hwf hok => ?_
  show Run _ (CSorts flen fpdq).body (.fin (finQ (CSorts flen fpdq).res _)) _ _
  unfold CSorts
  simp (config := {maxSteps := 3000000}) only [go_sem, Nat.reduceEqDiff, ↓reduceIte, reduceCtorEq, cmpV]
  refine Cal.mk (blen_v hfl h64 hT (x := 0) (by omega)) ?_
  rintro _ _ ⟨rfl, k, k1, k2, k3, rfl⟩ -
  simp (config := {maxSteps := 3000000}) only [go_sem, Nat.reduceEqDiff, ↓reduceIte]
  have cc := cpdq0_v (st := st) (g := g) hc (lim := (k : Int))
  rw [cmpV] at cc
  refine Cal.mk cc ?_
  rintro _ _ rfl -
  simp (config := {maxSteps := 3000000}) only [go_sem]
  exact ⟨_, _, Wk.refl _, hwf.weak, rfl⟩
end
end
section
open Go

theorem own_nil {size : Nat} {st : St} : Own size st (.sl .nil []) [] := .inl ⟨rfl, rfl⟩
theorem own_sl {size : Nat} {st : St} {v : V} {l : List V} (h : Own size st v l) : ∃ tk, v = .sl tk l := by
  rcases h with ⟨rfl, rfl⟩ | ⟨g, rfl, _⟩
  · exact ⟨_, rfl⟩
  · exact ⟨_, rfl⟩
theorem own_put {size : Nat} {st : St} {v : V} {l : List V} (h : Own size st v l) {b : Nat} {cs : List V} : Own size (st.put b cs) v l := by
  rcases h with h | ⟨g, h1, h2, h3⟩
  · exact .inl h
  · exact .inr ⟨g, h1, h2, by simp only [put_sz]; omega⟩
theorem weak_tr {a b c : St} (h : a.weak b) (k : b.weak c) : a.weak c :=
  ⟨fun b cs hb => ⟨(k.box b cs (h.box b cs hb).1).1, (h.box b cs hb).2⟩, fun g m hg => ⟨(k.own g m (h.own g m hg).1).1, (h.own g m hg).2⟩, Nat.le_trans h.sz k.sz⟩
theorem app_keeps {s s' : St} {x r : V} (h : AppSt s x s' r) {t : St} (hw : t.weak s) (hx : ∀ g k l, x = .sl (.own g k) l → t.sz ≤ g) : t.weak s' :=
  ⟨fun b cs hb => ⟨by rw [h.box]; exact (hw.box b cs hb).1, (hw.box b cs hb).2⟩, fun g m hg => ⟨h.own g m (hw.own g m hg).1 (fun l k e => by have := hx g k l e; have := (hw.own g m hg).2; omega), (hw.own g m hg).2⟩, Nat.le_trans hw.sz h.sz⟩
theorem app_fresh {s s' : St} {x r : V} (h : AppSt s x s' r) {t : St} (hs : t.sz ≤ s.sz) (hx : ∀ g k l, x = .sl (.own g k) l → t.sz ≤ g) : ∀ g k l, r = .sl (.own g k) l → t.sz ≤ g := fun g k l e => by
  rcases h.tok g k l e with ⟨l', h1⟩ | h1
  · exact hx g k l' h1
  · omega
/-- A row of the call's own. -/
structure RO (size : Nat) (base s : St) (r : V) (l : List V) : Prop where
  own : Own size s r l
  weak : base.weak s
  lt : s.Lt
  tok : ∀ g k l', r = .sl (.own g k) l' → base.sz ≤ g
variable {size : Nat} {base s s' : St} {r x : V} {l l' : List V}
theorem RO.nil (hw : base.weak s) (hl : s.Lt) : RO size base s (.sl .nil []) [] := ⟨own_nil, hw, hl, fun g k l e => by cases e⟩
theorem RO.put (h : RO size base s r l) {c : Nat} {cs : List V} (hc : base.sz ≤ c) : RO size base (s.put c cs) r l :=
  ⟨own_put h.own, weak_put h.weak hc, h.lt.put, h.tok⟩
theorem RO.app (h : RO size base s x l) (ho : Own size s' r l') (k : AppSt s x s' r) : RO size base s' r l' :=
  ⟨ho, app_keeps k h.weak h.tok, h.lt.app k, app_fresh k h.weak.sz h.tok⟩
theorem RO.use (hw : base.weak s) (hl : s.Lt) {g : Nat} (hg : s.sz ≤ g) (cs : List V) : RO size base (s.use g cs.length) (.sl (.own g size) cs) cs :=
  ⟨.inr ⟨g, rfl, by simp [St.use], by simp only [use_sz]; omega⟩, weak_use hw (by have := hw.sz; omega), hl.use, fun g' k l e => by cases e; have := hw.sz; omega⟩
theorem RO.sl (h : RO size base s r l) : ∃ tk, r = .sl tk l := own_sl h.own
theorem RO.use0' {size : Nat} {st s : St} (hw : st.weak s) (hl : s.Lt) {g : Nat} (hg : s.sz ≤ g) : RO size st (s.use g 0) (.sl (.own g size) []) [] := RO.use (cs := []) hw hl hg
theorem Wk.tupT {a a' : V} {x : Value} (h : Wk a a') : Wk (.tup [a, .sc x]) (.tup [a', .sc x]) := fun G v hv => by
  cases hv with
  | tup _ vs hl hg =>
    refine .tup _ vs hl fun i c u hc hu => ?_
    match i, hc with
    | 0, hc => simp at hc; subst hc; exact h G u (hg 0 a u rfl hu)
    | 1, hc => exact hg 1 c u hc hu
def ival (x : Int) : V := .sc (.int .i64 x)
end
section
open Go

section
variable {α : Type} {val : α → V × V} {L : List α} {sp : List V} {P : Program} {st : St} {A : Nat → V} {k : Kt} {d : Option Nat} {obs : List (Option Nat × X × Nat)} {rest : List VO}
theorem rowc_push {x : α} {sp' : List V} : (rowc val L sp).take (L.length * 2) ++ [V.agg [(val x).1, (val x).2]].flatMap V.cells ++ sp' = rowc val (L ++ [x]) sp' := by
  have hl : (L.flatMap fun x => two (val x)).length = L.length * 2 := by
    have := rowc_len (val := val) (L := L) (sp := [])
    simpa [rowc] using this
  unfold rowc
  rw [List.take_left' hl]
  simp [V.cells, two]
/-- An append of one element to a row in a box. -/
theorem App.pushC {bytes b cap : Nat} {tk : Tk} {x : α} (hb : st.box b = some (rowc val L sp)) (hl : L.length * 2 + sp.length = cap * 2) (hmo : mono (rowc val L sp)) (hc : cap ≤ maxLen) (h1 : L.length + 1 ≤ maxLen) (h2 : (L.length + 1) * bytes ≤ 140737488355328)
    (hk : ∀ b' cap' sp', (b' = b ∨ st.sz ≤ b') → (L.length < cap → b' = b ∧ cap' = cap) → (L.length + 1) * 2 + sp'.length = cap' * 2 → cap' ≤ maxLen → mono (rowc val (L ++ [x]) sp') → obsOk (st.put b' (rowc val (L ++ [x]) sp')) A obs ∧
      Ops P rest k (putV A d (dataV b' (L ++ [x]).length cap')) (st.put b' (rowc val (L ++ [x]) sp'))) : App P 2 bytes (dataV b L.length cap) (.sl tk [.agg [(val x).1, (val x).2]]) d obs rest k A st := by
  refine App.mut hb (by rw [rowc_len]; omega) hmo (by omega) hc (by intro d hd; simp only [List.mem_singleton] at hd; subst hd; rfl) (by simpa using h1) (by simpa using h2) fun b' cap' spare k1 k2 k3 k4 k5 k6 => ?_
  rw [rowc_push] at k6 ⊢
  have hlen : L.length + [V.agg [(val x).1, (val x).2]].length = (L ++ [x]).length := by simp
  rw [hlen]
  simp only [List.length_cons, List.length_nil] at k2 k4 k5
  exact hk b' cap' spare k1 (fun h => ⟨(k5 (by omega)).1, (k5 (by omega)).2.1⟩) (by omega) k3 k6
theorem App.pushC0 {bytes : Nat} {tk : Tk} {x : α} (h2 : bytes ≤ 140737488355328)
    (hk : ∀ b' cap' sp', st.sz ≤ b' → 2 + sp'.length = cap' * 2 → cap' ≤ maxLen → mono (rowc val [x] sp') → obsOk (st.put b' (rowc val [x] sp')) A obs ∧
      Ops P rest k (putV A d (dataV b' [x].length cap')) (st.put b' (rowc val [x] sp'))) : App P 2 bytes (.sl .nil []) (.sl tk [.agg [(val x).1, (val x).2]]) d obs rest k A st := by
  refine App.new (by intro d hd; simp only [List.mem_singleton] at hd; subst hd; rfl) (by simp) (by simp [maxLen]) (by simpa using h2) fun b' cap' spare k1 k2 k3 k4 k5 => ?_
  have e : [V.agg [(val x).1, (val x).2]].flatMap V.cells ++ spare = rowc val [x] spare := by simp [rowc, two, V.cells]
  rw [e] at k5 ⊢
  simp only [List.length_cons, List.length_nil] at k4
  exact hk b' cap' spare k1 (by omega) k3 k5
/-- A row in a box that the caller's state does not know. -/
structure RBC (val : α → V × V) (base s : St) (b cap : Nat) (L : List α) (sp : List V) : Prop where
  box : s.box b = some (rowc val L sp)
  len : L.length * 2 + sp.length = cap * 2
  mono : mono (rowc val L sp)
  max : cap ≤ maxLen
  weak : base.weak s
  lt : s.Lt
  fresh : base.sz ≤ b
theorem RBC.self {base s : St} {b cap : Nat} (h : RBC val base s b cap L sp) : s.put b (rowc val L sp) = s := put_selfR h.box (h.lt.box b _ h.box)
theorem RBC.mk0 {base s : St} {b cap : Nat} {x : α} (hw : base.weak s) (hl : s.Lt) (k1 : s.sz ≤ b) (k2 : 2 + sp.length = cap * 2) (k3 : cap ≤ maxLen) (k4 : _root_.Go.Proofs.Ytlngegoamfklgaa.mono (rowc val [x] sp)) : RBC val base (s.put b (rowc val [x] sp)) b cap [x] sp :=
  ⟨put_box_same, by simpa using k2, k4, k3, weak_put hw (by have := hw.sz; omega), hl.put, by have := hw.sz; omega⟩
theorem RBC.push {base s : St} {b cap b' cap' : Nat} {x : α} {sp' : List V} (h : RBC val base s b cap L sp) (k1 : b' = b ∨ s.sz ≤ b') (k2 : (L.length + 1) * 2 + sp'.length = cap' * 2) (k3 : cap' ≤ maxLen) (k4 : _root_.Go.Proofs.Ytlngegoamfklgaa.mono (rowc val (L ++ [x]) sp')) :
    RBC val base (s.put b' (rowc val (L ++ [x]) sp')) b' cap' (L ++ [x]) sp' := by
  have hf : base.sz ≤ b' := by
    have := h.fresh; have := h.weak.sz
    rcases k1 with rfl | k1 <;> omega
  exact ⟨put_box_same, by simpa using k2, k4, k3, weak_put h.weak hf, h.lt.put, hf⟩
/-- Another box beside it. -/
theorem RBC.put {base s : St} {b cap c : Nat} {cs : List V} (h : RBC val base s b cap L sp) (hb : b ≠ c) (hc : base.sz ≤ c) : RBC val base (s.put c cs) b cap L sp :=
  ⟨by rw [put_box_ne hb]; exact h.box, h.len, h.mono, h.max, weak_put h.weak hc, h.lt.put, h.fresh⟩
/-- The row turned. -/
theorem RBC.mix {base s : St} {b cap : Nat} {M : List α} (h : RBC val base s b cap L sp) (hM : M.length = L.length) : RBC val base (s.put b (rowc val M sp)) b cap M sp :=
  ⟨put_box_same, by rw [hM]; exact h.len, rowc_mono h.mono hM, h.max, weak_put h.weak h.fresh, h.lt.put, h.fresh⟩
end
end
section
open Go

section
variable {α : Type} [Inhabited α] {p : α → Bool} {L M : List α} {i j : Nat}
def idxP (p : α → Bool) (L : List α) : Int := match L.findIdx? p with | some i => i | none => -1
theorem idxP_at (hi : i < L.length) (hp : p L[i]! = true) (hb : ∀ j < i, p L[j]! = false) : idxP p L = i := by
  have : L.findIdx? p = some i := by
    rw [List.findIdx?_eq_some_iff_getElem]
    refine ⟨hi, by rwa [getElem!_pos L i hi] at hp, fun j hj => ?_⟩
    have := hb j hj
    rw [getElem!_pos L j (by omega)] at this
    simp [this]
  unfold idxP
  rw [this]
theorem idxP_none (hb : ∀ j < L.length, p L[j]! = false) : idxP p L = -1 := by
  have : L.findIdx? p = none := by
    rw [List.findIdx?_eq_none_iff]
    intro x hx
    obtain ⟨j, hj, rfl⟩ := List.mem_iff_getElem.1 hx
    have := hb j hj
    rwa [getElem!_pos L j hj] at this
  unfold idxP
  rw [this]
theorem idxP_cases (p : α → Bool) (L : List α) : (idxP p L = -1 ∧ (L.filter fun x => !p x) = L) ∨ ∃ i, i < L.length ∧ p L[i]! = true ∧ (∀ j < i, p L[j]! = false) ∧ idxP p L = i := by
  cases hf : L.findIdx? p with
  | none =>
    rw [List.findIdx?_eq_none_iff] at hf
    refine .inl ⟨idxP_none fun j hj => ?_, List.filter_eq_self.2 fun x hx => by rw [hf x hx]; rfl⟩
    rw [getElem!_pos L j hj]
    exact hf _ (List.getElem_mem hj)
  | some i =>
    obtain ⟨h1, h2, h3⟩ := List.findIdx?_eq_some_iff_getElem.1 hf
    have hp : p L[i]! = true := by rw [getElem!_pos L i h1]; exact h2
    have hb : ∀ j < i, p L[j]! = false := fun j hj => by
      have := h3 j hj
      rw [getElem!_pos L j (by omega)]
      simpa using this
    exact .inr ⟨i, h1, hp, hb, idxP_at h1 hp hb⟩
/-- Midway: the first i are those of the first j that stay; from j on all is as it was. -/
structure DelI (p : α → Bool) (L M : List α) (i j : Nat) : Prop where
  len : M.length = L.length
  ij : i < j
  jl : j ≤ L.length
  pre : M.take i = (L.take j).filter fun x => !p x
  rest : ∀ k, j ≤ k → M[k]! = L[k]!
theorem take_bang (hi : i < L.length) : L.take (i + 1) = L.take i ++ [L[i]!] := by
  rw [List.take_add_one, bang_get hi]; rfl
theorem DelI.start (hi : i < L.length) (hp : p L[i]! = true) (hb : ∀ j < i, p L[j]! = false) : DelI p L L i (i + 1) := by
  refine ⟨rfl, by omega, by omega, ?_, fun _ _ => rfl⟩
  rw [take_bang hi, List.filter_append, List.filter_cons_of_neg (by rw [hp]; simp), List.filter_nil, List.append_nil]
  refine (List.filter_eq_self.2 fun x hx => ?_).symm
  obtain ⟨k, hk, rfl⟩ := List.mem_iff_getElem.1 hx
  rw [List.length_take] at hk
  have := hb k (by omega)
  rw [getElem!_pos L k (by omega)] at this
  rw [List.getElem_take, this]; rfl
theorem DelI.drop (h : DelI p L M i j) (hj : j < L.length) (hp : p L[j]! = true) : DelI p L M i (j + 1) := by
  refine ⟨h.len, by have := h.ij; omega, by omega, ?_, fun k hk => h.rest k (by omega)⟩
  rw [h.pre, take_bang hj, List.filter_append, List.filter_cons_of_neg (by rw [hp]; simp), List.filter_nil, List.append_nil]
theorem DelI.keep (h : DelI p L M i j) (hj : j < L.length) (hp : p L[j]! = false) : DelI p L (M.set i M[j]!) (i + 1) (j + 1) := by
  have hl := h.len
  have hij := h.ij
  refine ⟨by simp [hl], by omega, by omega, ?_, fun k hk => ?_⟩
  · have hM : (M.set i M[j]!)[i]! = M[j]! := by rw [getElem!_pos _ i (by simp; omega)]; simp
    rw [take_bang (by simp; omega), hM, List.take_set_of_le (Nat.le_refl _), h.pre, take_bang hj, List.filter_append, List.filter_cons_of_pos (by rw [hp]; rfl), List.filter_nil, h.rest j (Nat.le_refl _)]
  · by_cases hk2 : k < M.length
    · rw [getElem!_pos _ k (by simpa using hk2), List.getElem_set_ne (by omega), ← getElem!_pos M k hk2]
      exact h.rest k (by omega)
    · rw [getElem!_neg _ k (by simpa using hk2), getElem!_neg L k (by omega)]
theorem DelI.fin (h : DelI p L M i j) (hj : L.length ≤ j) : M.take i = L.filter fun x => !p x := by
  rw [h.pre, List.take_of_length_le hj]
end
section
variable {α : Type} {val : α → V × V} {L : List α} {sp : List V}
theorem rowc_cut {i : Nat} {z : List V} (hi : i ≤ L.length) (hz : z.length = 2) : ∃ sp', (L.take i).length * 2 + sp'.length = L.length * 2 + sp.length ∧ splice (rowc val L sp) (i * 2) (List.replicate (L.length - i) z).flatten = rowc val (L.take i) sp' := by
  have hsplit : rowc val L sp = rowc val (L.take i) (rowc val (L.drop i) sp) := by
    unfold rowc
    rw [← List.append_assoc, ← List.flatMap_append, List.take_append_drop]
  have hl : (L.take i).length = i := by simp; omega
  have hfl : ((List.replicate (L.length - i) z).flatten).length = (L.length - i) * 2 := by simp [hz]
  refine ⟨(List.replicate (L.length - i) z).flatten ++ sp, by rw [List.length_append, hfl, hl]; omega, ?_⟩
  have hpre : ∀ r : List V, rowc val (L.take i) r = (L.take i).flatMap (fun x => two (val x)) ++ r := fun r => rfl
  have hpl : ((L.take i).flatMap fun x => two (val x)).length = i * 2 := by
    have := rowc_len (val := val) (L := L.take i) (sp := [])
    rw [hl] at this
    simpa [rowc] using this
  unfold splice
  rw [hsplit, hpre, hpre, List.take_left' hpl, hfl, List.append_assoc]
  congr 2
  rw [← List.drop_drop, List.drop_left' hpl]
  have hdl : ((L.drop i).flatMap fun x => two (val x)).length = (L.length - i) * 2 := by
    have := rowc_len (val := val) (L := L.drop i) (sp := [])
    simpa [rowc] using this
  unfold rowc
  rw [List.drop_left' hdl]
end
theorem mono_big : ∀ {cs : List V}, 2 ≤ cs.length → mono cs
  | [], h => by simp at h
  | [_], h => by simp at h
  | _ :: _ :: _, _ => mono_two ▸ trivial
/-- A function with one captured variable. -/
def clV (g : FuncId) (t : Nat) : V := .sc (.func (.func g) #[] #[.pointer (some ⟨t, 0, none⟩)])
theorem one_ptr {t : Nat} : ∀ v : Value, v = Value.pointer (some ⟨t, 0, none⟩) → v.oneCell' = true := fun v h => by subst h; rfl
theorem arr1 {v : Value} : (#[v] : Array Value).toList = [v] := rfl
structure DelF {α : Type} (P : Program) (g : FuncId) (t : Nat) (X : List V) (val : α → V × V) (p : α → Bool) : Prop where
  run : ∀ (st : St), st.box t = some X → ∀ x : α, VCalls P g [.agg [(val x).1, (val x).2], .sc (.pointer (some ⟨t, 0, none⟩))] st fun r st' => r = .sc (.bool (p x)) ∧ st = st'
  call : callable P g = true
/-- A function without captured variables. -/
structure DelF0 {α : Type} (P : Program) (g : FuncId) (val : α → V × V) (ok : α → Prop) (p : α → Bool) : Prop where
  run : ∀ (st : St) (x : α), ok x → VCalls P g [.agg [(val x).1, (val x).2]] st fun r st' => r = .sc (.bool (p x)) ∧ st = st'
  call : callable P g = true
end
section
open Go

theorem bang_mem {α : Type} [Inhabited α] {L : List α} {i : Nat} (h : i < L.length) : L[i]! ∈ L := by
  rw [getElem!_pos L i h]; exact List.getElem_mem h
section
variable {α : Type} [Inhabited α] {val : α → V × V} {p : α → Bool} {ok : α → Prop} {g : FuncId} {b cap : Nat} {st : St} {L : List α} {sp : List V}
set_option maxRecDepth 100000 in
set_option maxHeartbeats 4000000 in
theorem indexN_v (hp : DelF0 Try.prog g val ok p) (hx : ∀ x ∈ L, ok x) (hb : st.box b = some (rowc val L sp)) (hmo : mono (rowc val L sp)) (hl : L.length < 4611686018427387904) :
    VCalls Try.prog 141 [dataV b L.length cap, cmpV g] st fun v s => v = .sc (.int .i64 (idxP p L)) ∧ st = s := by
  refine vcalls_enter vc141 (Nat.le_of_ble_eq_true rfl) fun hwf hok => ?_
  show Run _ Vc141.body (.fin (finQ Vc141.res _)) _ _
  unfold Vc141
  simp (config := {maxSteps := 3000000}) only [go_sem, Int.reduceNeg, ↓reduceIte, reduceCtorEq, dataV, cmpV]
  refine run_loop [4, 5, 8, 9, 10, 11, 12, 13, 14, 15, 16, 17, 18] (fun B s => ∃ i : Nat, i ≤ L.length ∧ B 8 = .sc (.int .i64 i) ∧ (∀ j < i, p L[j]! = false) ∧ s = st) (fun B _ => L.length - vnat (B 8)) rfl ?_ ?_
  · simp (config := {maxSteps := 3000000}) only [go_sem, ↓reduceIte]
    exact ⟨0, by omega, rfl, fun j hj => by omega⟩
  · rintro B s ⟨i, hi, h8, hno, rfl⟩
    by_cases c1 : i < L.length
    · simp (config := {maxSteps := 3000000}) only [go_sem, Nat.reduceEqDiff, Int.reduceNeg, ↓reduceIte, reduceCtorEq, Nat.reduceBEq, h8, hb, decide_eq_true (show (i : Int) < (L.length : Int) by omega), rowc_get (show i < L.length by omega), rowc_len, hmo, hp.call, List.map_nil]
      repeat (apply And.intro; focus (first | omega | (simp; done)))
      refine Cal.mk (hp.run s L[i]! (hx _ (bang_mem c1))) ?_
      rintro _ _ ⟨rfl, rfl⟩ -
      cases c2 : p L[i]!
      · simp (config := {maxSteps := 3000000}) only [go_sem, Nat.reduceEqDiff, Int.reduceNeg, ↓reduceIte, Nat.reduceBEq, h8]
        repeat (apply And.intro; focus (first | omega | (simp; done)))
        refine ⟨⟨i + 1, by omega, by simp, fun j hj => ?_⟩, by omega⟩
        by_cases e : j = i
        · rw [e]; exact c2
        · exact hno j (by omega)
      · simp (config := {maxSteps := 3000000}) only [go_sem, Nat.reduceEqDiff, Int.reduceNeg, ↓reduceIte]
        exact ⟨_, _, Wk.refl _, hwf.weak, by rw [idxP_at c1 c2 hno], rfl⟩
    · simp (config := {maxSteps := 3000000}) only [go_sem, Nat.reduceEqDiff, Int.reduceNeg, ↓reduceIte, Nat.reduceBEq, h8, decide_eq_false (show ¬ (i : Int) < (L.length : Int) by omega)]
      exact ⟨_, _, Wk.refl _, hwf.weak, by rw [idxP_none (fun j hj => hno j (by omega))], rfl⟩
set_option maxRecDepth 100000 in
set_option maxHeartbeats 8000000 in
theorem deleteN_v (hp : DelF0 Try.prog g val ok p) (hx : ∀ x ∈ L, ok x) (hb : st.box b = some (rowc val L sp)) (hmo : mono (rowc val L sp)) (hcap : L.length ≤ cap) (hl : L.length < 4611686018427387904) (hlc : L.length * 2 + sp.length = cap * 2) :
    VCalls Try.prog 95 [dataV b L.length cap, cmpV g] st fun v s => ∃ sp', (L.filter fun x => !p x).length * 2 + sp'.length = cap * 2 ∧ mono (rowc val (L.filter fun x => !p x) sp') ∧ v = dataV b (L.filter fun x => !p x).length cap ∧ s = st.put b (rowc val (L.filter fun x => !p x) sp') := by
  refine vcalls_enter vc95 (Nat.le_of_ble_eq_true rfl) fun hwf hok => ?_
  show Run _ Vc95.body (.fin (finQ Vc95.res _)) _ _
  unfold Vc95
  simp (config := {maxSteps := 3000000}) only [go_sem, Nat.reduceEqDiff, Int.reduceNeg, ↓reduceIte, reduceCtorEq, dataV, cmpV]
  have cc := indexN_v (cap := cap) hp hx hb hmo (by omega)
  rw [dataV, cmpV] at cc
  refine Cal.mk cc ?_
  rintro _ _ ⟨rfl, rfl⟩ -
  clear cc
  have hself : st.put b (rowc val L sp) = st := put_selfR hb (hwf.lt.box b _ hb)
  rcases idxP_cases p L with ⟨h0, hF⟩ | ⟨i, hi, hpi, hbi, hI⟩
  · simp (config := {maxSteps := 3000000}) only [go_sem, Int.reduceNeg, ↓reduceIte, reduceCtorEq, h0]
    exact ⟨_, _, Wk.refl _, by rw [hF, hself]; exact hwf.weak, sp, by rw [hF]; exact hlc, by rw [hF]; exact hmo, by rw [hF], rfl⟩
  · simp (config := {maxSteps := 3000000}) only [go_sem, Nat.reduceEqDiff, Int.reduceNeg, ↓reduceIte, reduceCtorEq, hI]
    repeat (apply And.intro; focus (first | omega | (simp; done)))
    refine run_loop [5, 6, 7, 16, 17, 18, 19, 20, 21, 22, 23, 24, 25, 26, 27, 28, 29, 30, 31, 32, 33, 34, 35] (fun B s => ∃ (i j : Nat) (M : List α), B 5 = .sc (.int .i64 i) ∧ B 6 = .sc (.int .i64 j) ∧ DelI p L M i j ∧ (st.put b (rowc val M sp)).weak s ∧ s.Lt) (fun B _ => L.length - vnat (B 6)) rfl ?_ ?_
    · simp (config := {maxSteps := 3000000}) only [go_sem, Nat.reduceEqDiff, ↓reduceIte]
      exact ⟨i, i + 1, L, rfl, by simp, DelI.start hi hpi hbi, by rw [hself]; exact hwf.weak, hwf.lt⟩
    · clear hI hbi hpi hi
      rintro B s ⟨i, j, M, h5, h6, hI, hw, hsl⟩
      have hlen := hI.len
      have hij := hI.ij
      have hjl := hI.jl
      have hbs := (hw.box b _ put_box_same).1
      have hmo' := rowc_mono hmo hlen
      by_cases c1 : j < L.length
      · simp (config := {maxSteps := 3000000}) only [go_sem, Nat.reduceEqDiff, Nat.reduceAdd, Nat.reduceLT, Nat.reduceLeDiff, ↓reduceIte, reduceCtorEq, Nat.reduceBEq, h6, hbs, decide_eq_true (show (j : Int) < (L.length : Int) by omega), rowc_get (show j < M.length by omega), rowc_len, hmo']
        repeat (apply And.intro; focus (first | omega | (simp; done)))
        intro v hv
        have hbv : b ≠ v := by have := hsl.box b _ hbs; omega
        have hvb : v ≠ b := hbv.symm
        simp (config := {maxSteps := 3000000}) only [go_sem, hp.call]
        repeat (apply And.intro; focus (first | omega | (simp; done)))
        refine Cal.mk (hp.run _ M[j]! (by rw [hI.rest j (Nat.le_refl _)]; exact hx _ (bang_mem c1))) ?_
        rintro _ _ ⟨rfl, rfl⟩ -
        have hMj : M[j]! = L[j]! := hI.rest j (by omega)
        have sv : (st.put b (rowc val M sp)).sz ≤ v := Nat.le_trans hw.sz hv
        cases c2 : p M[j]!
        · have hs2 := rowc_set (val := val) (sp := sp) (L := M) (i := i) (y := M[j]!) (by omega)
          simp (config := {maxSteps := 3000000}) only [go_sem, Nat.reduceEqDiff, Nat.reduceAdd, Nat.reduceLT, Nat.reduceLeDiff, Int.reduceNeg, ↓reduceIte, reduceCtorEq, Nat.reduceBEq, h5, h6, put_box_ne hbv, hbs, rowc_len, hmo', hs2]
          repeat (apply And.intro; focus (first | omega | (simp; done)))
          refine ⟨⟨i + 1, j + 1, M.set i M[j]!, by simp, by simp, hI.keep c1 (by rw [← hMj]; exact c2), ?_, hsl.put.put⟩, by omega⟩
          have := weak_both (b := b) (cs := rowc val (M.set i M[j]!) sp) (weak_put (b := v) (cs := [(val M[j]!).1, (val M[j]!).2]) hw sv)
          rwa [put_put] at this
        · simp (config := {maxSteps := 3000000}) only [go_sem, Nat.reduceEqDiff, Int.reduceNeg, ↓reduceIte, Nat.reduceBEq, h5, h6]
          repeat (apply And.intro; focus (first | omega | (simp; done)))
          exact ⟨⟨i, j + 1, M, rfl, by simp, hI.drop c1 (by rw [← hMj]; exact c2), weak_put hw sv, hsl.put⟩, by omega⟩
      · have hF := hI.fin (by omega)
        obtain ⟨sp', hsp, e3⟩ := rowc_cut (val := val) (sp := sp) (L := M) (i := i) (z := [.sc (.int .u32 0), .sc (.int .i64 0)]) (by omega) rfl
        have hiF : (L.filter fun x => !p x).length = i := by rw [← hF]; simp; omega
        have e4 : M.length - i = L.length - i := by omega
        rw [e4] at e3
        have ecl : i * 2 + (L.length - i) * 2 ≤ (rowc val M sp).length := by rw [rowc_len]; omega
        have eic : (i : Int) < (cap : Int) := by omega
        simp (config := {maxSteps := 3000000}) only [go_sem, Nat.reduceEqDiff, ↓reduceIte, reduceCtorEq, Nat.reduceBEq, h5, h6, hbs, decide_eq_false (show ¬ (j : Int) < (L.length : Int) by omega), hmo', ecl, eic]
        repeat (apply And.intro; focus (first | omega | (simp; done)))
        rw [hF] at e3 hsp
        refine ⟨_, _, Wk.refl _, ?_, sp', ?_, ?_, ?_, rfl⟩
        · unfold splice at e3
          rw [e3]
          have := weak_both (b := b) (cs := rowc val (L.filter fun x => !p x) sp') hw
          rwa [put_put] at this
        · omega
        · refine mono_big ?_
          rw [rowc_len]; omega
        · rw [hiF]
end
end
section
open Go

def pfs (L : List Pfx) : List V := L.map pfxV
theorem pfs_len (L : List Pfx) : (pfs L).length = L.length := by simp [pfs]
theorem pfs_append (l m : List Pfx) : pfs l ++ pfs m = pfs (l ++ m) := by simp [pfs]
theorem allSz_pfs (l : List Pfx) : allSz 2 (pfs l) := fun d hd => by
  obtain ⟨x, _, rfl⟩ := List.mem_map.1 hd; rfl
theorem pfs_get {l : List Pfx} {i : Nat} {x : Pfx} (h : l[i]? = some x) : (pfs l)[i]? = some (.agg [.sc (.int .u32 x.1), .sc (.int .i64 x.2)]) := by simp [pfs, h, pfxV]
theorem pfs_take (l : List Pfx) (n : Nat) : (pfs l).take n = pfs (l.take n) := by simp [pfs, List.map_take]
theorem pfs_drop (l : List Pfx) (n : Nat) : (pfs l).drop n = pfs (l.drop n) := by simp [pfs, List.map_drop]
end
section
open Go

section
variable {st : St} {a b x : Int} {p q : Pfx}
theorem pHas_v (h0 : 0 ≤ a) (h1 : a < 4294967296) (x0 : 0 ≤ x) (x1 : x < 4294967296) : VCalls Try.prog 142 [.agg [.sc (.int .u32 a), .sc (.int .i64 b)], .sc (.int .u32 x)] st fun r st' => r = .sc (.bool (hasB a b x)) ∧ st = st' := by
  refine vcalls_enter vc142 (Nat.le_of_ble_eq_true rfl) fun hwf hok => ?_
  show Run _ Vc142.body (.fin (finQ Vc142.res _)) _ _
  unfold Vc142
  simp (config := {maxSteps := 3000000}) only [go_sem, Nat.reduceEqDiff, Nat.reduceAdd, Nat.reduceLeDiff, ↓reduceIte, reduceCtorEq]
  intro c hc
  refine Cal.mk (pRight_v h0 h1) ?_
  rintro _ _ ⟨rfl, rfl⟩ -
  cases hr : rightB a b
  · simp (config := {maxSteps := 3000000}) only [go_sem, Nat.reduceEqDiff, ↓reduceIte]
    exact ⟨_, _, Wk.refl _, weak_put hwf.weak hc, by simp [hasB, hr], rfl⟩
  · have hr2 := of_decide_eq_true hr
    have hm := and_mask x b x0 x1 hr2.1 hr2.2.1
    have he := has_eq a b x h0 x0 hr
    simp (config := {maxSteps := 3000000}) only [go_sem, Nat.reduceEqDiff, ↓reduceIte]
    refine Cal.mk (pMask_v hr2.1 hr2.2.1) ?_
    rintro _ _ ⟨rfl, rfl⟩ -
    simp (config := {maxSteps := 3000000}) only [go_sem, Nat.reduceEqDiff, ↓reduceIte, ibit_and, hm]
    exact ⟨_, _, Wk.refl _, weak_put hwf.weak hc, by
      rw [hasB, hr, Bool.true_and, ← he]
      congr 2, rfl⟩
theorem pWithin_v (hp : OkP p) (hq : OkP q) : VCalls Try.prog 98 [.agg [.sc (.int .u32 q.1), .sc (.int .i64 q.2)], .agg [.sc (.int .u32 p.1), .sc (.int .i64 p.2)]] st fun r st' => r = .sc (.bool (withinB q.1 q.2 p.1 p.2)) ∧ st = st' := by
  rw [within_eq q.1 q.2 p.1 p.2 hq.right]
  refine vcalls_enter vc98 (Nat.le_of_ble_eq_true rfl) fun hwf hok => ?_
  show Run _ Vc98.body (.fin (finQ Vc98.res _)) _ _
  unfold Vc98
  simp (config := {maxSteps := 3000000}) only [go_sem, Nat.reduceEqDiff, Nat.reduceAdd, ↓reduceIte, reduceCtorEq]
  intro b hb c hc
  have bc : b < c := by omega
  have sc : st.sz ≤ c := by omega
  clear hc
  have n1 := Nat.ne_of_lt bc
  have n2 := Nat.ne_of_gt bc
  simp (config := {maxSteps := 3000000}) only [go_sem, Nat.reduceAdd, Nat.reduceLeDiff, ↓reduceIte, put_box_ne n1]
  refine Cal.mk (pRight_v hq.lo hq.hi) ?_
  rintro _ _ ⟨rfl, rfl⟩ -
  rw [hq.right]
  by_cases c1 : p.2 ≤ q.2
  · simp (config := {maxSteps := 3000000}) only [go_sem, Nat.reduceEqDiff, Nat.reduceAdd, Nat.reduceLeDiff, ↓reduceIte, put_box_ne n1, decide_eq_true c1]
    refine Cal.mk (pHas_v hp.lo hp.hi hq.lo hq.hi) ?_
    rintro _ _ ⟨rfl, rfl⟩ -
    simp (config := {maxSteps := 3000000}) only [go_sem, Nat.reduceEqDiff, ↓reduceIte]
    exact ⟨_, _, Wk.refl _, weak_put (weak_put hwf.weak hb) sc, by simp, rfl⟩
  · simp (config := {maxSteps := 3000000}) only [go_sem, Nat.reduceEqDiff, ↓reduceIte, put_box_ne n1, decide_eq_false c1]
    exact ⟨_, _, Wk.refl _, weak_put (weak_put hwf.weak hb) sc, by simp, rfl⟩
theorem sortP0_v {g : FuncId} : VCalls Try.prog 80 [.sl .nil [], cmpV g] st fun _ s => st = s :=
  csort0_v vc80 vc71 vc120 tab_ok sortsP
theorem mrgDel_v {x : Pfx} (h0 : 0 ≤ x.1 ∧ x.1 < 4294967296) : VCalls Try.prog 97 [.agg [(pval x).1, (pval x).2]] st fun r st' => r = .sc (.bool (!rightB x.1 x.2)) ∧ st = st' := by
  refine vcalls_enter vc97 (Nat.le_of_ble_eq_true rfl) fun hwf hok => ?_
  show Run _ Vc97.body (.fin (finQ Vc97.res _)) _ _
  unfold Vc97
  simp (config := {maxSteps := 3000000}) only [go_sem, Nat.reduceEqDiff, Nat.reduceAdd, Nat.reduceLeDiff, ↓reduceIte, reduceCtorEq, pval]
  intro c hc
  refine Cal.mk (pRight_v h0.1 h0.2) ?_
  rintro _ _ ⟨rfl, rfl⟩ -
  simp (config := {maxSteps := 3000000}) only [go_sem, ↓reduceIte]
  exact ⟨_, _, Wk.refl _, weak_put hwf.weak hc, rfl, rfl⟩
theorem mrgDelF : DelF0 Try.prog 97 pval (fun x => 0 ≤ x.1 ∧ x.1 < 4294967296) (fun x => !rightB x.1 x.2) := ⟨fun _ _ h => mrgDel_v h, by kernel_rfl⟩
theorem pfs_cells (L : List Pfx) : (pfs L).flatMap V.cells = L.flatMap fun x => two (pval x) := by
  unfold pfs
  rw [List.flatMap_map]
  rfl
def CloneQ (st : St) (L : List Pfx) (v : V) (s : St) : Prop := ∃ ob cap sp, v = dataV ob L.length cap ∧ RBC pval st s ob cap L sp
set_option maxRecDepth 100000 in
theorem clonePfx_v {L : List Pfx} (hl : L.length ≤ 1000) : VCalls Try.prog 96 [.sl .nn (pfs L)] st (CloneQ st L) := by
  refine vcalls_enter vc96 (Nat.le_of_ble_eq_true rfl) fun hwf hok => ?_
  show Run _ Vc96.body (.fin (finQ Vc96.res _)) _ _
  unfold Vc96
  simp (config := {maxSteps := 3000000}) only [go_sem, ↓reduceIte, reduceCtorEq]
  refine Bo.mut trivial ?_
  intro b hb
  simp (config := {maxSteps := 3000000}) only [go_sem, Nat.reduceEqDiff, ↓reduceIte, reduceCtorEq, List.flatMap_nil]
  refine App.mut (size := 2) (bytes := 16) (ys := pfs L) (b := b) (n := 0) (cap := 0) (cs := []) put_box_same rfl (mono_nil ▸ trivial) (Nat.le_refl _) (by unfold maxLen; omega) (allSz_pfs _) (by rw [pfs_len]; unfold maxLen; omega) (by rw [pfs_len]; omega) ?_
  intro b' cap' spare k1 k2 k3 k4 k5 k6
  rw [pfs_len] at k2 k4 ⊢
  have e : ([] : List V).take (0 * 2) ++ (pfs L).flatMap V.cells ++ spare = rowc pval L spare := by rw [pfs_cells]; rfl
  rw [e] at k6 ⊢
  have hb' : st.sz ≤ b' := by
    rcases k1 with rfl | k1
    · exact hb
    · simp only [put_sz] at k1; omega
  have W := weak_put (b := b') (cs := rowc pval L spare) (weak_put (b := b) (cs := []) hwf.weak hb) hb'
  rw [Nat.zero_add] at k4 ⊢
  simp (config := {maxSteps := 3000000}) only [go_sem, ↓reduceIte]
  exact ⟨_, _, Wk.refl _, hwf.lt.put.put.weak, b', cap', spare, rfl, ⟨put_box_same, k4, k6, k3, W, hwf.lt.put.put, hb'⟩⟩
theorem clonePfx0_v : VCalls Try.prog 96 [.sl .nil []] st fun v s => v = .sl .nil [] ∧ st = s := by
  refine vcalls_enter vc96 (Nat.le_of_ble_eq_true rfl) fun hwf hok => ?_
  show Run _ Vc96.body (.fin (finQ Vc96.res _)) _ _
  unfold Vc96
  simp (config := {maxSteps := 3000000}) only [go_sem, ↓reduceIte, reduceCtorEq]
  exact ⟨_, _, Wk.refl _, hwf.weak, rfl, rfl⟩
set_option maxRecDepth 100000 in
theorem delPfx0_v {g : FuncId} : VCalls Try.prog 95 [.sl .nil [], cmpV g] st fun v s => v = .sl .nil [] ∧ st = s := by
  have nc0 : ((0 : Nat) : Int) = 0 := rfl
  refine vcalls_enter vc95 (Nat.le_of_ble_eq_true rfl) fun hwf hok => ?_
  show Run _ Vc95.body (.fin (finQ Vc95.res _)) _ _
  unfold Vc95
  simp (config := {maxSteps := 3000000}) only [go_sem, Nat.reduceEqDiff, Int.reduceNeg, ↓reduceIte, reduceCtorEq, cmpV]
  have cc : VCalls Try.prog 141 [.sl .nil [], cmpV g] st fun v s => v = .sc (.int .i64 (-1)) ∧ st = s := by
    refine vcalls_enter vc141 (Nat.le_of_ble_eq_true rfl) fun hwf hok => ?_
    show Run _ Vc141.body (.fin (finQ Vc141.res _)) _ _
    unfold Vc141
    simp (config := {maxSteps := 3000000}) only [go_sem, Int.reduceNeg, ↓reduceIte, reduceCtorEq, cmpV, nc0]
    refine run_loop [4, 5, 8, 9, 10, 11, 12, 13, 14, 15, 16, 17, 18] (fun B s => B 8 = .sc (.int .i64 0) ∧ s = st) (fun B _ => 0) rfl ?_ ?_
    · simp (config := {maxSteps := 3000000}) only [go_sem, ↓reduceIte]
    · rintro B s ⟨h8, rfl⟩
      simp (config := {maxSteps := 3000000}) only [go_sem, Nat.reduceEqDiff, Int.reduceNeg, ↓reduceIte, Nat.reduceBEq, h8]
      exact ⟨_, _, Wk.refl _, hwf.weak, rfl, rfl⟩
  rw [cmpV] at cc
  refine Cal.mk cc ?_
  rintro _ _ ⟨rfl, rfl⟩ -
  simp (config := {maxSteps := 3000000}) only [go_sem, Int.reduceNeg, ↓reduceIte, reduceCtorEq]
  exact ⟨_, _, Wk.refl _, hwf.weak, rfl, rfl⟩
/-- A row without one of its own. -/
theorem rowc_erase {L : List Pfx} {sp : List V} {i : Nat} (hi : i < L.length) : (rowc pval L sp).take (i * 2) ++ (pfs (L.drop (i + 1))).flatMap V.cells ++ (rowc pval L sp).drop ((i + (L.length - (i + 1))) * 2) =
    rowc pval (L.eraseIdx i) ((rowc pval L sp).drop ((L.length - 1) * 2)) := by
  have h1 : (rowc pval L sp).take (i * 2) = (L.take i).flatMap fun x => two (pval x) := by
    have hs : rowc pval L sp = (L.take i).flatMap (fun x => two (pval x)) ++ ((L.drop i).flatMap (fun x => two (pval x)) ++ sp) := by
      unfold rowc
      rw [← List.append_assoc, ← List.flatMap_append, List.take_append_drop]
    have hl : ((L.take i).flatMap fun x => two (pval x)).length = i * 2 := by
      have := rowc_len (val := pval) (L := L.take i) (sp := [])
      simp only [rowc, List.append_nil, List.length_nil, Nat.add_zero, List.length_take] at this
      omega
    rw [hs, List.take_left' hl]
  rw [h1, pfs_cells, ← List.flatMap_append, show i + (L.length - (i + 1)) = L.length - 1 by omega, ← List.eraseIdx_eq_take_drop_succ]
  rfl
def DelQ (st : St) (ob cap : Nat) (L : List Pfx) (i : Nat) (v : V) (s : St) : Prop := ∃ sp', (L.eraseIdx i).length * 2 + sp'.length = cap * 2 ∧ mono (rowc pval (L.eraseIdx i) sp') ∧ v = dataV ob (L.eraseIdx i).length cap ∧ s = st.put ob (rowc pval (L.eraseIdx i) sp')
set_option maxRecDepth 100000 in
set_option maxHeartbeats 4000000 in
theorem delAt_v {ob cap i : Nat} {L : List Pfx} {sp : List V} (hb : st.box ob = some (rowc pval L sp)) (hl : L.length * 2 + sp.length = cap * 2) (hmo : mono (rowc pval L sp)) (hc : cap ≤ maxLen) (hL : L.length ≤ 1000) (hi : i < L.length) :
    VCalls Try.prog 99 [dataV ob L.length cap, .sc (.int .i64 i), .sc (.int .i64 (i + 1))] st (DelQ st ob cap L i) := by
  refine vcalls_enter vc99 (Nat.le_of_ble_eq_true rfl) fun hwf hok => ?_
  show Run _ Vc99.body (.fin (finQ Vc99.res _)) _ _
  unfold Vc99
  have e1 : ((i : Int) + 1).toNat = i + 1 := by omega
  have hle : (L.eraseIdx i).length = L.length - 1 := by rw [List.length_eraseIdx]; simp [hi]
  have hdl : (L.drop (i + 1)).length = L.length - (i + 1) := by simp
  have hlc : L.length ≤ cap := by omega
  obtain ⟨D, hD⟩ : ∃ D, D = (rowc pval L sp).drop ((L.length - 1) * 2) := ⟨_, rfl⟩
  have hDl : D.length = 2 + sp.length := by rw [hD, List.length_drop, rowc_len]; omega
  have hrow : (rowc pval L sp).take (i * 2) ++ (pfs (L.drop (i + 1))).flatMap V.cells ++ (rowc pval L sp).drop ((i + (L.length - (i + 1))) * 2) = rowc pval (L.eraseIdx i) D := by rw [hD]; exact rowc_erase hi
  have hel : (rowc pval (L.eraseIdx i) D).length = cap * 2 := by rw [rowc_len, hle, hDl]; omega
  have hemo : mono (rowc pval (L.eraseIdx i) D) := mono_big (by rw [hel]; omega)
  have hz : List.replicate 1 [V.sc (.int .u32 0), V.sc (.int .i64 0)] = [[V.sc (.int .u32 0), V.sc (.int .i64 0)]] := rfl
  have hz2 : [[V.sc (.int .u32 0), V.sc (.int .i64 0)]].flatten = [V.sc (.int .u32 0), V.sc (.int .i64 0)] := rfl
  have hspl : List.take ((L.length - 1) * 2) (rowc pval (L.eraseIdx i) D) ++ [V.sc (.int .u32 0), V.sc (.int .i64 0)] ++ List.drop ((L.length - 1) * 2 + 2) (rowc pval (L.eraseIdx i) D) = rowc pval (L.eraseIdx i) ([V.sc (.int .u32 0), V.sc (.int .i64 0)] ++ D.drop 2) := by
    have hl2 : ((L.eraseIdx i).flatMap fun x => two (pval x)).length = (L.length - 1) * 2 := by
      have := rowc_len (val := pval) (L := L.eraseIdx i) (sp := [])
      simp only [rowc, List.append_nil, List.length_nil, Nat.add_zero, hle] at this
      exact this
    unfold rowc
    rw [List.take_left' hl2, ← List.drop_drop, List.drop_left' hl2, List.append_assoc]
  have hfin : ∀ s : St, s = st → DelQ st ob cap L i (.sc (.slice (some ⟨ob, 0, none⟩) (L.length - 1) cap)) (s.put ob (rowc pval (L.eraseIdx i) (V.sc (.int .u32 0) :: V.sc (.int .i64 0) :: D.drop 2))) := fun s e => by
    subst e
    exact ⟨_, by simp only [hle, List.length_cons, List.length_drop, hDl]; omega, mono_big (by simp only [rowc_len, hle, List.length_cons]; omega), by rw [hle]; rfl, rfl⟩
  have hrest : ∀ a : Nat, a = L.length - 1 → L.length - a = 1 := fun a e => by omega
  have hr1 : L.length - (L.length - 1) = 1 := by omega
  have e3 : i + (L.length - (i + 1)) = L.length - 1 := by omega
  have e4 : ((L.length - 1 : Nat) : Int) < (cap : Int) := by omega
  have e5 : ((L.length - 1 : Nat) : Int) ≤ (L.length : Int) := by omega
  by_cases c : (i : Int) + 1 < (cap : Int)
  · simp (config := {maxSteps := 3000000}) only [go_sem, Nat.reduceEqDiff, ↓reduceIte, reduceCtorEq, dataV, e1, c, decide_eq_false (show ¬ (i : Int) = (i : Int) + 1 by omega)]
    repeat (apply And.intro; focus (first | omega | (simp; done)))
    refine App.mutB (size := 2) (bytes := 16) (ys := pfs (L.drop (i + 1))) (cs := rowc pval L sp) (.inr ⟨ob, (i + 1) * 2, cap - (i + 1), rowc pval L sp, by rw [pfs_len, hdl], hb, by rw [pfs_len, hdl, rowc_len]; omega, ?_, hmo⟩) hb (by rw [rowc_len]; omega) hmo (by omega) hc (allSz_pfs _) (by rw [pfs_len, hdl]; unfold maxLen; omega) (by rw [pfs_len, hdl]; omega) ?_
    · rw [pfs_cells, pfs_len]
      have hs : rowc pval L sp = (L.take (i + 1)).flatMap (fun x => two (pval x)) ++ ((L.drop (i + 1)).flatMap (fun x => two (pval x)) ++ sp) := by
        unfold rowc
        rw [← List.append_assoc, ← List.flatMap_append, List.take_append_drop]
      have hl1 : ((L.take (i + 1)).flatMap fun x => two (pval x)).length = (i + 1) * 2 := by
        have := rowc_len (val := pval) (L := L.take (i + 1)) (sp := [])
        simp only [rowc, List.append_nil, List.length_nil, Nat.add_zero, List.length_take] at this
        omega
      have hl3 : ((L.drop (i + 1)).flatMap fun x => two (pval x)).length = (L.drop (i + 1)).length * 2 := by
        have := rowc_len (val := pval) (L := L.drop (i + 1)) (sp := [])
        simpa only [rowc, List.append_nil, List.length_nil, Nat.add_zero] using this
      rw [hs, List.drop_left' hl1, List.take_left' hl3]
    intro b' cap' spare k1 k2 k3 k4 k5 k6
    rw [pfs_len, hdl] at k2 k4 k5
    obtain ⟨rfl, rfl, rfl⟩ := k5 (by omega)
    rw [pfs_len, hdl, hrow, e3]
    simp (config := {maxSteps := 3000000}) only [go_sem, Nat.reduceEqDiff, Nat.reduceAdd, ↓reduceIte, reduceCtorEq, e4, e5, hr1, hz, hz2, hel, hemo, hspl]
    repeat (apply And.intro; focus (first | omega | (simp; done)))
    exact ⟨_, _, Wk.refl _, hwf.lt.put.weak, hfin _ rfl⟩
  · have hn : L.drop (i + 1) = [] := List.drop_of_length_le (by omega)
    simp (config := {maxSteps := 3000000}) only [go_sem, Nat.reduceEqDiff, ↓reduceIte, reduceCtorEq, dataV, e1, show ((i : Int) + 1 = 0 ∨ (i : Int) + 1 < (cap : Int)) = False by simp [c]; omega, decide_eq_false (show ¬ (i : Int) = (i : Int) + 1 by omega)]
    repeat (apply And.intro; focus (first | omega | (simp; done)))
    refine App.mutB (size := 2) (bytes := 16) (ys := pfs (L.drop (i + 1))) (cs := rowc pval L sp) (.inl ⟨.no, by rw [hn]; rfl⟩) hb (by rw [rowc_len]; omega) hmo (by omega) hc (allSz_pfs _) (by rw [pfs_len, hdl]; unfold maxLen; omega) (by rw [pfs_len, hdl]; omega) ?_
    intro b' cap' spare k1 k2 k3 k4 k5 k6
    rw [pfs_len, hdl] at k2 k4 k5
    obtain ⟨rfl, rfl, rfl⟩ := k5 (by omega)
    rw [pfs_len, hdl, hrow, e3]
    simp (config := {maxSteps := 3000000}) only [go_sem, Nat.reduceEqDiff, Nat.reduceAdd, ↓reduceIte, reduceCtorEq, e4, e5, hr1, hz, hz2, hel, hemo, hspl]
    repeat (apply And.intro; focus (first | omega | (simp; done)))
    exact ⟨_, _, Wk.refl _, hwf.lt.put.weak, hfin _ rfl⟩
end
end
section
open Go

/-- What merging leaves: the fewest that have the addresses of some. -/
def MrgV (st : St) (L1 : List Pfx) (v : V) (s : St) : Prop := ∃ ob cap out sp, v = dataV ob out.length cap ∧ RBC pval st s ob cap out sp ∧ Canon out ∧ ∀ x, Un out x ↔ Un L1 x
theorem RBC.re {base s : St} {b cap : Nat} {L M : List Pfx} {sp sp' : List V} (h : RBC pval base s b cap L sp) (h1 : M.length * 2 + sp'.length = cap * 2) (h2 : _root_.Go.Proofs.Ytlngegoamfklgaa.mono (rowc pval M sp')) : RBC pval base (s.put b (rowc pval M sp')) b cap M sp' :=
  ⟨put_box_same, h1, h2, h.max, weak_put h.weak h.fresh, h.lt.put, h.fresh⟩
theorem split2 {out : List Pfx} {i : Nat} (h0 : 0 < i) (h1 : i < out.length) : ∃ A p q B, out = A ++ p :: q :: B ∧ A.length + 1 = i := by
  refine ⟨out.take (i - 1), out[i - 1], out[i], out.drop (i + 1), ?_, by simp; omega⟩
  have e1 := List.drop_eq_getElem_cons h1
  have e2 := List.drop_eq_getElem_cons (show i - 1 < out.length by omega)
  rw [show i - 1 + 1 = i by omega, e1] at e2
  rw [← e2, List.take_append_drop]
theorem bang_a0 (A B : List Pfx) (p q : Pfx) : (A ++ p :: q :: B)[A.length]! = p := by simp
theorem bang_a1 (A B : List Pfx) (p q : Pfx) : (A ++ p :: q :: B)[A.length + 1]! = q := by
  rw [getElem!_pos _ _ (by simp)]
  rw [List.getElem_append_right (by omega)]
  simp
theorem erase_a1 (A B : List Pfx) (p q : Pfx) : (A ++ p :: q :: B).eraseIdx (A.length + 1) = A ++ p :: B := by
  rw [List.eraseIdx_append_of_length_le (by omega)]
  simp
theorem set_a0 (A B : List Pfx) (p q r : Pfx) : (A ++ p :: q :: B).set A.length r = A ++ r :: q :: B := by simp
theorem rowc_at1 {L : List Pfx} {sp : List V} : ∀ {i : Nat}, i < L.length → (rowc pval L sp)[i * 2 + 1]? = some (.sc (.int .i64 L[i]!.2)) := by
  induction L with
  | nil => intro i h; simp at h
  | cons x L ih =>
    intro i h
    cases i with
    | zero => rfl
    | succ i =>
      have e : rowc pval (x :: L) sp = .sc (.int .u32 x.1) :: .sc (.int .i64 x.2) :: rowc pval L sp := rfl
      rw [e, show (i + 1) * 2 + 1 = i * 2 + 1 + 1 + 1 by omega]
      simp only [List.getElem?_cons_succ]
      rw [ih (by simpa using h)]
      simp
theorem rowc_at0 {L : List Pfx} {sp : List V} : ∀ {i : Nat}, i < L.length → (rowc pval L sp)[i * 2]? = some (.sc (.int .u32 L[i]!.1)) := by
  induction L with
  | nil => intro i h; simp at h
  | cons x L ih =>
    intro i h
    cases i with
    | zero => rfl
    | succ i =>
      have e : rowc pval (x :: L) sp = .sc (.int .u32 x.1) :: .sc (.int .i64 x.2) :: rowc pval L sp := rfl
      rw [e, show (i + 1) * 2 = i * 2 + 1 + 1 by omega]
      simp only [List.getElem?_cons_succ]
      rw [ih (by simpa using h)]
      simp
theorem rowc_set1 {L : List Pfx} {sp : List V} {b : Int} : ∀ {i : Nat}, i < L.length → List.take (i * 2 + 1) (rowc pval L sp) ++ [.sc (.int .i64 b)] ++ List.drop (i * 2 + 1 + 1) (rowc pval L sp) = rowc pval (L.set i (L[i]!.1, b)) sp := by
  induction L with
  | nil => intro i h; simp at h
  | cons x L ih =>
    intro i h
    cases i with
    | zero => rfl
    | succ i =>
      have e : ∀ (y : Pfx) (M : List Pfx), rowc pval (y :: M) sp = .sc (.int .u32 y.1) :: .sc (.int .i64 y.2) :: rowc pval M sp := fun y M => rfl
      have := ih (i := i) (by simpa using h)
      rw [List.set_cons_succ, e, e, show (i + 1) * 2 + 1 = i * 2 + 1 + 1 + 1 by omega]
      simp only [List.take_succ_cons, List.drop_succ_cons, List.cons_append, List.getElem!_cons_succ]
      rw [← this]
section
variable {st : St} {L : List Pfx}
set_option maxRecDepth 100000 in
set_option maxHeartbeats 16000000 in
theorem mrg26_v (hl : L.length ≤ 30) (hA : ∀ x ∈ L, 0 ≤ x.1 ∧ x.1 < 4294967296) : VCalls Try.prog 57 [.sl .nn (pfs L)] st (MrgV st (L.filter fun x => rightB x.1 x.2)) := by
  refine vcalls_enter vc57 (Nat.le_of_ble_eq_true rfl) fun hwf hok => ?_
  show Run _ Vc57.body (.fin (finQ Vc57.res _)) _ _
  unfold Vc57
  simp (config := {maxSteps := 3000000}) only [go_sem, ↓reduceIte, reduceCtorEq]
  refine Cal.mk (clonePfx_v (by omega)) ?_
  rintro _ s1 ⟨ob, cap, sp, rfl, R⟩ -
  have hcap : L.length ≤ cap := by have := R.len; omega
  have hcm : cap ≤ 9223372036854775807 := R.max
  simp (config := {maxSteps := 3000000}) only [go_sem, ↓reduceIte]
  have hs1 : s1.put ob (rowc pval L sp) = s1 := R.self
  refine Cal.mk (deleteN_v (g := 97) mrgDelF hA R.box R.mono hcap (by omega) R.len) ?_
  rintro _ s2 ⟨sp2, d1, d2, rfl, rfl⟩ -
  have hfe : (L.filter fun x => !(!rightB x.1 x.2)) = L.filter fun x => rightB x.1 x.2 := by simp
  rw [hfe] at d1 d2 ⊢
  obtain ⟨L1, hL1⟩ : ∃ L1, L1 = L.filter fun x => rightB x.1 x.2 := ⟨_, rfl⟩
  rw [← hL1] at d1 d2 ⊢
  have hL1n : L1.length ≤ L.length := by rw [hL1]; exact List.length_filter_le _ _
  have hok1 : ∀ p ∈ L1, OkP p := fun p hp => by
    rw [hL1] at hp
    obtain ⟨h1, h2⟩ := List.mem_filter.1 hp
    exact ⟨(hA p h1).1, (hA p h1).2, h2⟩
  have R2 := R.re d1 d2
  generalize s1.put ob (rowc pval L1 sp2) = s2 at R2 ⊢
  simp (config := {maxSteps := 3000000}) only [go_sem, ↓reduceIte]
  have cc := sortP_v (st := s2) (b := ob) (cap := cap) (L := L1) (sp := sp2) eltP R2.mono (by omega)
  rw [R2.self] at cc
  refine Cal.mk cc ?_
  rintro _ s3 ⟨M, m1, m2, rfl⟩ -
  have hMl := m1.length_eq
  have R3 := R2.mix hMl
  have hun : ∀ x, Un M x ↔ Un L1 x := fun x => ⟨fun ⟨p, hp, hx⟩ => ⟨p, m1.mem_iff.1 hp, hx⟩, fun ⟨p, hp, hx⟩ => ⟨p, m1.mem_iff.2 hp, hx⟩⟩
  generalize s2.put ob (rowc pval M sp2) = s3 at R3 ⊢
  simp (config := {maxSteps := 3000000}) only [go_sem, dataV]
  refine run_loop [3, 4, 10, 11, 12, 13, 14, 15, 16, 17, 18, 19, 20, 21, 22, 23, 24, 25, 26, 27, 28, 29, 30, 31, 32, 33, 34, 35, 36, 37, 38, 39, 40, 41, 42, 43, 44, 45, 46, 47, 48, 49, 50, 51, 52, 53, 54, 55, 56, 57, 58, 59, 60, 61, 62, 63, 64, 65, 66, 67, 68, 69, 70, 71, 72, 73, 74, 75, 76, 77, 78, 79, 80, 81, 82, 83, 84, 85, 86, 87, 88, 89, 90, 91, 92, 93, 94, 95, 96, 97] (fun B s => ∃ (i : Nat) (out : List Pfx) (sp : List V), out.length ≤ L1.length ∧ B 4 = .sc (.int .i64 i) ∧ B 3 = dataV ob out.length cap ∧ RBC pval st s ob cap out sp ∧ MrgI L1 out i)
    (fun B _ => match B 3 with | .sc (.slice _ n _) => 2 * n - vnat (B 4) | _ => 0) rfl ?_ ?_
  · exact ⟨0, M, sp2, by omega, rfl, by rw [hMl]; rfl, R3, ⟨by omega, fun p hp => hok1 p (m1.mem_iff.1 hp), m2, by simpa using Canon.nil, hun⟩⟩
  · clear R R2 R3 hs1 m1 m2 hun hMl cc d1 d2 sp2 M sp
    rintro B s ⟨i, out, sp, hol, h4, h3, R, hI⟩
    have hil := hI.il
    by_cases c1 : i < out.length
    · by_cases c0 : i = 0
      · subst c0
        cases out with
        | nil => simp at c1
        | cons q out =>
          have nc0 : ((0 : Nat) : Int) = 0 := rfl
          simp (config := {maxSteps := 3000000}) only [go_sem, Nat.reduceEqDiff, Int.reduceToNat, Int.reduceLE, Int.reduceAdd, Int.reduceNeg, ↓reduceIte, Nat.reduceBEq, h4, h3, dataV, nc0, decide_eq_true (show (0 : Int) < ((out.length + 1 : Nat) : Int) by omega)]
          repeat (apply And.intro; focus (first | omega | (simp; done)))
          exact ⟨⟨1, q :: out, sp, hol, rfl, rfl, R, hI.one⟩, by omega⟩
      · obtain ⟨A, p, q, C, rfl, hAi⟩ := split2 (by omega) c1
        subst hAi
        have hp := hI.ok p (by simp)
        have hq := hI.ok q (by simp)
        have hlen : (A ++ p :: q :: C).length = A.length + C.length + 2 := by simp; omega
        have e1 : ((A.length + 1 : Nat) : Int) - 1 = (A.length : Int) := by omega
        have g0 := rowc_get (val := pval) (L := A ++ p :: q :: C) (sp := sp) (i := A.length) (by omega)
        have g1 := rowc_get (val := pval) (L := A ++ p :: q :: C) (sp := sp) (i := A.length + 1) (by omega)
        rw [bang_a0] at g0
        rw [bang_a1] at g1
        simp (config := {maxSteps := 3000000}) only [go_sem, Nat.reduceEqDiff, Int.reduceNeg, ↓reduceIte, Nat.reduceBEq, h4, h3, R.box, dataV, e1, g0, g1, rowc_len, R.mono, pval, decide_eq_true (show ((A.length + 1 : Nat) : Int) < ((A ++ p :: q :: C).length : Int) by omega), decide_eq_true (show (0 : Int) < ((A.length + 1 : Nat) : Int) by omega)]
        repeat (apply And.intro; focus (first | omega | (simp; done)))
        refine Cal.mk (pWithin_v hp hq) ?_
        rintro _ _ ⟨rfl, rfl⟩ -
        have hpos := decide_eq_true (show (0 : Int) < ((A.length + 1 : Nat) : Int) by omega)
        cases hw : withinB q.1 q.2 p.1 p.2
        case true =>
          simp (config := {maxSteps := 3000000}) only [go_sem, Nat.reduceEqDiff, Int.reduceNeg, ↓reduceIte, Nat.reduceBEq, h4, h3, dataV]
          repeat (apply And.intro; focus (first | omega | (simp; done)))
          refine Cal.mk (delAt_v (i := A.length + 1) R.box R.len R.mono R.max (by omega) (by omega)) ?_
          rintro _ s2 ⟨sp', k1, k2, rfl, rfl⟩ -
          rw [erase_a1] at k1 k2 ⊢
          simp (config := {maxSteps := 3000000}) only [go_sem, Nat.reduceEqDiff, ↓reduceIte, Nat.reduceBEq, h4, dataV]
          refine ⟨⟨A.length + 1, A ++ p :: C, sp', by simp only [List.length_append, List.length_cons] at hlen hol ⊢; omega, rfl, rfl, R.re k1 k2, hI.within hw⟩, ?_⟩
          simp only [List.length_append, List.length_cons]
          omega
        case false =>
          have g2 := rowc_at1 (L := A ++ p :: q :: C) (sp := sp) (i := A.length) (by omega)
          have g3 := rowc_at1 (L := A ++ p :: q :: C) (sp := sp) (i := A.length + 1) (by omega)
          have g4 := rowc_at0 (L := A ++ p :: q :: C) (sp := sp) (i := A.length) (by omega)
          have g5 := rowc_at0 (L := A ++ p :: q :: C) (sp := sp) (i := A.length + 1) (by omega)
          rw [bang_a0] at g2 g4
          rw [bang_a1] at g3 g5
          have ec : ((A.length + 1 : Nat) : Int) + 1 = ((A.length + 1 + 1 : Nat) : Int) := by omega
          by_cases hb : q.2 = p.2
          · have hbits := hI.bits hw hb
            have hqb := hq.bits
            by_cases hcut : p.1 - p.1 % sizeN (q.2 - 1) = q.1 - q.1 % sizeN (q.2 - 1)
            · have hset := rowc_set1 (L := A ++ p :: q :: C) (sp := sp) (i := A.length) (b := p.2 - 1) (by omega)
              rw [bang_a0, set_a0] at hset
              have emx : max ((A.length : Nat) : Int) 0 = (A.length : Int) := by omega
              simp (config := {maxSteps := 3000000}) only [go_sem, Nat.reduceEqDiff, Int.reduceNeg, ↓reduceIte, Nat.reduceBEq, h4, h3, R.box, dataV, e1, hpos, g2, g3, g4, g5, decide_eq_true hb]
              repeat (apply And.intro; focus (first | omega | (simp; done)))
              refine Cal.mk (pOf_v hp.lo hp.hi (by omega) (by omega)) ?_
              rintro _ _ ⟨rfl, rfl⟩ -
              simp (config := {maxSteps := 3000000}) only [go_sem, Nat.reduceEqDiff, ↓reduceIte, R.box, g3, g5]
              repeat (apply And.intro; focus (first | omega | (simp; done)))
              refine Cal.mk (pOf_v hq.lo hq.hi (by omega) (by omega)) ?_
              rintro _ _ ⟨rfl, rfl⟩ -
              have hmoS : mono (rowc pval (A ++ (p.1, p.2 - 1) :: q :: C) sp) := mono_big (by rw [rowc_len]; simp; omega)
              simp (config := {maxSteps := 3000000}) only [go_sem, Nat.reduceEqDiff, Nat.reduceLT, Int.reduceNeg, ↓reduceIte, Nat.reduceBEq, h4, h3, R.box, dataV, e1, g2, rowc_len, R.mono, fitsV, eqV, Bool.and_true, decide_eq_true hcut, hset]
              repeat (apply And.intro; focus (first | omega | (simp; done)))
              have hle2 : (A ++ (p.1, p.2 - 1) :: q :: C).length = (A ++ p :: q :: C).length := by simp
              have cc := delAt_v (st := s.put ob (rowc pval (A ++ (p.1, p.2 - 1) :: q :: C) sp)) (ob := ob) (cap := cap) (i := A.length + 1) (L := A ++ (p.1, p.2 - 1) :: q :: C) (sp := sp) put_box_same (by have := R.len; simp only [List.length_append, List.length_cons] at this ⊢; exact this) hmoS R.max (by simp only [List.length_append, List.length_cons] at hol ⊢; omega) (by simp only [List.length_append, List.length_cons]; omega)
              rw [dataV, hle2] at cc
              refine Cal.mk cc ?_
              rintro _ s2 ⟨sp', k1, k2, rfl, rfl⟩ -
              rw [erase_a1] at k1 k2 ⊢
              simp (config := {maxSteps := 3000000}) only [go_sem, Nat.reduceEqDiff, Int.reduceNeg, ↓reduceIte, Nat.reduceBEq, h4, e1, emx, dataV]
              repeat (apply And.intro; focus (first | omega | (simp; done)))
              refine ⟨⟨A.length, A ++ (p.1, p.2 - 1) :: C, sp', by simp only [List.length_append, List.length_cons] at hlen hol ⊢; omega, rfl, rfl, R.re k1 k2, hI.two hw hb hcut⟩, ?_⟩
              simp only [List.length_append, List.length_cons]
              omega
            · simp (config := {maxSteps := 3000000}) only [go_sem, Nat.reduceEqDiff, Int.reduceNeg, ↓reduceIte, Nat.reduceBEq, h4, h3, R.box, dataV, e1, hpos, g2, g3, g4, g5, decide_eq_true hb]
              repeat (apply And.intro; focus (first | omega | (simp; done)))
              refine Cal.mk (pOf_v hp.lo hp.hi (by omega) (by omega)) ?_
              rintro _ _ ⟨rfl, rfl⟩ -
              simp (config := {maxSteps := 3000000}) only [go_sem, Nat.reduceEqDiff, ↓reduceIte, R.box, g3, g5]
              repeat (apply And.intro; focus (first | omega | (simp; done)))
              refine Cal.mk (pOf_v hq.lo hq.hi (by omega) (by omega)) ?_
              rintro _ _ ⟨rfl, rfl⟩ -
              simp (config := {maxSteps := 3000000}) only [go_sem, Nat.reduceEqDiff, Int.reduceNeg, ↓reduceIte, Nat.reduceBEq, h4, h3, dataV, fitsV, eqV, Bool.and_true, decide_eq_false hcut]
              repeat (apply And.intro; focus (first | omega | (simp; done)))
              exact ⟨⟨A.length + 1 + 1, A ++ p :: q :: C, sp, hol, by rw [ec], rfl, R, hI.next hw (fun h => hcut h.2)⟩, by rw [ec]; simp only [Int.toNat_natCast]; omega⟩
          · simp (config := {maxSteps := 3000000}) only [go_sem, Nat.reduceEqDiff, Int.reduceNeg, ↓reduceIte, Nat.reduceBEq, h4, h3, R.box, dataV, e1, hpos, g2, g3, decide_eq_false hb]
            repeat (apply And.intro; focus (first | omega | (simp; done)))
            exact ⟨⟨A.length + 1 + 1, A ++ p :: q :: C, sp, hol, by rw [ec], rfl, R, hI.next hw (fun h => hb h.1)⟩, by rw [ec]; simp only [Int.toNat_natCast]; omega⟩
    · obtain rfl : i = out.length := by omega
      simp (config := {maxSteps := 3000000}) only [go_sem, Nat.reduceEqDiff, ↓reduceIte, Nat.reduceBEq, h4, h3, dataV]
      exact ⟨_, _, Wk.refl _, R.lt.weak, ob, cap, out, sp, rfl, R, hI.done, hI.un⟩
set_option maxRecDepth 100000 in
theorem mrg260_v : VCalls Try.prog 57 [.sl .nil []] st fun v s => v = .sl .nil [] ∧ st = s := by
  have nc0 : ((0 : Nat) : Int) = 0 := rfl
  refine vcalls_enter vc57 (Nat.le_of_ble_eq_true rfl) fun hwf hok => ?_
  show Run _ Vc57.body (.fin (finQ Vc57.res _)) _ _
  unfold Vc57
  simp (config := {maxSteps := 3000000}) only [go_sem, ↓reduceIte, reduceCtorEq]
  refine Cal.mk clonePfx0_v ?_
  rintro _ _ ⟨rfl, rfl⟩ -
  simp (config := {maxSteps := 3000000}) only [go_sem, ↓reduceIte]
  refine Cal.mk (delPfx0_v (g := 97)) ?_
  rintro _ _ ⟨rfl, rfl⟩ -
  simp (config := {maxSteps := 3000000}) only [go_sem, ↓reduceIte]
  refine Cal.mk (sortP0_v (g := 81)) ?_
  rintro _ _ rfl -
  simp (config := {maxSteps := 3000000}) only [go_sem]
  refine run_loop [3, 4, 10, 11, 12, 13, 14, 15, 16, 17, 18, 19, 20, 21, 22, 23, 24, 25, 26, 27, 28, 29, 30, 31, 32, 33, 34, 35, 36, 37, 38, 39, 40, 41, 42, 43, 44, 45, 46, 47, 48, 49, 50, 51, 52, 53, 54, 55, 56, 57, 58, 59, 60, 61, 62, 63, 64, 65, 66, 67, 68, 69, 70, 71, 72, 73, 74, 75, 76, 77, 78, 79, 80, 81, 82, 83, 84, 85, 86, 87, 88, 89, 90, 91, 92, 93, 94, 95, 96, 97] (fun B s => B 4 = .sc (.int .i64 0) ∧ B 3 = .sl .nil [] ∧ s = st) (fun B _ => 0) rfl ?_ ?_
  · exact ⟨rfl, rfl, rfl⟩
  · rintro B s ⟨h4, h3, rfl⟩
    simp (config := {maxSteps := 3000000}) only [go_sem, Nat.reduceEqDiff, ↓reduceIte, Nat.reduceBEq, h4, h3, nc0]
    exact ⟨_, _, Wk.refl _, hwf.weak, rfl, rfl⟩
end
end
section
open Go

section
variable {st : St} {a b x : Int}
theorem size26_v (h0 : 0 ≤ b) (h1 : b ≤ 32) : VCalls Try.prog 132 [.sc (.int .i64 b)] st fun r st' => r = .sc (.int .i64 (sizeN b)) ∧ st = st' := by
  refine vcalls_enter vc132 (Nat.le_of_ble_eq_true rfl) fun hwf hok => ?_
  show Run _ Vc132.body (.fin (finQ Vc132.res _)) _ _
  unfold Vc132
  obtain ⟨n, rfl⟩ : ∃ n : Nat, b = n := ⟨b.toNat, by omega⟩
  have hs : sizeN (n : Int) = 2 ^ (32 - n) := by unfold sizeN; rw [show ((32 : Int) - n).toNat = 32 - n by omega]
  rw [hs]
  simp (config := {maxSteps := 3000000}) only [go_sem, ↓reduceIte, reduceCtorEq]
  refine run_loop [3, 4, 6, 7, 8, 9, 10, 11] (fun B s => st = s ∧ ∃ i : Nat, n ≤ i ∧ i ≤ 32 ∧ B 4 = .sc (.int .i64 i) ∧ B 3 = .sc (.int .i64 (2 ^ (i - n)))) (fun B _ => 32 - vnat (B 4)) rfl ?_ ?_
  · simp (config := {maxSteps := 3000000}) only [go_sem, Nat.reduceEqDiff, ↓reduceIte]
    exact ⟨n, by omega, by omega, rfl, by simp⟩
  · rintro B s ⟨rfl, i, hn, hi, h4, h3⟩
    by_cases hlt : i < 32
    · have hp : (2 : Int) ^ (i - n) ≤ 4294967296 ∧ 0 < (2 : Int) ^ (i - n) := by
        have h33 : ∀ k : Nat, k ≤ 32 → (2 : Int) ^ k ≤ 4294967296 := by decide
        exact ⟨h33 _ (by omega), Int.pow_pos (by omega)⟩
      have hs2 : (2 : Int) * 2 ^ (i - n) = 2 ^ (i + 1 - n) := by rw [show i + 1 - n = (i - n) + 1 by omega, Int.pow_succ, Int.mul_comm]
      simp (config := {maxSteps := 3000000}) only [go_sem, Nat.reduceEqDiff, Int.reduceNeg, ↓reduceIte, Nat.reduceBEq, h4, h3, hs2, decide_eq_true (show (i : Int) < 32 by omega)]
      have hp2 : (2 : Int) ^ (i + 1 - n) ≤ 8589934592 ∧ 0 < (2 : Int) ^ (i + 1 - n) := by rw [← hs2]; omega
      repeat (apply And.intro; focus (first | omega | (simp; done)))
      exact ⟨⟨i + 1, by omega, by omega, by simp, rfl⟩, by omega⟩
    · obtain rfl : i = 32 := by omega
      have h32 : ((32 : Nat) : Int) = 32 := rfl
      simp (config := {maxSteps := 3000000}) only [go_sem, Nat.reduceEqDiff, Nat.reduceSub, Int.reduceToNat, ↓reduceIte, Nat.reduceBEq, h4, h3, h32]
      exact ⟨_, _, Wk.refl _, hwf.weak, rfl, rfl⟩
theorem right26_v (h0 : 0 ≤ a) (h1 : a < 4294967296) : VCalls Try.prog 79 [.agg [.sc (.int .u32 a), .sc (.int .i64 b)]] st fun r st' => r = .sc (.bool (rightB a b)) ∧ st = st' := by
  refine vcalls_enter vc79 (Nat.le_of_ble_eq_true rfl) fun hwf hok => ?_
  show Run _ Vc79.body (.fin (finQ Vc79.res _)) _ _
  unfold Vc79
  by_cases c1 : 0 ≤ b
  case neg =>
    have hr : rightB a b = false := decide_eq_false (fun h => c1 h.1)
    rw [hr]
    simp (config := {maxSteps := 3000000}) only [go_sem, Nat.reduceEqDiff, Nat.reduceAdd, ↓reduceIte, reduceCtorEq]
    intro c hc
    simp (config := {maxSteps := 3000000}) only [go_sem, Nat.reduceEqDiff, ↓reduceIte, decide_eq_false c1]
    exact ⟨_, _, Wk.refl _, weak_put hwf.weak hc, rfl, rfl⟩
  by_cases c2 : b ≤ 32
  case neg =>
    have hr : rightB a b = false := decide_eq_false (fun h => c2 h.2.1)
    rw [hr]
    simp (config := {maxSteps := 3000000}) only [go_sem, Nat.reduceEqDiff, Nat.reduceAdd, ↓reduceIte, reduceCtorEq]
    intro c hc
    simp (config := {maxSteps := 3000000}) only [go_sem, Nat.reduceEqDiff, ↓reduceIte, decide_eq_true c1, decide_eq_false c2]
    exact ⟨_, _, Wk.refl _, weak_put hwf.weak hc, rfl, rfl⟩
  have hr : rightB a b = decide (a % sizeN b = 0) := decide_eq_decide.2 ⟨fun h => h.2.2, fun h => ⟨c1, c2, h⟩⟩
  have hp := sizeN_pos b
  rw [hr]
  simp (config := {maxSteps := 3000000}) only [go_sem, Nat.reduceEqDiff, Nat.reduceAdd, ↓reduceIte, reduceCtorEq]
  intro c hc
  simp (config := {maxSteps := 3000000}) only [go_sem, Nat.reduceEqDiff, Int.reduceNeg, ↓reduceIte, decide_eq_true c1, decide_eq_true c2]
  repeat (apply And.intro; focus (first | omega | (simp; done)))
  refine Cal.mk (size26_v c1 c2) ?_
  rintro _ _ ⟨rfl, rfl⟩ -
  simp (config := {maxSteps := 3000000}) only [go_sem, Nat.reduceEqDiff, ↓reduceIte]
  repeat (apply And.intro; focus (first | omega | (simp; done)))
  exact ⟨_, _, Wk.refl _, weak_put hwf.weak hc, rfl, rfl⟩
theorem span26_v (h0 : 0 ≤ a) (h1 : a < 4294967296) (c1 : 0 ≤ b) (c2 : b ≤ 32) : VCalls Try.prog 100 [.agg [.sc (.int .u32 a), .sc (.int .i64 b)]] st fun r st' => r = .tup [.sc (.int .i64 a), .sc (.int .i64 (a + sizeN b - 1))] ∧ st = st' := by
  refine vcalls_enter vc100 (Nat.le_of_ble_eq_true rfl) fun hwf hok => ?_
  show Run _ Vc100.body (.fin (finQ Vc100.res _)) _ _
  unfold Vc100
  have hp := sizeN_pos b
  have hl := sizeN_le b c1
  simp (config := {maxSteps := 3000000}) only [go_sem, Nat.reduceEqDiff, Nat.reduceAdd, Int.reduceNeg, ↓reduceIte, reduceCtorEq]
  intro c hc
  repeat (apply And.intro; focus (first | omega | (simp; done)))
  refine Cal.mk (size26_v c1 c2) ?_
  rintro _ _ ⟨rfl, rfl⟩ -
  simp (config := {maxSteps := 3000000}) only [go_sem, Nat.reduceEqDiff, Int.reduceNeg, ↓reduceIte]
  repeat (apply And.intro; focus (first | omega | (simp; done)))
  exact ⟨_, _, Wk.refl _, weak_put hwf.weak hc, rfl, rfl⟩
theorem has26_v (h0 : 0 ≤ a) (h1 : a < 4294967296) (x0 : 0 ≤ x) (x1 : x < 4294967296) : VCalls Try.prog 58 [.agg [.sc (.int .u32 a), .sc (.int .i64 b)], .sc (.int .u32 x)] st fun r st' => r = .sc (.bool (hasB a b x)) ∧ st = st' := by
  refine vcalls_enter vc58 (Nat.le_of_ble_eq_true rfl) fun hwf hok => ?_
  show Run _ Vc58.body (.fin (finQ Vc58.res _)) _ _
  unfold Vc58
  unfold hasB
  simp (config := {maxSteps := 3000000}) only [go_sem, Nat.reduceEqDiff, Nat.reduceAdd, Nat.reduceLeDiff, ↓reduceIte, reduceCtorEq]
  intro c hc
  refine Cal.mk (right26_v h0 h1) ?_
  rintro _ _ ⟨rfl, rfl⟩ -
  cases hr : rightB a b
  · simp (config := {maxSteps := 3000000}) only [go_sem, ↓reduceIte]
    exact ⟨_, _, Wk.refl _, weak_put hwf.weak hc, by simp, rfl⟩
  · have hr2 := of_decide_eq_true hr
    simp (config := {maxSteps := 3000000}) only [go_sem, Nat.reduceEqDiff, Nat.reduceAdd, Nat.reduceLeDiff, ↓reduceIte]
    refine Cal.mk (span26_v h0 h1 hr2.1 hr2.2.1) ?_
    rintro _ _ ⟨rfl, rfl⟩ -
    by_cases c1 : a ≤ x
    · simp (config := {maxSteps := 3000000}) only [go_sem, Nat.reduceEqDiff, Int.reduceNeg, ↓reduceIte, decide_eq_true c1]
      repeat (apply And.intro; focus (first | omega | (simp; done)))
      exact ⟨_, _, Wk.refl _, weak_put hwf.weak hc, by simp [c1], rfl⟩
    · simp (config := {maxSteps := 3000000}) only [go_sem, Nat.reduceEqDiff, Int.reduceNeg, ↓reduceIte, decide_eq_false c1]
      repeat (apply And.intro; focus (first | omega | (simp; done)))
      exact ⟨_, _, Wk.refl _, weak_put hwf.weak hc, by simp [c1], rfl⟩
end
end
section
open Go

theorem cover_len : ∀ (n : Nat) (f t : Int), (t + 1 - f).toNat = n → (coverL f t).length ≤ n := fun n => by
  induction n using Nat.strongRecOn with
  | ind n ih =>
    intro f t hn
    by_cases c : f ≤ t
    · rw [coverL_step c]
      have hs := sizeN_pos (bitsOf f t)
      have := ih _ (by omega) (f + sizeN (bitsOf f t)) t rfl
      simp only [List.length_cons]
      omega
    · rw [coverL_end (by omega)]; simp
theorem gap_len : ∀ (L : List Pfx) (lo hi : Int), L.Pairwise (fun p q => p.1 + sizeN p.2 ≤ q.1) → (∀ p ∈ L, lo ≤ p.1 ∧ p.1 + sizeN p.2 ≤ hi) → lo ≤ hi → (L.length : Int) ≤ hi - lo
  | [], lo, hi, _, _, h => by simp; omega
  | p :: L, lo, hi, hp, hb, h => by
    obtain ⟨h1, h2⟩ := List.pairwise_cons.1 hp
    have hs := sizeN_pos p.2
    obtain ⟨k1, k2⟩ := hb p (by simp)
    have := gap_len L (p.1 + sizeN p.2) hi h2 (fun q hq => ⟨h1 q hq, (hb q (by simp [hq])).2⟩) k2
    simp only [List.length_cons]
    omega
section
variable {st : St} {f t : Int} {tk : Tk} {L : List Pfx}
def PfsV (st : St) (L : List Pfx) (v : V) (s : St) : Prop := v = .sl .no (pfs L) ∧ st = s
set_option maxRecDepth 100000 in
set_option maxHeartbeats 8000000 in
theorem refCover_v (h0 : 0 ≤ f) (h2 : t < 4294967296) : VCalls Try.prog 101 [.sc (.int .i64 f), .sc (.int .i64 t)] st (PfsV st (coverL f t)) := by
  refine vcalls_enter vc101 (Nat.le_of_ble_eq_true rfl) fun hwf hok => ?_
  show Run _ Vc101.body (.fin (finQ Vc101.res _)) _ _
  unfold Vc101
  simp (config := {maxSteps := 3000000}) only [go_sem]
  refine run_loop [0, 5, 6, 7, 8, 9, 10, 11, 12, 13, 14, 15, 16, 17, 18, 19, 20, 21, 22, 23, 24, 25, 26, 27, 28, 29, 30, 31, 32, 33, 34, 35, 36] (fun B s => ∃ (f' : Int) (M : List Pfx) (v : V), f ≤ f' ∧ (M.length : Int) ≤ f' - f ∧ (f' ≤ 4294967296 ∨ t < f') ∧ coverL f t = M ++ coverL f' t ∧ B 0 = .sc (.int .i64 f') ∧ B 5 = v ∧ RO 2 st s v (pfs M))
    (fun B _ => match B 0 with | .sc (.int _ n) => (t + 1 - n).toNat | _ => 0) rfl ?_ ?_
  · exact ⟨f, [], .sl .nil [], by omega, by simp, by omega, rfl, rfl, rfl, RO.nil hwf.weak hwf.lt⟩
  · rintro B s ⟨f', M, v, hf, hMl, hf2, hc, hB0, hB5, R⟩
    by_cases c1 : f' ≤ t
    · have hst := coverL_step c1
      obtain ⟨b0, b32⟩ := bits_range c1
      have hnx := bits_next c1
      have hsp := sizeN_pos (bitsOf f' t)
      simp (config := {maxSteps := 3000000}) only [go_sem, Nat.reduceEqDiff, ↓reduceIte, Nat.reduceBEq, hB0, decide_eq_true c1]
      refine run_loop [6, 10, 11, 12, 13, 14, 15, 16, 17, 18, 19, 20, 21, 22, 23, 24, 25] (fun D s' => ∃ b : Nat, (b : Int) ≤ bitsOf f' t ∧ D 6 = .sc (.int .i64 b) ∧ s' = s) (fun D _ => 33 - vnat (D 6)) rfl ?_ ?_
      · exact ⟨0, by omega, rfl, rfl⟩
      · rintro D s' ⟨b, hb, h6, rfl⟩
        have go : okB f' t b = false → ((b + 1 : Nat) : Int) ≤ bitsOf f' t := fun hn => by
          by_cases e : (b : Int) = bitsOf f' t
          · rw [e, bitsOf_ok c1] at hn; cases hn
          · omega
        have hs0 := sizeN_pos (b : Int)
        have hs1 := sizeN_le (b : Int) (by omega)
        simp (config := {maxSteps := 3000000}) only [go_sem, Nat.reduceEqDiff, ↓reduceIte, reduceCtorEq, Nat.reduceBEq, h6, hB0]
        refine Cal.mk (size26_v (by omega) (by omega)) ?_
        rintro _ _ ⟨rfl, rfl⟩ -
        by_cases m0 : f' % sizeN (b : Int) = 0
        · simp (config := {maxSteps := 3000000}) only [go_sem, Nat.reduceEqDiff, ↓reduceIte, reduceCtorEq, Nat.reduceBEq, h6, hB0, m0]
          repeat (apply And.intro; focus (first | omega | (simp; done)))
          refine Cal.mk (size26_v (by omega) (by omega)) ?_
          rintro _ _ ⟨rfl, rfl⟩ -
          by_cases m1 : t < f' + sizeN (b : Int) - 1
          · have hno := go (decide_eq_false (fun h => by omega))
            simp (config := {maxSteps := 3000000}) only [go_sem, Nat.reduceEqDiff, Int.reduceNeg, ↓reduceIte, Nat.reduceBEq, h6, decide_eq_true m1]
            repeat (apply And.intro; focus (first | omega | (simp; done)))
            exact ⟨⟨b + 1, hno, by simp⟩, by omega⟩
          · have hbe : (b : Int) = bitsOf f' t := by
              by_cases e : (b : Int) = bitsOf f' t
              · exact e
              · have := bits_min (f := f') (t := t) (b := b) (by omega) (by omega)
                unfold okB at this
                have := of_decide_eq_false this
                omega
            have he : f' % 4294967296 = f' := Int.emod_eq_of_lt (by omega) (by omega)
            obtain ⟨tv, rfl⟩ := R.sl
            simp (config := {maxSteps := 3000000}) only [go_sem, Nat.reduceEqDiff, Nat.reduceAdd, Nat.reduceLT, Nat.reduceLeDiff, Int.reduceNeg, ↓reduceIte, reduceCtorEq, Nat.reduceBEq, h6, hB0, hB5, he, decide_eq_false m1]
            repeat (apply And.intro; focus (first | omega | (simp; done)))
            rw [hbe]
            refine App.mk (bytes := 16) (l := pfs M) (ys := pfs [(f', bitsOf f' t)]) R.own (allSz_pfs _) (by simp only [pfs_len, List.length_cons, List.length_nil, maxLen]; omega) (by simp only [pfs_len, List.length_cons, List.length_nil]; omega) ?_
            intro r2 s2 k1 k2
            have R2 := R.app k1 k2
            rw [pfs_append] at R2
            simp (config := {maxSteps := 3000000}) only [go_sem, Nat.reduceEqDiff, ↓reduceIte, reduceCtorEq, Nat.reduceBEq, h6, hB0, hbe]
            refine Cal.mk (size26_v b0 b32) ?_
            rintro _ _ ⟨rfl, rfl⟩ -
            simp (config := {maxSteps := 3000000}) only [go_sem, Nat.reduceEqDiff, Int.reduceNeg, ↓reduceIte, reduceCtorEq]
            repeat (apply And.intro; focus (first | omega | (simp; done)))
            exact ⟨⟨_, M ++ [(f', bitsOf f' t)], r2, by omega, by simp only [List.length_append, List.length_cons, List.length_nil]; omega, by omega, by rw [hc, hst, List.append_assoc]; rfl, rfl, rfl, R2⟩, by omega⟩
        · have hno := go (decide_eq_false (fun h => m0 h.1))
          have d1 : decide (¬ f' % sizeN (b : Int) = 0) = true := decide_eq_true m0
          simp (config := {maxSteps := 3000000}) only [go_sem, Nat.reduceEqDiff, Int.reduceNeg, ↓reduceIte, Nat.reduceBEq, h6, d1]
          repeat (apply And.intro; focus (first | omega | (simp; done)))
          exact ⟨⟨b + 1, hno, by simp⟩, by omega⟩
    · rw [coverL_end (f := f') (t := t) (by omega), List.append_nil] at hc
      obtain ⟨tv, rfl⟩ := R.sl
      simp (config := {maxSteps := 3000000}) only [go_sem, Nat.reduceEqDiff, ↓reduceIte, Nat.reduceBEq, hB0, hB5, decide_eq_false c1]
      exact ⟨_, _, Wk.no, R.weak, by rw [hc], rfl⟩
end
end
section
open Go

theorem u32s : (if IntKind.u32.signed = true then (-1 : Int) else IntKind.u32.max) = 4294967295 := rfl
section
variable {st : St} {f t : Int} {tk : Tk} {L : List Pfx}
theorem lastI (f b : Int) (h0 : 0 ≤ f) (h1 : f < 4294967296) (hb0 : 0 ≤ b) (hb1 : b ≤ 32) (hm : f % sizeN b = 0) : ibit .or .u32 f (ibit .xor .u32 4294967295 (maskN b)) = f + (sizeN b - 1) := by
  have := last_at f b h0 h1 hb0 hb1 hm
  rw [ibit_bits .or _ _ _ (by simp), ibit_bits .xor _ _ _ (by simp)]
  exact this
set_option maxRecDepth 100000 in
set_option maxHeartbeats 8000000 in
theorem cCover_v (h0 : 0 ≤ f) (h1 : f < 4294967296) (h2 : t < 4294967296) : VCalls Try.prog 102 [.sc (.int .u32 f), .sc (.int .u32 t)] st (PfsV st (coverL f t)) := by
  refine vcalls_enter vc102 (Nat.le_of_ble_eq_true rfl) fun hwf hok => ?_
  show Run _ Vc102.body (.fin (finQ Vc102.res _)) _ _
  unfold Vc102
  simp (config := {maxSteps := 3000000}) only [go_sem]
  refine run_loop [0, 5, 6, 7, 8, 9, 10, 11, 12, 13, 14, 15, 16, 17, 18, 19, 20, 21, 22, 23, 24, 25, 26, 27, 28, 29, 30, 31, 32, 33, 34, 35, 36, 37, 38, 39, 40, 41, 42, 43, 44, 45, 46, 47, 48] (fun B s => ∃ (f' : Int) (M : List Pfx) (v : V), f ≤ f' ∧ (M.length : Int) ≤ f' - f ∧ f' < 4294967296 ∧ coverL f t = M ++ coverL f' t ∧ B 0 = .sc (.int .u32 f') ∧ B 5 = v ∧ RO 2 st s v (pfs M))
    (fun B _ => match B 0 with | .sc (.int _ n) => (t + 1 - n).toNat | _ => 0) rfl ?_ ?_
  · exact ⟨f, [], .sl .nil [], by omega, by simp, h1, rfl, rfl, rfl, RO.nil hwf.weak hwf.lt⟩
  · rintro B s ⟨f', M, v, hf, hMl, hf2, hc, hB0, hB5, R⟩
    by_cases c1 : f' ≤ t
    · have hst := coverL_step c1
      obtain ⟨b0, b32⟩ := bits_range c1
      have hnx := bits_next c1
      have hsp := sizeN_pos (bitsOf f' t)
      have hmd := bits_mod c1
      obtain ⟨tv, rfl⟩ := R.sl
      simp (config := {maxSteps := 3000000}) only [go_sem, Nat.reduceEqDiff, ↓reduceIte, Nat.reduceBEq, hB0, decide_eq_true c1]
      refine run_loop [6, 7, 12, 13, 14, 15, 16, 17, 18, 19, 20, 21, 22, 23, 24, 25, 26, 27, 28, 29, 30, 31, 32, 33] (fun D s' => ∃ b : Nat, bitsOf f' t ≤ (b : Int) ∧ b ≤ 32 ∧ D 6 = .sc (.int .i64 b) ∧ RO 2 st s' (.sl tv (pfs M)) (pfs M)) (fun D _ => vnat (D 6)) rfl ?_ ?_
      · exact ⟨32, by omega, by omega, rfl, R⟩
      · clear R
        rintro D s' ⟨b, hb, hb2, h6, R⟩
        have fin : (b : Int) = bitsOf f' t → ∀ s2 r2, RO 2 st s2 r2 (pfs (M ++ [(f', (b : Int))])) → f' + sizeN (bitsOf f' t) < 4294967296 → ∃ (f2 : Int) (M2 : List Pfx) (v : V), f ≤ f2 ∧ (M2.length : Int) ≤ f2 - f ∧ f2 < 4294967296 ∧ coverL f t = M2 ++ coverL f2 t ∧
            V.sc (Value.int .u32 (f' + sizeN (bitsOf f' t))) = .sc (.int .u32 f2) ∧ r2 = v ∧ RO 2 st s2 v (pfs M2) := fun e s2 r2 hR hlt =>
          ⟨_, M ++ [(f', (b : Int))], r2, by omega, by simp only [List.length_append, List.length_cons, List.length_nil]; omega, hlt, by rw [hc, hst, List.append_assoc, e]; rfl, rfl, rfl, hR⟩
        have done : (b : Int) = bitsOf f' t → f' + sizeN (bitsOf f' t) = 4294967296 → coverL f t = M ++ [(f', (b : Int))] := fun e h => by
          rw [hc, hst, coverL_end (f := f' + sizeN (bitsOf f' t)) (by omega), e]
        have hla : (b : Int) = bitsOf f' t → ibit .or .u32 f' (ibit .xor .u32 4294967295 (maskN (b : Int))) = f' + (sizeN (b : Int) - 1) := fun e => lastI f' b (by omega) hf2 (by omega) (by omega) (by rw [e]; exact hmd)
        by_cases cb : 0 < b
        · have e1 : (b : Int) - 1 = ((b - 1 : Nat) : Int) := by omega
          have hs1 := sizeN_pos ((b - 1 : Nat) : Int)
          have stop : okB f' t ((b - 1 : Nat) : Int) = false → (b : Int) = bitsOf f' t := fun hn => by
            by_cases e : (b : Int) = bitsOf f' t
            · exact e
            · have := okB_mono (bitsOf_ok c1) (show bitsOf f' t ≤ ((b - 1 : Nat) : Int) by omega)
              rw [this] at hn; cases hn
          simp (config := {maxSteps := 3000000}) only [go_sem, Nat.reduceEqDiff, Int.reduceNeg, ↓reduceIte, reduceCtorEq, Nat.reduceBEq, h6, hB0, e1, decide_eq_true (show (0 : Int) < (b : Int) by omega)]
          repeat (apply And.intro; focus (first | omega | (simp; done)))
          refine Cal.mk (pOf_v (b := ((b - 1 : Nat) : Int)) (by omega) hf2 (by omega) (by omega)) ?_
          rintro _ _ ⟨rfl, rfl⟩ -
          simp (config := {maxSteps := 3000000}) only [go_sem, Nat.reduceEqDiff, Nat.reduceAdd, Nat.reduceLT, Nat.reduceLeDiff, ↓reduceIte, reduceCtorEq, Nat.reduceBEq]
          intro q hq
          have Rq := R.put (c := q) (cs := [.sc (.int .u32 (f' - f' % sizeN ((b - 1 : Nat) : Int))), .sc (.int .i64 ((b - 1 : Nat) : Int))]) (by have := R.weak.sz; omega)
          by_cases m0 : f' % sizeN ((b - 1 : Nat) : Int) = 0
          · have d0 : decide (¬ f' - f' % sizeN ((b - 1 : Nat) : Int) = f') = false := decide_eq_false (by omega)
            have hl1 := lastI f' ((b - 1 : Nat) : Int) (by omega) hf2 (by omega) (by omega) m0
            simp (config := {maxSteps := 3000000}) only [go_sem, Nat.reduceEqDiff, Int.reduceNeg, ↓reduceIte, reduceCtorEq, Nat.reduceBEq, h6, hB0, d0, e1]
            repeat (apply And.intro; focus (first | omega | (simp; done)))
            refine Cal.mk (pMask_v (b := ((b - 1 : Nat) : Int)) (by omega) (by omega)) ?_
            rintro _ _ ⟨rfl, rfl⟩ -
            by_cases m1 : t < f' + (sizeN ((b - 1 : Nat) : Int) - 1)
            · have hbe := stop (decide_eq_false (fun h => by omega))
              simp (config := {maxSteps := 3000000}) only [go_sem, Nat.reduceEqDiff, Nat.reduceAdd, Nat.reduceLT, Nat.reduceLeDiff, Int.reduceNeg, ↓reduceIte, reduceCtorEq, Nat.reduceBEq, h6, hB0, hB5, u32s, hl1, decide_eq_true m1]
              refine App.mk (bytes := 16) (l := pfs M) (ys := pfs [(f', (b : Int))]) Rq.own (allSz_pfs _) (by simp only [pfs_len, List.length_cons, List.length_nil, maxLen]; omega) (by simp only [pfs_len, List.length_cons, List.length_nil]; omega) ?_
              intro r2 s2 k1 k2
              have R2 := Rq.app k1 k2
              rw [pfs_append] at R2
              simp (config := {maxSteps := 3000000}) only [go_sem, Nat.reduceEqDiff, ↓reduceIte, reduceCtorEq, Nat.reduceBEq, h6, hB0]
              refine Cal.mk (pMask_v (b := (b : Int)) (by omega) (by omega)) ?_
              rintro _ _ ⟨rfl, rfl⟩ -
              by_cases ce : f' + sizeN (bitsOf f' t) = 4294967296
              · simp (config := {maxSteps := 3000000}) only [go_sem, Nat.reduceEqDiff, Int.reduceNeg, ↓reduceIte, reduceCtorEq, u32s, hla hbe, decide_eq_true (show f' + (sizeN (b : Int) - 1) = 4294967295 by rw [hbe]; omega)]
                obtain ⟨tw, rfl⟩ := R2.sl
                exact ⟨_, _, Wk.no, R2.weak, by rw [done hbe ce], rfl⟩
              · have hadd : (f' + (sizeN (b : Int) - 1) + 1) % 4294967296 = f' + sizeN (bitsOf f' t) := by rw [hbe]; omega
                simp (config := {maxSteps := 3000000}) only [go_sem, Nat.reduceEqDiff, Int.reduceNeg, ↓reduceIte, reduceCtorEq, u32s, hla hbe, hadd, decide_eq_false (show ¬ f' + (sizeN (b : Int) - 1) = 4294967295 by rw [hbe]; omega)]
                exact ⟨fin hbe _ _ R2 (by omega), by omega⟩
            · have hge : bitsOf f' t ≤ ((b - 1 : Nat) : Int) := by
                by_cases e : (b : Int) = bitsOf f' t
                · have := bits_min (f := f') (t := t) (b := ((b - 1 : Nat) : Int)) (by omega) (by omega)
                  have h3 := of_decide_eq_false this
                  exact absurd ⟨m0, by omega⟩ h3
                · omega
              simp (config := {maxSteps := 3000000}) only [go_sem, Nat.reduceEqDiff, Int.reduceNeg, ↓reduceIte, Nat.reduceBEq, h6, u32s, hl1, e1, decide_eq_false m1]
              repeat (apply And.intro; focus (first | omega | (simp; done)))
              exact ⟨⟨b - 1, hge, by omega, rfl, Rq⟩, by omega⟩
          · have hbe := stop (decide_eq_false (fun h => m0 h.1))
            have d0 : decide (¬ f' - f' % sizeN ((b - 1 : Nat) : Int) = f') = true := decide_eq_true (by omega)
            simp (config := {maxSteps := 3000000}) only [go_sem, Nat.reduceEqDiff, Nat.reduceAdd, Nat.reduceLT, Nat.reduceLeDiff, ↓reduceIte, reduceCtorEq, Nat.reduceBEq, h6, hB0, hB5, d0]
            refine App.mk (bytes := 16) (l := pfs M) (ys := pfs [(f', (b : Int))]) Rq.own (allSz_pfs _) (by simp only [pfs_len, List.length_cons, List.length_nil, maxLen]; omega) (by simp only [pfs_len, List.length_cons, List.length_nil]; omega) ?_
            intro r2 s2 k1 k2
            have R2 := Rq.app k1 k2
            rw [pfs_append] at R2
            simp (config := {maxSteps := 3000000}) only [go_sem, Nat.reduceEqDiff, ↓reduceIte, reduceCtorEq, Nat.reduceBEq, h6, hB0]
            refine Cal.mk (pMask_v (b := (b : Int)) (by omega) (by omega)) ?_
            rintro _ _ ⟨rfl, rfl⟩ -
            by_cases ce : f' + sizeN (bitsOf f' t) = 4294967296
            · simp (config := {maxSteps := 3000000}) only [go_sem, Nat.reduceEqDiff, Int.reduceNeg, ↓reduceIte, reduceCtorEq, u32s, hla hbe, decide_eq_true (show f' + (sizeN (b : Int) - 1) = 4294967295 by rw [hbe]; omega)]
              obtain ⟨tw, rfl⟩ := R2.sl
              exact ⟨_, _, Wk.no, R2.weak, by rw [done hbe ce], rfl⟩
            · have hadd : (f' + (sizeN (b : Int) - 1) + 1) % 4294967296 = f' + sizeN (bitsOf f' t) := by rw [hbe]; omega
              simp (config := {maxSteps := 3000000}) only [go_sem, Nat.reduceEqDiff, Int.reduceNeg, ↓reduceIte, reduceCtorEq, u32s, hla hbe, hadd, decide_eq_false (show ¬ f' + (sizeN (b : Int) - 1) = 4294967295 by rw [hbe]; omega)]
              exact ⟨fin hbe _ _ R2 (by omega), by omega⟩
        · have hbe : (b : Int) = bitsOf f' t := by omega
          simp (config := {maxSteps := 3000000}) only [go_sem, Nat.reduceEqDiff, Nat.reduceAdd, Nat.reduceLT, Nat.reduceLeDiff, ↓reduceIte, reduceCtorEq, Nat.reduceBEq, h6, hB0, hB5, decide_eq_false (show ¬ (0 : Int) < (b : Int) by omega)]
          refine App.mk (bytes := 16) (l := pfs M) (ys := pfs [(f', (b : Int))]) R.own (allSz_pfs _) (by simp only [pfs_len, List.length_cons, List.length_nil, maxLen]; omega) (by simp only [pfs_len, List.length_cons, List.length_nil]; omega) ?_
          intro r2 s2 k1 k2
          have R2 := R.app k1 k2
          rw [pfs_append] at R2
          simp (config := {maxSteps := 3000000}) only [go_sem, Nat.reduceEqDiff, ↓reduceIte, reduceCtorEq, Nat.reduceBEq, h6, hB0]
          refine Cal.mk (pMask_v (b := (b : Int)) (by omega) (by omega)) ?_
          rintro _ _ ⟨rfl, rfl⟩ -
          by_cases ce : f' + sizeN (bitsOf f' t) = 4294967296
          · simp (config := {maxSteps := 3000000}) only [go_sem, Nat.reduceEqDiff, Int.reduceNeg, ↓reduceIte, reduceCtorEq, u32s, hla hbe, decide_eq_true (show f' + (sizeN (b : Int) - 1) = 4294967295 by rw [hbe]; omega)]
            obtain ⟨tw, rfl⟩ := R2.sl
            exact ⟨_, _, Wk.no, R2.weak, by rw [done hbe ce], rfl⟩
          · have hadd : (f' + (sizeN (b : Int) - 1) + 1) % 4294967296 = f' + sizeN (bitsOf f' t) := by rw [hbe]; omega
            simp (config := {maxSteps := 3000000}) only [go_sem, Nat.reduceEqDiff, Int.reduceNeg, ↓reduceIte, reduceCtorEq, u32s, hla hbe, hadd, decide_eq_false (show ¬ f' + (sizeN (b : Int) - 1) = 4294967295 by rw [hbe]; omega)]
            exact ⟨fin hbe _ _ R2 (by omega), by omega⟩
    · rw [coverL_end (f := f') (t := t) (by omega), List.append_nil] at hc
      obtain ⟨tv, rfl⟩ := R.sl
      simp (config := {maxSteps := 3000000}) only [go_sem, Nat.reduceEqDiff, ↓reduceIte, Nat.reduceBEq, hB0, hB5, decide_eq_false c1]
      exact ⟨_, _, Wk.no, R.weak, by rw [hc], rfl⟩
end
end
section
open Go

/-- What the document's way leaves. -/
def MrgU (st : St) (L1 : List Pfx) (v : V) (s : St) : Prop := (∃ out, v = .sl .no (pfs out) ∧ Canon out ∧ ∀ x, Un out x ↔ Un L1 x) ∧ st = s
section
variable {st : St} {tk : Tk} {L : List Pfx}
set_option maxRecDepth 100000 in
set_option maxHeartbeats 16000000 in
theorem refMerge_v (hl : L.length ≤ 1000) (hA : ∀ x ∈ L, 0 ≤ x.1 ∧ x.1 < 4294967296) : VCalls Try.prog 59 [.sl tk (pfs L)] st (MrgU st (L.filter fun x => rightB x.1 x.2)) := by
  refine vcalls_enter vc59 (Nat.le_of_ble_eq_true rfl) fun hwf hok => ?_
  show Run _ Vc59.body (.fin (finQ Vc59.res _)) _ _
  unfold Vc59
  simp (config := {maxSteps := 3000000}) only [go_sem, Int.reduceNeg]
  refine run_loop [4, 5, 16, 17, 18, 19, 20, 21, 22, 23, 24, 25, 26, 27, 28, 29, 30, 31, 32, 33] (fun B s => ∃ (i : Nat) (v : V), i ≤ L.length ∧ B 5 = .sc (.int .i64 i) ∧ B 4 = v ∧ RO 2 st s v (pfs ((L.take i).filter fun x => rightB x.1 x.2))) (fun B _ => L.length - vnat (B 5)) rfl ?_ ?_
  · exact ⟨0, .sl .nil [], by omega, rfl, rfl, RO.nil hwf.weak hwf.lt⟩
  · rintro B s ⟨i, v, hi, h5, h4, R⟩
    have hfl : ((L.take i).filter fun x => rightB x.1 x.2).length ≤ i := Nat.le_trans (List.length_filter_le _ _) (by simp; omega)
    obtain ⟨tv, rfl⟩ := R.sl
    by_cases c1 : i < L.length
    · obtain ⟨x, hx⟩ := get_ex c1
      obtain ⟨x0, x1⟩ := hA x (List.mem_of_getElem? hx)
      have htk : (L.take (i + 1)).filter (fun x => rightB x.1 x.2) = (L.take i).filter (fun x => rightB x.1 x.2) ++ if rightB x.1 x.2 = true then [x] else [] := by
        rw [List.take_add_one, hx, List.filter_append]
        congr 1
        cases e : rightB x.1 x.2 <;> simp [e]
      simp (config := {maxSteps := 3000000}) only [go_sem, Nat.reduceEqDiff, Nat.reduceAdd, Nat.reduceLeDiff, Int.reduceNeg, ↓reduceIte, reduceCtorEq, Nat.reduceBEq, h5, pfs_len, pfs_get hx, decide_eq_true (show (i : Int) < (L.length : Int) by omega)]
      repeat (apply And.intro; focus (first | omega | (simp; done)))
      refine Cal.mk (right26_v x0 x1) ?_
      rintro _ _ ⟨rfl, rfl⟩ -
      cases hr : rightB x.1 x.2
      · rw [hr, if_neg (by simp), List.append_nil] at htk
        simp (config := {maxSteps := 3000000}) only [go_sem, Nat.reduceEqDiff, Int.reduceNeg, ↓reduceIte, Nat.reduceBEq, h5, h4]
        repeat (apply And.intro; focus (first | omega | (simp; done)))
        exact ⟨⟨i + 1, _, by omega, by simp, rfl, by rw [htk]; exact R⟩, by omega⟩
      · rw [hr, if_pos rfl] at htk
        simp (config := {maxSteps := 3000000}) only [go_sem, Nat.reduceEqDiff, Nat.reduceAdd, Nat.reduceLeDiff, Int.reduceNeg, ↓reduceIte, reduceCtorEq, Nat.reduceBEq, h5, h4, pfs_get hx]
        repeat (apply And.intro; focus (first | omega | (simp; done)))
        refine App.mk (bytes := 16) (l := pfs ((L.take i).filter fun x => rightB x.1 x.2)) (ys := pfs [x]) R.own (allSz_pfs _) (by simp only [pfs_len, List.length_cons, List.length_nil, maxLen]; omega) (by simp only [pfs_len, List.length_cons, List.length_nil]; omega) ?_
        intro r2 s2 k1 k2
        have R2 := R.app k1 k2
        rw [pfs_append, ← htk] at R2
        simp (config := {maxSteps := 3000000}) only [go_sem, Nat.reduceEqDiff, Int.reduceNeg, ↓reduceIte, Nat.reduceBEq, h5]
        repeat (apply And.intro; focus (first | omega | (simp; done)))
        exact ⟨⟨i + 1, _, by omega, by simp, rfl, R2⟩, by omega⟩
    · obtain rfl : i = L.length := by omega
      rw [List.take_length] at R hfl h4
      obtain ⟨L1, hL1⟩ : ∃ L1, L1 = L.filter fun x => rightB x.1 x.2 := ⟨_, rfl⟩
      rw [← hL1] at R hfl h4 ⊢
      have hok1 : ∀ p ∈ L1, OkP p := fun p hp => by
        rw [hL1] at hp
        obtain ⟨h1, h2⟩ := List.mem_filter.1 hp
        exact ⟨(hA p h1).1, (hA p h1).2, h2⟩
      have W1 := R.weak
      have T1 := R.lt
      simp (config := {maxSteps := 3000000}) only [go_sem, Nat.reduceEqDiff, Int.reduceNeg, ↓reduceIte, reduceCtorEq, Nat.reduceBEq, h5, pfs_len]
      clear R
      refine run_loop [2, 3, 6, 7, 8, 9, 10, 11, 12, 13, 14, 15, 34, 35, 36, 37, 38, 39, 40, 41, 42, 43, 44, 45, 46, 47, 48, 49, 50, 51, 52, 53, 54, 55, 56, 57, 58, 59, 60, 61, 62, 63, 64, 65, 66, 67, 68, 69, 70, 71, 72, 73, 74, 75, 76, 77, 78, 79, 80, 81, 82, 83, 84, 85, 86, 87, 88, 89, 90, 91, 92, 93, 94, 95, 96, 97, 98] (fun C s' => ∃ (a : Int) (out : List Pfx) (v : V), a ≤ 4294967296 ∧ C 6 = .sc (.int .i64 a) ∧ C 3 = v ∧ RO 2 s s' v (pfs out) ∧ MrgR L1 out a) (fun C _ => match C 6 with | .sc (.int _ n) => (4294967296 - n).toNat | _ => 0) rfl ?_ ?_
      · exact ⟨0, [], .sl .nil [], by omega, rfl, rfl, RO.nil T1.weak T1, MrgR.start hok1⟩
      · rintro C s' ⟨a, out, v, ha, h6, h3, R, hM⟩
        have hpos := hM.pos
        have hol : (out.length : Int) ≤ a := by
          have := gap_len out 0 a hM.can.gap (fun p hp => ⟨(hM.can.ok p hp).lo, hM.lt p hp⟩) hpos
          omega
        obtain ⟨tw, rfl⟩ := R.sl
        by_cases c2 : a < 4294967296
        · simp (config := {maxSteps := 3000000}) only [go_sem, Int.reduceNeg, ↓reduceIte, Nat.reduceBEq, h6, decide_eq_true c2]
          refine run_loop [7, 8, 9, 10, 11, 36, 37, 38, 39, 40, 41, 42, 43, 44, 45, 46, 47, 48, 49, 50, 51, 52, 53, 54, 55, 56, 57, 58, 59] (fun D s2 => ∃ (j : Nat) (first last : Int), j ≤ L1.length ∧ D 9 = .sc (.int .i64 j) ∧ D 7 = .sc (.int .i64 first) ∧ D 8 = .sc (.int .i64 last) ∧ FirstQ L1 a j first last ∧ s2 = s') (fun D _ => L1.length - vnat (D 9)) rfl ?_ ?_
          · exact ⟨0, 4294967296, -1, by omega, rfl, rfl, rfl, FirstQ.start, rfl⟩
          · rintro D s2 ⟨j, first, last, hj, h9, h7, h8, hF, rfl⟩
            by_cases c3 : j < L1.length
            · obtain ⟨x, hx⟩ := get_ex c3
              have ok := hok1 x (List.mem_of_getElem? hx)
              have hb := ok.bits
              simp (config := {maxSteps := 3000000}) only [go_sem, Nat.reduceEqDiff, Nat.reduceAdd, Nat.reduceLeDiff, Int.reduceNeg, ↓reduceIte, Nat.reduceBEq, h9, h4, pfs_len, pfs_get hx, decide_eq_true (show (j : Int) < (L1.length : Int) by omega)]
              repeat (apply And.intro; focus (first | omega | (simp; done)))
              refine Cal.mk (span26_v ok.lo ok.hi hb.1 hb.2) ?_
              rintro _ _ ⟨rfl, rfl⟩ -
              by_cases d1 : a ≤ x.1 + sizeN x.2 - 1
              · by_cases d2 : x.1 < first
                · simp (config := {maxSteps := 3000000}) only [go_sem, Nat.reduceEqDiff, Int.reduceNeg, ↓reduceIte, Nat.reduceBEq, h9, h7, h6, decide_eq_true d1, decide_eq_true d2]
                  repeat (apply And.intro; focus (first | omega | (simp; done)))
                  exact ⟨⟨j + 1, x.1, _, by omega, by simp, rfl, rfl, hF.take hx d1 d2⟩, by omega⟩
                · simp (config := {maxSteps := 3000000}) only [go_sem, Nat.reduceEqDiff, Int.reduceNeg, ↓reduceIte, Nat.reduceBEq, h9, h7, h8, h6, decide_eq_true d1, decide_eq_false d2]
                  repeat (apply And.intro; focus (first | omega | (simp; done)))
                  exact ⟨⟨j + 1, first, last, by omega, by simp, rfl, rfl, hF.skip hx (fun h => d2 h.2) ok⟩, by omega⟩
              · simp (config := {maxSteps := 3000000}) only [go_sem, Nat.reduceEqDiff, Int.reduceNeg, ↓reduceIte, Nat.reduceBEq, h9, h7, h8, h6, decide_eq_false d1]
                repeat (apply And.intro; focus (first | omega | (simp; done)))
                exact ⟨⟨j + 1, first, last, by omega, by simp, rfl, rfl, hF.skip hx (fun h => d1 h.1) ok⟩, by omega⟩
            · obtain rfl : j = L1.length := by omega
              by_cases c4 : last < 0
              · simp (config := {maxSteps := 3000000}) only [go_sem, Nat.reduceEqDiff, Int.reduceNeg, ↓reduceIte, Nat.reduceBEq, h9, h8, h3, h4, pfs_len, decide_eq_true c4]
                exact ⟨_, _, Wk.no, weak_tr W1 R.weak, ⟨out, rfl, hM.can, hM.end' hF c4⟩, rfl⟩
              · have hfill := hF.filled hok1 c4
                have hlo := hF.lo hM c4
                have hnn := hF.nn hok1
                have hla : a ≤ last := by
                  rcases hF with ⟨_, h2, _⟩ | ⟨p, q1, q2, q3, q4, q5⟩
                  · omega
                  · exact q4
                simp (config := {maxSteps := 3000000}) only [go_sem, Nat.reduceEqDiff, Int.reduceNeg, ↓reduceIte, Nat.reduceBEq, h9, h8, h4, pfs_len, decide_eq_false c4]
                refine run_loop [8, 12, 13, 14, 15, 63, 64, 65, 66, 67, 68, 69, 70, 71, 72, 73, 74, 75, 76, 77, 78, 79, 80, 81, 82, 83, 84, 85, 86, 87] (fun E s3 => ∃ (l2 : Int) (g : Bool), last ≤ l2 ∧ E 12 = .sc (.bool g) ∧ E 8 = .sc (.int .i64 l2) ∧ Filled L1 first l2 ∧ (g = false → ∀ p ∈ L1, ¬ (p.1 ≤ l2 + 1 ∧ l2 < p.1 + sizeN p.2 - 1)) ∧ s3 = s2)
                  (fun E _ => match E 12, E 8 with | .sc (.bool true), .sc (.int _ n) => (4294967296 - n).toNat + 1 | _, _ => 0) rfl ?_ ?_
                · exact ⟨last, true, by omega, rfl, h8, hfill, fun h => (by cases h), rfl⟩
                · rintro E s3 ⟨l2, g, hl2, h12, h8b, hG, hgE, rfl⟩
                  cases g
                  · have hend := hgE rfl
                    have hfa : ¬ first < a := by omega
                    have hlt2 := hG.2.1
                    simp (config := {maxSteps := 3000000}) only [go_sem, Nat.reduceEqDiff, Int.reduceNeg, ↓reduceIte, Nat.reduceBEq, h12, h8b, h7, h6, h3, decide_eq_false hfa]
                    refine Cal.mk (refCover_v hnn hlt2) ?_
                    rintro _ _ ⟨rfl, rfl⟩ -
                    have hcl := cover_len _ first l2 rfl
                    simp (config := {maxSteps := 3000000}) only [go_sem, Nat.reduceEqDiff, Int.reduceNeg, ↓reduceIte]
                    refine App.mk (bytes := 16) (l := pfs out) (ys := pfs (coverL first l2)) R.own (allSz_pfs _) (by simp only [pfs_len, maxLen]; omega) (by simp only [pfs_len]; omega) ?_
                    intro r2 s4 k1 k2
                    have R2 := R.app k1 k2
                    rw [pfs_append] at R2
                    simp (config := {maxSteps := 3000000}) only [go_sem, Nat.reduceEqDiff, Int.reduceNeg, ↓reduceIte, Nat.reduceBEq, h8b]
                    repeat (apply And.intro; focus (first | omega | (simp; done)))
                    exact ⟨⟨l2 + 1, _, _, by omega, rfl, rfl, R2, hM.step hok1 hF c4 hG hend⟩, by omega⟩
                  · simp (config := {maxSteps := 3000000}) only [go_sem, Int.reduceNeg, ↓reduceIte, Nat.reduceBEq, h12, h8b]
                    refine run_loop [8, 12, 13, 14, 15, 64, 65, 66, 67, 68, 69, 70, 71, 72, 73, 74, 75, 76, 77, 78, 79, 80, 81, 82, 83, 84, 85, 86, 87] (fun F s4 => ∃ (k : Nat) (l3 : Int) (g : Bool), k ≤ L1.length ∧ last ≤ l3 ∧ F 13 = .sc (.int .i64 k) ∧ F 12 = .sc (.bool g) ∧ F 8 = .sc (.int .i64 l3) ∧ Filled L1 first l3 ∧ (g = true → l2 < l3) ∧
                      (g = false → l3 = l2 ∧ ∀ (j : Nat) (p : Pfx), j < k → L1[j]? = some p → ¬ (p.1 ≤ l2 + 1 ∧ l2 < p.1 + sizeN p.2 - 1)) ∧ s4 = s3) (fun F _ => L1.length - vnat (F 13)) rfl ?_ ?_
                    · exact ⟨0, l2, false, by omega, hl2, rfl, rfl, h8b, hG, fun h => (by cases h), fun _ => ⟨rfl, fun j p hj => by omega⟩, rfl⟩
                    · rintro F s4 ⟨k, l3, g, hk, hl3, h13, h12b, h8c, hG3, hgt, hgf, rfl⟩
                      by_cases c5 : k < L1.length
                      · obtain ⟨x, hx⟩ := get_ex c5
                        have hxm := List.mem_of_getElem? hx
                        have ok := hok1 x hxm
                        have hb := ok.bits
                        have hlt3 := hG3.2.1
                        simp (config := {maxSteps := 3000000}) only [go_sem, Nat.reduceEqDiff, Nat.reduceAdd, Nat.reduceLeDiff, Int.reduceNeg, ↓reduceIte, Nat.reduceBEq, h13, h4, pfs_len, pfs_get hx, decide_eq_true (show (k : Int) < (L1.length : Int) by omega)]
                        repeat (apply And.intro; focus (first | omega | (simp; done)))
                        refine Cal.mk (span26_v ok.lo ok.hi hb.1 hb.2) ?_
                        rintro _ _ ⟨rfl, rfl⟩ -
                        have skip : ¬ (x.1 ≤ l3 + 1 ∧ l3 < x.1 + sizeN x.2 - 1) → g = false → l3 = l2 ∧ ∀ (j : Nat) (p : Pfx), j < k + 1 → L1[j]? = some p → ¬ (p.1 ≤ l2 + 1 ∧ l2 < p.1 + sizeN p.2 - 1) := fun hn hg => by
                          obtain ⟨e1, e2⟩ := hgf hg
                          refine ⟨e1, fun j p hj hp => ?_⟩
                          by_cases e : j = k
                          · subst e; rw [hx] at hp; cases hp; rw [← e1]; exact hn
                          · exact e2 j p (by omega) hp
                        by_cases d1 : x.1 ≤ l3 + 1
                        · by_cases d2 : l3 < x.1 + sizeN x.2 - 1
                          · have hl23 : l2 ≤ l3 := by
                              cases g
                              · exact Int.le_of_eq (hgf rfl).1.symm
                              · have := hgt rfl; omega
                            simp (config := {maxSteps := 3000000}) only [go_sem, Nat.reduceEqDiff, Int.reduceNeg, ↓reduceIte, Nat.reduceBEq, h13, h8c, decide_eq_true d1, decide_eq_true d2]
                            repeat (apply And.intro; focus (first | omega | (simp; done)))
                            exact ⟨⟨k + 1, _, true, by omega, by omega, by simp, rfl, rfl, hG3.grow hok1 hxm d1 d2, fun _ => by omega, fun h => by cases h⟩, by omega⟩
                          · simp (config := {maxSteps := 3000000}) only [go_sem, Nat.reduceEqDiff, Int.reduceNeg, ↓reduceIte, Nat.reduceBEq, h13, h12b, h8c, decide_eq_true d1, decide_eq_false d2]
                            repeat (apply And.intro; focus (first | omega | (simp; done)))
                            exact ⟨⟨k + 1, l3, g, by omega, hl3, by simp, rfl, rfl, hG3, hgt, skip (fun h => d2 h.2)⟩, by omega⟩
                        · simp (config := {maxSteps := 3000000}) only [go_sem, Nat.reduceEqDiff, Int.reduceNeg, ↓reduceIte, Nat.reduceBEq, h13, h12b, h8c, decide_eq_false d1]
                          repeat (apply And.intro; focus (first | omega | (simp; done)))
                          exact ⟨⟨k + 1, l3, g, by omega, hl3, by simp, rfl, rfl, hG3, hgt, skip (fun h => d1 h.1)⟩, by omega⟩
                      · obtain rfl : k = L1.length := by omega
                        have hlt3 := hG3.2.1
                        simp (config := {maxSteps := 3000000}) only [go_sem, Nat.reduceEqDiff, Int.reduceNeg, ↓reduceIte, Nat.reduceBEq, h13, h12b, h8c, h4, pfs_len]
                        refine ⟨⟨l3, g, hl3, rfl, rfl, hG3, fun hg p hp => ?_⟩, ?_⟩
                        · obtain ⟨e1, e2⟩ := hgf hg
                          obtain ⟨j, hj⟩ := List.mem_iff_getElem?.1 hp
                          rw [e1]
                          exact e2 j p (List.getElem?_eq_some_iff.1 hj).1 hj
                        · cases g
                          · simp
                          · have := hgt rfl
                            simp only
                            omega
        · simp (config := {maxSteps := 3000000}) only [go_sem, Nat.reduceEqDiff, Int.reduceNeg, ↓reduceIte, Nat.reduceBEq, h6, h3, decide_eq_false c2]
          exact ⟨_, _, Wk.no, weak_tr W1 R.weak, ⟨out, rfl, hM.can, hM.all hok1 (by omega)⟩, rfl⟩
end
end
section
open Go

section
variable {st : St} {a : Int} {tk : Tk} {L : List Pfx}
set_option maxRecDepth 100000 in
theorem eqPfx3_v {b1 n1 : Nat} {tk : Tk} {L : List Pfx} {s1 : List V} (h1 : st.box b1 = some (rowc pval L s1)) (m1 : mono (rowc pval L s1)) (hl : L.length < 4611686018427387904) :
    VCalls Try.prog 45 [dataV b1 L.length n1, .sl tk (pfs L)] st fun r s => r = .sc (.bool true) ∧ st = s := by
  refine vcalls_enter vc45 (Nat.le_of_ble_eq_true rfl) fun hwf hok => ?_
  show Run _ Vc45.body (.fin (finQ Vc45.res _)) _ _
  unfold Vc45
  simp (config := {maxSteps := 3000000}) only [go_sem, Nat.reduceEqDiff, ↓reduceIte, reduceCtorEq, dataV, pfs_len]
  refine run_loop [4, 5, 13, 14, 15, 16, 17, 18, 19, 20, 21, 22, 23, 24, 25] (fun B s => ∃ i : Nat, i ≤ L.length ∧ B 13 = .sc (.int .i64 i) ∧ s = st) (fun B _ => L.length - vnat (B 13)) rfl ?_ ?_
  · simp (config := {maxSteps := 3000000}) only [go_sem, ↓reduceIte]
    exact ⟨0, by omega, rfl⟩
  · rintro B s ⟨i, hi, h13, rfl⟩
    by_cases c1 : i < L.length
    · have hg : (pfs L)[i]? = some (.agg [.sc (.int .u32 L[i]!.1), .sc (.int .i64 L[i]!.2)]) := pfs_get (bang_get c1)
      simp (config := {maxSteps := 3000000}) only [go_sem, Nat.reduceEqDiff, Nat.reduceAdd, Nat.reduceLeDiff, Int.reduceNeg, ↓reduceIte, reduceCtorEq, Nat.reduceBEq, h13, h1, hg, rowc_get c1, rowc_len, m1, pval, fitsV, eqV, Bool.and_self, decide_eq_true (show (i : Int) < (L.length : Int) by omega)]
      repeat (apply And.intro; focus (first | omega | (simp; done)))
      exact ⟨⟨i + 1, by omega, by simp⟩, by omega⟩
    · simp (config := {maxSteps := 3000000}) only [go_sem, Nat.reduceEqDiff, ↓reduceIte, Nat.reduceBEq, h13, decide_eq_false (show ¬ (i : Int) < (L.length : Int) by omega)]
      exact ⟨_, _, Wk.refl _, hwf.weak, rfl, rfl⟩
set_option maxRecDepth 100000 in
theorem eqPfx4_v {t1 t2 : Tk} {L : List Pfx} (hl : L.length < 4611686018427387904) :
    VCalls Try.prog 45 [.sl t1 (pfs L), .sl t2 (pfs L)] st fun r s => r = .sc (.bool true) ∧ st = s := by
  refine vcalls_enter vc45 (Nat.le_of_ble_eq_true rfl) fun hwf hok => ?_
  show Run _ Vc45.body (.fin (finQ Vc45.res _)) _ _
  unfold Vc45
  simp (config := {maxSteps := 3000000}) only [go_sem, Nat.reduceEqDiff, ↓reduceIte, reduceCtorEq, pfs_len]
  refine run_loop [4, 5, 13, 14, 15, 16, 17, 18, 19, 20, 21, 22, 23, 24, 25] (fun B s => ∃ i : Nat, i ≤ L.length ∧ B 13 = .sc (.int .i64 i) ∧ s = st) (fun B _ => L.length - vnat (B 13)) rfl ?_ ?_
  · simp (config := {maxSteps := 3000000}) only [go_sem, ↓reduceIte]
    exact ⟨0, by omega, rfl⟩
  · rintro B s ⟨i, hi, h13, rfl⟩
    by_cases c1 : i < L.length
    · have hg : (pfs L)[i]? = some (.agg [.sc (.int .u32 L[i]!.1), .sc (.int .i64 L[i]!.2)]) := pfs_get (bang_get c1)
      simp (config := {maxSteps := 3000000}) only [go_sem, Nat.reduceEqDiff, Nat.reduceAdd, Nat.reduceLeDiff, Int.reduceNeg, ↓reduceIte, reduceCtorEq, Nat.reduceBEq, h13, hg, fitsV, eqV, Bool.and_self, decide_eq_true (show (i : Int) < (L.length : Int) by omega)]
      repeat (apply And.intro; focus (first | omega | (simp; done)))
      exact ⟨⟨i + 1, by omega, by simp⟩, by omega⟩
    · simp (config := {maxSteps := 3000000}) only [go_sem, Nat.reduceEqDiff, ↓reduceIte, Nat.reduceBEq, h13, decide_eq_false (show ¬ (i : Int) < (L.length : Int) by omega)]
      exact ⟨_, _, Wk.refl _, hwf.weak, rfl, rfl⟩
theorem cover_ex : coverL 167772161 167772164 = [(167772161, 32), (167772162, 31), (167772164, 32)] := by decide
set_option maxRecDepth 100000 in
theorem alive26_v : VCalls Try.prog 60 [] st fun r s => r = .sc (.bool true) ∧ st = s := by
  refine vcalls_enter vc60 (Nat.le_of_ble_eq_true rfl) fun hwf hok => ?_
  show Run _ Vc60.body (.fin (finQ Vc60.res _)) _ _
  unfold Vc60
  simp (config := {maxSteps := 3000000}) only [go_sem]
  refine Cal.mk (cCover_v (f := 167772161) (t := 167772164) (by omega) (by omega) (by omega)) ?_
  rintro _ _ ⟨rfl, rfl⟩ -
  rw [cover_ex]
  simp (config := {maxSteps := 3000000}) only [go_sem, Nat.reduceEqDiff, Nat.reduceAdd, Nat.reduceLT, Nat.reduceLeDiff, ↓reduceIte]
  refine Bo.own (by simp [allLen, V.cells]) ?_
  intro g hg
  simp (config := {maxSteps := 3000000}) only [go_sem, Nat.reduceEqDiff, Nat.reduceAdd, ↓reduceIte]
  refine Cal.mk (eqPfx4_v (t1 := .no) (t2 := .own g 2) (L := [(167772161, 32), (167772162, 31), (167772164, 32)]) (by simp)) ?_
  rintro _ _ ⟨rfl, rfl⟩ -
  simp (config := {maxSteps := 3000000}) only [go_sem, ↓reduceIte]
  exact ⟨_, _, Wk.refl _, weak_use hwf.weak hg, rfl, rfl⟩
def hasAny (L : List Pfx) (a : Int) : Bool := L.any fun x => hasB x.1 x.2 a
theorem hasAny_un {L : List Pfx} (h : ∀ p ∈ L, OkP p) (a : Int) : hasAny L a = true ↔ Un L a := by
  unfold hasAny Un
  simp only [List.any_eq_true]
  exact ⟨fun ⟨p, hp, h1⟩ => ⟨p, hp, (has_in (h p hp) a).1 h1⟩, fun ⟨p, hp, h1⟩ => ⟨p, hp, (has_in (h p hp) a).2 h1⟩⟩
theorem hasAny_filter (L : List Pfx) (a : Int) : hasAny (L.filter fun x => rightB x.1 x.2) a = hasAny L a := by
  unfold hasAny
  rw [List.any_filter]
  congr 1
  funext x
  unfold hasB
  cases rightB x.1 x.2 <;> rfl
set_option maxRecDepth 100000 in
set_option maxHeartbeats 16000000 in
theorem cidrMerges_v (a0 : 0 ≤ a) (a1 : a < 4294967296) (hA : ∀ x ∈ L, 0 ≤ x.1 ∧ x.1 < 4294967296) : VCalls Try.prog 9 [.sl .nn (pfs L), .sc (.int .u32 a)] st fun r s => r = .sc (.bool true) ∧ st = s := by
  have bE : ∀ x : Bool, (x == x) = true := fun x => by cases x <;> rfl
  refine vcalls_enter vc9 (Nat.le_of_ble_eq_true rfl) fun hwf hok => ?_
  show Run _ Vc9.body (.fin (finQ Vc9.res _)) _ _
  unfold Vc9
  have hcm := vlen_max (hok (.sl .nn (pfs L)) (by simp))
  rw [pfs_len] at hcm
  by_cases g1 : 30 < L.length
  · simp (config := {maxSteps := 3000000}) only [go_sem, ↓reduceIte, reduceCtorEq, pfs_len, decide_eq_true (show (30 : Int) < (L.length : Int) by omega)]
    exact ⟨_, _, Wk.refl _, hwf.weak, rfl, rfl⟩
  simp (config := {maxSteps := 3000000}) only [go_sem, ↓reduceIte, reduceCtorEq, pfs_len, decide_eq_false (show ¬ (30 : Int) < (L.length : Int) by omega)]
  refine Cal.mk (mrg26_v (by omega) hA) ?_
  rintro _ s1 ⟨ob, cap, out, sp, rfl, R, hcan, hun⟩ -
  have hol0 : out.length ≤ 4294967296 := by
    have := gap_len out 0 4294967296 hcan.gap (fun p hp => ⟨(hcan.ok p hp).lo, (hcan.ok p hp).top⟩) (by omega)
    omega
  simp (config := {maxSteps := 3000000}) only [go_sem, ↓reduceIte, dataV]
  refine run_loop [6, 8, 15, 16, 17, 18, 19, 20, 21, 22, 23, 24, 25, 26, 27, 28, 29] (fun B s => ∃ i : Nat, i ≤ L.length ∧ B 8 = .sc (.int .i64 i) ∧ B 6 = .sc (.bool (hasAny (L.take i) a)) ∧ s = s1) (fun B _ => L.length - vnat (B 8)) rfl ?_ ?_
  · exact ⟨0, by omega, rfl, rfl, rfl⟩
  · rintro B s ⟨i, hi, h8, h6, rfl⟩
    by_cases c1 : i < L.length
    · obtain ⟨x, hx⟩ := get_ex c1
      obtain ⟨x0, x1⟩ := hA x (List.mem_of_getElem? hx)
      have htk : hasAny (L.take (i + 1)) a = (hasAny (L.take i) a || hasB x.1 x.2 a) := by
        unfold hasAny
        rw [List.take_add_one, hx, List.any_append]
        simp
      cases hh : hasAny (L.take i) a
      · rw [hh] at h6 htk
        simp (config := {maxSteps := 3000000}) only [go_sem, Nat.reduceEqDiff, Nat.reduceAdd, Nat.reduceLeDiff, ↓reduceIte, reduceCtorEq, Nat.reduceBEq, h8, h6, pfs_len, pfs_get hx, decide_eq_true (show (i : Int) < (L.length : Int) by omega)]
        repeat (apply And.intro; focus (first | omega | (simp; done)))
        refine Cal.mk (has26_v x0 x1 a0 a1) ?_
        rintro _ _ ⟨rfl, rfl⟩ -
        simp (config := {maxSteps := 3000000}) only [go_sem, Nat.reduceEqDiff, Int.reduceNeg, ↓reduceIte, Nat.reduceBEq, h8]
        repeat (apply And.intro; focus (first | omega | (simp; done)))
        exact ⟨⟨i + 1, by omega, by simp, by rw [htk, Bool.false_or]⟩, by omega⟩
      · rw [hh] at h6 htk
        simp (config := {maxSteps := 3000000}) only [go_sem, Nat.reduceEqDiff, Int.reduceNeg, ↓reduceIte, reduceCtorEq, Nat.reduceBEq, h8, h6, pfs_len, decide_eq_true (show (i : Int) < (L.length : Int) by omega)]
        repeat (apply And.intro; focus (first | omega | (simp; done)))
        exact ⟨⟨i + 1, by omega, by simp, by rw [htk, Bool.true_or]⟩, by omega⟩
    · obtain rfl : i = L.length := by omega
      rw [List.take_length] at h6
      simp (config := {maxSteps := 3000000}) only [go_sem, Nat.reduceEqDiff, ↓reduceIte, reduceCtorEq, Nat.reduceBEq, h8, pfs_len]
      refine run_loop [7, 9, 30, 31, 32, 33, 34, 35, 36, 37, 38, 39, 40, 41, 42, 43, 44] (fun C s' => ∃ j : Nat, j ≤ out.length ∧ C 9 = .sc (.int .i64 j) ∧ C 7 = .sc (.bool (hasAny (out.take j) a)) ∧ s' = s) (fun C _ => out.length - vnat (C 9)) rfl ?_ ?_
      · exact ⟨0, by omega, rfl, rfl, rfl⟩
      · rintro C s' ⟨j, hj, h9, h7, rfl⟩
        by_cases c2 : j < out.length
        · have hgo := rowc_get (val := pval) (L := out) (sp := sp) (i := j) c2
          have hx : out[j]? = some out[j]! := bang_get c2
          have ok := hcan.ok _ (List.mem_of_getElem? hx)
          obtain ⟨x, hxe⟩ : ∃ x, x = out[j]! := ⟨_, rfl⟩
          rw [← hxe] at hx ok hgo
          have htk : hasAny (out.take (j + 1)) a = (hasAny (out.take j) a || hasB x.1 x.2 a) := by
            unfold hasAny
            rw [List.take_add_one, hx, List.any_append]
            simp
          cases hh : hasAny (out.take j) a
          · rw [hh] at h7 htk
            simp (config := {maxSteps := 3000000}) only [go_sem, Nat.reduceEqDiff, ↓reduceIte, Nat.reduceBEq, h9, h7, R.box, hgo, rowc_len, R.mono, pval, decide_eq_true (show (j : Int) < (out.length : Int) by omega)]
            repeat (apply And.intro; focus (first | omega | (simp; done)))
            refine Cal.mk (has26_v ok.lo ok.hi a0 a1) ?_
            rintro _ _ ⟨rfl, rfl⟩ -
            simp (config := {maxSteps := 3000000}) only [go_sem, Nat.reduceEqDiff, Int.reduceNeg, ↓reduceIte, Nat.reduceBEq, h9]
            repeat (apply And.intro; focus (first | omega | (simp; done)))
            exact ⟨⟨j + 1, by omega, by simp, by rw [htk, Bool.false_or]⟩, by omega⟩
          · rw [hh] at h7 htk
            simp (config := {maxSteps := 3000000}) only [go_sem, Nat.reduceEqDiff, Int.reduceNeg, ↓reduceIte, Nat.reduceBEq, h9, h7, decide_eq_true (show (j : Int) < (out.length : Int) by omega)]
            repeat (apply And.intro; focus (first | omega | (simp; done)))
            exact ⟨⟨j + 1, by omega, by simp, by rw [htk, Bool.true_or]⟩, by omega⟩
        · obtain rfl : j = out.length := by omega
          rw [List.take_length] at h7
          have hL1 : ∀ p ∈ L.filter (fun x => rightB x.1 x.2), OkP p := fun p hp => by
            obtain ⟨h1, h2⟩ := List.mem_filter.1 hp
            exact ⟨(hA p h1).1, (hA p h1).2, h2⟩
          have hsame : hasAny L a = hasAny out a := by
            rw [← hasAny_filter L, Bool.eq_iff_iff, hasAny_un hL1, hasAny_un hcan.ok, hun a]
          simp (config := {maxSteps := 3000000}) only [go_sem, Nat.reduceEqDiff, ↓reduceIte, reduceCtorEq, Nat.reduceBEq, h9, h7, h6, hsame, bE]
          refine Cal.mk (refMerge_v (by omega) hA) ?_
          rintro _ _ ⟨⟨out2, rfl, hcan2, hun2⟩, rfl⟩ -
          have e : out2 = out := hcan2.uniq hcan (fun x => by rw [hun2, hun])
          subst e
          have hol : out2.length < 4611686018427387904 := by omega
          simp (config := {maxSteps := 3000000}) only [go_sem, Nat.reduceEqDiff, ↓reduceIte]
          have cc := eqPfx3_v (n1 := cap) (tk := .no) R.box R.mono hol
          rw [dataV] at cc
          refine Cal.mk cc ?_
          rintro _ _ ⟨rfl, rfl⟩ -
          simp (config := {maxSteps := 3000000}) only [go_sem, Nat.reduceEqDiff, ↓reduceIte]
          refine Cal.mk alive26_v ?_
          rintro _ _ ⟨rfl, rfl⟩ -
          simp (config := {maxSteps := 3000000}) only [go_sem, Nat.reduceEqDiff, ↓reduceIte]
          exact ⟨_, _, Wk.refl _, R.weak, rfl, rfl⟩
set_option maxRecDepth 100000 in
set_option maxHeartbeats 4000000 in
theorem cidrMerges0_v : VCalls Try.prog 9 [.sl .nil [], .sc (.int .u32 a)] st fun r s => r = .sc (.bool true) ∧ st = s := by
  have nc0 : ((0 : Nat) : Int) = 0 := rfl
  have bT : (false == false) = true := rfl
  refine vcalls_enter vc9 (Nat.le_of_ble_eq_true rfl) fun hwf hok => ?_
  show Run _ Vc9.body (.fin (finQ Vc9.res _)) _ _
  unfold Vc9
  simp (config := {maxSteps := 3000000}) only [go_sem, Int.reduceLT, ↓reduceIte, reduceCtorEq, nc0]
  refine Cal.mk mrg260_v ?_
  rintro _ _ ⟨rfl, rfl⟩ -
  simp (config := {maxSteps := 3000000}) only [go_sem, ↓reduceIte]
  refine run_loop [6, 8, 15, 16, 17, 18, 19, 20, 21, 22, 23, 24, 25, 26, 27, 28, 29] (fun B s => B 8 = .sc (.int .i64 0) ∧ B 6 = .sc (.bool false) ∧ s = st) (fun B _ => 0) rfl ?_ ?_
  · exact ⟨rfl, rfl, rfl⟩
  · rintro B s ⟨h8, h6, rfl⟩
    simp (config := {maxSteps := 3000000}) only [go_sem, Nat.reduceEqDiff, ↓reduceIte, reduceCtorEq, Nat.reduceBEq, h8, nc0]
    refine run_loop [7, 9, 30, 31, 32, 33, 34, 35, 36, 37, 38, 39, 40, 41, 42, 43, 44] (fun C s' => C 9 = .sc (.int .i64 0) ∧ C 7 = .sc (.bool false) ∧ s' = s) (fun C _ => 0) rfl ?_ ?_
    · exact ⟨rfl, rfl, rfl⟩
    · rintro C s' ⟨h9, h7, rfl⟩
      simp (config := {maxSteps := 3000000}) only [go_sem, Nat.reduceEqDiff, ↓reduceIte, reduceCtorEq, Nat.reduceBEq, h9, h7, h6, nc0, bT]
      refine Cal.mk (refMerge_v (L := []) (by simp) (fun x hx => by cases hx)) ?_
      rintro _ _ ⟨⟨out2, rfl, hcan2, hun2⟩, rfl⟩ -
      have e : out2 = [] := hcan2.uniq .nil (fun x => by rw [hun2]; rfl)
      subst e
      simp (config := {maxSteps := 3000000}) only [go_sem, Nat.reduceEqDiff, ↓reduceIte]
      refine Cal.mk (eqPfx4_v (t1 := .nil) (t2 := .no) (L := []) (by simp)) ?_
      rintro _ _ ⟨rfl, rfl⟩ -
      simp (config := {maxSteps := 3000000}) only [go_sem, Nat.reduceEqDiff, ↓reduceIte]
      refine Cal.mk alive26_v ?_
      rintro _ _ ⟨rfl, rfl⟩ -
      simp (config := {maxSteps := 3000000}) only [go_sem, Nat.reduceEqDiff, ↓reduceIte]
      exact ⟨_, _, Wk.refl _, hwf.weak, rfl, rfl⟩
end
end
section
open Go Go.RowKit

/-- The call hands back v, and nothing that was there has turned. -/
def Pure (w : World) (v : Value) (e : Ending) (w' : World) : Prop := e = .returned v ∧ Below w.heap.size w w'

theorem ret_int {k : IntKind} {a b : Int} (h : a = b) : Ending.returned (.int k a) = .returned (.int k b) := by rw [h]
theorem ret_bool {a b : Bool} (h : a = b) : Ending.returned (.bool a) = .returned (.bool b) := by rw [h]
theorem bcell {W w1 : World} (hb : Below W.heap.size W w1) : (∀ b o, b < W.heap.size → w1.cell? ⟨b, o, none⟩ = W.cell? ⟨b, o, none⟩) ∧ (∀ b o, b < W.heap.size → w1.frozen? ⟨b, o, none⟩ = W.frozen? ⟨b, o, none⟩) :=
  ⟨fun b o h => hb.cell (p := ⟨b, o, none⟩) h, fun b o h => hb.frozen (p := ⟨b, o, none⟩) h⟩
theorem lt_of_cell {w : World} {a : Addr} {v : Value} (h : w.cell? a = some v) : a.block < w.heap.size := by
  rcases Nat.lt_or_ge a.block w.heap.size with hlt | hge
  · exact hlt
  · simp [World.cell?, Array.getElem?_eq_none hge] at h
theorem keep_cell {w w1 : World} {a : Addr} {v : Value} (h : w.cell? a = some v) (hb : Below w.heap.size w w1) : w1.cell? a = some v := (hb.cell (lt_of_cell h)).trans h
theorem below_on {a w w1 : World} (h : Below a.heap.size a w) (h1 : Below w.heap.size w w1) : Below a.heap.size a w1 := h.trans (h1.mono h.size)
theorem below_new {w w1 : World} {o : Obj} (h1 : Below (w.alloc o).heap.size (w.alloc o) w1) : Below w.heap.size w w1 := below_on ((Below.refl _ _).alloc (Nat.le_refl _) _) h1

/-! ### A region that draws its order, whose operations read and whose callees at most make new memory: one walk, in the order of the text -/

structure More where
  blocks : List Obj
  count : Nat
instance : Nonempty More := ⟨⟨[], 0⟩⟩

/-- The world w with new blocks behind, at another count of draws. -/
def ext (w : World) (e : More) : World := { w with heap := w.heap ++ e.blocks.toArray, drawn := e.count }
theorem below_ext (w : World) (e : More) : Below w.heap.size w (ext w e) :=
  ⟨rfl, rfl, rfl, by simp [ext], fun k hk => by simp [ext, Array.getElem?_append, hk]⟩
theorem ext_of_below {w w' : World} (h : Below w.heap.size w w') : ∃ e, w' = ext w e := by
  refine ⟨⟨(w'.heap.toList.drop w.heap.size), w'.drawn⟩, ?_⟩
  obtain ⟨h1, h2, h3, h4, h5⟩ := h
  cases w with | mk hp tp dr os out =>
  cases w' with | mk hp' tp' dr' os' out' =>
  simp only at h1 h2 h3 h4 h5
  subst h1 h2 h3
  simp only [ext, World.mk.injEq, and_true]
  apply Array.ext_getElem?
  intro i
  rw [Array.getElem?_append]
  split
  · rename_i hi; exact h5 i hi
  · rename_i hi
    simp only [List.getElem?_toArray, List.getElem?_drop, Array.getElem?_toList]
    congr 1
    omega
theorem calm_of {P : Program} {f : FuncId} {args : Array Value} {w : World} {e : More} {v : Value} (h : Calls P f args (ext w e) (Pure (ext w e) v)) :
    Calls P f args (ext w e) fun en w'' => en = .returned v ∧ ∃ e2, w'' = ext w e2 :=
  h.mono fun _ _ ⟨he, hb⟩ => ⟨he, ext_of_below (below_on (below_ext w e) hb)⟩
theorem calm_same {P : Program} {f : FuncId} {args : Array Value} {w : World} {e : More} {v : Value} (h : Calls P f args (ext w e) fun en w' => en = .returned v ∧ ext w e = w') :
    Calls P f args (ext w e) fun en w'' => en = .returned v ∧ ∃ e2, w'' = ext w e2 :=
  h.mono fun _ _ ⟨he, hb⟩ => ⟨he, e, hb.symm⟩

/-- The cells of a list are there. -/
def Holds (w : World) (L : List (Addr × Value)) : Prop := ∀ p ∈ L, w.cell? p.1 = some p.2
theorem Holds.keep {w w1 : World} {L : List (Addr × Value)} (h : Holds w L) (hb : Below w.heap.size w w1) : Holds w1 L := fun p hp => keep_cell (h p hp) hb
theorem Holds.cons {w : World} {a : Addr} {v : Value} {L : List (Addr × Value)} : Holds w ((a, v) :: L) ↔ w.cell? a = some v ∧ Holds w L := by
  simp [Holds]
theorem Holds.nil {w : World} : Holds w [] ↔ True := by simp [Holds]

theorem Holds.append {w : World} {L M : List (Addr × Value)} (h : Holds w L) (h' : Holds w M) : Holds w (L ++ M) := by
  intro p hp
  rcases List.mem_append.1 hp with hp | hp
  · exact h p hp
  · exact h' p hp

/-- The cells cs, one behind the other, from place o of block b on. -/
def elemL (b o : Nat) : List Value → List (Addr × Value)
  | [] => []
  | v :: cs => (⟨b, o, none⟩, v) :: elemL b (o + 1) cs
theorem elemL_holds {w : World} {b : Nat} : ∀ (cs : List Value) (o : Nat), (∀ j v, cs[j]? = some v → w.cell? ⟨b, o + j, none⟩ = some v) → Holds w (elemL b o cs)
  | [], _, _ => by simp [elemL, Holds]
  | v :: cs, o, h => by
    rw [elemL, Holds.cons]
    refine ⟨by simpa using h 0 v rfl, elemL_holds cs (o + 1) fun j u hu => ?_⟩
    rw [show o + 1 + j = o + (j + 1) from by omega]
    exact h (j + 1) u (by simpa using hu)
/-- A new block holds what it was made of. -/
theorem elemL_new (w : World) (cs : Array Value) (t : TypeId) : Holds (w.alloc (.cells cs t)) (elemL w.heap.size 0 cs.toList) :=
  elemL_holds _ _ fun j v hv => by
    simp only [World.cell?, World.alloc, Nat.zero_add, Array.getElem?_push_size]
    simpa using hv

/-- A slice whose elements (each of 'size' cells) are these. -/
def Elems (w : World) (A : Option Addr) (size : Nat) (xs : List (List Value)) : Prop :=
  ∀ i cs, xs[i]? = some cs → ∃ b o, A = some ⟨b, o, none⟩ ∧ Holds w (elemL b (o + i * size) cs)
theorem Elems.keep {w w1 : World} {A : Option Addr} {size : Nat} {xs : List (List Value)} (h : Elems w A size xs) (hb : Below w.heap.size w w1) : Elems w1 A size xs := fun i cs hi => by
  obtain ⟨b, o, hA, hh⟩ := h i cs hi
  exact ⟨b, o, hA, hh.keep hb⟩

/-- The place of the first that is so; below 0: there is none. -/
def firstI {α : Type} (h : α → Bool) (l : List α) : Int := match l.findIdx? h with | some i => (i : Int) | none => -1
theorem firstI_at {α : Type} {h : α → Bool} {l : List α} {k : Nat} (hk : k < l.length) (hf : ∀ j, j < k → ∀ x, l[j]? = some x → h x = false) (ht : h l[k] = true) : firstI h l = k := by
  have : l.findIdx? h = some k := by
    rw [List.findIdx?_eq_some_iff_getElem]
    refine ⟨hk, ht, fun j hj => ?_⟩
    have := hf j hj l[j] (List.getElem?_eq_getElem (by omega))
    simp [this]
  rw [firstI, this]
theorem firstI_none {α : Type} {h : α → Bool} {l : List α} (hf : ∀ (j : Nat) (x : α), l[j]? = some x → h x = false) : firstI h l = -1 := by
  have : l.findIdx? h = none := by
    rw [List.findIdx?_eq_none_iff]
    intro x hx
    obtain ⟨j, hj, rfl⟩ := List.mem_iff_getElem.1 hx
    exact hf j _ (List.getElem?_eq_getElem hj)
  rw [firstI, this]
theorem firstI_cases {α : Type} (h : α → Bool) (l : List α) : firstI h l = -1 ∨ ∃ k : Nat, ∃ hk : k < l.length, firstI h l = k ∧ h l[k] = true := by
  unfold firstI
  cases e : l.findIdx? h with
  | none => exact .inl rfl
  | some i =>
    rw [List.findIdx?_eq_some_iff_getElem] at e
    obtain ⟨hi, ht, _⟩ := e
    exact .inr ⟨i, hi, rfl, ht⟩

theorem wp_region_calm {P : Program} {id : Nat} {Q : Exit → Act → World → Prop} {a : Act} {w : World} {l : List Oper} (L : List (Addr × Value)) (hS : Holds w L) (hm : P.follows .mixedOrders = true) (hB : Region.lexB .any l.toArray = true)
    (h : (∀ e, Holds (ext w e) L) → wpQuiet P l.toArray (fun w' => ∃ e, w' = ext w e) (fun a' => ∀ w', Below w.heap.size w w' → Holds w' L → Q .normal a' w') l a) : (Code.region id l.toArray true).wp P Q a w := by
  refine wp_region_quiet (C := fun w' => ∃ e, w' = ext w e) hm hB ⟨⟨[], w.drawn + 1⟩, by simp [ext]⟩ ?_
  have h1 := h fun e => hS.keep (below_ext w e)
  have h2 : ∀ (l : List Oper) (ops : Array Oper) (Q1 Q2 : Act → Prop) (a : Act), (∀ a, Q1 a → Q2 a) → wpQuiet P ops (fun w' => ∃ e, w' = ext w e) Q1 l a → wpQuiet P ops (fun w' => ∃ e, w' = ext w e) Q2 l a := by
    intro l
    induction l with
    | nil => intro _ _ _ a hq h; exact hq _ h
    | cons o l ih =>
      intro ops Q1 Q2 a hq h
      simp only [wpQuiet] at h ⊢
      split at h
      · rename_i hw; rw [if_pos hw]; exact Oper.quiet_mono (fun a ha => ih ops Q1 Q2 a hq ha) h
      · rename_i hw; rw [if_neg hw]; exact ih ops Q1 Q2 _ hq h
  have h3 := h2 l l.toArray _ (fun a' => ∀ w', (∃ e, w' = ext w e) → Q .normal a' w') a (fun a ha w' ⟨e, he⟩ => by subst he; exact ha _ (below_ext w e) (hS.keep (below_ext w e))) h1
  simpa using h3
end
section
open Go Go.RowKit Go.ChangeShapes Go.WideShapes Go.Deep

section
variable {H : Type} {enc : TypeId × Value → H} {P : Program} {w : World} {base : Nat} {spare : Nat → Bool} {held : Bool} {fuel : Nat} {t : TypeId} {cs : List Value} {x : DataW H × List MemPlace}

theorem trod_len {fs : Array Field} (ht : P.underlying t = some (.struct fs)) (h : DataW.trod enc P w base spare held fuel t cs = some x) : cs.length = P.cellsOf t := by
  obtain ⟨_, _, _, _, hl, _⟩ := DataW.trod_struct ht h
  exact hl
theorem trod_field {fs : Array Field} (ht : P.underlying t = some (.struct fs)) (h : DataW.trod enc P w base spare held fuel t cs = some x) (j : Nat) (f : Field) (hj : fs[j]? = some f) :
    ∃ n y, DataW.trod enc P w base spare held n f.type ((cs.drop f.offset).take (P.cellsOf f.type)) = some y := by
  obtain ⟨xs, n, _, _, _, hlen, hf⟩ := DataW.trod_struct ht h
  have h1 := hf j f hj
  have hjl : j < xs.length := by rw [hlen]; exact (Array.getElem?_eq_some_iff.1 hj).1
  exact ⟨n, xs[j], h1.trans (List.getElem?_eq_getElem hjl)⟩
theorem take_one {cs : List Value} {o : Nat} {v : Value} (h : (cs.drop o).take 1 = [v]) : cs[o]? = some v := by
  have : ((cs.drop o).take 1)[0]? = some v := by rw [h]; rfl
  simpa using this
theorem field_int {fs : Array Field} (ht : P.underlying t = some (.struct fs)) (h : DataW.trod enc P w base spare held fuel t cs = some x) (j : Nat) (f : Field) (hj : fs[j]? = some f) {k : IntKind} (hu : P.underlying f.type = some (.int k)) (hc : P.cellsOf f.type = 1) :
    ∃ n, cs[f.offset]? = some (.int k n) ∧ (Lit.int k n).wf = true := by
  obtain ⟨n, y, hy⟩ := trod_field ht h j f hj
  rw [hc] at hy
  obtain ⟨m, e, _, hw⟩ := DataW.trod_int hu hy
  exact ⟨m, take_one e, hw⟩
theorem field_bool {fs : Array Field} (ht : P.underlying t = some (.struct fs)) (h : DataW.trod enc P w base spare held fuel t cs = some x) (j : Nat) (f : Field) (hj : fs[j]? = some f) (hu : P.underlying f.type = some .bool) (hc : P.cellsOf f.type = 1) :
    ∃ b, cs[f.offset]? = some (.bool b) := by
  obtain ⟨n, y, hy⟩ := trod_field ht h j f hj
  rw [hc] at hy
  obtain ⟨m, e, _⟩ := DataW.trod_bool hu hy
  exact ⟨m, take_one e⟩
theorem field_one {fs : Array Field} (ht : P.underlying t = some (.struct fs)) (h : DataW.trod enc P w base spare held fuel t cs = some x) (j : Nat) (f : Field) (hj : fs[j]? = some f) (hc : P.cellsOf f.type = 1) {v : Value} (hv : cs[f.offset]? = some v) :
    ∃ n y, DataW.trod enc P w base spare held n f.type [v] = some y := by
  obtain ⟨n, y, hy⟩ := trod_field ht h j f hj
  rw [hc] at hy
  have : (cs.drop f.offset).take 1 = [v] := by
    obtain ⟨hlt, e⟩ := List.getElem?_eq_some_iff.1 hv
    rw [List.drop_eq_getElem_cons hlt, e]
    rfl
  rw [this] at hy
  exact ⟨n, y, hy⟩
theorem field_sub {fs : Array Field} (ht : P.underlying t = some (.struct fs)) (h : DataW.trod enc P w base spare held fuel t cs = some x) (j : Nat) (f : Field) (hj : fs[j]? = some f) {n : Nat} (hc : P.cellsOf f.type = n) :
    ∃ m y, DataW.trod enc P w base spare held m f.type ((cs.drop f.offset).take n) = some y := by
  subst hc
  exact trod_field ht h j f hj

/-- A struct that comes by value: its cells. -/
theorem open_struct {r : Reach} {b0 : Nat} {v : Value} {d : DataW H} {p : List MemPlace} {fs : Array Field} (ht : P.underlying t = some (.struct fs)) (hv : Value.okWide P w r b0 t v) (h : DataW.Trod enc P w base spare held t v d p) :
    ∃ (cs : List Value) (fuel : Nat), v = .agg cs.toArray ∧ DataW.trod enc P w base spare held fuel t cs = some (d, p) := by
  obtain ⟨cs, rfl, _⟩ := okWide_struct ht hv
  obtain ⟨fuel, hf⟩ := h
  exact ⟨cs.toList, fuel, rfl, hf⟩

theorem list_of {α : Type} {Q : Nat → α → Prop} : ∀ (n : Nat), (∀ i, i < n → ∃ r, Q i r) → ∃ l : List α, l.length = n ∧ ∀ (i : Nat) (r : α), l[i]? = some r → Q i r
  | 0, _ => ⟨[], rfl, by simp⟩
  | n + 1, h => by
    obtain ⟨l, hl, hq⟩ := list_of n (fun i hi => h i (by omega))
    obtain ⟨r, hr⟩ := h n (by omega)
    refine ⟨l ++ [r], by simp [hl], fun i r' hi => ?_⟩
    rw [List.getElem?_append] at hi
    split at hi
    · exact hq i r' hi
    · rename_i hge
      obtain rfl : i = n := by
        have := (List.getElem?_eq_some_iff.1 hi).1
        simp at this
        omega
      simp [hl] at hi
      subst hi
      exact hr

/-- A slice that comes in: nil, or a row of elements each of which reads. -/
theorem open_elems {e : TypeId} {size : Nat} {v : Value} (ht : P.underlying t = some (.slice e)) (hc : P.cellsOf e = size) (hs : 0 < size) (h : DataW.trod enc P w base spare held fuel t [v] = some x) :
    ∃ A len cap, v = .slice A len cap ∧ len ≤ cap ∧ cap ≤ maxLen ∧ (A = none → len = 0 ∧ cap = 0) ∧
      ∀ i, i < len → ∃ b o cs n y, A = some ⟨b, o, none⟩ ∧ cs.length = size ∧ Holds w (elemL b (o + i * size) cs) ∧ DataW.trod enc P w base spare held n e cs = some y := by
  rcases open_slice ht h with ⟨e1, _⟩ | ⟨a, len, cap, m, n, D, Pl, e1, hb, hl, hm, hmm, _, hi⟩
  · cases e1
    exact ⟨none, 0, 0, rfl, by omega, by omega, fun _ => ⟨rfl, rfl⟩, fun i hi => by omega⟩
  · cases e1
    refine ⟨some a, len, cap, rfl, hl, hm, (by intro h; cases h), fun i hil => ?_⟩
    obtain ⟨cs', hcs, ht'⟩ := hi i (by rw [hmm]; split <;> omega)
    rw [hc] at hcs
    obtain ⟨_, hlen, hcell⟩ := World.cells?_some hcs
    have h0 := hcell 0 hs
    have hlt0 : 0 < cs'.length := by omega
    rw [List.getElem?_eq_getElem hlt0] at h0
    have hspot := World.cell?_spot h0
    obtain ⟨b, o, sp⟩ := a
    have hsp : sp = none := by
      by_cases hz : i * size = 0
      · simpa [Addr.add, hz] using hspot
      · rcases Nat.eq_zero_or_pos i with h0' | h0'
        · simp [h0'] at hz
        · obtain ⟨cs0, hcs0, _⟩ := hi 0 (by rw [hmm]; split <;> omega)
          rw [hc] at hcs0
          obtain ⟨_, hlen0, hcell0⟩ := World.cells?_some hcs0
          have h00 := hcell0 0 hs
          rw [List.getElem?_eq_getElem (by omega)] at h00
          simpa [Addr.add] using World.cell?_spot h00
    subst hsp
    refine ⟨b, o, cs', n, _, rfl, hlen, elemL_holds _ _ fun j u hu => ?_, ht'⟩
    have hj : j < size := by have := (List.getElem?_eq_some_iff.1 hu).1; omega
    have := (hcell j hj).trans hu
    have ea : ((⟨b, o, none⟩ : Addr).add (i * size)).add j = ⟨b, o + i * size + j, none⟩ := by
      unfold Addr.add
      by_cases h1 : i * size = 0 <;> by_cases h2 : j = 0 <;> simp [h1, h2]
    rwa [ea] at this
end
/-- An argument as the statement hands it in: a value of its type, that reads as data. (A structure, so that nothing looks into it.) -/
structure ArgIn {H : Type} (enc : TypeId × Value → H) (P : Program) (W : World) (base : Nat) (t : TypeId) (v : Value) (d : DataW H) (p : List MemPlace) : Prop where
  wide : Value.okWide P W .any base t v
  trod : DataW.Trod enc P W 0 (fun _ => true) true t v d p
section
variable {H : Type} {enc : TypeId × Value → H} {P : Program} {W : World} {base : Nat} {t : TypeId} {v : Value} {d : DataW H} {p : List MemPlace}
theorem ArgIn.slice {e : TypeId} (h : ArgIn enc P W base t v d p) (ht : P.underlying t = some (.slice e)) :
    ∃ A l c fuel, v = .slice A l c ∧ DataW.trod enc P W 0 (fun _ => true) true fuel t [.slice A l c] = some (d, p) := by
  obtain ⟨A, l, c, rfl⟩ := okWide_slice ht h.wide
  obtain ⟨fuel, hf⟩ := h.trod
  exact ⟨A, l, c, fuel, rfl, hf⟩
theorem ArgIn.struct {fs : Array Field} (h : ArgIn enc P W base t v d p) (ht : P.underlying t = some (.struct fs)) :
    ∃ (cs : List Value) (fuel : Nat), v = .agg cs.toArray ∧ DataW.trod enc P W 0 (fun _ => true) true fuel t cs = some (d, p) :=
  open_struct ht h.wide h.trod
theorem ArgIn.int {k : IntKind} (h : ArgIn enc P W base t v d p) (ht : P.underlying t = some (.int k)) : ∃ n, v = .int k n ∧ (Lit.int k n).wf = true := by
  obtain ⟨n, rfl, _, _, hw⟩ := open_int ht h.wide h.trod
  exact ⟨n, rfl, hw⟩
theorem ArgIn.bool (h : ArgIn enc P W base t v d p) (ht : P.underlying t = some .bool) : ∃ b, v = .bool b := by
  obtain ⟨b, rfl, _⟩ := open_bool ht h.wide h.trod
  exact ⟨b, rfl⟩
theorem ArgIn.string (h : ArgIn enc P W base t v d p) (ht : P.underlying t = some .string) : ∃ s : ByteArray, v = .string s ∧ s.size ≤ maxLen := by
  obtain ⟨s, rfl, _, _, hs⟩ := Go.ChangeMaps.open_string ht h.wide h.trod
  exact ⟨s, rfl, hs⟩
end
/-- A contract at arguments that are these. -/
theorem calls_args {P : Program} {f : FuncId} {args args' : Array Value} {W : World} {R : Ending → World → Prop} (h : Calls P f args W R) (e : args' = args) : Calls P f args' W R := e ▸ h
end
section
open Go Go.RowKit Go.ChangeShapes Go.WideShapes Go.Deep

theorem elemL_get {w : World} {b : Nat} : ∀ {cs : List Value} {o : Nat} (_ : Holds w (elemL b o cs)) {j : Nat} {v : Value} (_ : cs[j]? = some v), w.cell? ⟨b, o + j, none⟩ = some v
  | [], _, _, _, _, h => by simp at h
  | c :: cs, o, hh, j, v, h => by
    rw [elemL, Holds.cons] at hh
    cases j with
    | zero => simp at h; subst h; exact hh.1
    | succ j => rw [show o + (j + 1) = o + 1 + j by omega]; exact elemL_get hh.2 (by simpa using h)
/-- What a type is made of. -/
inductive Sh where
  | int (k : IntKind)
  | bool
  | str
  | sl (s : Sh)
  | st (l : List Sh)
def shFields (P : Program) (g : TypeId → Option Sh) : Nat → List Field → Option (List Sh)
  | _, [] => some []
  | o, f :: fs => if f.offset = o then do
      let s ← g f.type
      let l ← shFields P g (o + P.cellsOf f.type) fs
      pure (s :: l)
    else none
def fieldsEnd (P : Program) : Nat → List Field → Nat
  | o, [] => o
  | o, f :: fs => fieldsEnd P (o + P.cellsOf f.type) fs
def shOf (P : Program) : Nat → TypeId → Option Sh
  | 0, _ => none
  | n + 1, t => match P.underlying t with
    | some (.int k) => if P.cellsOf t = 1 then some (.int k) else none
    | some .bool => if P.cellsOf t = 1 then some .bool else none
    | some .string => if P.cellsOf t = 1 then some .str else none
    | some (.slice e) => if P.cellsOf t = 1 ∧ 0 < P.cellsOf e then (shOf P n e).map .sl else none
    | some (.struct fs) => if fieldsEnd P 0 fs.toList = P.cellsOf t then (shFields P (shOf P n) 0 fs.toList).map .st else none
    | some (.array k e) => if k * P.cellsOf e = P.cellsOf t then (shOf P n e).map fun s => .st (List.replicate k s) else none
    | _ => none
/-- An element as one value. -/
def Sh.pack : Sh → List V → V
  | .st _, ds => .agg ds
  | _, d :: _ => d
  | _, [] => .und
mutual
/-- Such values are of the shape. -/
inductive Sh.Has : Sh → List V → Prop where
  | int (k : IntKind) (n : Int) (h : (Lit.int k n).wf = true) : Sh.Has (.int k) [.sc (.int k n)]
  | bool (b : Bool) : Sh.Has .bool [.sc (.bool b)]
  | str (s : ByteArray) (h : s.size ≤ maxLen) : Sh.Has .str [.sc (.string s)]
  | sl (s : Sh) (l : List V) (h : Sh.Hasl s l) : Sh.Has (.sl s) [.sl .no l]
  | st (l : List Sh) (ds : List V) (h : Sh.Hass l ds) : Sh.Has (.st l) ds
inductive Sh.Hasl : Sh → List V → Prop where
  | nil (s : Sh) : Sh.Hasl s []
  | cons (s : Sh) (ds l : List V) (h : Sh.Has s ds) (k : Sh.Hasl s l) : Sh.Hasl s (s.pack ds :: l)
inductive Sh.Hass : List Sh → List V → Prop where
  | nil : Sh.Hass [] []
  | cons (s : Sh) (l : List Sh) (a b : List V) (h : Sh.Has s a) (k : Sh.Hass l b) : Sh.Hass (s :: l) (a ++ b)
end
theorem hasl_of {s : Sh} : ∀ (l : List V), (∀ d, d ∈ l → ∃ ds, d = s.pack ds ∧ Sh.Has s ds) → Sh.Hasl s l
  | [], _ => .nil s
  | d :: l, h => by
    obtain ⟨ds, rfl, hd⟩ := h d (List.mem_cons_self ..)
    exact .cons s ds l hd (hasl_of l fun e he => h e (List.mem_cons_of_mem _ he))
/-- The ghost that knows all of a world's cells. -/
def ghOf (w : World) : Gh := ⟨fun b o => w.cell? ⟨b, o, none⟩, fun _ => none⟩
/-- Values stand for these cells. -/
def RepR (G : Gh) (ds : List V) (cs : List Value) : Prop := ds.length = cs.length ∧ (∀ v ∈ cs, v.oneCell' = true) ∧ (∀ (i : Nat) (d : V) (v : Value), ds[i]? = some d → cs[i]? = some v → Rep1 G d v) ∧ ∀ d ∈ ds, d.cells = [d]
theorem RepR.one {G : Gh} {d : V} {v : Value} (h : Rep1 G d v) (h1 : v.oneCell' = true) (h2 : d.cells = [d]) : RepR G [d] [v] :=
  ⟨rfl, by simpa using h1, fun i d' v' hd hv => by
    cases i with
    | zero => simp at hd hv; subst hd hv; exact h
    | succ i => simp at hd, by simpa using h2⟩
theorem RepR.append {G : Gh} {a b : List V} {c d : List Value} (h : RepR G a c) (k : RepR G b d) : RepR G (a ++ b) (c ++ d) :=
  ⟨by simp [h.1, k.1], fun v hv => by
    rcases List.mem_append.1 hv with h' | h'
    · exact h.2.1 v h'
    · exact k.2.1 v h', fun i x v hx hv => by
    rw [List.getElem?_append] at hx hv
    rw [← h.1] at hv
    split at hx
    · rename_i hlt
      rw [if_pos hlt] at hv
      exact h.2.2.1 i x v hx hv
    · rename_i hlt
      rw [if_neg hlt] at hv
      exact k.2.2.1 _ x v hx hv, fun x hx => by
    rcases List.mem_append.1 hx with h' | h'
    · exact h.2.2.2 x h'
    · exact k.2.2.2 x h'⟩
theorem pack_cells {s : Sh} {ds : List V} (h : s.Has ds) (hc : ∀ d ∈ ds, d.cells = [d]) : (s.pack ds).cells = ds := by
  cases h with
  | int => rfl
  | bool => rfl
  | str => rfl
  | sl => rfl
  | st => rfl

section
variable {H : Type} {enc : TypeId × Value → H} {P : Program} {w : World} {base : Nat} {spare : Nat → Bool} {held : Bool}
theorem open_sh : ∀ (n : Nat) {t : TypeId} {s : Sh} (_ : shOf P n t = some s) {fuel : Nat} {cs : List Value} {x : DataW H × List MemPlace} (_ : DataW.trod enc P w base spare held fuel t cs = some x),
    ∃ ds, s.Has ds ∧ RepR (ghOf w) ds cs ∧ cs.length = P.cellsOf t
  | 0, _, _, hs, _, _, _, _ => by simp [shOf] at hs
  | n + 1, t, s, hs, fuel, cs, x, h => by
    unfold shOf at hs
    split at hs
    · rename_i k hu
      split at hs
      · rename_i hc
        cases hs
        obtain ⟨m, rfl, _, hw⟩ := DataW.trod_int hu h
        exact ⟨_, .int k m hw, .one (.sc _ rfl) rfl rfl, by rw [hc]; rfl⟩
      · cases hs
    · rename_i hu
      split at hs
      · rename_i hc
        cases hs
        obtain ⟨m, rfl, _⟩ := DataW.trod_bool hu h
        exact ⟨_, .bool m, .one (.sc _ rfl) rfl rfl, by rw [hc]; rfl⟩
      · cases hs
    · rename_i hu
      split at hs
      · rename_i hc
        cases hs
        obtain ⟨m, rfl, _, hm⟩ := DataW.trod_string hu h
        exact ⟨_, .str m hm, .one (.sc _ rfl) rfl rfl, by rw [hc]; rfl⟩
      · cases hs
    · rename_i e hu
      split at hs
      · rename_i hc
        obtain ⟨s', hs', rfl⟩ := Option.map_eq_some_iff.1 hs
        have hlen1 : ∃ v, cs = [v] := by
          rcases DataW.trod_slice hu h with ⟨rfl, _⟩ | ⟨a, len, cap, _, _, _, _, rfl, _⟩
          · exact ⟨_, rfl⟩
          · exact ⟨_, rfl⟩
        obtain ⟨v, rfl⟩ := hlen1
        obtain ⟨A, len, cap, rfl, hle, hm, hA, hel⟩ := open_elems hu rfl hc.2 h
        obtain ⟨l, hl, hq⟩ := list_of (Q := fun i (p : V × List Value) => ∃ b o, A = some ⟨b, o, none⟩ ∧ p.2.length = P.cellsOf e ∧ Holds w (elemL b (o + i * P.cellsOf e) p.2) ∧ ∃ ds, p.1 = s'.pack ds ∧ s'.Has ds ∧ RepR (ghOf w) ds p.2) len (fun i hi => by
          obtain ⟨b, o, cs', n', y, hA', hlen, hh, ht⟩ := hel i hi
          obtain ⟨ds, k1, k2, k3⟩ := open_sh n hs' ht
          exact ⟨(s'.pack ds, cs'), b, o, hA', hlen, hh, ds, rfl, k1, k2⟩)
        refine ⟨[.sl .no (l.map (·.1))], .sl s' _ (hasl_of _ fun d hd => ?_), .one ?_ rfl rfl, by rw [hc.1]; rfl⟩
        · obtain ⟨p, hp, rfl⟩ := List.mem_map.1 hd
          obtain ⟨i, hi, rfl⟩ := List.mem_iff_getElem.1 hp
          obtain ⟨_, _, _, _, _, ds, k1, k2, _⟩ := hq i _ (List.getElem?_eq_getElem hi)
          exact ⟨ds, k1, k2⟩
        · cases A with
          | none =>
            obtain ⟨rfl, rfl⟩ := hA rfl
            obtain rfl := List.eq_nil_of_length_eq_zero hl
            exact .nil .no (fun g k e => by cases e)
          | some a =>
            by_cases h0 : len = 0
            · subst h0
              obtain rfl := List.eq_nil_of_length_eq_zero hl
              exact .emp a cap hm
            · obtain ⟨b, o, _, _, _, hA', _⟩ := hel 0 (by omega)
              cases hA'
              have hlm : len = (l.map (·.1)).length := by simp [hl]
              rw [hlm]
              refine .sl .no _ b o (P.cellsOf e) cap (fun i j => ((l[i]?.map (·.2)).getD []).getD j default) (fun i d hd => ?_) (fun i j hi hj => ?_) (fun i j hi hj => ?_) (fun i d j c hd hc' => ?_) (by simp; omega) hm (by simp) (fun g k e => by cases e)
              · rw [List.getElem?_map] at hd
                obtain ⟨p, hp, rfl⟩ := Option.map_eq_some_iff.1 hd
                obtain ⟨_, _, _, k1, _, ds, k2, k3, k4⟩ := hq i p hp
                rw [k2, pack_cells k3 k4.2.2.2, k4.1, k1]
              · obtain ⟨p, hp⟩ : ∃ p, l[i]? = some p := ⟨_, List.getElem?_eq_getElem (by simpa using hi)⟩
                obtain ⟨b', o', e', k1, k0, ds, k2, k3, k4⟩ := hq i p hp
                cases e'
                have hj' : j < p.2.length := by omega
                simp only [hp, Option.map_some, Option.getD_some, ghOf]
                have := elemL_get k0 (List.getElem?_eq_getElem hj')
                rw [this]
                simp [List.getD, hj']
              · obtain ⟨p, hp⟩ : ∃ p, l[i]? = some p := ⟨_, List.getElem?_eq_getElem (by simpa using hi)⟩
                obtain ⟨b', o', e', k1, k0, ds, k2, k3, k4⟩ := hq i p hp
                have hj' : j < p.2.length := by omega
                simp only [hp, Option.map_some, Option.getD_some]
                simp only [List.getD, List.getElem?_eq_getElem hj', Option.getD_some]
                exact k4.2.1 _ (List.getElem_mem hj')
              · rw [List.getElem?_map] at hd
                obtain ⟨p, hp, rfl⟩ := Option.map_eq_some_iff.1 hd
                obtain ⟨_, _, _, k1, _, ds, k2, k3, k4⟩ := hq i p hp
                rw [k2, pack_cells k3 k4.2.2.2] at hc'
                have hj' : j < p.2.length := by rw [← k4.1]; exact (List.getElem?_eq_some_iff.1 hc').1
                simp only [hp, Option.map_some, Option.getD_some]
                simp only [List.getD, List.getElem?_eq_getElem hj', Option.getD_some]
                exact k4.2.2.1 j c _ hc' (List.getElem?_eq_getElem hj')
      · cases hs
    · rename_i fs hu
      split at hs
      · rename_i hend
        obtain ⟨ss, hss, rfl⟩ := Option.map_eq_some_iff.1 hs
        have hl := trod_len hu h
        have key : ∀ (gs : List Field) (j0 o : Nat) (ss : List Sh), (∀ i f, gs[i]? = some f → fs[j0 + i]? = some f) → shFields P (shOf P n) o gs = some ss → fieldsEnd P o gs = cs.length →
            ∃ ds, Sh.Hass ss ds ∧ RepR (ghOf w) ds (cs.drop o) := by
          intro gs
          induction gs with
          | nil =>
            intro j0 o ss _ hss he
            simp only [shFields, Option.some.injEq] at hss
            subst hss
            simp only [fieldsEnd] at he
            exact ⟨[], .nil, by rw [List.drop_of_length_le (by omega)]; exact ⟨rfl, by simp, by simp, by simp⟩⟩
          | cons f gs ih =>
            intro j0 o ss hg hss he
            simp only [shFields] at hss
            split at hss
            · rename_i hof
              simp only [Option.bind_eq_bind, Option.bind_eq_some_iff] at hss
              obtain ⟨s0, h0, ss', h1, h2⟩ := hss
              cases h2
              simp only [fieldsEnd] at he
              obtain ⟨ds', k1, k2⟩ := ih (j0 + 1) _ ss' (fun i g hi => by rw [show j0 + 1 + i = j0 + (i + 1) by omega]; exact hg (i + 1) g (by simpa using hi)) h1 he
              obtain ⟨m, y, hy⟩ := trod_field hu h j0 f (by simpa using hg 0 f rfl)
              rw [hof] at hy
              obtain ⟨ds0, q1, q2, q3⟩ := open_sh n h0 hy
              refine ⟨ds0 ++ ds', .cons _ _ _ _ q1 k1, ?_⟩
              have := q2.append k2
              rwa [← List.drop_drop, List.take_append_drop] at this
            · cases hss
        obtain ⟨ds, k1, k2⟩ := key fs.toList 0 0 ss (fun i f hf => by simpa using hf) hss (by rw [hend, hl])
        exact ⟨ds, .st _ _ k1, by simpa using k2, hl⟩
      · cases hs
    · rename_i k e hu
      split at hs
      · rename_i hend
        obtain ⟨s', hs', rfl⟩ := Option.map_eq_some_iff.1 hs
        obtain ⟨xs, m, _, _, hl, hxl, hget⟩ := DataW.trod_array hu h
        have key : ∀ (j i : Nat), i + j = k → ∃ ds, Sh.Hass (List.replicate j s') ds ∧ RepR (ghOf w) ds (cs.drop (i * P.cellsOf e)) := by
          intro j
          induction j with
          | zero =>
            intro i hij
            refine ⟨[], .nil, ?_⟩
            have : i = k := by omega
            subst this
            rw [List.drop_of_length_le (by omega)]
            exact ⟨rfl, by simp, by simp, by simp⟩
          | succ j ih =>
            intro i hij
            obtain ⟨ds', k1, k2⟩ := ih (i + 1) (by omega)
            have hlt : i < xs.length := by omega
            have hy := hget i (by omega)
            rw [List.getElem?_eq_getElem hlt] at hy
            obtain ⟨ds0, q1, q2, q3⟩ := open_sh n hs' hy
            refine ⟨ds0 ++ ds', .cons _ _ _ _ q1 k1, ?_⟩
            have := q2.append k2
            rwa [Nat.add_mul, Nat.one_mul, ← List.drop_drop, List.take_append_drop] at this
        obtain ⟨ds, k1, k2⟩ := key k 0 (by omega)
        exact ⟨ds, .st _ _ k1, by simpa using k2, hl⟩
      · cases hs
    · cases hs
theorem RepR.agg {G : Gh} {ds : List V} {cs : List Value} (h : RepR G ds cs) : Rep1 G (.agg ds) (.agg cs.toArray) :=
  .agg ds _ (by simp [h.1]) (fun i v hv => h.2.1 v (List.mem_of_getElem? (by simpa using hv))) (fun i c v hc hv => h.2.2.1 i c v hc (by simpa using hv))
theorem RepR.head {G : Gh} {d : V} {v : Value} (h : RepR G [d] [v]) : Rep1 G d v := h.2.2.1 0 d v rfl rfl
/-- An argument, as the statement hands it in, as an abstract value. -/
theorem arg_sh {W : World} (n : Nat) {t : TypeId} {s : Sh} {v : Value} {d : DataW H} {p : List MemPlace} (hs : shOf P n t = some s) (h : ArgIn enc P W base t v d p) : ∃ ds, s.Has ds ∧ Rep1 (ghOf W) (s.pack ds) v := by
  cases n with
  | zero => simp [shOf] at hs
  | succ n =>
  have hs0 := hs
  unfold shOf at hs
  split at hs
  · rename_i k hu
    split at hs
    · cases hs
      obtain ⟨m, rfl, hw⟩ := h.int hu
      exact ⟨_, .int k m hw, .sc _ rfl⟩
    · cases hs
  · rename_i hu
    split at hs
    · cases hs
      obtain ⟨b, rfl⟩ := h.bool hu
      exact ⟨_, .bool b, .sc _ rfl⟩
    · cases hs
  · rename_i hu
    split at hs
    · cases hs
      obtain ⟨b, rfl, hm⟩ := h.string hu
      exact ⟨_, .str b hm, .sc _ rfl⟩
    · cases hs
  · rename_i e hu
    split at hs
    · obtain ⟨s', hs', rfl⟩ := Option.map_eq_some_iff.1 hs
      obtain ⟨A, l, c, fuel, rfl, ht⟩ := h.slice hu
      obtain ⟨ds, k1, k2, _⟩ := open_sh _ hs0 ht
      refine ⟨ds, k1, ?_⟩
      cases k1 with
      | sl _ l' h' => exact k2.head
    · cases hs
  · rename_i fs hu
    split at hs
    · obtain ⟨ss, hss, rfl⟩ := Option.map_eq_some_iff.1 hs
      obtain ⟨cs, fuel, rfl, ht⟩ := h.struct hu
      obtain ⟨ds, k1, k2, _⟩ := open_sh _ hs0 ht
      exact ⟨ds, k1, k2.agg⟩
    · cases hs
  · rename_i k e hu
    split at hs
    · obtain ⟨s', hs', rfl⟩ := Option.map_eq_some_iff.1 hs
      have hwd := h.wide
      simp only [Value.okWide, hu] at hwd
      obtain ⟨cs, rfl, _⟩ := hwd
      obtain ⟨fuel, ht⟩ := h.trod
      obtain ⟨ds, k1, k2, _⟩ := open_sh _ hs0 ht
      have ha := k2.agg
      rw [show (Value.agg cs).cells.toList.toArray = cs from by simp [Value.cells]] at ha
      exact ⟨ds, k1, ha⟩
    · cases hs
  · cases hs
end
/-- The state that a law begins in. -/
def st0 (w : World) : St := ⟨fun _ => none, fun _ => none, w.heap.size⟩
theorem repW0 (w : World) : RepW (Fr.of w) (ghOf w) (st0 w) w :=
  ⟨fun _ _ _ h => h, fun _ _ h => (by cases h), fun _ _ h => (by cases h), fun _ _ h => (by cases h), Nat.le_refl _, Below.refl _ _, fun _ _ h => (by cases h)⟩
/-- A law's contract as its call. -/
theorem v_calls {P : Program} {f : FuncId} {args : List V} {us : Array Value} {w : World} (h : VCalls P f args (st0 w) fun r _ => r = .sc (.bool true)) (hl : us.size = args.length)
    (hr : ∀ (i : Nat) (d : V) (u : Value), args[i]? = some d → us[i]? = some u → Rep1 (ghOf w) d u) : Calls P f us w (Pure w (.bool true)) :=
  (h (Fr.of w) (ghOf w) w us (repW0 w) hl hr).mono fun e w' ⟨u, r, st', G', h1, h2, h3, _, h5⟩ => by
    subst h2
    cases h3
    exact ⟨h1, h5.bel⟩
theorem reps1 {G : Gh} {d : V} {u : Value} (h : Rep1 G d u) : ∀ (i : Nat) (x : V) (v : Value), [d][i]? = some x → #[u][i]? = some v → Rep1 G x v := fun i x v hx hv => by
  cases i with
  | zero => simp at hx hv; subst hx hv; exact h
  | succ i => simp at hx
theorem reps2 {G : Gh} {d e : V} {u q : Value} (h : Rep1 G d u) (k : Rep1 G e q) : ∀ (i : Nat) (x : V) (v : Value), [d, e][i]? = some x → #[u, q][i]? = some v → Rep1 G x v := fun i x v hx hv => by
  match i with
  | 0 => simp at hx hv; subst hx hv; exact h
  | 1 => simp at hx hv; subst hx hv; exact k
  | i + 2 => simp at hx
theorem reps3 {G : Gh} {d e f : V} {u q r : Value} (h : Rep1 G d u) (k : Rep1 G e q) (l : Rep1 G f r) : ∀ (i : Nat) (x : V) (v : Value), [d, e, f][i]? = some x → #[u, q, r][i]? = some v → Rep1 G x v := fun i x v hx hv => by
  match i with
  | 0 => simp at hx hv; subst hx hv; exact h
  | 1 => simp at hx hv; subst hx hv; exact k
  | 2 => simp at hx hv; subst hx hv; exact l
  | i + 3 => simp at hx
end
section
open Go Go.RowKit

theorem own : ownKnob Try.prog.godebug = none := by kernel_rfl
theorem laidOut : laidOutB Try.prog = true := by kernel_rfl
theorem u8_wf {n : Int} (h : (Lit.int .u8 n).wf = true) : 0 ≤ n ∧ n < 256 := by have := bounds_u8 h; omega
theorem hasl_bytes : ∀ {l : List V}, Sh.Hasl (.int .u8) l → ∃ L, IsB L ∧ l = bs L := by
  intro l
  induction l with
  | nil => exact fun _ => ⟨[], by intro x hx; (cases hx), rfl⟩
  | cons d l ih =>
    intro h
    cases h with
    | cons _ ds _ h k =>
      obtain ⟨L, hB, rfl⟩ := ih k
      cases h with
      | int _ n hw => exact ⟨n :: L, by
          intro x hx
          rcases List.mem_cons.1 hx with rfl | hx
          · exact u8_wf hw
          · exact hB x hx, rfl⟩
theorem has_bytes {ds : List V} (h : Sh.Has (.sl (.int .u8)) ds) : ∃ L, IsB L ∧ ds = [.sl .no (bs L)] := by
  cases h with
  | sl _ l h =>
    obtain ⟨L, hB, rfl⟩ := hasl_bytes h
    exact ⟨L, hB, rfl⟩
end
section
open Go Go.RowKit

theorem hass_nil {ds : List V} (h : Sh.Hass [] ds) : ds = [] := by cases h; rfl
theorem hass_int {k : IntKind} {l : List Sh} {ds : List V} (h : Sh.Hass (.int k :: l) ds) : ∃ n b, ds = .sc (.int k n) :: b ∧ (Lit.int k n).wf = true ∧ Sh.Hass l b := by
  cases h with
  | cons _ _ a b h0 h1 =>
    cases h0 with
    | int _ n hw => exact ⟨n, b, rfl, hw, h1⟩
theorem hass_bool {l : List Sh} {ds : List V} (h : Sh.Hass (.bool :: l) ds) : ∃ n b, ds = .sc (.bool n) :: b ∧ Sh.Hass l b := by
  cases h with
  | cons _ _ a b h0 h1 =>
    cases h0 with
    | bool n => exact ⟨n, b, rfl, h1⟩
theorem hass_str {l : List Sh} {ds : List V} (h : Sh.Hass (.str :: l) ds) : ∃ n b, ds = .sc (.string n) :: b ∧ n.size ≤ maxLen ∧ Sh.Hass l b := by
  cases h with
  | cons _ _ a b h0 h1 =>
    cases h0 with
    | str n hn => exact ⟨n, b, rfl, hn, h1⟩
theorem hass_st {m l : List Sh} {ds : List V} (h : Sh.Hass (.st m :: l) ds) : ∃ a b, ds = a ++ b ∧ Sh.Hass m a ∧ Sh.Hass l b := by
  cases h with
  | cons _ _ a b h0 h1 =>
    cases h0 with
    | st _ _ h => exact ⟨a, b, rfl, h, h1⟩
theorem has_st {l : List Sh} {ds : List V} (h : Sh.Has (.st l) ds) : Sh.Hass l ds := by
  cases h with
  | st _ _ h => exact h
/-- A slice of structs, element by element. -/
theorem hasl_map {α : Type} {s : Sh} (f : α → V) (ok : α → Prop) (h1 : ∀ ds, Sh.Has s ds → ∃ a, ok a ∧ s.pack ds = f a) : ∀ {l : List V}, Sh.Hasl s l → ∃ L : List α, (∀ a ∈ L, ok a) ∧ l = L.map f := by
  intro l
  induction l with
  | nil => exact fun _ => ⟨[], by intro x hx; (cases hx), rfl⟩
  | cons d l ih =>
    intro h
    cases h with
    | cons _ ds _ h k =>
      obtain ⟨L, hB, rfl⟩ := ih k
      obtain ⟨a, ha, e⟩ := h1 ds h
      exact ⟨a :: L, by
          intro x hx
          rcases List.mem_cons.1 hx with rfl | hx
          · exact ha
          · exact hB x hx, by rw [e]; rfl⟩
theorem has_slmap {α : Type} {s : Sh} {f : α → V} {ok : α → Prop} (h1 : ∀ ds, Sh.Has s ds → ∃ a, ok a ∧ s.pack ds = f a) {ds : List V} (h : Sh.Has (.sl s) ds) : ∃ L : List α, (∀ a ∈ L, ok a) ∧ ds = [.sl .no (L.map f)] := by
  cases h with
  | sl _ l h =>
    obtain ⟨L, hB, rfl⟩ := hasl_map f ok h1 h
    exact ⟨L, hB, rfl⟩
end
end Go.Proofs.Ytlngegoamfklgaa
