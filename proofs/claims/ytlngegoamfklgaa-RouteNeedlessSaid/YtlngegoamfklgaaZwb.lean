/- Steps of the proof, joined: VCmp, VSortP, CidrLaw, VPfx1, VSortK, VTbl1, VRows, VRowC, VMp, VTbl2, VRt1, VRt2, VRt3, VTbl3, VTblLaw, VDelLaw, VDelK, VTbl4, VTbl5, VRt4, VMpG, VRtLaw, VR26, VRt5, VRt6, VRt7, VRt8, VRt9, Base, Open. -/
import Derived.Test.YtlngegoamfklgaaVc
import Derived.Test.YtlngegoamfklgaaZwa
import Derived.Laws.BitsAllLaws
import Derived.Test.YtlngegoamfklgaaZeb
import Derived.Test.YtlngegoamfklgaaProg
import Derived.WalkKit
import Derived.WalkSpells
import Derived.WalkLawsBesides
import Derived.Deep.RegionHeld3
import Derived.Deep.DrawnRows
import Derived.BigQuiet
import Derived.Lib.Hide
import Derived.ProofKit
import Derived.OpenShut
import Derived.Deep.Slices
namespace Go.Proofs.Ytlngegoamfklgaa
open Go
attribute [local go_sem] run_skip run_reg run_seq run_blk run_exit run_ret run_cond if_true if_false at_code_n at_code_x at_code_r at_blk_n at_blk_x at_blk_r at_rnd_n at_rnd_x at_rnd_r at_fin_n at_fin_r ops_nil ops_grd grd_und grd_tt grd_ff grd_tf grd_ft ops_mv ops_pick ops_bin ops_un ops_binb ops_eqs ops_isnil ops_pnil ops_b2s ops_s2b ops_b2sB ops_s2a ops_slcA ops_aidx vaidx vb2sB vs2a vslcA ops_sidx vs2b vsidx srcX ops_appx apx_mk ops_mks ops_mko mks_int mko_int vbinb veqs visnil vpnil vb2s ops_conv ops_fld ops_ix ops_ixa ops_load ops_nilck ops_ext ops_len ops_slen ops_mn ops_mx ops_bld ops_bsl ops_slc ops_sslc ops_box ops_alc ops_alcX ops_boxX ops_bslo ops_store ops_app ops_call ev_t ev_c put_get put_none opv_mk stb_some sto_ptr over_get rel_mk vnat Bx Stp vbld vbsl put_box_same put_box_ne put_sz put_own use_box use_sz put_put args0 List.getD_cons_zero List.getD_cons_succ List.getD_nil vpick vbin vbinI vbinS vun vconv norm vfld vnil vlen vslen vext vmm vix vixa vload takeV takeB mono_nil mono_two mono_sc mono_any mono_und mono_sl mono_agg mono_ep vmlk vmlen vmnil vent vmfn allSc vslc3 kOk fitsV ops_mlk ops_mlen ops_mnil ops_ent ops_mfn ops_slc3 ops_mkm ops_mup mup_map mub_some ops_mdel mdl_nil mdl_map mdb_some ops_rng rng_none rng_map rgb_some ops_nxt ops_ment met_map meb_some ops_est est_map esb_some ops_clr clr_nil clr_box clb_some ops_calv clv_func vslc vsslc fillV splice V.cells strip strip1 allLen ptrV obsOk shAmt IntKind.bits List.map_cons List.map_nil List.length_cons List.length_nil List.getElem?_cons_zero List.getElem?_cons_succ List.take_succ_cons List.take_zero List.drop_succ_cons List.drop_zero List.cons_append List.nil_append List.append_nil List.take_nil List.drop_nil Option.map_some Option.map_none and_true true_and Int.toNat_natCast Nat.min_def Nat.zero_add Nat.add_zero Nat.zero_mul Nat.mul_one Nat.one_mul vret rvAll rvVal resv_1 resv_2 decide_true decide_false Int.lt_irrefl Bool.not_true Bool.not_false ne_eq not_true_eq_false not_false_eq_true eq_self Bool.true_eq_false Bool.false_eq_true List.contains_cons List.contains_nil Bool.false_or Bool.true_or Bool.or_false Bool.or_true List.mem_cons List.not_mem_nil or_false or_true true_or false_or
section
open Go

/-- -1, 0, 1. -/
def cmp3 (x y : Int) : Int := if x < y then -1 else if y < x then 1 else 0
def orI (L : List Int) : Int := (L.find? (fun n => n ≠ 0)).getD 0
section
variable {st : St} {tk : Tk}
set_option maxRecDepth 100000 in
theorem nanInt_v {x : Int} : VCalls Try.prog 138 [.sc (.int .i64 x)] st fun v s => v = .sc (.bool false) ∧ st = s := by
  refine vcalls_enter vc138 (Nat.le_of_ble_eq_true rfl) fun hwf hok => ?_
  show Run _ Vc138.body (.fin (finQ Vc138.res _)) _ _
  unfold Vc138
  simp (config := {maxSteps := 3000000}) only [go_sem, Nat.reduceEqDiff, ↓reduceIte, reduceCtorEq]
  exact ⟨_, _, Wk.refl _, hwf.weak, rfl, rfl⟩
set_option maxRecDepth 100000 in
theorem compareInt_v {x y : Int} : VCalls Try.prog 90 [.sc (.int .i64 x), .sc (.int .i64 y)] st fun v s => v = .sc (.int .i64 (cmp3 x y)) ∧ st = s := by
  refine vcalls_enter vc90 (Nat.le_of_ble_eq_true rfl) fun hwf hok => ?_
  show Run _ Vc90.body (.fin (finQ Vc90.res _)) _ _
  unfold Vc90
  simp (config := {maxSteps := 3000000}) only [go_sem, Int.reduceNeg, ↓reduceIte, reduceCtorEq]
  refine Cal.mk nanInt_v ?_
  rintro _ _ ⟨rfl, rfl⟩ -
  simp (config := {maxSteps := 3000000}) only [go_sem, Nat.reduceEqDiff, Int.reduceNeg, ↓reduceIte]
  refine Cal.mk nanInt_v ?_
  rintro _ _ ⟨rfl, rfl⟩ -
  by_cases c1 : x < y
  · simp (config := {maxSteps := 3000000}) only [go_sem, Nat.reduceEqDiff, Int.reduceNeg, ↓reduceIte, reduceCtorEq, decide_eq_true c1]
    exact ⟨_, _, Wk.refl _, hwf.weak, by simp [cmp3, c1], rfl⟩
  by_cases c2 : y < x
  · simp (config := {maxSteps := 3000000}) only [go_sem, Nat.reduceEqDiff, Int.reduceNeg, ↓reduceIte, reduceCtorEq, decide_eq_false c1, decide_eq_true c2]
    exact ⟨_, _, Wk.refl _, hwf.weak, by simp [cmp3, c1, c2], rfl⟩
  · simp (config := {maxSteps := 3000000}) only [go_sem, Nat.reduceEqDiff, Int.reduceNeg, ↓reduceIte, reduceCtorEq, decide_eq_false c1, decide_eq_false c2]
    exact ⟨_, _, Wk.refl _, hwf.weak, by simp [cmp3, c1, c2], rfl⟩
set_option maxRecDepth 100000 in
theorem nanU16_v {x : Int} : VCalls Try.prog 139 [.sc (.int .u16 x)] st fun v s => v = .sc (.bool false) ∧ st = s := by
  refine vcalls_enter vc139 (Nat.le_of_ble_eq_true rfl) fun hwf hok => ?_
  show Run _ Vc139.body (.fin (finQ Vc139.res _)) _ _
  unfold Vc139
  simp (config := {maxSteps := 3000000}) only [go_sem, Nat.reduceEqDiff, ↓reduceIte, reduceCtorEq]
  exact ⟨_, _, Wk.refl _, hwf.weak, rfl, rfl⟩
set_option maxRecDepth 100000 in
theorem compareU16_v {x y : Int} : VCalls Try.prog 91 [.sc (.int .u16 x), .sc (.int .u16 y)] st fun v s => v = .sc (.int .i64 (cmp3 x y)) ∧ st = s := by
  refine vcalls_enter vc91 (Nat.le_of_ble_eq_true rfl) fun hwf hok => ?_
  show Run _ Vc91.body (.fin (finQ Vc91.res _)) _ _
  unfold Vc91
  simp (config := {maxSteps := 3000000}) only [go_sem, Int.reduceNeg, ↓reduceIte, reduceCtorEq]
  refine Cal.mk nanU16_v ?_
  rintro _ _ ⟨rfl, rfl⟩ -
  simp (config := {maxSteps := 3000000}) only [go_sem, Nat.reduceEqDiff, Int.reduceNeg, ↓reduceIte]
  refine Cal.mk nanU16_v ?_
  rintro _ _ ⟨rfl, rfl⟩ -
  by_cases c1 : x < y
  · simp (config := {maxSteps := 3000000}) only [go_sem, Nat.reduceEqDiff, Int.reduceNeg, ↓reduceIte, reduceCtorEq, decide_eq_true c1]
    exact ⟨_, _, Wk.refl _, hwf.weak, by simp [cmp3, c1], rfl⟩
  by_cases c2 : y < x
  · simp (config := {maxSteps := 3000000}) only [go_sem, Nat.reduceEqDiff, Int.reduceNeg, ↓reduceIte, reduceCtorEq, decide_eq_false c1, decide_eq_true c2]
    exact ⟨_, _, Wk.refl _, hwf.weak, by simp [cmp3, c1, c2], rfl⟩
  · simp (config := {maxSteps := 3000000}) only [go_sem, Nat.reduceEqDiff, Int.reduceNeg, ↓reduceIte, reduceCtorEq, decide_eq_false c1, decide_eq_false c2]
    exact ⟨_, _, Wk.refl _, hwf.weak, by simp [cmp3, c1, c2], rfl⟩
set_option maxRecDepth 100000 in
theorem nanAddr_v {x : Int} : VCalls Try.prog 166 [.sc (.int .u32 x)] st fun v s => v = .sc (.bool false) ∧ st = s := by
  refine vcalls_enter vc166 (Nat.le_of_ble_eq_true rfl) fun hwf hok => ?_
  show Run _ Vc166.body (.fin (finQ Vc166.res _)) _ _
  unfold Vc166
  simp (config := {maxSteps := 3000000}) only [go_sem, Nat.reduceEqDiff, ↓reduceIte, reduceCtorEq]
  exact ⟨_, _, Wk.refl _, hwf.weak, rfl, rfl⟩
set_option maxRecDepth 100000 in
theorem compareAddr_v {x y : Int} : VCalls Try.prog 134 [.sc (.int .u32 x), .sc (.int .u32 y)] st fun v s => v = .sc (.int .i64 (cmp3 x y)) ∧ st = s := by
  refine vcalls_enter vc134 (Nat.le_of_ble_eq_true rfl) fun hwf hok => ?_
  show Run _ Vc134.body (.fin (finQ Vc134.res _)) _ _
  unfold Vc134
  simp (config := {maxSteps := 3000000}) only [go_sem, Int.reduceNeg, ↓reduceIte, reduceCtorEq]
  refine Cal.mk nanAddr_v ?_
  rintro _ _ ⟨rfl, rfl⟩ -
  simp (config := {maxSteps := 3000000}) only [go_sem, Nat.reduceEqDiff, Int.reduceNeg, ↓reduceIte]
  refine Cal.mk nanAddr_v ?_
  rintro _ _ ⟨rfl, rfl⟩ -
  by_cases c1 : x < y
  · simp (config := {maxSteps := 3000000}) only [go_sem, Nat.reduceEqDiff, Int.reduceNeg, ↓reduceIte, reduceCtorEq, decide_eq_true c1]
    exact ⟨_, _, Wk.refl _, hwf.weak, by simp [cmp3, c1], rfl⟩
  by_cases c2 : y < x
  · simp (config := {maxSteps := 3000000}) only [go_sem, Nat.reduceEqDiff, Int.reduceNeg, ↓reduceIte, reduceCtorEq, decide_eq_false c1, decide_eq_true c2]
    exact ⟨_, _, Wk.refl _, hwf.weak, by simp [cmp3, c1, c2], rfl⟩
  · simp (config := {maxSteps := 3000000}) only [go_sem, Nat.reduceEqDiff, Int.reduceNeg, ↓reduceIte, reduceCtorEq, decide_eq_false c1, decide_eq_false c2]
    exact ⟨_, _, Wk.refl _, hwf.weak, by simp [cmp3, c1, c2], rfl⟩
def isV (L : List Int) : List V := L.map fun n => .sc (.int .i64 n)
theorem isV_get {L : List Int} {i : Nat} {x : Int} (h : L[i]? = some x) : (isV L)[i]? = some (.sc (.int .i64 x)) := by simp [isV, h]
theorem isV_len {L : List Int} : (isV L).length = L.length := by simp [isV]
theorem orI_at {L : List Int} {i : Nat} {x : Int} (h : L[i]? = some x) (hx : x ≠ 0) (hb : ∀ (j : Nat) (y : Int), j < i → L[j]? = some y → y = 0) : orI L = x := by
  unfold orI
  have : L.find? (fun n => decide (n ≠ 0)) = some x := by
    rw [List.find?_eq_some_iff_getElem]
    obtain ⟨h1, h2⟩ := List.getElem?_eq_some_iff.1 h
    refine ⟨by simpa using hx, i, h1, h2, fun j hj => ?_⟩
    have := hb j L[j] hj (List.getElem?_eq_getElem (by omega))
    simp [this]
  rw [this]; rfl
theorem orI_none {L : List Int} (hb : ∀ (j : Nat) (y : Int), L[j]? = some y → y = 0) : orI L = 0 := by
  unfold orI
  have : L.find? (fun n => decide (n ≠ 0)) = none := by
    rw [List.find?_eq_none]
    intro x hx
    obtain ⟨j, hj⟩ := List.mem_iff_getElem?.1 hx
    simp [hb j x hj]
  rw [this]; rfl
set_option maxRecDepth 100000 in
theorem cmpOr_v {L : List Int} : VCalls Try.prog 89 [.sl tk (isV L)] st fun v s => v = .sc (.int .i64 (orI L)) ∧ st = s := by
  refine vcalls_enter vc89 (Nat.le_of_ble_eq_true rfl) fun hwf hok => ?_
  show Run _ Vc89.body (.fin (finQ Vc89.res _)) _ _
  unfold Vc89
  have hsm := vlen_max (hok (.sl tk (isV L)) (by simp))
  rw [isV_len] at hsm
  simp (config := {maxSteps := 3000000}) only [go_sem, ↓reduceIte, reduceCtorEq]
  refine run_loop [2, 5, 8, 9, 10, 11, 12, 13, 14, 15, 16] (fun B s => ∃ i : Nat, i ≤ L.length ∧ B 8 = .sc (.int .i64 i) ∧ (∀ (j : Nat) (y : Int), j < i → L[j]? = some y → y = 0) ∧ s = st) (fun B _ => L.length - vnat (B 8)) rfl ?_ ?_
  · simp (config := {maxSteps := 3000000}) only [go_sem, ↓reduceIte]
    exact ⟨0, by omega, rfl, fun j y hj => by omega⟩
  · rintro B s ⟨i, hi, h8, hb, rfl⟩
    by_cases c1 : i < L.length
    · have hx := List.getElem?_eq_getElem c1
      generalize L[i] = x at hx
      by_cases c2 : x = 0
      · subst c2
        simp (config := {maxSteps := 3000000}) only [go_sem, Nat.reduceEqDiff, Int.reduceNeg, ↓reduceIte, Nat.reduceBEq, h8, isV_get hx, isV_len, decide_eq_true (show (i : Int) < (L.length : Int) by omega)]
        repeat (apply And.intro; focus (first | omega | (simp; done)))
        refine ⟨⟨i + 1, by omega, by simp, fun j y hj hy => ?_⟩, by omega⟩
        by_cases e : j = i
        · subst e
          rw [hx] at hy
          exact (Option.some.inj hy).symm
        · exact hb j y (by omega) hy
      · simp (config := {maxSteps := 3000000}) only [go_sem, Nat.reduceEqDiff, ↓reduceIte, Nat.reduceBEq, h8, isV_get hx, isV_len, decide_eq_true (show (i : Int) < (L.length : Int) by omega), decide_eq_true (show x ≠ 0 from c2)]
        repeat (apply And.intro; focus (first | omega | (simp; done)))
        exact ⟨_, _, Wk.refl _, hwf.weak, by rw [orI_at hx c2 hb], rfl⟩
    · have hall : ∀ (j : Nat) (y : Int), L[j]? = some y → y = 0 := fun j y hy => hb j y (by have := (List.getElem?_eq_some_iff.1 hy).1; omega) hy
      simp (config := {maxSteps := 3000000}) only [go_sem, Nat.reduceEqDiff, ↓reduceIte, Nat.reduceBEq, h8, isV_len, decide_eq_false (show ¬ (i : Int) < (L.length : Int) by omega)]
      exact ⟨_, _, Wk.refl _, hwf.weak, by rw [orI_none hall], rfl⟩
end
end
section
open Go

set_option maxRecDepth 100000 in
theorem sortsP : SortsC Try.prog 133 167 168 169 170 171 172 173 174 190 191 192 204 158 159 :=
  ⟨vc133, vc167, vc168, vc190, vc169, vc170, vc191, vc192, vc204, vc171, vc172, vc173, vc174,
    fun _ _ h0 hn => bpow_v vc158 vc71 vc120 tab_ok h0 hn, fun st r x => bnext_v vc159 st r x⟩
/-- A row sorted. -/
theorem sortP_v {α : Type} [Inhabited α] {val : α → V × V} {lt : α → α → Bool} {g : FuncId} (E : EltC Try.prog g val lt) {st : St} {b cap : Nat} {L : List α} {sp : List V} (hmo : mono (rowc val L sp)) (hl : L.length < 4611686018427387904) :
    VCalls Try.prog 80 [dataV b L.length cap, cmpV g] (st.put b (rowc val L sp)) fun _ s => ∃ M : List α, M.Perm L ∧ M.Pairwise (fun x y => lt y x = false) ∧ s = st.put b (rowc val M sp) :=
  csort_v vc80 vc71 vc120 tab_ok sortsP E hmo hl
end
section
open Go

/-- The mask of so many bits, as the program reckons it. -/
def maskN (b : Int) : Int := if b < 0 then 0 else if 32 < b then 4294967295 else 4294967295 * 2 ^ (32 - b).toNat % 4294967296
/-- How many addresses a prefix of so many bits has. -/
def sizeN (b : Int) : Int := 2 ^ (32 - b).toNat
/-- May the prefix be? -/
def rightB (a b : Int) : Bool := decide (0 ≤ b ∧ b ≤ 32 ∧ a % sizeN b = 0)
/-- Has it the address? -/
def hasB (a b x : Int) : Bool := rightB a b && decide (a ≤ x ∧ x ≤ a + sizeN b - 1)
/-- Has 'a/b' all of 'c/d'? -/
def withinB (a b c d : Int) : Bool := rightB a b && rightB c d && decide (c ≤ a ∧ a + sizeN b - 1 ≤ c + sizeN d - 1)

theorem sizeN_pos (b : Int) : 0 < sizeN b := by
  unfold sizeN; exact Int.pow_pos (by omega)
theorem sizeN_le (b : Int) (h : 0 ≤ b) : sizeN b ≤ 4294967296 := by
  unfold sizeN
  have : (2 : Int) ^ (32 - b).toNat ≤ 2 ^ 32 := by
    have h1 : (2 : Nat) ^ (32 - b).toNat ≤ 2 ^ 32 := Nat.pow_le_pow_right (by omega) (by omega)
    exact_mod_cast h1
  simpa using this
theorem sizeN_nat (b : Int) : sizeN b = ((2 ^ (32 - b).toNat : Nat) : Int) := by
  unfold sizeN; rw [Int.natCast_pow]; rfl
theorem sizeN_dvd (b d : Int) (h : d ≤ b) : sizeN b ∣ sizeN d := by
  unfold sizeN
  exact ⟨2 ^ ((32 - d).toNat - (32 - b).toNat), by rw [← Int.pow_add]; congr 1; omega⟩
theorem sizeN_mono (b d : Int) (h : d ≤ b) : sizeN b ≤ sizeN d :=
  Int.le_of_dvd (sizeN_pos d) (sizeN_dvd b d h)
theorem maskN_in (b : Int) (h0 : 0 ≤ b) (h1 : b ≤ 32) : maskN b = 4294967296 - sizeN b := by
  have h := sizeN_pos b
  have h' := sizeN_le b h0
  unfold maskN
  rw [if_neg (by omega), if_neg (by omega)]
  unfold sizeN at *
  omega

theorem nat_and_high (x k : Nat) (hk : k ≤ 32) (hx : x < 4294967296) : x &&& (4294967296 - 2 ^ k) = x - x % 2 ^ k := by
  have e1 : 4294967296 - 2 ^ k = (2 ^ (32 - k) - 1) <<< k := by
    have : (2 : Nat) ^ (32 - k) * 2 ^ k = 4294967296 := by rw [← Nat.pow_add, show 32 - k + k = 32 from by omega]
    rw [Nat.shiftLeft_eq, Nat.sub_mul, this, Nat.one_mul]
  have e2 : x - x % 2 ^ k = (x >>> k) <<< k := by
    rw [Nat.shiftLeft_eq, Nat.shiftRight_eq_div_pow]
    have := Nat.div_add_mod x (2 ^ k)
    rw [Nat.mul_comm] at this
    omega
  rw [e1, e2]
  apply Nat.eq_of_testBit_eq
  intro i
  rw [Nat.testBit_and, Nat.testBit_shiftLeft, Nat.testBit_shiftLeft, Nat.testBit_two_pow_sub_one, Nat.testBit_shiftRight]
  by_cases hi : k ≤ i
  · rw [show k + (i - k) = i from by omega]
    by_cases h32 : i < 32
    · have : i - k < 32 - k := by omega
      simp [hi, this]
    · have hf : x.testBit i = false := Nat.testBit_lt_two_pow (Nat.lt_of_lt_of_le hx (by
        have : (2 : Nat) ^ 32 ≤ 2 ^ i := Nat.pow_le_pow_right (by omega) (by omega)
        simpa using this))
      simp [hf]
  · simp [hi]

theorem andNot_mask (a b : Int) (h0 : 0 ≤ a) (h1 : a < 4294967296) (hb0 : 0 ≤ b) (hb1 : b ≤ 32) : bits .andNot .u32 a (maskN b) = a % sizeN b := by
  have hp := sizeN_pos b
  have hl := sizeN_le b hb0
  have hm := maskN_in b hb0 hb1
  rw [u32_andNot a _ h0 h1 (by omega) (by omega), hm]
  have e : 4294967295 - (4294967296 - sizeN b).toNat = 2 ^ (32 - b).toNat - 1 := by
    have := sizeN_nat b
    omega
  rw [e, Nat.and_two_pow_sub_one_eq_mod, Int.natCast_emod, sizeN_nat]
  congr 1
  omega

theorem and_mask (x b : Int) (h0 : 0 ≤ x) (h1 : x < 4294967296) (hb0 : 0 ≤ b) (hb1 : b ≤ 32) : bits .and .u32 x (maskN b) = x - x % sizeN b := by
  have hp := sizeN_pos b
  have hl := sizeN_le b hb0
  have hm := maskN_in b hb0 hb1
  rw [u32_and x _ h0 h1 (by omega) (by omega), hm]
  have e : (4294967296 - sizeN b).toNat = 4294967296 - 2 ^ (32 - b).toNat := by
    have := sizeN_nat b
    omega
  rw [e, nat_and_high _ _ (by omega) (by omega)]
  have h2 : x.toNat % 2 ^ (32 - b).toNat ≤ x.toNat := Nat.mod_le _ _
  rw [Int.ofNat_sub h2, Int.natCast_emod, ← sizeN_nat]
  have : ((x.toNat : Nat) : Int) = x := by omega
  rw [this]

/-- The program's own test of an address. -/
theorem has_eq (a b x : Int) (h0 : 0 ≤ a) (x0 : 0 ≤ x) (hr : rightB a b = true) : (x - x % sizeN b == a) = decide (a ≤ x ∧ x ≤ a + sizeN b - 1) := by
  simp only [rightB, decide_eq_true_eq] at hr
  obtain ⟨hb0, hb1, hm⟩ := hr
  have hp := sizeN_pos b
  have e1 : a = sizeN b * (a / sizeN b) := by have := Int.mul_ediv_add_emod a (sizeN b); omega
  have e2 := Int.mul_ediv_add_emod x (sizeN b)
  have e3 := Int.emod_nonneg x (show sizeN b ≠ 0 by omega)
  have e4 := Int.emod_lt_of_pos x hp
  rw [Bool.eq_iff_iff]
  simp only [beq_iff_eq, decide_eq_true_eq]
  constructor
  · intro h; omega
  · rintro ⟨h, h'⟩
    have : x / sizeN b = a / sizeN b := by
      apply Int.le_antisymm
      · have : x / sizeN b < a / sizeN b + 1 := by
          apply Int.ediv_lt_of_lt_mul hp
          rw [Int.add_mul, Int.mul_comm]
          omega
        omega
      · exact Int.ediv_le_ediv hp h
    rw [this] at e2
    omega
theorem sizeN_lt (b d : Int) (hb : b < d) (hd : d ≤ 32) : sizeN d < sizeN b := by
  have h1 := sizeN_mono (b + 1) d |> fun _ => sizeN_mono d (b + 1) (by omega)
  have h2 : sizeN b = 2 * sizeN (b + 1) := by
    unfold sizeN
    rw [show (32 - b).toNat = (32 - (b + 1)).toNat + 1 from by omega, Int.pow_succ]
    omega
  have := sizeN_pos (b + 1)
  omega
theorem within_eq (a b c d : Int) (hr : rightB a b = true) : withinB a b c d = (decide (d ≤ b) && hasB c d a) := by
  have hr' := hr
  simp only [rightB, decide_eq_true_eq] at hr'
  obtain ⟨hb0, hb1, hm⟩ := hr'
  unfold withinB hasB
  rw [hr, Bool.true_and]
  cases hc : rightB c d
  · simp
  · simp only [rightB, decide_eq_true_eq] at hc
    obtain ⟨hd0, hd1, hm2⟩ := hc
    rw [Bool.true_and, Bool.true_and, Bool.eq_iff_iff]
    simp only [Bool.and_eq_true, decide_eq_true_eq]
    have p1 := sizeN_pos b
    have p2 := sizeN_pos d
    constructor
    · rintro ⟨h1, h2⟩
      have hdb : d ≤ b := by
        rcases Int.lt_or_le b d with h | h
        · have := sizeN_lt b d h hd1; omega
        · exact h
      exact ⟨hdb, h1, by omega⟩
    · rintro ⟨h1, h2, h3⟩
      refine ⟨h2, ?_⟩
      obtain ⟨q, hq⟩ := sizeN_dvd b d h1
      have ea := Int.mul_ediv_add_emod a (sizeN b)
      have ec := Int.mul_ediv_add_emod c (sizeN d)
      rw [hm] at ea
      rw [hm2] at ec
      have e3 : c + sizeN d = sizeN b * (q * (c / sizeN d) + q) := by
        rw [Int.mul_add, ← Int.mul_assoc, ← hq]
        omega
      generalize q * (c / sizeN d) + q = m at e3
      have h4 : a / sizeN b < m := by
        apply Int.lt_of_mul_lt_mul_left (a := sizeN b) _ (by omega)
        omega
      have h5 : sizeN b * (a / sizeN b + 1) ≤ sizeN b * m := Int.mul_le_mul_of_nonneg_left (by omega) (by omega)
      rw [Int.mul_add] at h5
      omega

def clampN (b : Int) : Int := if b < 0 then 0 else if 32 < b then 32 else b
theorem clampN_in (b : Int) : 0 ≤ clampN b ∧ clampN b ≤ 32 := by
  unfold clampN
  split
  · omega
  · split <;> omega
theorem maskN_clamp (b : Int) : maskN b = maskN (clampN b) := by
  unfold clampN
  split
  · rename_i h; simp [maskN, h]
  · split
    · rename_i h h'; simp [maskN, h, h']
    · rfl
def cmpI (a b : Int) : Int := if a < b then -1 else if b < a then 1 else 0
def cmpP (a b c d : Int) : Int := if cmpI a c = 0 then cmpI b d else cmpI a c
end
section
open Go

/-- A prefix: an address, bits. -/
abbrev Pfx := Int × Int
def pval (p : Pfx) : V × V := (.sc (.int .u32 p.1), .sc (.int .i64 p.2))
def pfxV (p : Pfx) : V := .agg [.sc (.int .u32 p.1), .sc (.int .i64 p.2)]
def ltP (x y : Pfx) : Bool := decide (x.1 < y.1 ∨ x.1 = y.1 ∧ x.2 < y.2)
theorem ltP_ord : Ord' ltP := ⟨fun {x y} h => by simp only [ltP, decide_eq_true_eq, decide_eq_false_iff_not] at h ⊢; omega, fun {x y z} h k => by simp only [ltP, decide_eq_false_iff_not] at h k ⊢; omega⟩
theorem ltP_tight (x y : Pfx) (h : ltP x y = false) (k : ltP y x = false) : x = y := by
  simp only [ltP, decide_eq_false_iff_not] at h k
  exact Prod.ext (by omega) (by omega)
theorem orP (x y : Pfx) : decide (orI [cmp3 x.1 y.1, cmp3 x.2 y.2] < 0) = ltP x y := by
  unfold orI cmp3 ltP
  by_cases c1 : x.1 < y.1
  · simp [c1]
  · by_cases c2 : y.1 < x.1
    · have : ¬ x.1 = y.1 := by omega
      simp [c1, c2, this]
    · have : x.1 = y.1 := by omega
      by_cases c3 : x.2 < y.2
      · simp [this, c3]
      · by_cases c4 : y.2 < x.2
        · simp [this, c3, c4]
        · simp [this, c3, c4]
section
variable {st : St}
set_option maxRecDepth 100000 in
theorem pfxCmp_v {x y : Pfx} : VCalls Try.prog 81 [.agg [(pval x).1, (pval x).2], .agg [(pval y).1, (pval y).2]] st fun v s => ∃ n : Int, decide (n < 0) = ltP x y ∧ v = .sc (.int .i64 n) ∧ st = s := by
  refine vcalls_enter vc81 (Nat.le_of_ble_eq_true rfl) fun hwf hok => ?_
  show Run _ Vc81.body (.fin (finQ Vc81.res _)) _ _
  unfold Vc81
  simp (config := {maxSteps := 3000000}) only [go_sem, Nat.reduceEqDiff, Nat.reduceAdd, ↓reduceIte, reduceCtorEq, pval]
  intro b hb c hc
  have hbc : b < c := by omega
  have hc2 : st.sz ≤ c := by omega
  clear hc
  simp (config := {maxSteps := 3000000}) only [go_sem, Nat.reduceEqDiff, ↓reduceIte, put_box_ne (Nat.ne_of_lt hbc)]
  refine Cal.mk compareAddr_v ?_
  rintro _ _ ⟨rfl, rfl⟩ -
  simp (config := {maxSteps := 3000000}) only [go_sem, Nat.reduceEqDiff, ↓reduceIte, put_box_ne (Nat.ne_of_lt hbc)]
  refine Cal.mk compareInt_v ?_
  rintro _ _ ⟨rfl, rfl⟩ -
  simp (config := {maxSteps := 3000000}) only [go_sem, Nat.reduceEqDiff, ↓reduceIte]
  refine Bo.own (by simp [allLen, V.cells]) ?_
  intro g hg
  simp (config := {maxSteps := 3000000}) only [go_sem, Nat.reduceAdd, ↓reduceIte]
  refine Cal.mk (cmpOr_v (L := [cmp3 x.1 y.1, cmp3 x.2 y.2])) ?_
  rintro _ _ ⟨rfl, rfl⟩ -
  simp (config := {maxSteps := 3000000}) only [go_sem, ↓reduceIte]
  exact ⟨_, _, Wk.refl _, weak_use (weak_put (weak_put hwf.weak hb) hc2) (by simp only [put_sz] at hg; omega), _, orP x y, rfl, rfl⟩
theorem eltP : EltC Try.prog 81 pval ltP := ⟨fun _ _ _ => pfxCmp_v, by kernel_rfl, ltP_ord⟩
theorem sortP_uniq {L M N : List Pfx} (h1 : M.Perm L) (h2 : N.Perm L) (k1 : M.Pairwise (fun x y => ltP y x = false)) (k2 : N.Pairwise (fun x y => ltP y x = false)) : M = N := srt_eq ltP_ord ltP_tight (h1.trans h2.symm) k1 k2
theorem maskN_nat' {b : Int} (h0 : 0 ≤ b) (h1 : b ≤ 32) : 4294967295 * 2 ^ (32 - b).toNat % 4294967296 = maskN b := by
  unfold maskN
  rw [if_neg (by omega), if_neg (by omega)]
theorem pMask_v {b : Int} (h0 : 0 ≤ b) (h1 : b ≤ 32) : VCalls Try.prog 121 [.sc (.int .i64 b)] st fun r st' => r = .sc (.int .u32 (maskN b)) ∧ st = st' := by
  refine vcalls_enter vc121 (Nat.le_of_ble_eq_true rfl) fun hwf hok => ?_
  show Run _ Vc121.body (.fin (finQ Vc121.res _)) _ _
  unfold Vc121
  rw [← maskN_nat' h0 h1]
  have e1 : min (max b 0) 32 = b := by omega
  have e2 : (32 - b).toNat ≤ 32 := by omega
  simp (config := {maxSteps := 3000000}) only [go_sem, Int.reduceNeg, ↓reduceIte, reduceCtorEq, e1, e2]
  repeat (apply And.intro; focus (first | omega | (simp; done)))
  exact ⟨_, _, Wk.refl _, hwf.weak, rfl, rfl⟩
theorem pRight_v {a b : Int} (h0 : 0 ≤ a) (h1 : a < 4294967296) : VCalls Try.prog 72 [.agg [.sc (.int .u32 a), .sc (.int .i64 b)]] st fun r st' => r = .sc (.bool (rightB a b)) ∧ st = st' := by
  refine vcalls_enter vc72 (Nat.le_of_ble_eq_true rfl) fun hwf hok => ?_
  show Run _ Vc72.body (.fin (finQ Vc72.res _)) _ _
  unfold Vc72
  by_cases c1 : 0 ≤ b
  case neg =>
    have hr : rightB a b = false := decide_eq_false (fun h => c1 h.1)
    rw [hr]
    simp (config := {maxSteps := 3000000}) only [go_sem, Nat.reduceEqDiff, Nat.reduceAdd, ↓reduceIte, reduceCtorEq]
    intro c hc
    simp (config := {maxSteps := 3000000}) only [go_sem, Nat.reduceEqDiff, ↓reduceIte, decide_eq_false c1]
    exact ⟨_, _, Wk.refl _, weak_put hwf.weak hc, rfl, rfl⟩
  by_cases c2 : b ≤ 32
  case neg =>
    have hr : rightB a b = false := decide_eq_false (fun h => c2 h.2.1)
    rw [hr]
    simp (config := {maxSteps := 3000000}) only [go_sem, Nat.reduceEqDiff, Nat.reduceAdd, ↓reduceIte, reduceCtorEq]
    intro c hc
    simp (config := {maxSteps := 3000000}) only [go_sem, Nat.reduceEqDiff, ↓reduceIte, decide_eq_true c1, decide_eq_false c2]
    exact ⟨_, _, Wk.refl _, weak_put hwf.weak hc, rfl, rfl⟩
  have hm := andNot_mask a b h0 h1 c1 c2
  have hr : rightB a b = decide (a % sizeN b = 0) := decide_eq_decide.2 ⟨fun h => h.2.2, fun h => ⟨c1, c2, h⟩⟩
  rw [hr]
  simp (config := {maxSteps := 3000000}) only [go_sem, Nat.reduceEqDiff, Nat.reduceAdd, ↓reduceIte, reduceCtorEq]
  intro c hc
  simp (config := {maxSteps := 3000000}) only [go_sem, Nat.reduceEqDiff, ↓reduceIte, decide_eq_true c1, decide_eq_true c2]
  refine Cal.mk (pMask_v c1 c2) ?_
  rintro _ _ ⟨rfl, rfl⟩ -
  simp (config := {maxSteps := 3000000}) only [go_sem, Nat.reduceEqDiff, ↓reduceIte, ibit_andNot, hm]
  exact ⟨_, _, Wk.refl _, weak_put hwf.weak hc, rfl, rfl⟩
theorem pOf_v {a b : Int} (h0 : 0 ≤ a) (h1 : a < 4294967296) (hb0 : 0 ≤ b) (hb1 : b ≤ 32) : VCalls Try.prog 73 [.sc (.int .u32 a), .sc (.int .i64 b)] st fun r st' => r = .agg [.sc (.int .u32 (a - a % sizeN b)), .sc (.int .i64 b)] ∧ st = st' := by
  have hm := and_mask a b h0 h1 hb0 hb1
  refine vcalls_enter vc73 (Nat.le_of_ble_eq_true rfl) fun hwf hok => ?_
  show Run _ Vc73.body (.fin (finQ Vc73.res _)) _ _
  unfold Vc73
  have e1 : min (max b 0) 32 = b := by omega
  simp (config := {maxSteps := 3000000}) only [go_sem, Nat.reduceEqDiff, ↓reduceIte, reduceCtorEq]
  intro c hc
  refine Cal.mk (pMask_v hb0 hb1) ?_
  rintro _ _ ⟨rfl, rfl⟩ -
  simp (config := {maxSteps := 3000000}) only [go_sem, Nat.reduceEqDiff, Nat.reduceAdd, Nat.reduceLT, Nat.reduceLeDiff, ↓reduceIte, ibit_and, hm, e1]
  exact ⟨_, _, Wk.refl _, weak_put hwf.weak hc, rfl, rfl⟩
end
end
section
open Go

set_option maxRecDepth 100000 in
theorem sortsK : SortsC Try.prog 137 175 176 177 178 179 180 181 182 193 194 195 205 158 159 :=
  ⟨vc137, vc175, vc176, vc193, vc177, vc178, vc194, vc195, vc205, vc179, vc180, vc181, vc182,
    fun _ _ h0 hn => bpow_v vc158 vc71 vc120 tab_ok h0 hn, fun st r x => bnext_v vc159 st r x⟩
/-- A row sorted. -/
theorem sortK_v {α : Type} [Inhabited α] {val : α → V × V} {lt : α → α → Bool} {g : FuncId} (E : EltC Try.prog g val lt) {st : St} {b cap : Nat} {L : List α} {sp : List V} (hmo : mono (rowc val L sp)) (hl : L.length < 4611686018427387904) :
    VCalls Try.prog 87 [dataV b L.length cap, cmpV g] (st.put b (rowc val L sp)) fun _ s => ∃ M : List α, M.Perm L ∧ M.Pairwise (fun x y => lt y x = false) ∧ s = st.put b (rowc val M sp) :=
  csort_v vc87 vc71 vc120 tab_ok sortsK E hmo hl
end
section
open Go

/-- A key: a peer, a number. -/
abbrev Key := Int × Int
def kval (k : Key) : V × V := (.sc (.int .i64 k.1), .sc (.int .u16 k.2))
def keyV (k : Key) : V := .agg [.sc (.int .i64 k.1), .sc (.int .u16 k.2)]
def ltK (x y : Key) : Bool := decide (x.1 < y.1 ∨ x.1 = y.1 ∧ x.2 < y.2)
theorem ltK_ord : Ord' ltK := ⟨fun {x y} h => by simp only [ltK, decide_eq_true_eq, decide_eq_false_iff_not] at h ⊢; omega, fun {x y z} h k => by simp only [ltK, decide_eq_false_iff_not] at h k ⊢; omega⟩
theorem ltK_tight (x y : Key) (h : ltK x y = false) (k : ltK y x = false) : x = y := by
  simp only [ltK, decide_eq_false_iff_not] at h k
  exact Prod.ext (by omega) (by omega)
theorem orK (x y : Key) : decide (orI [cmp3 x.1 y.1, cmp3 x.2 y.2] < 0) = ltK x y := by
  unfold orI cmp3 ltK
  by_cases c1 : x.1 < y.1
  · simp [c1]
  · by_cases c2 : y.1 < x.1
    · have : ¬ x.1 = y.1 := by omega
      simp [c1, c2, this]
    · have : x.1 = y.1 := by omega
      by_cases c3 : x.2 < y.2
      · simp [this, c3]
      · by_cases c4 : y.2 < x.2
        · simp [this, c3, c4]
        · simp [this, c3, c4]
section
variable {st : St}
set_option maxRecDepth 100000 in
theorem keyCmp_v {x y : Key} : VCalls Try.prog 88 [.agg [(kval x).1, (kval x).2], .agg [(kval y).1, (kval y).2]] st fun v s => ∃ n : Int, decide (n < 0) = ltK x y ∧ v = .sc (.int .i64 n) ∧ st = s := by
  refine vcalls_enter vc88 (Nat.le_of_ble_eq_true rfl) fun hwf hok => ?_
  show Run _ Vc88.body (.fin (finQ Vc88.res _)) _ _
  unfold Vc88
  simp (config := {maxSteps := 3000000}) only [go_sem, Nat.reduceEqDiff, Nat.reduceAdd, ↓reduceIte, reduceCtorEq, kval]
  intro b hb c hc
  have hbc : b < c := by omega
  have hc2 : st.sz ≤ c := by omega
  clear hc
  simp (config := {maxSteps := 3000000}) only [go_sem, Nat.reduceEqDiff, ↓reduceIte, put_box_ne (Nat.ne_of_lt hbc)]
  refine Cal.mk compareInt_v ?_
  rintro _ _ ⟨rfl, rfl⟩ -
  simp (config := {maxSteps := 3000000}) only [go_sem, Nat.reduceEqDiff, ↓reduceIte, put_box_ne (Nat.ne_of_lt hbc)]
  refine Cal.mk compareU16_v ?_
  rintro _ _ ⟨rfl, rfl⟩ -
  simp (config := {maxSteps := 3000000}) only [go_sem, Nat.reduceEqDiff, ↓reduceIte]
  refine Bo.own (by simp [allLen, V.cells]) ?_
  intro g hg
  simp (config := {maxSteps := 3000000}) only [go_sem, Nat.reduceAdd, ↓reduceIte]
  refine Cal.mk (cmpOr_v (L := [cmp3 x.1 y.1, cmp3 x.2 y.2])) ?_
  rintro _ _ ⟨rfl, rfl⟩ -
  simp (config := {maxSteps := 3000000}) only [go_sem, ↓reduceIte]
  exact ⟨_, _, Wk.refl _, weak_use (weak_put (weak_put hwf.weak hb) hc2) (by simp only [put_sz] at hg; omega), _, orK x y, rfl, rfl⟩
theorem eltK : EltC Try.prog 88 kval ltK := ⟨fun _ _ _ => keyCmp_v, by kernel_rfl, ltK_ord⟩
theorem sortK_uniq {L M N : List Key} (h1 : M.Perm L) (h2 : N.Perm L) (k1 : M.Pairwise (fun x y => ltK y x = false)) (k2 : N.Pairwise (fun x y => ltK y x = false)) : M = N := srt_eq ltK_ord ltK_tight (h1.trans h2.symm) k1 k2
end
end
section
open Go

theorem own_nil {size : Nat} {st : St} : Own size st (.sl .nil []) [] := .inl ⟨rfl, rfl⟩
theorem own_sl {size : Nat} {st : St} {v : V} {l : List V} (h : Own size st v l) : ∃ tk, v = .sl tk l := by
  rcases h with ⟨rfl, rfl⟩ | ⟨g, rfl, _⟩
  · exact ⟨_, rfl⟩
  · exact ⟨_, rfl⟩
theorem own_put {size : Nat} {st : St} {v : V} {l : List V} (h : Own size st v l) {b : Nat} {cs : List V} : Own size (st.put b cs) v l := by
  rcases h with h | ⟨g, h1, h2, h3⟩
  · exact .inl h
  · exact .inr ⟨g, h1, h2, by simp only [put_sz]; omega⟩
theorem weak_tr {a b c : St} (h : a.weak b) (k : b.weak c) : a.weak c :=
  ⟨fun b cs hb => ⟨(k.box b cs (h.box b cs hb).1).1, (h.box b cs hb).2⟩, fun g m hg => ⟨(k.own g m (h.own g m hg).1).1, (h.own g m hg).2⟩, Nat.le_trans h.sz k.sz⟩
theorem app_keeps {s s' : St} {x r : V} (h : AppSt s x s' r) {t : St} (hw : t.weak s) (hx : ∀ g k l, x = .sl (.own g k) l → t.sz ≤ g) : t.weak s' :=
  ⟨fun b cs hb => ⟨by rw [h.box]; exact (hw.box b cs hb).1, (hw.box b cs hb).2⟩, fun g m hg => ⟨h.own g m (hw.own g m hg).1 (fun l k e => by have := hx g k l e; have := (hw.own g m hg).2; omega), (hw.own g m hg).2⟩, Nat.le_trans hw.sz h.sz⟩
theorem app_fresh {s s' : St} {x r : V} (h : AppSt s x s' r) {t : St} (hs : t.sz ≤ s.sz) (hx : ∀ g k l, x = .sl (.own g k) l → t.sz ≤ g) : ∀ g k l, r = .sl (.own g k) l → t.sz ≤ g := fun g k l e => by
  rcases h.tok g k l e with ⟨l', h1⟩ | h1
  · exact hx g k l' h1
  · omega
/-- A row of the call's own. -/
structure RO (size : Nat) (base s : St) (r : V) (l : List V) : Prop where
  own : Own size s r l
  weak : base.weak s
  lt : s.Lt
  tok : ∀ g k l', r = .sl (.own g k) l' → base.sz ≤ g
variable {size : Nat} {base s s' : St} {r x : V} {l l' : List V}
theorem RO.nil (hw : base.weak s) (hl : s.Lt) : RO size base s (.sl .nil []) [] := ⟨own_nil, hw, hl, fun g k l e => by cases e⟩
theorem RO.put (h : RO size base s r l) {c : Nat} {cs : List V} (hc : base.sz ≤ c) : RO size base (s.put c cs) r l :=
  ⟨own_put h.own, weak_put h.weak hc, h.lt.put, h.tok⟩
theorem RO.app (h : RO size base s x l) (ho : Own size s' r l') (k : AppSt s x s' r) : RO size base s' r l' :=
  ⟨ho, app_keeps k h.weak h.tok, h.lt.app k, app_fresh k h.weak.sz h.tok⟩
theorem RO.use (hw : base.weak s) (hl : s.Lt) {g : Nat} (hg : s.sz ≤ g) (cs : List V) : RO size base (s.use g cs.length) (.sl (.own g size) cs) cs :=
  ⟨.inr ⟨g, rfl, by simp [St.use], by simp only [use_sz]; omega⟩, weak_use hw (by have := hw.sz; omega), hl.use, fun g' k l e => by cases e; have := hw.sz; omega⟩
theorem RO.sl (h : RO size base s r l) : ∃ tk, r = .sl tk l := own_sl h.own
end
section
open Go

section
variable {α : Type} {val : α → V × V} {L : List α} {sp : List V} {P : Program} {st : St} {A : Nat → V} {k : Kt} {d : Option Nat} {obs : List (Option Nat × X × Nat)} {rest : List VO}
theorem rowc_push {x : α} {sp' : List V} : (rowc val L sp).take (L.length * 2) ++ [V.agg [(val x).1, (val x).2]].flatMap V.cells ++ sp' = rowc val (L ++ [x]) sp' := by
  have hl : (L.flatMap fun x => two (val x)).length = L.length * 2 := by
    have := rowc_len (val := val) (L := L) (sp := [])
    simpa [rowc] using this
  unfold rowc
  rw [List.take_left' hl]
  simp [V.cells, two]
/-- An append of one element to a row in a box. -/
theorem App.pushC {bytes b cap : Nat} {tk : Tk} {x : α} (hb : st.box b = some (rowc val L sp)) (hl : L.length * 2 + sp.length = cap * 2) (hmo : mono (rowc val L sp)) (hc : cap ≤ maxLen) (h1 : L.length + 1 ≤ maxLen) (h2 : (L.length + 1) * bytes ≤ 140737488355328)
    (hk : ∀ b' cap' sp', (b' = b ∨ st.sz ≤ b') → (L.length < cap → b' = b ∧ cap' = cap) → (L.length + 1) * 2 + sp'.length = cap' * 2 → cap' ≤ maxLen → mono (rowc val (L ++ [x]) sp') → obsOk (st.put b' (rowc val (L ++ [x]) sp')) A obs ∧
      Ops P rest k (putV A d (dataV b' (L ++ [x]).length cap')) (st.put b' (rowc val (L ++ [x]) sp'))) : App P 2 bytes (dataV b L.length cap) (.sl tk [.agg [(val x).1, (val x).2]]) d obs rest k A st := by
  refine App.mut hb (by rw [rowc_len]; omega) hmo (by omega) hc (by intro d hd; simp only [List.mem_singleton] at hd; subst hd; rfl) (by simpa using h1) (by simpa using h2) fun b' cap' spare k1 k2 k3 k4 k5 k6 => ?_
  rw [rowc_push] at k6 ⊢
  have hlen : L.length + [V.agg [(val x).1, (val x).2]].length = (L ++ [x]).length := by simp
  rw [hlen]
  simp only [List.length_cons, List.length_nil] at k2 k4 k5
  exact hk b' cap' spare k1 (fun h => ⟨(k5 (by omega)).1, (k5 (by omega)).2.1⟩) (by omega) k3 k6
theorem App.pushC0 {bytes : Nat} {tk : Tk} {x : α} (h2 : bytes ≤ 140737488355328)
    (hk : ∀ b' cap' sp', st.sz ≤ b' → 2 + sp'.length = cap' * 2 → cap' ≤ maxLen → mono (rowc val [x] sp') → obsOk (st.put b' (rowc val [x] sp')) A obs ∧
      Ops P rest k (putV A d (dataV b' [x].length cap')) (st.put b' (rowc val [x] sp'))) : App P 2 bytes (.sl .nil []) (.sl tk [.agg [(val x).1, (val x).2]]) d obs rest k A st := by
  refine App.new (by intro d hd; simp only [List.mem_singleton] at hd; subst hd; rfl) (by simp) (by simp [maxLen]) (by simpa using h2) fun b' cap' spare k1 k2 k3 k4 k5 => ?_
  have e : [V.agg [(val x).1, (val x).2]].flatMap V.cells ++ spare = rowc val [x] spare := by simp [rowc, two, V.cells]
  rw [e] at k5 ⊢
  simp only [List.length_cons, List.length_nil] at k4
  exact hk b' cap' spare k1 (by omega) k3 k5
/-- A row in a box that the caller's state does not know. -/
structure RBC (val : α → V × V) (base s : St) (b cap : Nat) (L : List α) (sp : List V) : Prop where
  box : s.box b = some (rowc val L sp)
  len : L.length * 2 + sp.length = cap * 2
  mono : mono (rowc val L sp)
  max : cap ≤ maxLen
  weak : base.weak s
  lt : s.Lt
  fresh : base.sz ≤ b
theorem RBC.self {base s : St} {b cap : Nat} (h : RBC val base s b cap L sp) : s.put b (rowc val L sp) = s := put_selfR h.box (h.lt.box b _ h.box)
theorem RBC.mk0 {base s : St} {b cap : Nat} {x : α} (hw : base.weak s) (hl : s.Lt) (k1 : s.sz ≤ b) (k2 : 2 + sp.length = cap * 2) (k3 : cap ≤ maxLen) (k4 : _root_.Go.Proofs.Ytlngegoamfklgaa.mono (rowc val [x] sp)) : RBC val base (s.put b (rowc val [x] sp)) b cap [x] sp :=
  ⟨put_box_same, by simpa using k2, k4, k3, weak_put hw (by have := hw.sz; omega), hl.put, by have := hw.sz; omega⟩
theorem RBC.push {base s : St} {b cap b' cap' : Nat} {x : α} {sp' : List V} (h : RBC val base s b cap L sp) (k1 : b' = b ∨ s.sz ≤ b') (k2 : (L.length + 1) * 2 + sp'.length = cap' * 2) (k3 : cap' ≤ maxLen) (k4 : _root_.Go.Proofs.Ytlngegoamfklgaa.mono (rowc val (L ++ [x]) sp')) :
    RBC val base (s.put b' (rowc val (L ++ [x]) sp')) b' cap' (L ++ [x]) sp' := by
  have hf : base.sz ≤ b' := by
    have := h.fresh; have := h.weak.sz
    rcases k1 with rfl | k1 <;> omega
  exact ⟨put_box_same, by simpa using k2, k4, k3, weak_put h.weak hf, h.lt.put, hf⟩
/-- Another box beside it. -/
theorem RBC.put {base s : St} {b cap c : Nat} {cs : List V} (h : RBC val base s b cap L sp) (hb : b ≠ c) (hc : base.sz ≤ c) : RBC val base (s.put c cs) b cap L sp :=
  ⟨by rw [put_box_ne hb]; exact h.box, h.len, h.mono, h.max, weak_put h.weak hc, h.lt.put, h.fresh⟩
/-- The row turned. -/
theorem RBC.mix {base s : St} {b cap : Nat} {M : List α} (h : RBC val base s b cap L sp) (hM : M.length = L.length) : RBC val base (s.put b (rowc val M sp)) b cap M sp :=
  ⟨put_box_same, by rw [hM]; exact h.len, rowc_mono h.mono hM, h.max, weak_put h.weak h.fresh, h.lt.put, h.fresh⟩
end
end
section
open Go

section
variable {κ ν : Type} [DecidableEq κ]
/-- What a list has under a key. -/
def aget (a : κ) : List (κ × ν) → Option ν
  | [] => none
  | p :: l => if a = p.1 then some p.2 else aget a l
def aset (a : κ) (v : ν) : List (κ × ν) → List (κ × ν)
  | [] => [(a, v)]
  | p :: l => if a = p.1 then (a, v) :: l else p :: aset a v l
def adel (a : κ) : List (κ × ν) → List (κ × ν)
  | [] => []
  | p :: l => if a = p.1 then l else p :: adel a l
theorem aget_none {a : κ} : ∀ {l : List (κ × ν)}, aget a l = none ↔ ∀ p ∈ l, p.1 ≠ a
  | [] => by simp [aget]
  | p :: l => by
    simp only [aget]
    split
    · rename_i h; simp [h]
    · rename_i h
      rw [aget_none]
      simp only [List.mem_cons, forall_eq_or_imp, ne_eq]
      exact ⟨fun h' => ⟨fun e => h e.symm, h'⟩, fun h' => h'.2⟩
theorem aget_mem {a : κ} {v : ν} : ∀ {l : List (κ × ν)}, aget a l = some v → (a, v) ∈ l
  | [], h => by cases h
  | p :: l, h => by
    simp only [aget] at h
    split at h
    · rename_i e
      simp only [Option.some.injEq] at h
      subst h; subst e
      simp
    · exact List.mem_cons_of_mem _ (aget_mem h)
theorem aget_some {a : κ} : ∀ {l : List (κ × ν)}, (∃ p ∈ l, p.1 = a) → ∃ v, aget a l = some v := fun {l} h => by
  cases e : aget a l with
  | none =>
    obtain ⟨p, hp, hpa⟩ := h
    exact absurd hpa (aget_none.1 e p hp)
  | some v => exact ⟨v, rfl⟩
theorem aget_of_mem {a : κ} {v : ν} : ∀ {l : List (κ × ν)}, (l.map (·.1)).Nodup → (a, v) ∈ l → aget a l = some v
  | [], _, h => by cases h
  | p :: l, hn, h => by
    simp only [List.map_cons, List.nodup_cons, List.mem_map, not_exists, not_and] at hn
    simp only [aget]
    rcases List.mem_cons.1 h with rfl | h
    · simp
    · rw [if_neg (fun e => hn.1 (a, v) h e), aget_of_mem hn.2 h]
theorem aset_new {a : κ} {v : ν} : ∀ {l : List (κ × ν)}, aget a l = none → aset a v l = l ++ [(a, v)]
  | [], _ => rfl
  | p :: l, h => by
    simp only [aget] at h
    split at h
    · cases h
    · rename_i e
      simp only [aset, if_neg e, aset_new h, List.cons_append]
theorem adel_same {a : κ} : ∀ {l : List (κ × ν)}, aget a l = none → adel a l = l
  | [], _ => rfl
  | p :: l, h => by
    simp only [aget] at h
    split at h
    · cases h
    · rename_i e
      simp only [adel, if_neg e, adel_same h]
theorem adel_filter {a : κ} : ∀ {l : List (κ × ν)}, (l.map (·.1)).Nodup → adel a l = l.filter fun p => p.1 ≠ a
  | [], _ => rfl
  | p :: l, hn => by
    simp only [List.map_cons, List.nodup_cons, List.mem_map, not_exists, not_and] at hn
    simp only [adel, List.filter_cons]
    by_cases e : a = p.1
    · rw [if_pos e, if_neg (by simp [e])]
      refine (List.filter_eq_self.2 fun q hq => ?_).symm
      simp only [decide_eq_true_eq]
      exact fun h => hn.1 q hq (h.trans e)
    · rw [if_neg e, if_pos (by simp; exact fun h => e h.symm), adel_filter hn.2]
theorem adel_nodup {a : κ} {l : List (κ × ν)} (hn : (l.map (·.1)).Nodup) : ((adel a l).map (·.1)).Nodup := by
  rw [adel_filter hn]
  exact hn.sublist (List.filter_sublist.map _)
theorem aset_nodup {a : κ} {v : ν} : ∀ {l : List (κ × ν)}, (l.map (·.1)).Nodup → ((aset a v l).map (·.1)).Nodup
  | [], _ => by simp [aset]
  | p :: l, hn => by
    simp only [aset]
    split
    · rename_i e; simpa [e] using hn
    · rename_i e
      simp only [List.map_cons, List.nodup_cons] at hn ⊢
      refine ⟨fun h => ?_, aset_nodup hn.2⟩
      obtain ⟨q, hq, hqe⟩ := List.mem_map.1 h
      by_cases hc : aget a l = none
      · rw [aset_new hc] at hq
        rcases List.mem_append.1 hq with hq | hq
        · exact hn.1 (List.mem_map.2 ⟨q, hq, hqe⟩)
        · simp at hq; subst hq; exact e hqe
      · have hk : ∀ {l : List (κ × ν)}, aget a l ≠ none → (aset a v l).map (·.1) = l.map (·.1) := fun {l} => by
          induction l with
          | nil => intro h; exact absurd rfl h
          | cons p l ih =>
            intro h
            simp only [aget] at h
            simp only [aset]
            split
            · rename_i e; simp [e]
            · rename_i e; rw [if_neg e] at h; simp [ih h]
        rw [hk hc] at h
        exact hn.1 h
theorem aget_set {a b : κ} {v : ν} : ∀ {l : List (κ × ν)}, aget b (aset a v l) = if b = a then some v else aget b l
  | [] => by simp only [aset, aget]
  | p :: l => by
    simp only [aset]
    split
    · rename_i e
      simp only [aget]
      split
      · rfl
      · rename_i h; rw [if_neg (fun h' => h (h'.trans e.symm))]
    · rename_i e
      simp only [aget, aget_set]
      split
      · rename_i h
        rw [if_neg (fun h' => e (h'.symm.trans h))]
      · rfl
theorem aget_del {a b : κ} {l : List (κ × ν)} (hn : (l.map (·.1)).Nodup) : aget b (adel a l) = if b = a then none else aget b l := by
  rw [adel_filter hn]
  clear hn
  induction l with
  | nil => simp [aget]
  | cons p l ih =>
    simp only [List.filter_cons]
    by_cases h : p.1 = a
    · rw [if_neg (by simp [h]), ih]
      simp only [aget]
      split
      · rfl
      · rename_i hb; rw [if_neg (fun e => hb (e.trans h))]
    · rw [if_pos (by simpa using h)]
      simp only [aget, ih]
      split
      · rename_i hb; rw [if_neg (fun e => h (hb.symm.trans e))]
      · rfl

end
section
variable {κ ν : Type}
/-- The entries of a map are this list's. -/
structure Mp (kf : κ → V) (vf : ν → V) (es : List (V × V × Nat)) (c : Nat) (l : List (κ × ν)) : Prop where
  eq : es.map (fun e => (e.1, e.2.1)) = l.map fun p => (kf p.1, vf p.2)
  inc : (es.map (·.2.2)).Pairwise (· < ·)
  lt : ∀ e ∈ es, e.2.2 < c
variable {kf : κ → V} {vf : ν → V} {es : List (V × V × Nat)} {c : Nat} {l : List (κ × ν)}
theorem Mp.nil : Mp kf vf [] c ([] : List (κ × ν)) := ⟨rfl, .nil, fun e he => by cases he⟩
theorem Mp.len (h : Mp kf vf es c l) : es.length = l.length := by simpa using congrArg List.length h.eq
theorem Mp.at (h : Mp kf vf es c l) {i : Nat} {e : V × V × Nat} (he : es[i]? = some e) : ∃ p, l[i]? = some p ∧ e.1 = kf p.1 ∧ e.2.1 = vf p.2 := by
  have h1 : (es.map (fun e => (e.1, e.2.1)))[i]? = some (e.1, e.2.1) := by simp [he]
  rw [h.eq, List.getElem?_map, Option.map_eq_some_iff] at h1
  obtain ⟨p, hp, hpe⟩ := h1
  simp only [Prod.mk.injEq] at hpe
  exact ⟨p, hp, hpe.1.symm, hpe.2.symm⟩
end
section
variable {κ ν : Type} [DecidableEq κ] {kf : κ → V} {vf : ν → V} {es : List (V × V × Nat)} {c : Nat} {l : List (κ × ν)}
theorem mfind_eq (hk : ∀ a b, eqV (kf a).cells (kf b).cells = decide (a = b)) (a : κ) : ∀ (es : List (V × V × Nat)) (l : List (κ × ν)), es.map (fun e => (e.1, e.2.1)) = l.map (fun p => (kf p.1, vf p.2)) → mfind (kf a) es = (aget a l).map vf
  | [], [], _ => rfl
  | e :: es, p :: l, h => by
    simp only [List.map_cons, List.cons.injEq, Prod.mk.injEq] at h
    simp only [mfind, aget, h.1.1, hk, decide_eq_true_eq]
    split
    · simp [h.1.2]
    · exact mfind_eq hk a es l h.2
  | [], _ :: _, h => by simp at h
  | _ :: _, [], h => by simp at h
theorem Mp.find (hk : ∀ a b, eqV (kf a).cells (kf b).cells = decide (a = b)) (h : Mp kf vf es c l) (a : κ) : mfind (kf a) es = (aget a l).map vf := mfind_eq hk a es l h.eq
theorem mset_eq (hk : ∀ a b, eqV (kf a).cells (kf b).cells = decide (a = b)) (a : κ) (v : ν) (c : Nat) : ∀ (es : List (V × V × Nat)) (l : List (κ × ν)), es.map (fun e => (e.1, e.2.1)) = l.map (fun p => (kf p.1, vf p.2)) →
    (mset (kf a) (vf v) c es).map (fun e => (e.1, e.2.1)) = (aset a v l).map (fun p => (kf p.1, vf p.2)) ∧ (mset (kf a) (vf v) c es).map (·.2.2) = if (aget a l).isSome = true then es.map (·.2.2) else es.map (·.2.2) ++ [c]
  | [], [], _ => by simp [mset, aset, aget]
  | e :: es, p :: l, h => by
    simp only [List.map_cons, List.cons.injEq, Prod.mk.injEq] at h
    simp only [mset, aset, aget, h.1.1, hk, decide_eq_true_eq]
    split
    · simp [h.2]
    · obtain ⟨h1, h2⟩ := mset_eq hk a v c es l h.2
      simp only [List.map_cons, h1, h2, h.1.1, h.1.2, true_and]
      split <;> simp
  | [], _ :: _, h => by simp at h
  | _ :: _, [], h => by simp at h
theorem Mp.set (hk : ∀ a b, eqV (kf a).cells (kf b).cells = decide (a = b)) (h : Mp kf vf es c l) (a : κ) (v : ν) : Mp kf vf (mset (kf a) (vf v) c es) (mclk es (kf a) c) (aset a v l) := by
  obtain ⟨h1, h2⟩ := mset_eq hk a v c es l h.eq
  have hf := Mp.find hk h a
  have hlt : ∀ x ∈ es.map (·.2.2), x < c := fun x hx => by
    obtain ⟨e, he, rfl⟩ := List.mem_map.1 hx
    exact h.lt e he
  refine ⟨h1, ?_, fun e he => ?_⟩
  · rw [h2]
    split
    · exact h.inc
    · rw [List.pairwise_append]
      exact ⟨h.inc, by simp, fun x hx y hy => by simp at hy; subst hy; exact hlt x hx⟩
  · have he' : e.2.2 ∈ (mset (kf a) (vf v) c es).map (·.2.2) := List.mem_map.2 ⟨e, he, rfl⟩
    rw [h2] at he'
    unfold mclk
    rw [hf]
    cases hg : aget a l with
    | none =>
      rw [hg, if_neg (by simp)] at he'
      simp only [Option.isSome_none, Bool.false_eq_true, ↓reduceIte, Option.map_none]
      rcases List.mem_append.1 he' with h' | h'
      · have := hlt _ h'; omega
      · simp at h'; omega
    | some v =>
      rw [hg, if_pos (by simp)] at he'
      simp only [Option.isSome_some, ↓reduceIte, Option.map_some]
      exact hlt _ he'
theorem mdel_eq (hk : ∀ a b, eqV (kf a).cells (kf b).cells = decide (a = b)) (a : κ) : ∀ (es : List (V × V × Nat)) (l : List (κ × ν)), es.map (fun e => (e.1, e.2.1)) = l.map (fun p => (kf p.1, vf p.2)) →
    (mdel (kf a) es).map (fun e => (e.1, e.2.1)) = (adel a l).map (fun p => (kf p.1, vf p.2)) ∧ (mdel (kf a) es).Sublist es
  | [], [], _ => by simp [mdel, adel]
  | e :: es, p :: l, h => by
    simp only [List.map_cons, List.cons.injEq, Prod.mk.injEq] at h
    simp only [mdel, adel, h.1.1, hk, decide_eq_true_eq]
    split
    · exact ⟨h.2, List.sublist_cons_self _ _⟩
    · obtain ⟨h1, h2⟩ := mdel_eq hk a es l h.2
      exact ⟨by simp only [List.map_cons, h1, h.1.1, h.1.2], h2.cons_cons _⟩
  | [], _ :: _, h => by simp at h
  | _ :: _, [], h => by simp at h
theorem Mp.del (hk : ∀ a b, eqV (kf a).cells (kf b).cells = decide (a = b)) (h : Mp kf vf es c l) (a : κ) : Mp kf vf (mdel (kf a) es) c (adel a l) := by
  obtain ⟨h1, h2⟩ := mdel_eq hk a es l h.eq
  exact ⟨h1, h.inc.sublist (h2.map _), fun e he => h.lt e (h2.subset he)⟩
/-- 'm[k] = v' in two steps: the entry, then its value. -/
theorem mborn_eq (hk : ∀ a b, eqV (kf a).cells (kf b).cells = decide (a = b)) (a : κ) (v w : ν) (c : Nat) : ∀ (es : List (V × V × Nat)) (l : List (κ × ν)), es.map (fun e => (e.1, e.2.1)) = l.map (fun p => (kf p.1, vf p.2)) → (es.map (·.2.2)).Pairwise (· < ·) → (∀ e ∈ es, e.2.2 < c) →
    mstamp (mborn (kf a) c es) (vf v) (mset (kf a) (vf w) c es) = mset (kf a) (vf v) c es ∧ ∃ e ∈ mset (kf a) (vf w) c es, e.2.2 = mborn (kf a) c es
  | [], [], _, _, _ => by simp [mset, mborn, mstamp]
  | e :: es, p :: l, h, hi, hl => by
    simp only [List.map_cons, List.cons.injEq, Prod.mk.injEq] at h
    simp only [List.map_cons, List.pairwise_cons] at hi
    simp only [mset, mborn, h.1.1, hk, decide_eq_true_eq]
    split
    · simp [mstamp]
    · obtain ⟨h1, e', he', h2⟩ := mborn_eq hk a v w c es l h.2 hi.2 (fun x hx => hl x (List.mem_cons_of_mem _ hx))
      have hne : e.2.2 ≠ mborn (kf a) c es := by
        have : mborn (kf a) c es = c ∨ mborn (kf a) c es ∈ es.map (·.2.2) := by
          clear h1 he' h2 hi hl h
          induction es with
          | nil => left; rfl
          | cons x es ih =>
            simp only [mborn]
            split
            · right; simp
            · rcases ih with h | h
              · exact .inl h
              · right; simp only [List.map_cons, List.mem_cons]; exact .inr h
        rcases this with h | h
        · rw [h]; have := hl e (by simp); omega
        · have := hi.1 _ h; omega
      refine ⟨?_, e', List.mem_cons_of_mem _ he', h2⟩
      simp only [mstamp, if_neg hne, h1]
  | [], _ :: _, h, _, _ => by simp at h
  | _ :: _, [], h, _, _ => by simp at h
theorem Mp.two (hk : ∀ a b, eqV (kf a).cells (kf b).cells = decide (a = b)) (h : Mp kf vf es c l) (a : κ) (v w : ν) : mstamp (mborn (kf a) c es) (vf v) (mset (kf a) (vf w) c es) = mset (kf a) (vf v) c es ∧ ∃ e ∈ mset (kf a) (vf w) c es, e.2.2 = mborn (kf a) c es := mborn_eq hk a v w c es l h.eq h.inc h.lt
end
section
variable {κ ν : Type} {kf : κ → V} {vf : ν → V} {es : List (V × V × Nat)} {c : Nat} {l : List (κ × ν)}

/-! ### Going through a map -/
structure Going (es : List (V × V × Nat)) (seen ix : List Nat) : Prop where
  nd : ix.Nodup
  lt : ∀ i ∈ ix, i < es.length
  eq : seen = ix.map fun i => ((es[i]?).map (·.2.2)).getD 0
theorem Going.nil : Going es [] [] := ⟨.nil, fun i hi => (by cases hi), rfl⟩
theorem pairwise_inj {l : List Nat} (h : l.Pairwise (· < ·)) {i j : Nat} {x : Nat} (hi : l[i]? = some x) (hj : l[j]? = some x) : i = j := by
  have h1 := (List.getElem?_eq_some_iff.1 hi)
  have h2 := (List.getElem?_eq_some_iff.1 hj)
  obtain ⟨hi1, hi2⟩ := h1
  obtain ⟨hj1, hj2⟩ := h2
  rcases Nat.lt_trichotomy i j with hlt | rfl | hlt
  · have := List.pairwise_iff_getElem.1 h i j hi1 hj1 hlt; omega
  · rfl
  · have := List.pairwise_iff_getElem.1 h j i hj1 hi1 hlt; omega
theorem Going.step {seen ix : List Nat} (h : Mp kf vf es c l) (g : Going es seen ix) {e : V × V × Nat} (he : e ∈ es) (hs : e.2.2 ∉ seen) :
    ∃ i p, i ∉ ix ∧ es[i]? = some e ∧ l[i]? = some p ∧ e.1 = kf p.1 ∧ e.2.1 = vf p.2 ∧ Going es (seen ++ [e.2.2]) (ix ++ [i]) := by
  obtain ⟨i, hi⟩ := List.mem_iff_getElem?.1 he
  obtain ⟨p, hp, h1, h2⟩ := h.at hi
  have hn : i ∉ ix := fun hx => hs (by rw [g.eq]; exact List.mem_map.2 ⟨i, hx, by rw [hi]; rfl⟩)
  refine ⟨i, p, hn, hi, hp, h1, h2, ?_, fun j hj => ?_, ?_⟩
  · rw [List.nodup_append]
    exact ⟨g.nd, by simp, fun x hx y hy => by simp at hy; subst hy; exact fun e => hn (e ▸ hx)⟩
  · rcases List.mem_append.1 hj with hj | hj
    · exact g.lt j hj
    · simp at hj; subst hj; exact (List.getElem?_eq_some_iff.1 hi).1
  · rw [g.eq, List.map_append]
    simp [hi]
theorem Going.done {seen ix : List Nat} (h : Mp kf vf es c l) (g : Going es seen ix) (hall : ∀ e ∈ es, e.2.2 ∈ seen) : ∀ i, i < l.length → i ∈ ix := fun i hi => by
  rw [← h.len] at hi
  have hi' := List.getElem?_eq_getElem hi
  have := hall _ (List.mem_of_getElem? hi')
  rw [g.eq] at this
  obtain ⟨j, hj, hje⟩ := List.mem_map.1 this
  have hjl := g.lt j hj
  have hj' := List.getElem?_eq_getElem hjl
  rw [hj'] at hje
  simp only [Option.map_some, Option.getD_some] at hje
  have : i = j := pairwise_inj h.inc (x := es[i].2.2) (by simp [hi']) (by simp [hj', hje])
  exact this ▸ hj
theorem Going.perm {seen ix : List Nat} (h : Mp kf vf es c l) (g : Going es seen ix) (hall : ∀ e ∈ es, e.2.2 ∈ seen) : ix.Perm (List.range l.length) := by
  refine (List.perm_ext_iff_of_nodup g.nd List.nodup_range).2 fun i => ?_
  rw [List.mem_range]
  exact ⟨fun hi => by have := g.lt i hi; rw [h.len] at this; exact this, g.done h hall i⟩
theorem Going.len {seen ix : List Nat} (g : Going es seen ix) : ix.length ≤ es.length := by
  have := g.nd.length_le_of_subset (l₂ := List.range es.length) (fun i hi => List.mem_range.2 (g.lt i hi))
  simpa using this
theorem Going.seenLen {seen ix : List Nat} (g : Going es seen ix) : seen.length = ix.length := by rw [g.eq]; simp
/-- The entry that one is at. -/
theorem Mp.ent (h : Mp kf vf es c l) {e : V × V × Nat} (he : e ∈ es) {seen : List Nat} : es.find? (fun x => some x.2.2 == (seen ++ [e.2.2]).getLast?) = some e := by
  obtain ⟨i, hi⟩ := List.mem_iff_getElem?.1 he
  obtain ⟨hi1, hi2⟩ := List.getElem?_eq_some_iff.1 hi
  rw [List.getLast?_concat]
  refine List.find?_eq_some_iff_getElem.2 ⟨by simp, i, hi1, hi2, fun j hj => ?_⟩
  have := List.pairwise_iff_getElem.1 h.inc j i (by simp; omega) (by simpa using hi1) hj
  simp only [List.getElem_map, hi2] at this
  simp only [Option.some_beq_some, Bool.not_eq_true', beq_eq_false_iff_ne, ne_eq]
  omega
end
end
section
open Go

def ival (x : Int) : V := .sc (.int .i64 x)
theorem keyV_eq (a b : Key) : eqV (keyV a).cells (keyV b).cells = decide (a = b) := by
  simp only [keyV, V.cells, eqV, Bool.and_true]
  rw [Bool.eq_iff_iff]
  simp only [Bool.and_eq_true, decide_eq_true_eq]
  exact ⟨fun h => Prod.ext h.1 h.2, fun h => by rw [h]; exact ⟨rfl, rfl⟩⟩
structure TblB (s : St) (b mb : Nat) (most : Int) (T : List (Key × Int)) (es : List (V × V × Nat)) (c : Nat) : Prop where
  box : s.box b = some [.sc (.map (some mb)), .sc (.int .i64 most)]
  mbox : s.box mb = some [.mp true [.int .i64, .int .u16] es c]
  mp : Mp keyV ival es c T
  bm : b ≠ mb
theorem TblB.find {s : St} {b mb c : Nat} {most : Int} {T : List (Key × Int)} {es : List (V × V × Nat)} (h : TblB s b mb most T es c) (k : Key) : mfind (.agg [.sc (.int .i64 k.1), .sc (.int .u16 k.2)]) es = (aget k T).map ival := Mp.find keyV_eq h.mp k
/-- How many a peer has. -/
def manyT (conn : Int) (T : List (Key × Int)) : Nat := T.countP fun p => decide (p.1.1 = conn)
def connAt (conn : Int) (T : List (Key × Int)) (i : Nat) : Bool := match T[i]? with | some p => decide (p.1.1 = conn) | none => false
theorem range_at {α : Type} (T : List α) (d : α) : T = (List.range T.length).map fun i => (T[i]?).getD d :=
  List.ext_getElem (by simp) fun i h1 h2 => by simp [h1]
theorem many_perm {conn : Int} {T : List (Key × Int)} {ix : List Nat} (h : ix.Perm (List.range T.length)) : ix.countP (connAt conn T) = manyT conn T := by
  rw [h.countP_eq]
  unfold manyT
  have e := range_at T ((0, 0), 0)
  have e2 : T.countP (fun p => decide (p.1.1 = conn)) = ((List.range T.length).map fun i => (T[i]?).getD ((0, 0), 0)).countP (fun p => decide (p.1.1 = conn)) := by rw [← e]
  rw [e2, List.countP_map]
  refine List.countP_congr fun i hi => ?_
  have hl := List.mem_range.1 hi
  simp [connAt, hl]
section
variable {st : St} {b mb c : Nat} {most conn : Int} {T : List (Key × Int)} {es : List (V × V × Nat)}
set_option maxRecDepth 100000 in
theorem tblNew_v : VCalls Try.prog 48 [.sc (.int .i64 most)] st fun v s => ∃ b mb, v = ptrV b ∧ TblB s b mb most [] [] 0 ∧ st.weak s ∧ s.Lt ∧ st.sz ≤ b ∧ st.sz ≤ mb := by
  refine vcalls_enter vc48 (Nat.le_of_ble_eq_true rfl) fun hwf hok => ?_
  show Run _ Vc48.body (.fin (finQ Vc48.res _)) _ _
  unfold Vc48
  have hlt := hwf.lt
  simp (config := {maxSteps := 3000000}) only [go_sem, Nat.reduceEqDiff, Nat.reduceAdd, Nat.reduceLT, Nat.reduceLeDiff, ↓reduceIte, reduceCtorEq]
  intro mb hmb b hb
  have hmb2 : mb < b := by omega
  have hb2 : st.sz ≤ b := by omega
  clear hb
  exact ⟨_, _, Wk.refl _, hlt.put.put.weak, b, mb, rfl, ⟨put_box_same, by rw [put_box_ne (by omega), put_box_same], .nil, by omega⟩, weak_put (weak_put hwf.weak hmb) hb2, hlt.put.put, hb2, hmb⟩
set_option maxRecDepth 100000 in
theorem tblLen_v (h : TblB st b mb most T es c) : VCalls Try.prog 50 [ptrV b] st fun v s => v = .sc (.int .i64 T.length) ∧ st = s := by
  refine vcalls_enter vc50 (Nat.le_of_ble_eq_true rfl) fun hwf hok => ?_
  show Run _ Vc50.body (.fin (finQ Vc50.res _)) _ _
  unfold Vc50
  simp (config := {maxSteps := 3000000}) only [go_sem, ↓reduceIte, reduceCtorEq, h.box, h.mbox, h.mp.len]
  exact ⟨_, _, Wk.refl _, hwf.weak, rfl, rfl⟩
set_option maxRecDepth 100000 in
set_option maxHeartbeats 4000000 in
theorem tblMany_v (h : TblB st b mb most T es c) (hT : T.length ≤ 1000) : VCalls Try.prog 51 [ptrV b, .sc (.int .i64 conn)] st fun v s => v = .sc (.int .i64 (manyT conn T)) ∧ st = s := by
  refine vcalls_enter vc51 (Nat.le_of_ble_eq_true rfl) fun hwf hok => ?_
  show Run _ Vc51.body (.fin (finQ Vc51.res _)) _ _
  unfold Vc51
  have hlt := hwf.lt
  have hms := hlt.box mb _ h.mbox
  simp (config := {maxSteps := 3000000}) only [go_sem, ↓reduceIte, reduceCtorEq, h.box, h.mbox]
  intro r hr
  refine run_loop [5, 6, 12, 13, 14, 15, 16, 17, 18, 19, 20, 21] (fun B s => ∃ (seen ix : List Nat) (last : Nat), B 5 = .sc (.int .i64 (ix.countP (connAt conn T))) ∧ st.weak s ∧ s.Lt ∧ s.box r = some [.it (some mb) c seen last] ∧ c ≤ last ∧ Going es seen ix)
    (fun B s => match s.box r with | some [.it _ _ seen _] => es.length - seen.length | _ => 0) rfl ?_ ?_
  · exact ⟨[], [], c, rfl, weak_put hwf.weak hr, hlt.put, put_box_same, Nat.le_refl _, .nil⟩
  · rintro B s ⟨seen, ix, last, h5, hw, hl, hit, hcl, hg⟩
    simp (config := {maxSteps := 3000000}) only [go_sem, ↓reduceIte, Nat.reduceBEq]
    have hbox := (hw.box mb _ h.mbox).1
    refine Nxt.mk (m := mb) hit hbox h.mp.lt hcl ?_ ?_
    · intro hall
      have hp := hg.perm h.mp hall
      simp (config := {maxSteps := 3000000}) only [go_sem, Nat.reduceEqDiff, ↓reduceIte, Nat.reduceBEq, h5]
      exact ⟨_, _, Wk.refl _, hw, by rw [many_perm hp], rfl⟩
    · intro e he hns
      obtain ⟨i, p, hni, hei, hp, hek, hev, hg'⟩ := hg.step h.mp he hns
      have hent := h.mp.ent he (seen := seen)
      have hname : e.1 = .agg [.sc (.int .i64 p.1.1), .sc (.int .u16 p.1.2)] := hek
      have nr : mb ≠ r := by omega
      have hle : ix.countP (connAt conn T) ≤ ix.length := List.countP_le_length
      have hil := hg'.len
      have h2 := h.mp.len
      rw [List.length_append] at hil
      simp only [List.length_cons, List.length_nil] at hil
      simp (config := {maxSteps := 3000000}) only [go_sem, Nat.reduceEqDiff, Nat.reduceAdd, Nat.reduceLT, Nat.reduceLeDiff, ↓reduceIte, Nat.reduceBEq, hbox, hent, hname, put_box_ne nr]
      intro v hv
      have hcnt : (ix ++ [i]).countP (connAt conn T) = ix.countP (connAt conn T) + if p.1.1 = conn then 1 else 0 := by
        rw [List.countP_append, List.countP_singleton]
        simp only [connAt, hp, decide_eq_true_eq]
      have rv : r ≠ v := by have := hl.box r _ hit; omega
      have sv : st.sz ≤ v := by have := hw.sz; omega
      have hmeas : es.length - (seen ++ [e.2.2]).length < es.length - seen.length := by
        have := hg'.seenLen
        have := hg.seenLen
        simp only [List.length_append, List.length_cons, List.length_nil] at *
        omega
      by_cases cc : p.1.1 = conn
      · rw [if_pos cc] at hcnt
        simp (config := {maxSteps := 3000000}) only [go_sem, Nat.reduceEqDiff, Int.reduceNeg, ↓reduceIte, Nat.reduceBEq, h5, decide_eq_true cc]
        repeat (apply And.intro; focus (first | omega | (simp; done)))
        exact ⟨⟨seen ++ [e.2.2], ix ++ [i], c, by rw [hcnt]; simp, weak_put (weak_put hw hr) sv, hl.put.put, by rw [put_box_ne rv, put_box_same], Nat.le_refl _, hg'⟩, by rw [put_box_ne rv, put_box_same, hit]; exact hmeas⟩
      · rw [if_neg cc] at hcnt
        simp (config := {maxSteps := 3000000}) only [go_sem, Nat.reduceEqDiff, ↓reduceIte, Nat.reduceBEq, h5, decide_eq_false cc]
        repeat (apply And.intro; focus (first | omega | (simp; done)))
        exact ⟨⟨seen ++ [e.2.2], ix ++ [i], c, by rw [hcnt]; simp, weak_put (weak_put hw hr) sv, hl.put.put, by rw [put_box_ne rv, put_box_same], Nat.le_refl _, hg'⟩, by rw [put_box_ne rv, put_box_same, hit]; exact hmeas⟩
set_option maxRecDepth 100000 in
theorem tblGet_v (h : TblB st b mb most T es c) {k : Key} : VCalls Try.prog 136 [ptrV b, .agg [.sc (.int .i64 k.1), .sc (.int .u16 k.2)]] st fun v s => v = .tup [.sc (.int .i64 ((aget k T).getD 0)), .sc (.bool (aget k T).isSome)] ∧ st = s := by
  refine vcalls_enter vc136 (Nat.le_of_ble_eq_true rfl) fun hwf hok => ?_
  show Run _ Vc136.body (.fin (finQ Vc136.res _)) _ _
  unfold Vc136
  have hlt := hwf.lt
  have hms := hlt.box mb _ h.mbox
  have hbs := hlt.box b _ h.box
  simp (config := {maxSteps := 3000000}) only [go_sem, Nat.reduceAdd, ↓reduceIte, reduceCtorEq]
  intro v hv
  have nm : mb ≠ v := by omega
  have nb : b ≠ v := by omega
  cases hg : aget k T with
  | none =>
    simp (config := {maxSteps := 3000000}) only [go_sem, Nat.reduceEqDiff, Nat.reduceAdd, Nat.reduceLeDiff, ↓reduceIte, put_box_ne nm, put_box_ne nb, h.box, h.mbox, h.find, hg, Option.isSome_none, Option.getD_none, Option.map_none]
    exact ⟨_, _, Wk.refl _, weak_put hwf.weak hv, by simp, rfl⟩
  | some x =>
    simp (config := {maxSteps := 3000000}) only [go_sem, Nat.reduceEqDiff, Nat.reduceAdd, Nat.reduceLeDiff, ↓reduceIte, put_box_ne nm, put_box_ne nb, h.box, h.mbox, h.find, hg, Option.isSome_some, Option.getD_some, Option.map_some, ival]
    exact ⟨_, _, Wk.refl _, weak_put hwf.weak hv, by simp, rfl⟩
theorem TblB.put {s : St} (h : TblB s b mb most T es c) {d : Nat} {cs : List V} (h1 : b ≠ d) (h2 : mb ≠ d) : TblB (s.put d cs) b mb most T es c := ⟨by rw [put_box_ne h1]; exact h.box, by rw [put_box_ne h2]; exact h.mbox, h.mp, h.bm⟩
/-- What Put answers. -/
def PutQ (st : St) (mb : Nat) (most : Int) (T : List (Key × Int)) (es : List (V × V × Nat)) (c : Nat) (k : Key) (x : Int) (v : V) (s : St) : Prop :=
  (((aget k T).isSome = true ∨ most ≤ manyT k.1 T) ∧ v = .sc (.bool false) ∧ st = s) ∨
    (aget k T = none ∧ ¬ most ≤ manyT k.1 T ∧ v = .sc (.bool true) ∧ s = st.put mb [.mp true [.int .i64, .int .u16] (mset (keyV k) (ival x) c es) (mclk es (keyV k) c)])
set_option maxRecDepth 100000 in
theorem tblPut_v (h : TblB st b mb most T es c) (hT : T.length ≤ 1000) {k : Key} {x : Int} : VCalls Try.prog 84 [ptrV b, .agg [.sc (.int .i64 k.1), .sc (.int .u16 k.2)], .sc (.int .i64 x)] st (PutQ st mb most T es c k x) := by
  refine vcalls_enter vc84 (Nat.le_of_ble_eq_true rfl) fun hwf hok => ?_
  show Run _ Vc84.body (.fin (finQ Vc84.res _)) _ _
  unfold Vc84
  have hlt := hwf.lt
  have hms := hlt.box mb _ h.mbox
  have hbs := hlt.box b _ h.box
  simp (config := {maxSteps := 3000000}) only [go_sem, Nat.reduceAdd, ↓reduceIte, reduceCtorEq]
  intro v hv
  have nm : mb ≠ v := by omega
  have nb : b ≠ v := by omega
  have h2 := h.put (cs := [.sc (.int .i64 k.1), .sc (.int .u16 k.2)]) nb nm
  cases hg : aget k T with
  | some y =>
    simp (config := {maxSteps := 3000000}) only [go_sem, Nat.reduceEqDiff, Nat.reduceAdd, Nat.reduceLeDiff, ↓reduceIte, put_box_ne nm, put_box_ne nb, h.box, h.mbox, h.find, hg, Option.isSome_some, Option.getD_some, Option.map_some, ival]
    exact ⟨_, _, Wk.refl _, weak_put hwf.weak hv, .inl ⟨.inl (by rw [hg]; rfl), rfl, rfl⟩⟩
  | none =>
    simp (config := {maxSteps := 3000000}) only [go_sem, Nat.reduceEqDiff, Nat.reduceAdd, Nat.reduceLeDiff, ↓reduceIte, reduceCtorEq, put_box_ne nm, put_box_ne nb, h.box, h.mbox, h.find, hg, Option.isSome_none, Option.getD_none, Option.map_none]
    refine Cal.mk (tblMany_v h2 hT) ?_
    rintro _ _ ⟨rfl, rfl⟩ -
    by_cases cm : most ≤ (manyT k.1 T : Int)
    · simp (config := {maxSteps := 3000000}) only [go_sem, Nat.reduceEqDiff, ↓reduceIte, put_box_ne nb, h.box, decide_eq_true cm]
      exact ⟨_, _, Wk.refl _, weak_put hwf.weak hv, .inl ⟨.inr cm, rfl, rfl⟩⟩
    · have vm : v ≠ mb := nm.symm
      simp (config := {maxSteps := 3000000}) only [go_sem, Nat.reduceEqDiff, Nat.reduceAdd, Nat.reduceLeDiff, ↓reduceIte, reduceCtorEq, put_box_ne nm, put_box_ne nb, h.box, h.mbox, decide_eq_false cm]
      exact ⟨_, _, Wk.refl _, weak_both (weak_put hwf.weak hv), .inr ⟨hg, cm, rfl, rfl⟩⟩
set_option maxRecDepth 100000 in
theorem tblDrop_v (h : TblB st b mb most T es c) {k : Key} : VCalls Try.prog 85 [ptrV b, .agg [.sc (.int .i64 k.1), .sc (.int .u16 k.2)]] st fun v s =>
    v = .sc (.bool (aget k T).isSome) ∧ s = st.put mb [.mp true [.int .i64, .int .u16] (mdel (keyV k) es) c] := by
  refine vcalls_enter vc85 (Nat.le_of_ble_eq_true rfl) fun hwf hok => ?_
  show Run _ Vc85.body (.fin (finQ Vc85.res _)) _ _
  unfold Vc85
  have hlt := hwf.lt
  have hms := hlt.box mb _ h.mbox
  have hbs := hlt.box b _ h.box
  simp (config := {maxSteps := 3000000}) only [go_sem, Nat.reduceAdd, ↓reduceIte, reduceCtorEq]
  intro v hv
  have nm : mb ≠ v := by omega
  have nb : b ≠ v := by omega
  cases hg : aget k T with
  | some y =>
    simp (config := {maxSteps := 3000000}) only [go_sem, Nat.reduceEqDiff, Nat.reduceAdd, Nat.reduceLeDiff, ↓reduceIte, reduceCtorEq, put_box_ne nm, put_box_ne nb, h.box, h.mbox, h.find, hg, Option.isSome_some, Option.getD_some, Option.map_some, ival]
    exact ⟨_, _, Wk.refl _, weak_both (weak_put hwf.weak hv), rfl, rfl⟩
  | none =>
    simp (config := {maxSteps := 3000000}) only [go_sem, Nat.reduceEqDiff, Nat.reduceAdd, Nat.reduceLeDiff, ↓reduceIte, reduceCtorEq, put_box_ne nm, put_box_ne nb, h.box, h.mbox, h.find, hg, Option.isSome_none, Option.getD_none, Option.map_none]
    exact ⟨_, _, Wk.refl _, weak_both (weak_put hwf.weak hv), rfl, rfl⟩
end
end
section
open Go

theorem pfxV_eq (a b : Pfx) : eqV (pfxV a).cells (pfxV b).cells = decide (a = b) := by
  simp only [pfxV, V.cells, eqV, Bool.and_true]
  rw [Bool.eq_iff_iff]
  simp only [Bool.and_eq_true, decide_eq_true_eq]
  exact ⟨fun h => Prod.ext h.1 h.2, fun h => by rw [h]; exact ⟨rfl, rfl⟩⟩
abbrev Rt := Pfx × Int
/-- A table of routes in block b: its map, if it has one. -/
structure RtB (s : St) (b : Nat) (om : Option Nat) (T : List Rt) (es : List (V × V × Nat)) (c : Nat) : Prop where
  box : s.box b = some [.sc (.map om)]
  nil : om = none → T = []
  map : ∀ mb, om = some mb → s.box mb = some [.mp true [.int .u32, .int .i64] es c] ∧ Mp pfxV ival es c T ∧ b ≠ mb
section
variable {st : St} {b c : Nat} {om : Option Nat} {T : List Rt} {es : List (V × V × Nat)}
theorem RtB.find {mb : Nat} (h : RtB st b (some mb) T es c) (p : Pfx) : mfind (.agg [.sc (.int .u32 p.1), .sc (.int .i64 p.2)]) es = (aget p T).map ival := Mp.find pfxV_eq (h.map mb rfl).2.1 p
theorem RtB.put {s : St} (h : RtB s b om T es c) {d : Nat} {cs : List V} (h1 : b ≠ d) (h2 : ∀ mb, om = some mb → mb ≠ d) : RtB (s.put d cs) b om T es c :=
  ⟨by rw [put_box_ne h1]; exact h.box, h.nil, fun mb e => ⟨by rw [put_box_ne (h2 mb e)]; exact (h.map mb e).1, (h.map mb e).2⟩⟩
set_option maxRecDepth 100000 in
theorem rtLen_v (h : RtB st b om T es c) : VCalls Try.prog 43 [ptrV b] st fun v s => v = .sc (.int .i64 T.length) ∧ st = s := by
  refine vcalls_enter vc43 (Nat.le_of_ble_eq_true rfl) fun hwf hok => ?_
  show Run _ Vc43.body (.fin (finQ Vc43.res _)) _ _
  unfold Vc43
  cases om with
  | none =>
    have e := h.nil rfl
    subst e
    simp (config := {maxSteps := 3000000}) only [go_sem, ↓reduceIte, reduceCtorEq, h.box]
    exact ⟨_, _, Wk.refl _, hwf.weak, rfl, rfl⟩
  | some mb =>
    obtain ⟨h1, h2, h3⟩ := h.map mb rfl
    simp (config := {maxSteps := 3000000}) only [go_sem, ↓reduceIte, reduceCtorEq, h.box, h1, h2.len]
    exact ⟨_, _, Wk.refl _, hwf.weak, rfl, rfl⟩
/-- What Put answers. -/
def RPutQ (st : St) (b : Nat) (om : Option Nat) (T : List Rt) (p : Pfx) (to : Int) (v : V) (s : St) : Prop :=
  (rightB p.1 p.2 = false ∧ v = .sc (.int .i64 13) ∧ st = s) ∨
  (rightB p.1 p.2 = true ∧ aget p T = none ∧ 200 ≤ T.length ∧ v = .sc (.int .i64 70) ∧ st = s) ∨
  (rightB p.1 p.2 = true ∧ ¬ (aget p T = none ∧ 200 ≤ T.length) ∧ v = .sc (.int .i64 0) ∧ ∃ mb X es' c', (om = some mb ∨ (om = none ∧ st.sz ≤ mb)) ∧ s = (st.put mb X).put b [.sc (.map (some mb))] ∧ RtB s b (some mb) (aset p to T) es' c')
theorem putR_swp {st : St} {b c : Nat} {x y z : List V} (h : b ≠ c) : ((st.put b x).put c y).put b z = (st.put b z).put c y := put_swp h
set_option maxRecDepth 100000 in
set_option maxHeartbeats 4000000 in
theorem rtPut_v (h : RtB st b om T es c) {p : Pfx} {to : Int} (h0 : 0 ≤ p.1) (h1 : p.1 < 4294967296) :
    VCalls Try.prog 28 [ptrV b, .agg [.sc (.int .u32 p.1), .sc (.int .i64 p.2)], .sc (.int .i64 to)] st (RPutQ st b om T p to) := by
  refine vcalls_enter vc28 (Nat.le_of_ble_eq_true rfl) fun hwf hok => ?_
  show Run _ Vc28.body (.fin (finQ Vc28.res _)) _ _
  unfold Vc28
  have hlt := hwf.lt
  have hbs := hlt.box b _ h.box
  simp (config := {maxSteps := 3000000}) only [go_sem, Nat.reduceEqDiff, Nat.reduceAdd, Nat.reduceLeDiff, ↓reduceIte, reduceCtorEq]
  intro v hv
  have bv : b ≠ v := by omega
  refine Cal.mk (pRight_v h0 h1) ?_
  rintro _ _ ⟨rfl, rfl⟩ -
  cases hr : rightB p.1 p.2
  · simp (config := {maxSteps := 3000000}) only [go_sem, ↓reduceIte]
    exact ⟨_, _, Wk.refl _, weak_put hwf.weak hv, .inl ⟨hr, rfl, rfl⟩⟩
  cases om with
  | none =>
    have e := h.nil rfl
    subst e
    have hb2 : (st.put v [.sc (.int .u32 p.1), .sc (.int .i64 p.2)]).box b = some [.sc (.map none)] := by rw [put_box_ne bv]; exact h.box
    simp (config := {maxSteps := 3000000}) only [go_sem, Nat.reduceEqDiff, Nat.reduceAdd, Nat.reduceLeDiff, Int.reduceLE, ↓reduceIte, reduceCtorEq, hb2]
    intro mb hmb
    have mb1 : st.sz ≤ mb := by omega
    have nb : b ≠ mb := by omega
    have bn : mb ≠ b := nb.symm
    have vm : v ≠ mb := by omega
    have vb : v ≠ b := bv.symm
    simp (config := {maxSteps := 3000000}) only [go_sem, Nat.reduceEqDiff, Nat.reduceAdd, Nat.reduceLT, Nat.reduceLeDiff, ↓reduceIte, reduceCtorEq, h.box, put_box_ne bv, put_box_ne nb, put_box_ne bn, put_box_ne vm, put_box_ne vb, put_swp bn]
    refine ⟨_, _, Wk.refl _, weak_both (weak_both (weak_put hwf.weak hv)), .inr (.inr ⟨hr, by simp, rfl, mb, _, mset (pfxV p) (ival to) 0 [], mclk [] (pfxV p) 0, .inr ⟨rfl, mb1⟩, rfl, ⟨put_box_same, fun e => (by cases e), fun mb' e => ?_⟩⟩)⟩
    cases e
    exact ⟨by rw [put_box_ne bn, put_box_same]; rfl, Mp.set pfxV_eq (Mp.nil (c := 0)) p to, nb⟩
  | some mb =>
    obtain ⟨hm, hmp, hbm⟩ := h.map mb rfl
    have hms := hlt.box mb _ hm
    have mv : mb ≠ v := by omega
    have vm : v ≠ mb := mv.symm
    have bn : mb ≠ b := hbm.symm
    have hset := Mp.set pfxV_eq hmp p to
    have self : ∀ X : List V, (st.put mb X).put b [.sc (.map (some mb))] = st.put mb X := fun X => put_selfR (by rw [put_box_ne hbm]; exact h.box) (by simp only [put_sz]; omega)
    have fin : ∀ X, X = [.mp true [.int .u32, .int .i64] (mset (pfxV p) (ival to) c es) (mclk es (pfxV p) c)] → ¬ (aget p T = none ∧ 200 ≤ T.length) → RPutQ st b (some mb) T p to (.sc (.int .i64 0)) (st.put mb X) := fun X e hn => by
      subst e
      exact .inr (.inr ⟨hr, hn, rfl, mb, _, _, _, .inl rfl, (self _).symm, ⟨by rw [put_box_ne hbm]; exact h.box, fun e => (by cases e), fun mb' e => (by cases e; exact ⟨put_box_same, hset, hbm⟩)⟩⟩)
    cases hg : aget p T with
    | some y =>
      simp (config := {maxSteps := 3000000}) only [go_sem, Nat.reduceEqDiff, Nat.reduceAdd, Nat.reduceLeDiff, ↓reduceIte, reduceCtorEq, put_box_ne bv, put_box_ne mv, h.box, hm, h.find, hg, Option.isSome_some, Option.getD_some, Option.map_some, ival]
      exact ⟨_, _, Wk.refl _, weak_both (weak_put hwf.weak hv), fin _ rfl (by rw [hg]; simp)⟩
    | none =>
      by_cases c2 : 200 ≤ T.length
      · simp (config := {maxSteps := 3000000}) only [go_sem, Nat.reduceEqDiff, Nat.reduceAdd, Nat.reduceLeDiff, ↓reduceIte, reduceCtorEq, put_box_ne bv, put_box_ne mv, h.box, hm, h.find, hg, hmp.len, Option.isSome_none, Option.getD_none, Option.map_none, decide_eq_true (show (200 : Int) ≤ (T.length : Int) by omega)]
        exact ⟨_, _, Wk.refl _, weak_put hwf.weak hv, .inr (.inl ⟨hr, hg, c2, rfl, rfl⟩)⟩
      · simp (config := {maxSteps := 3000000}) only [go_sem, Nat.reduceEqDiff, Nat.reduceAdd, Nat.reduceLeDiff, ↓reduceIte, reduceCtorEq, put_box_ne bv, put_box_ne mv, h.box, hm, h.find, hg, hmp.len, Option.isSome_none, Option.getD_none, Option.map_none, decide_eq_false (show ¬ (200 : Int) ≤ (T.length : Int) by omega)]
        exact ⟨_, _, Wk.refl _, weak_both (weak_put hwf.weak hv), fin _ rfl (fun h => c2 h.2)⟩
/-- What Drop leaves. -/
def RDropQ (st : St) (b : Nat) (om : Option Nat) (T : List Rt) (p : Pfx) (v : V) (s : St) : Prop :=
  v = .sc (.bool (aget p T).isSome) ∧ ∃ es' c', RtB s b om (adel p T) es' c' ∧ ((om = none ∧ s = st) ∨ ∃ mb X, om = some mb ∧ s = st.put mb X)
set_option maxRecDepth 100000 in
set_option maxHeartbeats 4000000 in
theorem rtDrop_v (h : RtB st b om T es c) {p : Pfx} :
    VCalls Try.prog 31 [ptrV b, .agg [.sc (.int .u32 p.1), .sc (.int .i64 p.2)]] st (RDropQ st b om T p) := by
  refine vcalls_enter vc31 (Nat.le_of_ble_eq_true rfl) fun hwf hok => ?_
  show Run _ Vc31.body (.fin (finQ Vc31.res _)) _ _
  unfold Vc31
  have hlt := hwf.lt
  have hbs := hlt.box b _ h.box
  simp (config := {maxSteps := 3000000}) only [go_sem, Nat.reduceAdd, ↓reduceIte, reduceCtorEq]
  intro v hv
  have bv : b ≠ v := by omega
  cases om with
  | none =>
    have e := h.nil rfl
    subst e
    simp (config := {maxSteps := 3000000}) only [go_sem, Nat.reduceEqDiff, Nat.reduceAdd, Nat.reduceLeDiff, ↓reduceIte, reduceCtorEq, put_box_ne bv, h.box]
    exact ⟨_, _, Wk.refl _, weak_put hwf.weak hv, rfl, es, c, h, .inl ⟨rfl, rfl⟩⟩
  | some mb =>
    obtain ⟨hm, hmp, hbm⟩ := h.map mb rfl
    have hms := hlt.box mb _ hm
    have mv : mb ≠ v := by omega
    have vm : v ≠ mb := mv.symm
    have hdel := Mp.del pfxV_eq hmp p
    have fin : ∀ X, X = [.mp true [.int .u32, .int .i64] (mdel (pfxV p) es) c] → RDropQ st b (some mb) T p (.sc (.bool (aget p T).isSome)) (st.put mb X) := fun X e => by
      subst e
      exact ⟨rfl, _, _, ⟨by rw [put_box_ne hbm]; exact h.box, fun e => (by cases e), fun mb' e => (by cases e; exact ⟨put_box_same, hdel, hbm⟩)⟩, .inr ⟨mb, _, rfl, rfl⟩⟩
    cases hg : aget p T with
    | some y =>
      rw [hg] at fin
      simp (config := {maxSteps := 3000000}) only [go_sem, Nat.reduceEqDiff, Nat.reduceAdd, Nat.reduceLeDiff, ↓reduceIte, reduceCtorEq, put_box_ne bv, put_box_ne mv, h.box, hm, h.find, hg, Option.isSome_some, Option.getD_some, Option.map_some, ival]
      exact ⟨_, _, Wk.refl _, weak_both (weak_put hwf.weak hv), fin _ rfl⟩
    | none =>
      rw [hg] at fin
      simp (config := {maxSteps := 3000000}) only [go_sem, Nat.reduceEqDiff, Nat.reduceAdd, Nat.reduceLeDiff, ↓reduceIte, reduceCtorEq, put_box_ne bv, put_box_ne mv, h.box, hm, h.find, hg, Option.isSome_none, Option.getD_none, Option.map_none]
      exact ⟨_, _, Wk.refl _, weak_both (weak_put hwf.weak hv), fin _ rfl⟩
end
end
section
open Go

/-- The prefix of so many bits that has an address. -/
def cutP (a q : Int) : Pfx := (a - a % sizeN q, q)
section
variable {st : St} {b c : Nat} {om : Option Nat} {T : List Rt} {es : List (V × V × Nat)} {a : Int}
/-- What Find answers. -/
def RFindQ (T : List Rt) (a : Int) (v : V) : Prop :=
  (∃ (q to : Int), 0 ≤ q ∧ q ≤ 32 ∧ aget (cutP a q) T = some to ∧ (∀ r, q < r → r ≤ 32 → aget (cutP a r) T = none) ∧ v = .tup [.agg [.sc (.int .u32 (cutP a q).1), .sc (.int .i64 q)], .sc (.int .i64 to), .sc (.bool true)]) ∨
  ((∀ r, 0 ≤ r → r ≤ 32 → aget (cutP a r) T = none) ∧ v = .tup [.agg [.sc (.int .u32 0), .sc (.int .i64 0)], .sc (.int .i64 0), .sc (.bool false)])
set_option maxRecDepth 100000 in
set_option maxHeartbeats 4000000 in
theorem rtFind_v (h : RtB st b om T es c) (h0 : 0 ≤ a) (h1 : a < 4294967296) : VCalls Try.prog 30 [ptrV b, .sc (.int .u32 a)] st fun v s => RFindQ T a v ∧ st = s := by
  refine vcalls_enter vc30 (Nat.le_of_ble_eq_true rfl) fun hwf hok => ?_
  show Run _ Vc30.body (.fin (finQ Vc30.res _)) _ _
  unfold Vc30
  have hlt := hwf.lt
  have hbs := hlt.box b _ h.box
  simp (config := {maxSteps := 3000000}) only [go_sem]
  intro t ht
  refine run_loop [5, 6, 7, 8, 9, 10, 11, 12, 13, 14, 15, 16, 17, 18, 19, 20, 21, 22, 23, 24, 25, 26, 27, 28, 29] (fun B s => ∃ q : Int, -1 ≤ q ∧ q ≤ 32 ∧ B 7 = .sc (.int .i64 q) ∧ (∀ r, q < r → r ≤ 32 → aget (cutP a r) T = none) ∧ st.weak s ∧ s.Lt ∧ s.box t = some [.sc (.int .u32 0), .sc (.int .i64 0)]) (fun B _ => match B 7 with | .sc (.int _ n) => (n + 1).toNat | _ => 0) rfl ?_ ?_
  · exact ⟨32, by omega, by omega, rfl, fun r h2 h3 => by omega, weak_put hwf.weak ht, hlt.put, put_box_same⟩
  · rintro B s ⟨q, hq0, hq1, h7, hno, hw, hl, htb⟩
    have hbx := (hw.box b _ h.box).1
    by_cases c1 : 0 ≤ q
    · simp (config := {maxSteps := 3000000}) only [go_sem, Nat.reduceEqDiff, Int.reduceNeg, ↓reduceIte, Nat.reduceBEq, h7, decide_eq_true c1]
      refine Cal.mk (pOf_v h0 h1 c1 hq1) ?_
      rintro _ _ ⟨rfl, rfl⟩ -
      simp (config := {maxSteps := 3000000}) only [go_sem, Nat.reduceEqDiff, Nat.reduceAdd, Nat.reduceLT, Nat.reduceLeDiff, Int.reduceNeg, ↓reduceIte, reduceCtorEq, Nat.reduceBEq]
      intro v hv
      have bv : b ≠ v := by have := hl.box b _ hbx; omega
      have tv : t ≠ v := by have := hl.box t _ htb; omega
      have sv : st.sz ≤ v := by have := hw.sz; omega
      cases om with
      | none =>
        have e := h.nil rfl
        subst e
        simp (config := {maxSteps := 3000000}) only [go_sem, Nat.reduceEqDiff, Nat.reduceAdd, Nat.reduceLeDiff, Int.reduceNeg, ↓reduceIte, Nat.reduceBEq, h7, put_box_ne bv, hbx]
        repeat (apply And.intro; focus (first | omega | (simp; done)))
        refine ⟨⟨q - 1, by omega, by omega, rfl, fun r h2 h3 => rfl, weak_put hw sv, hl.put, by rw [put_box_ne tv]; exact htb⟩, by omega⟩
      | some mb =>
        obtain ⟨hm, hmp, hbm⟩ := h.map mb rfl
        have hmx := (hw.box mb _ hm).1
        have mv : mb ≠ v := by have := hl.box mb _ hmx; omega
        have hf : mfind (.agg [.sc (.int .u32 (a - a % sizeN q)), .sc (.int .i64 q)]) es = (aget (cutP a q) T).map ival := h.find (cutP a q)
        cases hg : aget (cutP a q) T with
        | none =>
          simp (config := {maxSteps := 3000000}) only [go_sem, Nat.reduceEqDiff, Nat.reduceAdd, Nat.reduceLeDiff, Int.reduceNeg, ↓reduceIte, Nat.reduceBEq, h7, put_box_ne bv, put_box_ne mv, hbx, hmx, hf, hg, Option.isSome_none, Option.getD_none, Option.map_none]
          repeat (apply And.intro; focus (first | omega | (simp; done)))
          refine ⟨⟨q - 1, by omega, by omega, rfl, fun r h2 h3 => ?_, weak_put hw sv, hl.put, by rw [put_box_ne tv]; exact htb⟩, by omega⟩
          by_cases e : r = q
          · rw [e]; exact hg
          · exact hno r (by omega) h3
        | some to =>
          have vt : v ≠ t := tv.symm
          simp (config := {maxSteps := 3000000}) only [go_sem, Nat.reduceEqDiff, Nat.reduceAdd, Nat.reduceLT, Nat.reduceLeDiff, Int.reduceNeg, ↓reduceIte, Nat.reduceBEq, put_box_ne bv, put_box_ne mv, put_box_ne tv, hbx, hmx, htb, hf, hg, Option.isSome_some, Option.getD_some, Option.map_some, ival]
          exact ⟨_, _, Wk.refl _, weak_put (weak_put hw sv) ht, .inl ⟨q, to, c1, hq1, hg, hno, rfl⟩, rfl⟩
    · simp (config := {maxSteps := 3000000}) only [go_sem, Nat.reduceEqDiff, Nat.reduceAdd, Nat.reduceLT, Nat.reduceLeDiff, Int.reduceNeg, ↓reduceIte, Nat.reduceBEq, h7, decide_eq_false c1, htb]
      exact ⟨_, _, Wk.refl _, weak_put hw ht, .inr ⟨fun r h2 h3 => hno r (by omega) h3, rfl⟩, rfl⟩
end
end
section
open Go

section
variable {st : St} {b c : Nat} {om : Option Nat} {T : List Rt} {es : List (V × V × Nat)}
set_option maxRecDepth 100000 in
set_option maxHeartbeats 4000000 in
theorem rtAll1_v {mb : Nat} (h : RtB st b (some mb) T es c) (hS : T.length ≤ 1000) : VCalls Try.prog 46 [ptrV b] st fun r s =>
    ∃ (ob : Nat) (M : List Pfx) (sp : List V), M.Perm (T.map (·.1)) ∧ M.Pairwise (fun x y => ltP y x = false) ∧ r = dataV ob M.length T.length ∧ RBC pval st s ob T.length M sp := by
  refine vcalls_enter vc46 (Nat.le_of_ble_eq_true rfl) fun hwf hok => ?_
  show Run _ Vc46.body (.fin (finQ Vc46.res _)) _ _
  unfold Vc46
  have hlt := hwf.lt
  obtain ⟨hm, hmp, hbm⟩ := h.map mb rfl
  have hms := hlt.box mb _ hm
  have hbs := hlt.box b _ h.box
  simp (config := {maxSteps := 3000000}) only [go_sem, ↓reduceIte, reduceCtorEq, h.box, hm, hmp.len]
  repeat (apply And.intro; focus (first | omega | (simp; done)))
  refine Mkr.box ?_
  intro ob hob
  have nob : mb ≠ ob := by omega
  have bob : b ≠ ob := by omega
  simp (config := {maxSteps := 3000000}) only [go_sem, ↓reduceIte, reduceCtorEq, put_box_ne nob, put_box_ne bob, h.box, hm]
  intro r hr
  have nr : mb ≠ r := by omega
  have br : b ≠ r := by omega
  have obr : ob ≠ r := by omega
  have fr : st.sz ≤ r := by omega
  clear hr
  have hz : (List.replicate T.length [V.sc (Value.int .u32 0), V.sc (Value.int .i64 0)]).flatten = rowc pval [] ((List.replicate T.length [V.sc (Value.int .u32 0), V.sc (Value.int .i64 0)]).flatten) := rfl
  have hzl : ((List.replicate T.length [V.sc (Value.int .u32 0), V.sc (Value.int .i64 0)]).flatten).length = T.length * 2 := by simp
  have hzm : mono (rowc pval ([] : List Pfx) ((List.replicate T.length [V.sc (Value.int .u32 0), V.sc (Value.int .i64 0)]).flatten)) := by
    clear hz hzl
    cases T with
    | nil => exact mono_nil ▸ trivial
    | cons x l =>
      have : rowc pval ([] : List Pfx) ((List.replicate (x :: l).length [V.sc (Value.int .u32 0), V.sc (Value.int .i64 0)]).flatten) = V.sc (Value.int .u32 0) :: V.sc (Value.int .i64 0) :: (List.replicate l.length [V.sc (Value.int .u32 0), V.sc (Value.int .i64 0)]).flatten := by simp [rowc, List.replicate_succ]
      rw [this]; exact mono_two ▸ trivial
  have R0 : RBC pval st (st.put ob ((List.replicate T.length [V.sc (Value.int .u32 0), V.sc (Value.int .i64 0)]).flatten)) ob T.length [] ((List.replicate T.length [V.sc (Value.int .u32 0), V.sc (Value.int .i64 0)]).flatten) :=
    ⟨by rw [put_box_same]; exact congrArg some hz, by simp, hzm, by unfold maxLen; omega, weak_put hwf.weak hob, hlt.put, hob⟩
  generalize (List.replicate T.length [V.sc (Value.int .u32 0), V.sc (Value.int .i64 0)]).flatten = z at R0 ⊢
  generalize st.put ob z = s0 at R0 ⊢
  refine run_loop [3, 4, 16, 17, 18, 19, 20, 21, 22, 23] (fun B s => ∃ (seen ix : List Nat) (last : Nat) (M : List Pfx) (sp : List V), B 3 = dataV ob M.length T.length ∧ RBC pval st s ob T.length M sp ∧ s.box r = some [.it (some mb) c seen last] ∧ c ≤ last ∧ Going es seen ix ∧ M = ix.map (fun i => (((T.map (·.1))[i]?).getD (0, 0))))
    (fun B s => match s.box r with | some [.it _ _ seen _] => es.length - seen.length | _ => 0) rfl ?_ ?_
  · exact ⟨[], [], c, [], z, rfl, R0.put obr fr, put_box_same, Nat.le_refl _, .nil, rfl⟩
  · rintro B s ⟨seen, ix, last, M, sp, h3, R, hit, hl, hg, hM⟩
    simp (config := {maxSteps := 3000000}) only [go_sem, ↓reduceIte, Nat.reduceBEq]
    have hbox : s.box mb = some [.mp true [.int .u32, .int .i64] es c] := (R.weak.box mb _ hm).1
    have hMl : M.length = seen.length := by rw [hM, hg.seenLen]; simp
    refine Nxt.mk (m := mb) hit hbox hmp.lt hl ?_ ?_
    · intro hall
      have hp := hg.perm hmp hall
      have hMp : M.Perm (T.map (·.1)) := by
        rw [hM]
        refine (hp.map _).trans ?_
        rw [show T.length = (T.map (·.1)).length by simp]
        generalize T.map (·.1) = U
        refine List.Perm.of_eq (List.ext_getElem (by simp) fun i h1 h2 => ?_)
        simp at h1
        simp [h1]
      simp (config := {maxSteps := 3000000}) only [go_sem, Nat.reduceEqDiff, ↓reduceIte, Nat.reduceBEq, h3]
      have cc := sortP_v (st := s) (b := ob) (cap := T.length) (L := M) (sp := sp) eltP R.mono (by have := R.len; omega)
      rw [R.self] at cc
      refine Cal.mk cc ?_
      rintro _ _ ⟨N, n1, n2, rfl⟩ -
      have hlen := n1.length_eq
      simp (config := {maxSteps := 3000000}) only [go_sem, Nat.reduceEqDiff, ↓reduceIte, Nat.reduceBEq, h3]
      exact ⟨_, _, Wk.refl _, (R.mix hlen).lt.weak, ob, N, sp, n1.trans hMp, n2, by rw [hlen], R.mix hlen⟩
    · intro e he hns
      obtain ⟨i, p, hni, hei, hp, hek, hev, hg'⟩ := hg.step hmp he hns
      have hent := hmp.ent he (seen := seen)
      have hMlt : M.length < T.length := by
        have := hg'.len
        rw [List.length_append] at this
        have h2 := hmp.len
        rw [hMl, hg.seenLen]
        simp at this; omega
      have hname : e.1 = .agg [.sc (.int .u32 p.1.1), .sc (.int .i64 p.1.2)] := hek
      have nro : r ≠ ob := obr.symm
      simp (config := {maxSteps := 3000000}) only [go_sem, Nat.reduceEqDiff, Nat.reduceAdd, Nat.reduceLT, Nat.reduceLeDiff, ↓reduceIte, Nat.reduceBEq, h3, hbox, hent, hname, put_box_ne nr]
      intro v hv
      have rs := R.lt.box r _ hit
      have os := R.lt.box ob _ R.box
      have rv : r ≠ v := by omega
      have ov : ob ≠ v := by omega
      have vo : v ≠ ob := ov.symm
      have sv : st.sz ≤ v := by have := R.weak.sz; omega
      have R' := (R.put (cs := [.it (some mb) c (seen ++ [e.2.2]) c]) obr fr).put (cs := [.sc (.int .u32 p.1.1), .sc (.int .i64 p.1.2)]) ov sv
      refine App.pushC (bytes := 16) (val := pval) (x := p.1) R'.box R'.len R'.mono R'.max (by unfold maxLen; omega) (by omega) ?_
      intro b' cap' sp' k1 k2 k3 k4 k5
      obtain ⟨rfl, rfl⟩ := k2 hMlt
      have R2 := R'.push (.inl rfl) k3 k4 k5
      simp (config := {maxSteps := 3000000}) only [go_sem, ↓reduceIte]
      repeat (apply And.intro; focus (first | omega | (simp; done)))
      refine ⟨⟨seen ++ [e.2.2], ix ++ [i], c, M ++ [p.1], sp', rfl, R2, by rw [put_box_ne nro, put_box_ne rv, put_box_same], Nat.le_refl _, hg', ?_⟩, ?_⟩
      · rw [hM, List.map_append]
        simp [hp]
      · rw [put_box_ne nro, put_box_ne rv, put_box_same, hit]
        have := hg'.len
        have h2 := hg'.seenLen
        simp only [List.length_append, List.length_cons, List.length_nil] at *
        omega
set_option maxRecDepth 100000 in
set_option maxHeartbeats 4000000 in
theorem rtAll0_v (h : RtB st b none T es c) : VCalls Try.prog 46 [ptrV b] st fun r s =>
    ∃ (ob : Nat) (M : List Pfx) (sp : List V), M.Perm (T.map (·.1)) ∧ M.Pairwise (fun x y => ltP y x = false) ∧ r = dataV ob M.length T.length ∧ RBC pval st s ob T.length M sp := by
  refine vcalls_enter vc46 (Nat.le_of_ble_eq_true rfl) fun hwf hok => ?_
  show Run _ Vc46.body (.fin (finQ Vc46.res _)) _ _
  unfold Vc46
  have hlt := hwf.lt
  have hbs := hlt.box b _ h.box
  have e := h.nil rfl
  subst e
  simp (config := {maxSteps := 3000000}) only [go_sem, Int.reduceToNat, Int.reduceLE, ↓reduceIte, reduceCtorEq, h.box]
  refine ⟨by omega, Mkr.box ?_⟩
  intro ob hob
  have bob : b ≠ ob := by omega
  simp (config := {maxSteps := 3000000}) only [go_sem, ↓reduceIte, reduceCtorEq, put_box_ne bob, h.box]
  intro r hr
  have obr : ob ≠ r := by omega
  have fr : st.sz ≤ r := by omega
  clear hr
  have nc0 : ((0 : Nat) : Int) = 0 := rfl
  have R0 : RBC pval st (st.put ob []) ob 0 [] [] := ⟨put_box_same, rfl, mono_nil ▸ trivial, by unfold maxLen; omega, weak_put hwf.weak hob, hlt.put, hob⟩
  have R1 := R0.put (cs := [.it none 0 [] 0]) obr fr
  have e0 : (List.replicate 0 [V.sc (Value.int .u32 0), V.sc (Value.int .i64 0)]).flatten = [] := rfl
  rw [e0]
  refine run_loop [3, 4, 16, 17, 18, 19, 20, 21, 22, 23] (fun B s => B 3 = dataV ob 0 0 ∧ s = (st.put ob []).put r [.it none 0 [] 0]) (fun B _ => 0) rfl ?_ ?_
  · exact ⟨rfl, rfl⟩
  · rintro B s ⟨h3, rfl⟩
    simp (config := {maxSteps := 3000000}) only [go_sem, ↓reduceIte, Nat.reduceBEq]
    refine Nxt.nil put_box_same ?_
    simp (config := {maxSteps := 3000000}) only [go_sem, Nat.reduceEqDiff, ↓reduceIte, Nat.reduceBEq, h3]
    have cc := sortP_v (st := (st.put ob []).put r [.it none 0 [] 0]) (b := ob) (cap := 0) (L := []) (sp := []) eltP (mono_nil ▸ trivial) (by simp)
    have hself : ((st.put ob []).put r [.it none 0 [] 0]).put ob (rowc pval [] []) = (st.put ob []).put r [.it none 0 [] 0] := R1.self
    rw [hself] at cc
    refine Cal.mk cc ?_
    rintro _ _ ⟨N, n1, n2, rfl⟩ -
    have hN : N = [] := n1.eq_nil
    subst hN
    rw [hself]
    simp (config := {maxSteps := 3000000}) only [go_sem, Nat.reduceEqDiff, ↓reduceIte, Nat.reduceBEq, h3]
    exact ⟨_, _, Wk.refl _, R1.lt.weak, ob, [], [], .refl _, .nil, rfl, R1⟩
end
end
section
open Go

theorem fresh_ex {conn : Int} {T : List (Key × Int)} (hT : T.length ≤ 1000) : ∃ n : Nat, 1 ≤ n ∧ n ≤ 1001 ∧ aget (conn, (n : Int)) T = none := by
  rcases Classical.em (∃ n : Nat, 1 ≤ n ∧ n ≤ 1001 ∧ aget (conn, (n : Int)) T = none) with h | h
  · exact h
  · exfalso
    have hall : ∀ n : Nat, 1 ≤ n → n ≤ 1001 → (conn, (n : Int)) ∈ T.map (·.1) := fun n h1 h2 => by
      cases hg : aget (conn, (n : Int)) T with
      | none => exact absurd ⟨n, h1, h2, hg⟩ h
      | some x => exact List.mem_map.2 ⟨_, aget_mem hg, rfl⟩
    have hnd : ((List.range 1001).map fun m : Nat => (conn, ((m + 1 : Nat) : Int))).Nodup := by
      refine List.pairwise_map.2 ((List.nodup_range (n := 1001)).imp fun {x y} hxy e => hxy ?_)
      simp only [Prod.mk.injEq, true_and] at e
      omega
    have := hnd.length_le_of_subset (l₂ := T.map (·.1)) (fun k hk => by
      obtain ⟨m, hm, rfl⟩ := List.mem_map.1 hk
      have := List.mem_range.1 hm
      exact hall (m + 1) (by omega) (by omega))
    simp at this
    omega
section
variable {st : St} {b mb c : Nat} {most conn : Int} {T : List (Key × Int)} {es : List (V × V × Nat)}
/-- What Fresh answers. -/
def FreshQ (st : St) (most conn : Int) (T : List (Key × Int)) (v : V) (s : St) : Prop :=
  st = s ∧ ((most ≤ manyT conn T ∧ v = .tup [.sc (.int .u16 0), .sc (.bool false)]) ∨
    (¬ most ≤ manyT conn T ∧ ∃ n : Nat, 1 ≤ n ∧ n ≤ 1001 ∧ aget (conn, (n : Int)) T = none ∧ (∀ m : Nat, 1 ≤ m → m < n → aget (conn, (m : Int)) T ≠ none) ∧ v = .tup [.sc (.int .u16 n), .sc (.bool true)]))
set_option maxRecDepth 100000 in
set_option maxHeartbeats 4000000 in
theorem tblFresh_v (h : TblB st b mb most T es c) (hT : T.length ≤ 1000) : VCalls Try.prog 94 [ptrV b, .sc (.int .i64 conn)] st (FreshQ st most conn T) := by
  refine vcalls_enter vc94 (Nat.le_of_ble_eq_true rfl) fun hwf hok => ?_
  show Run _ Vc94.body (.fin (finQ Vc94.res _)) _ _
  unfold Vc94
  simp (config := {maxSteps := 3000000}) only [go_sem, Nat.reduceEqDiff, ↓reduceIte, reduceCtorEq, h.box]
  refine Cal.mk (tblMany_v h hT) ?_
  rintro _ _ ⟨rfl, rfl⟩ -
  by_cases cm : most ≤ (manyT conn T : Int)
  · simp (config := {maxSteps := 3000000}) only [go_sem, Nat.reduceEqDiff, ↓reduceIte, h.box, decide_eq_true cm]
    exact ⟨_, _, Wk.refl _, hwf.weak, rfl, .inl ⟨cm, rfl⟩⟩
  obtain ⟨m, hm1, hm2, hm3⟩ := fresh_ex (conn := conn) hT
  simp (config := {maxSteps := 3000000}) only [go_sem, Nat.reduceEqDiff, ↓reduceIte, h.box, decide_eq_false cm]
  refine run_loop [4, 5, 6, 7, 8, 17, 18, 19, 20, 21, 22, 23, 24, 25, 26, 27, 28, 29, 30, 31, 32, 33, 34] (fun B s => ∃ n : Nat, 1 ≤ n ∧ n ≤ m ∧ B 6 = .sc (.int .u16 n) ∧ (∀ k : Nat, 1 ≤ k → k < n → aget (conn, (k : Int)) T ≠ none) ∧ s = st) (fun B _ => m - vnat (B 6)) rfl ?_ ?_
  · simp (config := {maxSteps := 3000000}) only [go_sem, ↓reduceIte]
    exact ⟨1, by omega, hm1, rfl, fun k h1 h2 => by omega⟩
  · rintro B s ⟨n, hn1, hn2, h6, hb, rfl⟩
    have hf : mfind (.agg [.sc (.int .i64 conn), .sc (.int .u16 (n : Int))]) es = (aget (conn, (n : Int)) T).map ival := h.find (conn, (n : Int))
    cases hg : aget (conn, (n : Int)) T with
    | none =>
      simp (config := {maxSteps := 3000000}) only [go_sem, Nat.reduceEqDiff, Nat.reduceAdd, Nat.reduceLT, Nat.reduceLeDiff, ↓reduceIte, reduceCtorEq, Nat.reduceBEq, h6, h.box, h.mbox, hf, hg, decide_eq_true (show (n : Int) < 32768 by omega), Option.isSome_none, Option.getD_none, Option.map_none]
      exact ⟨_, _, Wk.refl _, hwf.weak, rfl, .inr ⟨cm, n, hn1, by omega, hg, hb, rfl⟩⟩
    | some x =>
      have hnm : n ≠ m := fun e => by subst e; rw [hg] at hm3; cases hm3
      have e1 : ((n : Int) + 1) % 65536 = ((n + 1 : Nat) : Int) := by omega
      simp (config := {maxSteps := 3000000}) only [go_sem, Nat.reduceEqDiff, Nat.reduceAdd, Nat.reduceLT, Nat.reduceLeDiff, ↓reduceIte, reduceCtorEq, Nat.reduceBEq, h6, h.box, h.mbox, hf, hg, e1, decide_eq_true (show (n : Int) < 32768 by omega), Option.isSome_some, Option.getD_some, Option.map_some, ival]
      repeat (apply And.intro; focus (first | omega | (simp; done)))
      refine ⟨⟨n + 1, by omega, by omega, rfl, fun k h1 h2 => ?_⟩, by omega⟩
      by_cases e : k = n
      · subst e; rw [hg]; simp
      · exact hb k h1 (by omega)
set_option maxRecDepth 100000 in
set_option maxHeartbeats 4000000 in
theorem tblKeys_v (h : TblB st b mb most T es c) (hS : T.length ≤ 1000) : VCalls Try.prog 54 [ptrV b] st fun r s =>
    ∃ (ob : Nat) (M : List Key) (sp : List V), M.Perm (T.map (·.1)) ∧ M.Pairwise (fun x y => ltK y x = false) ∧ r = dataV ob M.length T.length ∧ RBC kval st s ob T.length M sp := by
  refine vcalls_enter vc54 (Nat.le_of_ble_eq_true rfl) fun hwf hok => ?_
  show Run _ Vc54.body (.fin (finQ Vc54.res _)) _ _
  unfold Vc54
  have hlt := hwf.lt
  have hms := hlt.box mb _ h.mbox
  have hbs := hlt.box b _ h.box
  simp (config := {maxSteps := 3000000}) only [go_sem, ↓reduceIte, reduceCtorEq, h.box, h.mbox, h.mp.len]
  repeat (apply And.intro; focus (first | omega | (simp; done)))
  refine Mkr.box ?_
  intro ob hob
  have nob : mb ≠ ob := by omega
  have bob : b ≠ ob := by omega
  simp (config := {maxSteps := 3000000}) only [go_sem, ↓reduceIte, reduceCtorEq, put_box_ne nob, put_box_ne bob, h.box, h.mbox]
  intro r hr
  have nr : mb ≠ r := by omega
  have br : b ≠ r := by omega
  have obr : ob ≠ r := by omega
  have fr : st.sz ≤ r := by omega
  clear hr
  have hz : (List.replicate T.length [V.sc (Value.int .i64 0), V.sc (Value.int .u16 0)]).flatten = rowc kval [] ((List.replicate T.length [V.sc (Value.int .i64 0), V.sc (Value.int .u16 0)]).flatten) := rfl
  have hzl : ((List.replicate T.length [V.sc (Value.int .i64 0), V.sc (Value.int .u16 0)]).flatten).length = T.length * 2 := by simp
  have hzm : mono (rowc kval ([] : List Key) ((List.replicate T.length [V.sc (Value.int .i64 0), V.sc (Value.int .u16 0)]).flatten)) := by
    clear hz hzl
    cases T with
    | nil => exact mono_nil ▸ trivial
    | cons x l =>
      have : rowc kval ([] : List Key) ((List.replicate (x :: l).length [V.sc (Value.int .i64 0), V.sc (Value.int .u16 0)]).flatten) = V.sc (Value.int .i64 0) :: V.sc (Value.int .u16 0) :: (List.replicate l.length [V.sc (Value.int .i64 0), V.sc (Value.int .u16 0)]).flatten := by simp [rowc, List.replicate_succ]
      rw [this]; exact mono_two ▸ trivial
  have R0 : RBC kval st (st.put ob ((List.replicate T.length [V.sc (Value.int .i64 0), V.sc (Value.int .u16 0)]).flatten)) ob T.length [] ((List.replicate T.length [V.sc (Value.int .i64 0), V.sc (Value.int .u16 0)]).flatten) :=
    ⟨by rw [put_box_same]; exact congrArg some hz, by simp, hzm, by unfold maxLen; omega, weak_put hwf.weak hob, hlt.put, hob⟩
  generalize (List.replicate T.length [V.sc (Value.int .i64 0), V.sc (Value.int .u16 0)]).flatten = z at R0 ⊢
  generalize st.put ob z = s0 at R0 ⊢
  refine run_loop [3, 4, 16, 17, 18, 19, 20, 21, 22, 23] (fun B s => ∃ (seen ix : List Nat) (last : Nat) (M : List Key) (sp : List V), B 3 = dataV ob M.length T.length ∧ RBC kval st s ob T.length M sp ∧ s.box r = some [.it (some mb) c seen last] ∧ c ≤ last ∧ Going es seen ix ∧ M = ix.map (fun i => (((T.map (·.1))[i]?).getD (0, 0))))
    (fun B s => match s.box r with | some [.it _ _ seen _] => es.length - seen.length | _ => 0) rfl ?_ ?_
  · exact ⟨[], [], c, [], z, rfl, R0.put obr fr, put_box_same, Nat.le_refl _, .nil, rfl⟩
  · rintro B s ⟨seen, ix, last, M, sp, h3, R, hit, hl, hg, hM⟩
    simp (config := {maxSteps := 3000000}) only [go_sem, ↓reduceIte, Nat.reduceBEq]
    have hbox : s.box mb = some [.mp true [.int .i64, .int .u16] es c] := (R.weak.box mb _ h.mbox).1
    have hMl : M.length = seen.length := by rw [hM, hg.seenLen]; simp
    refine Nxt.mk (m := mb) hit hbox h.mp.lt hl ?_ ?_
    · intro hall
      have hp := hg.perm h.mp hall
      have hMp : M.Perm (T.map (·.1)) := by
        rw [hM]
        refine (hp.map _).trans ?_
        rw [show T.length = (T.map (·.1)).length by simp]
        generalize T.map (·.1) = U
        refine List.Perm.of_eq (List.ext_getElem (by simp) fun i h1 h2 => ?_)
        simp at h1
        simp [h1]
      simp (config := {maxSteps := 3000000}) only [go_sem, Nat.reduceEqDiff, ↓reduceIte, Nat.reduceBEq, h3]
      have cc := sortK_v (st := s) (b := ob) (cap := T.length) (L := M) (sp := sp) eltK R.mono (by have := R.len; omega)
      rw [R.self] at cc
      refine Cal.mk cc ?_
      rintro _ _ ⟨N, n1, n2, rfl⟩ -
      have hlen := n1.length_eq
      simp (config := {maxSteps := 3000000}) only [go_sem, Nat.reduceEqDiff, ↓reduceIte, Nat.reduceBEq, h3]
      exact ⟨_, _, Wk.refl _, (R.mix hlen).lt.weak, ob, N, sp, n1.trans hMp, n2, by rw [hlen], R.mix hlen⟩
    · intro e he hns
      obtain ⟨i, p, hni, hei, hp, hek, hev, hg'⟩ := hg.step h.mp he hns
      have hent := h.mp.ent he (seen := seen)
      have hMlt : M.length < T.length := by
        have := hg'.len
        rw [List.length_append] at this
        have h2 := h.mp.len
        rw [hMl, hg.seenLen]
        simp at this; omega
      have hname : e.1 = .agg [.sc (.int .i64 p.1.1), .sc (.int .u16 p.1.2)] := hek
      have nro : r ≠ ob := obr.symm
      simp (config := {maxSteps := 3000000}) only [go_sem, Nat.reduceEqDiff, Nat.reduceAdd, Nat.reduceLT, Nat.reduceLeDiff, ↓reduceIte, Nat.reduceBEq, h3, hbox, hent, hname, put_box_ne nr]
      intro v hv
      have rs := R.lt.box r _ hit
      have os := R.lt.box ob _ R.box
      have rv : r ≠ v := by omega
      have ov : ob ≠ v := by omega
      have vo : v ≠ ob := ov.symm
      have sv : st.sz ≤ v := by have := R.weak.sz; omega
      have R' := (R.put (cs := [.it (some mb) c (seen ++ [e.2.2]) c]) obr fr).put (cs := [.sc (.int .i64 p.1.1), .sc (.int .u16 p.1.2)]) ov sv
      refine App.pushC (bytes := 16) (val := kval) (x := p.1) R'.box R'.len R'.mono R'.max (by unfold maxLen; omega) (by omega) ?_
      intro b' cap' sp' k1 k2 k3 k4 k5
      obtain ⟨rfl, rfl⟩ := k2 hMlt
      have R2 := R'.push (.inl rfl) k3 k4 k5
      simp (config := {maxSteps := 3000000}) only [go_sem, ↓reduceIte]
      repeat (apply And.intro; focus (first | omega | (simp; done)))
      refine ⟨⟨seen ++ [e.2.2], ix ++ [i], c, M ++ [p.1], sp', rfl, R2, by rw [put_box_ne nro, put_box_ne rv, put_box_same], Nat.le_refl _, hg', ?_⟩, ?_⟩
      · rw [hM, List.map_append]
        simp [hp]
      · rw [put_box_ne nro, put_box_ne rv, put_box_same, hit]
        have := hg'.len
        have h2 := hg'.seenLen
        simp only [List.length_append, List.length_cons, List.length_nil] at *
        omega
end
end
section
open Go

section
variable {κ ν : Type} [DecidableEq κ] {a : κ}
theorem at_firstK : ∀ {l : List (κ × ν)} {i : Nat} {p : κ × ν}, l[i]? = some p → p.1 = a → (∀ (j : Nat) (q : κ × ν), j < i → l[j]? = some q → q.1 ≠ a) → aget a l = some p.2 ∧ adel a l = l.take i ++ l.drop (i + 1)
  | [], i, p, h, _, _ => by simp at h
  | t :: l, 0, p, h, hn, _ => by
    simp at h
    subst h
    simp [aget, adel, hn]
  | t :: l, i + 1, p, h, hn, hb => by
    have h0 := hb 0 t (by omega) rfl
    have ih := at_firstK (l := l) (i := i) (by simpa using h) hn fun j q hj hq => hb (j + 1) q (by omega) (by simpa using hq)
    simp only [aget, adel]
    rw [if_neg (fun e => h0 e.symm), if_neg (fun e => h0 e.symm)]
    exact ⟨ih.1, by rw [ih.2]; rfl⟩
end
abbrev It := Key × Int
/-- In order of the keys, none twice. -/
def SrtL (l : List It) : Prop := l.Pairwise fun p q => ltK p.1 q.1 = true
theorem ltK_iff {x y : Key} : ltK x y = true ↔ x.1 < y.1 ∨ x.1 = y.1 ∧ x.2 < y.2 := by simp [ltK]
theorem ltK_irr (x : Key) : ltK x x = false := ltK_ord.irr x
theorem ltK_tr {x y z : Key} (h : ltK x y = true) (k : ltK y z = true) : ltK x z = true := by rw [ltK_iff] at h k ⊢; omega
theorem ltK_ne {x y : Key} (h : ltK x y = true) : x ≠ y := fun e => by subst e; rw [ltK_irr] at h; cases h
theorem SrtL.keys {l : List It} (h : SrtL l) : (l.map (·.1)).Nodup := by
  refine List.pairwise_map.2 (h.imp fun {a b} hab e => ?_)
  exact ltK_ne hab e
theorem SrtL.lt {l : List It} (h : SrtL l) {i j : Nat} {p q : It} (hp : l[i]? = some p) (hq : l[j]? = some q) (hij : i < j) : ltK p.1 q.1 = true := by
  obtain ⟨h1, h2⟩ := List.getElem?_eq_some_iff.1 hp
  obtain ⟨h3, h4⟩ := List.getElem?_eq_some_iff.1 hq
  have := List.pairwise_iff_getElem.1 h i j h1 h3 hij
  rwa [h2, h4] at this
/-- The place of a key, or where it belongs. -/
structure PosK (k : Key) (l : List It) (i : Nat) : Prop where
  le : i ≤ l.length
  lo : ∀ (j : Nat) (p : It), j < i → l[j]? = some p → ltK p.1 k = true
  hi : ∀ p : It, l[i]? = some p → ltK p.1 k = false
theorem PosK.miss {k : Key} {l : List It} {i : Nat} (h : PosK k l i) (hs : SrtL l) (hn : ∀ p : It, l[i]? = some p → p.1 ≠ k) : aget k l = none := by
  rw [aget_none]
  intro p hp e
  obtain ⟨j, hj⟩ := List.mem_iff_getElem?.1 hp
  rcases Nat.lt_trichotomy j i with hlt | rfl | hlt
  · have := h.lo j p hlt hj
    rw [e, ltK_irr] at this; cases this
  · exact hn p hj e
  · have hi : i < l.length := by have := (List.getElem?_eq_some_iff.1 hj).1; omega
    have h1 := h.hi l[i] (List.getElem?_eq_getElem hi)
    have h2 := hs.lt (List.getElem?_eq_getElem hi) hj hlt
    rw [e] at h2
    rw [h2] at h1; cases h1
theorem PosK.hit {k : Key} {l : List It} {i : Nat} {p : It} (h : PosK k l i) (hp : l[i]? = some p) (e : p.1 = k) : aget k l = some p.2 ∧ adel k l = l.take i ++ l.drop (i + 1) := by
  have hb : ∀ (j : Nat) (q : It), j < i → l[j]? = some q → q.1 ≠ k := fun j q hj hq => ltK_ne (h.lo j q hj hq)
  exact at_firstK hp e hb
theorem SrtL.ins {k : Key} {l : List It} {i : Nat} {x : Int} (hs : SrtL l) (h : PosK k l i) (hn : aget k l = none) : SrtL (l.take i ++ [(k, x)] ++ l.drop i) := by
  unfold SrtL
  rw [List.append_assoc, List.pairwise_append]
  refine ⟨List.Pairwise.sublist (List.take_sublist i l) hs, ?_, fun p hp q hq => ?_⟩
  · rw [List.singleton_append, List.pairwise_cons]
    refine ⟨fun q hq => ?_, List.Pairwise.sublist (List.drop_sublist i l) hs⟩
    obtain ⟨j, hj⟩ := List.mem_iff_getElem?.1 hq
    rw [List.getElem?_drop] at hj
    have hi : i < l.length := by have := (List.getElem?_eq_some_iff.1 hj).1; omega
    have h1 := h.hi l[i] (List.getElem?_eq_getElem hi)
    have h2 : l[i].1 ≠ k := aget_none.1 hn _ (List.getElem_mem hi)
    have h3 : ltK k l[i].1 = true := by
      cases e : ltK k l[i].1 with
      | true => rfl
      | false => exact absurd (ltK_tight _ _ h1 e) h2
    rcases Nat.eq_zero_or_pos j with rfl | hj0
    · rw [Nat.add_zero, List.getElem?_eq_getElem hi] at hj
      cases hj; exact h3
    · exact ltK_tr h3 (hs.lt (List.getElem?_eq_getElem hi) hj (by omega))
  · obtain ⟨j, hj⟩ := List.mem_iff_getElem?.1 hp
    rw [List.getElem?_take] at hj
    split at hj
    · rename_i hji
      have h1 := h.lo j p hji hj
      rcases List.mem_append.1 hq with hq | hq
      · simp only [List.mem_singleton] at hq
        rw [hq]; exact h1
      · obtain ⟨m, hm⟩ := List.mem_iff_getElem?.1 hq
        rw [List.getElem?_drop] at hm
        exact hs.lt hj hm (by omega)
    · cases hj
theorem SrtL.del {l : List It} (hs : SrtL l) (i : Nat) : SrtL (l.take i ++ l.drop (i + 1)) := by
  rw [← List.eraseIdx_eq_take_drop_succ]
  exact List.Pairwise.sublist (List.eraseIdx_sublist l i) hs
/-! ### The same things in another order -/
theorem aget_iff {T : List It} (hn : (T.map (·.1)).Nodup) {k : Key} {x : Int} : aget k T = some x ↔ (k, x) ∈ T := ⟨aget_mem, aget_of_mem hn⟩
theorem aget_perm {T l : List It} (h : T.Perm l) (hn : (l.map (·.1)).Nodup) (k : Key) : aget k T = aget k l := by
  have hT : (T.map (·.1)).Nodup := (h.map (·.1)).nodup_iff.2 hn
  cases e : aget k l with
  | some x => exact (aget_iff hT).2 (h.mem_iff.2 ((aget_iff hn).1 e))
  | none =>
    cases e2 : aget k T with
    | none => rfl
    | some x =>
      have := (aget_iff hn).2 (h.mem_iff.1 ((aget_iff hT).1 e2))
      rw [e] at this; cases this
theorem adel_cons : ∀ {T : List It} {k : Key} {x : Int}, aget k T = some x → T.Perm ((k, x) :: adel k T)
  | [], k, x, h => by cases h
  | p :: T, k, x, h => by
    simp only [aget, adel] at h ⊢
    split at h
    · rename_i e
      simp only [Option.some.injEq] at h
      rw [if_pos e]
      have : p = (k, x) := Prod.ext e.symm h
      rw [this]
    · rename_i e
      rw [if_neg e]
      exact ((adel_cons h).cons p).trans (List.Perm.swap _ _ _)
theorem adel_perm {T l : List It} (h : T.Perm l) (hn : (l.map (·.1)).Nodup) {k : Key} {x : Int} (e : aget k l = some x) : (adel k T).Perm (adel k l) := by
  have e2 : aget k T = some x := by rw [aget_perm h hn]; exact e
  exact List.Perm.cons_inv (((adel_cons e2).symm.trans h).trans (adel_cons e))
theorem many_same {T l : List It} (h : T.Perm l) (conn : Int) : manyT conn T = manyT conn l := h.countP_eq _
/-! ### The least number that is free -/
structure LeastI (conn : Int) (l : List It) (i w : Nat) : Prop where
  one : 1 ≤ w
  le : w ≤ i + 1
  all : ∀ m : Nat, 1 ≤ m → m < w → aget (conn, (m : Int)) l ≠ none
  or : (∀ (j : Nat) (p : It), j < i → l[j]? = some p → p.1.1 = conn → p.1.2 < w) ∨ aget (conn, (w : Int)) l = none
theorem LeastI.start {conn : Int} {l : List It} : LeastI conn l 0 1 := ⟨Nat.le_refl _, by omega, fun m h1 h2 => by omega, .inl fun j p hj => by omega⟩
theorem LeastI.step {conn : Int} {l : List It} {i w : Nat} {p : It} (h : LeastI conn l i w) (hs : SrtL l) (hp : l[i]? = some p) (hne : ¬ (p.1.1 = conn ∧ p.1.2 = (w : Int))) : LeastI conn l (i + 1) w := by
  refine ⟨h.one, by have := h.le; omega, h.all, ?_⟩
  rcases h.or with ho | ho
  · by_cases hc : p.1.1 = conn
    · by_cases hlt : p.1.2 < (w : Int)
      · refine .inl fun j q hj hq hqc => ?_
        by_cases e : j = i
        · subst e; rw [hp] at hq; cases hq; exact hlt
        · exact ho j q (by omega) hq hqc
      · refine .inr (aget_none.2 fun q hq e => ?_)
        obtain ⟨j, hj⟩ := List.mem_iff_getElem?.1 hq
        have hq1 : q.1.1 = conn := by rw [e]
        have hq2 : q.1.2 = (w : Int) := by rw [e]
        rcases Nat.lt_trichotomy j i with hji | rfl | hji
        · have := ho j q hji hj hq1; omega
        · rw [hp] at hj; cases hj; exact hne ⟨hq1, hq2⟩
        · have h3 := hs.lt hp hj hji
          rw [ltK_iff] at h3
          have : ¬ p.1.2 = (w : Int) := fun e2 => hne ⟨hc, e2⟩
          omega
    · refine .inl fun j q hj hq hqc => ?_
      by_cases e : j = i
      · subst e; rw [hp] at hq; cases hq; exact absurd hqc hc
      · exact ho j q (by omega) hq hqc
  · exact .inr ho
theorem LeastI.up {conn : Int} {l : List It} {i w : Nat} {p : It} (h : LeastI conn l i w) (hp : l[i]? = some p) (h1 : p.1.1 = conn) (h2 : p.1.2 = (w : Int)) : LeastI conn l (i + 1) (w + 1) := by
  have hin : aget (conn, (w : Int)) l ≠ none := fun e => by
    have := aget_none.1 e p (List.mem_of_getElem? hp)
    exact this (Prod.ext h1 h2)
  refine ⟨by omega, by have := h.le; omega, fun m h3 h4 => ?_, ?_⟩
  · by_cases e : m = w
    · rw [e]; exact hin
    · exact h.all m h3 (by omega)
  · rcases h.or with ho | ho
    · refine .inl fun j q hj hq hqc => ?_
      by_cases e : j = i
      · subst e; rw [hp] at hq; cases hq; omega
      · have := ho j q (by omega) hq hqc; omega
    · exact absurd ho hin
theorem LeastI.fin {conn : Int} {l : List It} {i w : Nat} (h : LeastI conn l i w) (hi : l.length ≤ i) {n : Nat} (h1 : 1 ≤ n) (h2 : aget (conn, (n : Int)) l = none) (h3 : ∀ m : Nat, 1 ≤ m → m < n → aget (conn, (m : Int)) l ≠ none) : n = w := by
  have hw : aget (conn, (w : Int)) l = none := by
    rcases h.or with ho | ho
    · refine aget_none.2 fun q hq e => ?_
      obtain ⟨j, hj⟩ := List.mem_iff_getElem?.1 hq
      have hq1 : q.1.1 = conn := by rw [e]
      have hq2 : q.1.2 = (w : Int) := by rw [e]
      have := ho j q (by have := (List.getElem?_eq_some_iff.1 hj).1; omega) hj hq1
      omega
    · exact ho
  rcases Nat.lt_trichotomy n w with hlt | rfl | hlt
  · exact absurd h2 (h.all n h1 hlt)
  · rfl
  · exact absurd hw (h3 w h.one hlt)
end
section
open Go

section
variable {α : Type} [Inhabited α] {p : α → Bool} {L M : List α} {i j : Nat}
def idxP (p : α → Bool) (L : List α) : Int := match L.findIdx? p with | some i => i | none => -1
theorem idxP_at (hi : i < L.length) (hp : p L[i]! = true) (hb : ∀ j < i, p L[j]! = false) : idxP p L = i := by
  have : L.findIdx? p = some i := by
    rw [List.findIdx?_eq_some_iff_getElem]
    refine ⟨hi, by rwa [getElem!_pos L i hi] at hp, fun j hj => ?_⟩
    have := hb j hj
    rw [getElem!_pos L j (by omega)] at this
    simp [this]
  unfold idxP
  rw [this]
theorem idxP_none (hb : ∀ j < L.length, p L[j]! = false) : idxP p L = -1 := by
  have : L.findIdx? p = none := by
    rw [List.findIdx?_eq_none_iff]
    intro x hx
    obtain ⟨j, hj, rfl⟩ := List.mem_iff_getElem.1 hx
    have := hb j hj
    rwa [getElem!_pos L j hj] at this
  unfold idxP
  rw [this]
theorem idxP_cases (p : α → Bool) (L : List α) : (idxP p L = -1 ∧ (L.filter fun x => !p x) = L) ∨ ∃ i, i < L.length ∧ p L[i]! = true ∧ (∀ j < i, p L[j]! = false) ∧ idxP p L = i := by
  cases hf : L.findIdx? p with
  | none =>
    rw [List.findIdx?_eq_none_iff] at hf
    refine .inl ⟨idxP_none fun j hj => ?_, List.filter_eq_self.2 fun x hx => by rw [hf x hx]; rfl⟩
    rw [getElem!_pos L j hj]
    exact hf _ (List.getElem_mem hj)
  | some i =>
    obtain ⟨h1, h2, h3⟩ := List.findIdx?_eq_some_iff_getElem.1 hf
    have hp : p L[i]! = true := by rw [getElem!_pos L i h1]; exact h2
    have hb : ∀ j < i, p L[j]! = false := fun j hj => by
      have := h3 j hj
      rw [getElem!_pos L j (by omega)]
      simpa using this
    exact .inr ⟨i, h1, hp, hb, idxP_at h1 hp hb⟩
/-- Midway: the first i are those of the first j that stay; from j on all is as it was. -/
structure DelI (p : α → Bool) (L M : List α) (i j : Nat) : Prop where
  len : M.length = L.length
  ij : i < j
  jl : j ≤ L.length
  pre : M.take i = (L.take j).filter fun x => !p x
  rest : ∀ k, j ≤ k → M[k]! = L[k]!
theorem take_bang (hi : i < L.length) : L.take (i + 1) = L.take i ++ [L[i]!] := by
  rw [List.take_add_one, bang_get hi]; rfl
theorem DelI.start (hi : i < L.length) (hp : p L[i]! = true) (hb : ∀ j < i, p L[j]! = false) : DelI p L L i (i + 1) := by
  refine ⟨rfl, by omega, by omega, ?_, fun _ _ => rfl⟩
  rw [take_bang hi, List.filter_append, List.filter_cons_of_neg (by rw [hp]; simp), List.filter_nil, List.append_nil]
  refine (List.filter_eq_self.2 fun x hx => ?_).symm
  obtain ⟨k, hk, rfl⟩ := List.mem_iff_getElem.1 hx
  rw [List.length_take] at hk
  have := hb k (by omega)
  rw [getElem!_pos L k (by omega)] at this
  rw [List.getElem_take, this]; rfl
theorem DelI.drop (h : DelI p L M i j) (hj : j < L.length) (hp : p L[j]! = true) : DelI p L M i (j + 1) := by
  refine ⟨h.len, by have := h.ij; omega, by omega, ?_, fun k hk => h.rest k (by omega)⟩
  rw [h.pre, take_bang hj, List.filter_append, List.filter_cons_of_neg (by rw [hp]; simp), List.filter_nil, List.append_nil]
theorem DelI.keep (h : DelI p L M i j) (hj : j < L.length) (hp : p L[j]! = false) : DelI p L (M.set i M[j]!) (i + 1) (j + 1) := by
  have hl := h.len
  have hij := h.ij
  refine ⟨by simp [hl], by omega, by omega, ?_, fun k hk => ?_⟩
  · have hM : (M.set i M[j]!)[i]! = M[j]! := by rw [getElem!_pos _ i (by simp; omega)]; simp
    rw [take_bang (by simp; omega), hM, List.take_set_of_le (Nat.le_refl _), h.pre, take_bang hj, List.filter_append, List.filter_cons_of_pos (by rw [hp]; rfl), List.filter_nil, h.rest j (Nat.le_refl _)]
  · by_cases hk2 : k < M.length
    · rw [getElem!_pos _ k (by simpa using hk2), List.getElem_set_ne (by omega), ← getElem!_pos M k hk2]
      exact h.rest k (by omega)
    · rw [getElem!_neg _ k (by simpa using hk2), getElem!_neg L k (by omega)]
theorem DelI.fin (h : DelI p L M i j) (hj : L.length ≤ j) : M.take i = L.filter fun x => !p x := by
  rw [h.pre, List.take_of_length_le hj]
end
section
variable {α : Type} {val : α → V × V} {L : List α} {sp : List V}
theorem rowc_cut {i : Nat} {z : List V} (hi : i ≤ L.length) (hz : z.length = 2) : ∃ sp', (L.take i).length * 2 + sp'.length = L.length * 2 + sp.length ∧ splice (rowc val L sp) (i * 2) (List.replicate (L.length - i) z).flatten = rowc val (L.take i) sp' := by
  have hsplit : rowc val L sp = rowc val (L.take i) (rowc val (L.drop i) sp) := by
    unfold rowc
    rw [← List.append_assoc, ← List.flatMap_append, List.take_append_drop]
  have hl : (L.take i).length = i := by simp; omega
  have hfl : ((List.replicate (L.length - i) z).flatten).length = (L.length - i) * 2 := by simp [hz]
  refine ⟨(List.replicate (L.length - i) z).flatten ++ sp, by rw [List.length_append, hfl, hl]; omega, ?_⟩
  have hpre : ∀ r : List V, rowc val (L.take i) r = (L.take i).flatMap (fun x => two (val x)) ++ r := fun r => rfl
  have hpl : ((L.take i).flatMap fun x => two (val x)).length = i * 2 := by
    have := rowc_len (val := val) (L := L.take i) (sp := [])
    rw [hl] at this
    simpa [rowc] using this
  unfold splice
  rw [hsplit, hpre, hpre, List.take_left' hpl, hfl, List.append_assoc]
  congr 2
  rw [← List.drop_drop, List.drop_left' hpl]
  have hdl : ((L.drop i).flatMap fun x => two (val x)).length = (L.length - i) * 2 := by
    have := rowc_len (val := val) (L := L.drop i) (sp := [])
    simpa [rowc] using this
  unfold rowc
  rw [List.drop_left' hdl]
end
theorem mono_big : ∀ {cs : List V}, 2 ≤ cs.length → mono cs
  | [], h => by simp at h
  | [_], h => by simp at h
  | _ :: _ :: _, _ => mono_two ▸ trivial
/-- A function with one captured variable. -/
def clV (g : FuncId) (t : Nat) : V := .sc (.func (.func g) #[] #[.pointer (some ⟨t, 0, none⟩)])
theorem one_ptr {t : Nat} : ∀ v : Value, v = Value.pointer (some ⟨t, 0, none⟩) → v.oneCell' = true := fun v h => by subst h; rfl
theorem arr1 {v : Value} : (#[v] : Array Value).toList = [v] := rfl
structure DelF {α : Type} (P : Program) (g : FuncId) (t : Nat) (X : List V) (val : α → V × V) (p : α → Bool) : Prop where
  run : ∀ (st : St), st.box t = some X → ∀ x : α, VCalls P g [.agg [(val x).1, (val x).2], .sc (.pointer (some ⟨t, 0, none⟩))] st fun r st' => r = .sc (.bool (p x)) ∧ st = st'
  call : callable P g = true
end
section
open Go

section
variable {α : Type} [Inhabited α] {val : α → V × V} {p : α → Bool} {g : FuncId} {t b cap : Nat} {X : List V} {st : St} {L : List α} {sp : List V}
set_option maxRecDepth 100000 in
set_option maxHeartbeats 4000000 in
theorem indexK_v (hp : DelF Try.prog g t X val p) (ht : st.box t = some X) (hb : st.box b = some (rowc val L sp)) (hmo : mono (rowc val L sp)) (hl : L.length < 4611686018427387904) :
    VCalls Try.prog 140 [dataV b L.length cap, clV g t] st fun v s => v = .sc (.int .i64 (idxP p L)) ∧ st = s := by
  refine vcalls_enter vc140 (Nat.le_of_ble_eq_true rfl) fun hwf hok => ?_
  show Run _ Vc140.body (.fin (finQ Vc140.res _)) _ _
  unfold Vc140
  simp (config := {maxSteps := 3000000}) only [go_sem, Int.reduceNeg, ↓reduceIte, reduceCtorEq, dataV, clV]
  refine run_loop [4, 5, 8, 9, 10, 11, 12, 13, 14, 15, 16, 17, 18] (fun B s => ∃ i : Nat, i ≤ L.length ∧ B 8 = .sc (.int .i64 i) ∧ (∀ j < i, p L[j]! = false) ∧ s = st) (fun B _ => L.length - vnat (B 8)) rfl ?_ ?_
  · simp (config := {maxSteps := 3000000}) only [go_sem, ↓reduceIte]
    exact ⟨0, by omega, rfl, fun j hj => by omega⟩
  · rintro B s ⟨i, hi, h8, hno, rfl⟩
    by_cases c1 : i < L.length
    · simp (config := {maxSteps := 3000000}) only [go_sem, Nat.reduceEqDiff, Int.reduceNeg, ↓reduceIte, reduceCtorEq, Nat.reduceBEq, h8, hb, decide_eq_true (show (i : Int) < (L.length : Int) by omega), rowc_get (show i < L.length by omega), rowc_len, hmo, hp.call, List.map_nil, List.map_cons]
      repeat (apply And.intro; focus (first | omega | (simp; done)))
      refine ⟨one_ptr, Cal.mk (hp.run s ht L[i]!) ?_⟩
      rintro _ _ ⟨rfl, rfl⟩ -
      cases c2 : p L[i]!
      · simp (config := {maxSteps := 3000000}) only [go_sem, Nat.reduceEqDiff, Int.reduceNeg, ↓reduceIte, Nat.reduceBEq, h8]
        repeat (apply And.intro; focus (first | omega | (simp; done)))
        refine ⟨⟨i + 1, by omega, by simp, fun j hj => ?_⟩, by omega⟩
        by_cases e : j = i
        · rw [e]; exact c2
        · exact hno j (by omega)
      · simp (config := {maxSteps := 3000000}) only [go_sem, Nat.reduceEqDiff, Int.reduceNeg, ↓reduceIte]
        exact ⟨_, _, Wk.refl _, hwf.weak, by rw [idxP_at c1 c2 hno], rfl⟩
    · simp (config := {maxSteps := 3000000}) only [go_sem, Nat.reduceEqDiff, Int.reduceNeg, ↓reduceIte, Nat.reduceBEq, h8, decide_eq_false (show ¬ (i : Int) < (L.length : Int) by omega)]
      exact ⟨_, _, Wk.refl _, hwf.weak, by rw [idxP_none (fun j hj => hno j (by omega))], rfl⟩
set_option maxRecDepth 100000 in
set_option maxHeartbeats 8000000 in
theorem deleteK_v (hp : DelF Try.prog g t X val p) (ht : st.box t = some X) (htb : t ≠ b) (hb : st.box b = some (rowc val L sp)) (hmo : mono (rowc val L sp)) (hcap : L.length ≤ cap) (hl : cap < 4611686018427387904) (hlc : L.length * 2 + sp.length = cap * 2) :
    VCalls Try.prog 92 [dataV b L.length cap, clV g t] st fun v s => ∃ sp', (L.filter fun x => !p x).length * 2 + sp'.length = cap * 2 ∧ mono (rowc val (L.filter fun x => !p x) sp') ∧ v = dataV b (L.filter fun x => !p x).length cap ∧ s = st.put b (rowc val (L.filter fun x => !p x) sp') := by
  refine vcalls_enter vc92 (Nat.le_of_ble_eq_true rfl) fun hwf hok => ?_
  show Run _ Vc92.body (.fin (finQ Vc92.res _)) _ _
  unfold Vc92
  simp (config := {maxSteps := 3000000}) only [go_sem, Nat.reduceEqDiff, Int.reduceNeg, ↓reduceIte, reduceCtorEq, dataV, clV]
  have cc := indexK_v (cap := cap) hp ht hb hmo (by omega)
  rw [dataV, clV] at cc
  refine Cal.mk cc ?_
  rintro _ _ ⟨rfl, rfl⟩ -
  clear cc
  have hself : st.put b (rowc val L sp) = st := put_selfR hb (hwf.lt.box b _ hb)
  rcases idxP_cases p L with ⟨h0, hF⟩ | ⟨i, hi, hpi, hbi, hI⟩
  · simp (config := {maxSteps := 3000000}) only [go_sem, Int.reduceNeg, ↓reduceIte, reduceCtorEq, h0]
    exact ⟨_, _, Wk.refl _, by rw [hF, hself]; exact hwf.weak, sp, by rw [hF]; exact hlc, by rw [hF]; exact hmo, by rw [hF], rfl⟩
  · simp (config := {maxSteps := 3000000}) only [go_sem, Nat.reduceEqDiff, Int.reduceNeg, ↓reduceIte, reduceCtorEq, hI]
    repeat (apply And.intro; focus (first | omega | (simp; done)))
    refine run_loop [5, 6, 7, 16, 17, 18, 19, 20, 21, 22, 23, 24, 25, 26, 27, 28, 29, 30, 31, 32, 33, 34, 35] (fun B s => ∃ (i j : Nat) (M : List α), B 5 = .sc (.int .i64 i) ∧ B 6 = .sc (.int .i64 j) ∧ DelI p L M i j ∧ (st.put b (rowc val M sp)).weak s ∧ s.Lt) (fun B _ => L.length - vnat (B 6)) rfl ?_ ?_
    · simp (config := {maxSteps := 3000000}) only [go_sem, Nat.reduceEqDiff, ↓reduceIte]
      exact ⟨i, i + 1, L, rfl, by simp, DelI.start hi hpi hbi, by rw [hself]; exact hwf.weak, hwf.lt⟩
    · clear hI hbi hpi hi
      rintro B s ⟨i, j, M, h5, h6, hI, hw, hsl⟩
      have hlen := hI.len
      have hij := hI.ij
      have hjl := hI.jl
      have hbs := (hw.box b _ put_box_same).1
      have hts := (hw.box t _ (by rw [put_box_ne htb]; exact ht)).1
      have hmo' := rowc_mono hmo hlen
      by_cases c1 : j < L.length
      · simp (config := {maxSteps := 3000000}) only [go_sem, Nat.reduceEqDiff, Nat.reduceAdd, Nat.reduceLT, Nat.reduceLeDiff, ↓reduceIte, reduceCtorEq, Nat.reduceBEq, h6, hbs, decide_eq_true (show (j : Int) < (L.length : Int) by omega), rowc_get (show j < M.length by omega), rowc_len, hmo']
        repeat (apply And.intro; focus (first | omega | (simp; done)))
        intro v hv
        have hbv : b ≠ v := by have := hsl.box b _ hbs; omega
        have htv : t ≠ v := by have := hsl.box t _ hts; omega
        have hvb : v ≠ b := hbv.symm
        simp (config := {maxSteps := 3000000}) only [go_sem, hp.call]
        refine ⟨one_ptr, Cal.mk (hp.run _ (by rw [put_box_ne htv]; exact hts) M[j]!) ?_⟩
        rintro _ _ ⟨rfl, rfl⟩ -
        have hMj : M[j]! = L[j]! := hI.rest j (by omega)
        have sv : (st.put b (rowc val M sp)).sz ≤ v := Nat.le_trans hw.sz hv
        cases c2 : p M[j]!
        · have hs2 := rowc_set (val := val) (sp := sp) (L := M) (i := i) (y := M[j]!) (by omega)
          simp (config := {maxSteps := 3000000}) only [go_sem, Nat.reduceEqDiff, Nat.reduceAdd, Nat.reduceLT, Nat.reduceLeDiff, Int.reduceNeg, ↓reduceIte, reduceCtorEq, Nat.reduceBEq, h5, h6, put_box_ne hbv, hbs, rowc_len, hmo', hs2]
          repeat (apply And.intro; focus (first | omega | (simp; done)))
          refine ⟨⟨i + 1, j + 1, M.set i M[j]!, by simp, by simp, hI.keep c1 (by rw [← hMj]; exact c2), ?_, hsl.put.put⟩, by omega⟩
          have := weak_both (b := b) (cs := rowc val (M.set i M[j]!) sp) (weak_put (b := v) (cs := [(val M[j]!).1, (val M[j]!).2]) hw sv)
          rwa [put_put] at this
        · simp (config := {maxSteps := 3000000}) only [go_sem, Nat.reduceEqDiff, Int.reduceNeg, ↓reduceIte, Nat.reduceBEq, h5, h6]
          repeat (apply And.intro; focus (first | omega | (simp; done)))
          exact ⟨⟨i, j + 1, M, rfl, by simp, hI.drop c1 (by rw [← hMj]; exact c2), weak_put hw sv, hsl.put⟩, by omega⟩
      · have hF := hI.fin (by omega)
        obtain ⟨sp', hsp, e3⟩ := rowc_cut (val := val) (sp := sp) (L := M) (i := i) (z := [.sc (.int .i64 0), .sc (.int .u16 0)]) (by omega) rfl
        have hiF : (L.filter fun x => !p x).length = i := by rw [← hF]; simp; omega
        have e4 : M.length - i = L.length - i := by omega
        rw [e4] at e3
        have ecl : i * 2 + (L.length - i) * 2 ≤ (rowc val M sp).length := by rw [rowc_len]; omega
        have eic : (i : Int) < (cap : Int) := by omega
        simp (config := {maxSteps := 3000000}) only [go_sem, Nat.reduceEqDiff, ↓reduceIte, reduceCtorEq, Nat.reduceBEq, h5, h6, hbs, decide_eq_false (show ¬ (j : Int) < (L.length : Int) by omega), hmo', ecl, eic]
        repeat (apply And.intro; focus (first | omega | (simp; done)))
        rw [hF] at e3 hsp
        refine ⟨_, _, Wk.refl _, ?_, sp', ?_, ?_, ?_, rfl⟩
        · unfold splice at e3
          rw [e3]
          have := weak_both (b := b) (cs := rowc val (L.filter fun x => !p x) sp') hw
          rwa [put_put] at this
        · omega
        · refine mono_big ?_
          rw [rowc_len]; omega
        · rw [hiF]
end
end
section
open Go

def itV (p : It) : V := .agg [.sc (.int .i64 p.1.1), .sc (.int .u16 p.1.2), .sc (.int .i64 p.2)]
def its (l : List It) : List V := l.map itV
theorem its_len (l : List It) : (its l).length = l.length := by simp [its]
theorem its_get {l : List It} {i : Nat} {p : It} (h : l[i]? = some p) : (its l)[i]? = some (.agg [.sc (.int .i64 p.1.1), .sc (.int .u16 p.1.2), .sc (.int .i64 p.2)]) := by simp [its, h, itV]
theorem its_take (l : List It) (k : Nat) : (its l).take k = its (l.take k) := by simp [its, List.map_take]
theorem its_drop (l : List It) (k : Nat) : (its l).drop k = its (l.drop k) := by simp [its, List.map_drop]
theorem its_append (l m : List It) : its l ++ its m = its (l ++ m) := by simp [its]
theorem allSz_its (l : List It) : allSz 3 (its l) := fun d hd => by
  obtain ⟨x, _, rfl⟩ := List.mem_map.1 hd; rfl
theorem allSz_its' (l : List It) : allSz 3 (its l) = True := by simp [allSz_its]
section
variable {st : St} {b mb c : Nat} {most conn : Int} {T l : List It} {es : List (V × V × Nat)} {tk : Tk}
set_option maxRecDepth 100000 in
theorem behind_v {x y : Key} : VCalls Try.prog 135 [.agg [.sc (.int .i64 x.1), .sc (.int .u16 x.2)], .agg [.sc (.int .i64 y.1), .sc (.int .u16 y.2)]] st fun v s => v = .sc (.bool (ltK y x)) ∧ st = s := by
  refine vcalls_enter vc135 (Nat.le_of_ble_eq_true rfl) fun hwf hok => ?_
  show Run _ Vc135.body (.fin (finQ Vc135.res _)) _ _
  unfold Vc135
  simp (config := {maxSteps := 3000000}) only [go_sem, Nat.reduceEqDiff, Nat.reduceAdd, ↓reduceIte, reduceCtorEq]
  intro b1 h1 b2 h2
  have hbc : b1 < b2 := by omega
  have hc2 : st.sz ≤ b2 := by omega
  clear h2
  have fin : st.weak ((st.put b1 [.sc (.int .i64 x.1), .sc (.int .u16 x.2)]).put b2 [.sc (.int .i64 y.1), .sc (.int .u16 y.2)]) := weak_put (weak_put hwf.weak h1) hc2
  by_cases c1 : y.1 < x.1
  · simp (config := {maxSteps := 3000000}) only [go_sem, Nat.reduceEqDiff, ↓reduceIte, put_box_ne (Nat.ne_of_lt hbc), decide_eq_true c1]
    exact ⟨_, _, Wk.refl _, fin, by simp [ltK, c1], rfl⟩
  by_cases c2 : x.1 = y.1
  · by_cases c3 : y.2 < x.2
    · simp (config := {maxSteps := 3000000}) only [go_sem, Nat.reduceEqDiff, ↓reduceIte, put_box_ne (Nat.ne_of_lt hbc), decide_eq_false c1, decide_eq_true c2, decide_eq_true c3]
      exact ⟨_, _, Wk.refl _, fin, by simp [ltK, c2, c3], rfl⟩
    · simp (config := {maxSteps := 3000000}) only [go_sem, Nat.reduceEqDiff, ↓reduceIte, put_box_ne (Nat.ne_of_lt hbc), decide_eq_false c1, decide_eq_true c2, decide_eq_false c3]
      exact ⟨_, _, Wk.refl _, fin, by simp [ltK, c2, c3], rfl⟩
  · have c2' : ¬ y.1 = x.1 := fun e => c2 e.symm
    simp (config := {maxSteps := 3000000}) only [go_sem, Nat.reduceEqDiff, ↓reduceIte, put_box_ne (Nat.ne_of_lt hbc), decide_eq_false c1, decide_eq_false c2]
    exact ⟨_, _, Wk.refl _, fin, by simp [ltK, c1, c2'], rfl⟩
set_option maxRecDepth 100000 in
theorem many18_v : VCalls Try.prog 52 [.sl tk (its l), .sc (.int .i64 conn)] st fun v s => v = .sc (.int .i64 (manyT conn l)) ∧ st = s := by
  refine vcalls_enter vc52 (Nat.le_of_ble_eq_true rfl) fun hwf hok => ?_
  show Run _ Vc52.body (.fin (finQ Vc52.res _)) _ _
  unfold Vc52
  have hsm := vlen_max (hok (.sl tk (its l)) (by simp))
  rw [its_len] at hsm
  simp (config := {maxSteps := 3000000}) only [go_sem]
  refine run_loop [5, 6, 7, 8, 9, 10, 11, 12, 13, 14, 15, 16, 17, 18, 19, 20, 21, 22] (fun B s => ∃ i : Nat, i ≤ l.length ∧ B 6 = .sc (.int .i64 i) ∧ B 5 = .sc (.int .i64 (manyT conn (l.take i))) ∧ s = st) (fun B _ => l.length - vnat (B 6)) rfl ?_ ?_
  · simp (config := {maxSteps := 3000000}) only [go_sem, Nat.reduceEqDiff, ↓reduceIte]
    exact ⟨0, by omega, rfl, rfl⟩
  · rintro B s ⟨i, hi, h6, h5, rfl⟩
    by_cases c1 : i < l.length
    · obtain ⟨x, hx⟩ := get_ex c1
      have hct : manyT conn (l.take (i + 1)) = manyT conn (l.take i) + if x.1.1 = conn then 1 else 0 := by
        rw [List.take_add_one, hx]
        unfold manyT
        rw [List.countP_append]
        simp [List.countP_cons]
      have hle : manyT conn (l.take i) ≤ i := Nat.le_trans List.countP_le_length (by simp; omega)
      by_cases cc : x.1.1 = conn
      · rw [if_pos cc] at hct
        simp (config := {maxSteps := 3000000}) only [go_sem, Nat.reduceEqDiff, Nat.reduceAdd, Int.reduceNeg, ↓reduceIte, reduceCtorEq, Nat.reduceBEq, h6, h5, its_get hx, its_len, decide_eq_true (show (i : Int) < (l.length : Int) by omega), decide_eq_true cc]
        repeat (apply And.intro; focus (first | omega | (simp; done)))
        exact ⟨⟨i + 1, by omega, by simp, by rw [hct]; simp⟩, by omega⟩
      · rw [if_neg cc] at hct
        simp (config := {maxSteps := 3000000}) only [go_sem, Nat.reduceEqDiff, Nat.reduceAdd, Int.reduceNeg, ↓reduceIte, reduceCtorEq, Nat.reduceBEq, h6, h5, its_get hx, its_len, decide_eq_true (show (i : Int) < (l.length : Int) by omega), decide_eq_false cc]
        repeat (apply And.intro; focus (first | omega | (simp; done)))
        exact ⟨⟨i + 1, by omega, by simp, by rw [hct]; simp⟩, by omega⟩
    · obtain rfl : i = l.length := by omega
      rw [List.take_length] at h5
      simp (config := {maxSteps := 3000000}) only [go_sem, Nat.reduceEqDiff, ↓reduceIte, reduceCtorEq, Nat.reduceBEq, h6, h5, its_len]
      exact ⟨_, _, Wk.refl _, hwf.weak, rfl, rfl⟩
/-- What find answers. -/
def FindQ (k : Key) (l : List It) (v : V) : Prop := ∃ (i : Nat) (B : Bool), PosK k l i ∧ (B = true ↔ ∃ p, l[i]? = some p ∧ p.1 = k) ∧ v = .tup [.sc (.int .i64 i), .sc (.bool B)]
set_option maxRecDepth 100000 in
set_option maxHeartbeats 4000000 in
theorem find18_v {k : Key} : VCalls Try.prog 83 [.sl tk (its l), .agg [.sc (.int .i64 k.1), .sc (.int .u16 k.2)]] st fun v s => FindQ k l v ∧ st = s := by
  refine vcalls_enter vc83 (Nat.le_of_ble_eq_true rfl) fun hwf hok => ?_
  show Run _ Vc83.body (.fin (finQ Vc83.res _)) _ _
  unfold Vc83
  have hsm := vlen_max (hok (.sl tk (its l)) (by simp))
  rw [its_len] at hsm
  simp (config := {maxSteps := 3000000}) only [go_sem, Nat.reduceAdd, reduceCtorEq]
  intro b hb
  refine run_loop [6, 7, 8, 9, 10, 11, 12, 13, 14, 15, 16, 17, 18, 19, 20, 21] (fun B s => ∃ i : Nat, i ≤ l.length ∧ B 6 = .sc (.int .i64 i) ∧ (∀ (j : Nat) (p : It), j < i → l[j]? = some p → ltK p.1 k = true) ∧ s = st.put b [.sc (.int .i64 k.1), .sc (.int .u16 k.2)]) (fun B _ => l.length - vnat (B 6)) rfl ?_ ?_
  · simp (config := {maxSteps := 3000000}) only [go_sem, ↓reduceIte]
    exact ⟨0, by omega, rfl, fun j p hj => by omega⟩
  · rintro B s ⟨i, hi, h6, hlo, rfl⟩
    by_cases c1 : i < l.length
    · obtain ⟨x, hx⟩ := get_ex c1
      simp (config := {maxSteps := 3000000}) only [go_sem, Nat.reduceEqDiff, Nat.reduceAdd, Nat.reduceLeDiff, ↓reduceIte, reduceCtorEq, Nat.reduceBEq, h6, its_get hx, its_len, decide_eq_true (show (i : Int) < (l.length : Int) by omega)]
      repeat (apply And.intro; focus (first | omega | (simp; done)))
      refine Cal.mk (behind_v (x := k) (y := x.1)) ?_
      rintro _ _ ⟨rfl, rfl⟩ -
      cases c2 : ltK x.1 k
      · have hP : PosK k l i := ⟨hi, hlo, fun p hp => by rw [hx] at hp; cases hp; exact c2⟩
        by_cases c3 : x.1 = k
        · simp (config := {maxSteps := 3000000}) only [go_sem, Nat.reduceEqDiff, Nat.reduceAdd, Nat.reduceLeDiff, ↓reduceIte, reduceCtorEq, Nat.reduceBEq, h6, its_get hx, its_len, decide_eq_true (show (i : Int) < (l.length : Int) by omega), fitsV, eqV, decide_eq_true (show x.1.1 = k.1 by rw [c3]), decide_eq_true (show x.1.2 = k.2 by rw [c3]), Bool.and_self]
          repeat (apply And.intro; focus (first | omega | (simp; done)))
          exact ⟨_, _, Wk.refl _, weak_put hwf.weak hb, ⟨i, true, hP, ⟨fun _ => ⟨x, hx, c3⟩, fun _ => rfl⟩, rfl⟩, rfl⟩
        · have hne : (decide (x.1.1 = k.1) && (decide (x.1.2 = k.2) && true)) = false := by
            cases e : (decide (x.1.1 = k.1) && (decide (x.1.2 = k.2) && true)) with
            | false => rfl
            | true =>
              simp only [Bool.and_eq_true, decide_eq_true_eq, and_true] at e
              exact absurd (Prod.ext e.1 e.2) c3
          simp (config := {maxSteps := 3000000}) only [go_sem, Nat.reduceEqDiff, Nat.reduceAdd, Nat.reduceLeDiff, ↓reduceIte, reduceCtorEq, Nat.reduceBEq, h6, its_get hx, its_len, decide_eq_true (show (i : Int) < (l.length : Int) by omega), fitsV, eqV, hne]
          repeat (apply And.intro; focus (first | omega | (simp; done)))
          exact ⟨_, _, Wk.refl _, weak_put hwf.weak hb, ⟨i, false, hP, ⟨fun h => (by cases h), fun ⟨p, hp, e⟩ => (by rw [hx] at hp; cases hp; exact absurd e c3)⟩, rfl⟩, rfl⟩
      · simp (config := {maxSteps := 3000000}) only [go_sem, Nat.reduceEqDiff, Int.reduceNeg, ↓reduceIte, Nat.reduceBEq, h6]
        repeat (apply And.intro; focus (first | omega | (simp; done)))
        refine ⟨⟨i + 1, by omega, by simp, fun j p hj hp => ?_⟩, by omega⟩
        by_cases e : j = i
        · subst e; rw [hx] at hp; cases hp; exact c2
        · exact hlo j p (by omega) hp
    · have hno : l[i]? = none := List.getElem?_eq_none (by omega)
      simp (config := {maxSteps := 3000000}) only [go_sem, Nat.reduceEqDiff, ↓reduceIte, reduceCtorEq, Nat.reduceBEq, h6, its_len, decide_eq_false (show ¬ (i : Int) < (l.length : Int) by omega)]
      exact ⟨_, _, Wk.refl _, weak_put hwf.weak hb, ⟨i, false, ⟨hi, hlo, fun p hp => (by rw [hno] at hp; cases hp)⟩, ⟨fun h => (by cases h), fun ⟨p, hp, _⟩ => (by rw [hno] at hp; cases hp)⟩, rfl⟩, rfl⟩
set_option maxRecDepth 100000 in
theorem of1_v {t : Nat} (ht : st.box t = some [.sc (.int .i64 conn)]) {k : Key} : VCalls Try.prog 93 [.agg [(kval k).1, (kval k).2], .sc (.pointer (some ⟨t, 0, none⟩))] st fun v s => v = .sc (.bool (decide (k.1 ≠ conn))) ∧ st = s := by
  refine vcalls_enter vc93 (Nat.le_of_ble_eq_true rfl) fun hwf hok => ?_
  show Run _ Vc93.body (.fin (finQ Vc93.res _)) _ _
  unfold Vc93
  simp (config := {maxSteps := 3000000}) only [go_sem, Nat.reduceEqDiff, Nat.reduceAdd, ↓reduceIte, reduceCtorEq, kval]
  intro b hb
  have tb : t ≠ b := by have := hwf.lt.box t _ ht; omega
  simp (config := {maxSteps := 3000000}) only [go_sem, Nat.reduceEqDiff, ↓reduceIte, put_box_ne tb, ht]
  exact ⟨_, _, Wk.refl _, weak_put hwf.weak hb, rfl, rfl⟩
theorem delOf {t : Nat} : DelF Try.prog 93 t [.sc (.int .i64 conn)] kval (fun k : Key => decide (k.1 ≠ conn)) := ⟨fun st ht k => of1_v ht, by kernel_rfl⟩
set_option maxRecDepth 100000 in
set_option maxHeartbeats 4000000 in
theorem tblOf_v (h : TblB st b mb most T es c) (hS : T.length ≤ 1000) : VCalls Try.prog 55 [ptrV b, .sc (.int .i64 conn)] st fun r s =>
    ∃ (ob : Nat) (M : List Key) (sp : List V), M.Perm (T.map (·.1)) ∧ M.Pairwise (fun x y => ltK y x = false) ∧ r = dataV ob (M.filter fun k => !decide (k.1 ≠ conn)).length T.length ∧ RBC kval st s ob T.length (M.filter fun k => !decide (k.1 ≠ conn)) sp := by
  refine vcalls_enter vc55 (Nat.le_of_ble_eq_true rfl) fun hwf hok => ?_
  show Run _ Vc55.body (.fin (finQ Vc55.res _)) _ _
  unfold Vc55
  have hlt := hwf.lt
  have hms := hlt.box mb _ h.mbox
  have hbs := hlt.box b _ h.box
  simp (config := {maxSteps := 3000000}) only [go_sem, ↓reduceIte, reduceCtorEq]
  intro t ht
  have h2 := h.put (cs := [.sc (.int .i64 conn)]) (show b ≠ t by omega) (show mb ≠ t by omega)
  refine Cal.mk (tblKeys_v h2 hS) ?_
  rintro _ s1 ⟨ob, M, sp, m1, m2, rfl, R⟩ -
  have hts := (R.weak.box t _ put_box_same).1
  have hto : t ≠ ob := by have := R.fresh; simp only [put_sz] at this; omega
  simp (config := {maxSteps := 3000000}) only [go_sem, Nat.reduceEqDiff, ↓reduceIte]
  have hMl : M.length = T.length := by rw [m1.length_eq]; simp
  have cc := deleteK_v (st := s1) (L := M) (sp := sp) (cap := T.length) delOf hts hto R.box R.mono (by omega) (by omega) R.len
  rw [dataV, clV] at cc
  refine Cal.mk cc ?_
  rintro _ _ ⟨sp', q1, q2, rfl, rfl⟩ -
  simp (config := {maxSteps := 3000000}) only [go_sem, ↓reduceIte]
  have hw : st.weak (s1.put ob (rowc kval (M.filter fun k => !decide (k.1 ≠ conn)) sp')) := weak_put (weak_tr (weak_put hwf.weak ht) R.weak) (by have := R.fresh; simp only [put_sz] at this; omega)
  exact ⟨_, _, Wk.refl _, R.lt.put.weak, ob, M, sp', m1, m2, rfl, ⟨put_box_same, q1, q2, R.max, hw, R.lt.put, by have := R.fresh; simp only [put_sz] at this; omega⟩⟩
end
end
section
open Go

theorem Wk.tupT {a a' : V} {x : Value} (h : Wk a a') : Wk (.tup [a, .sc x]) (.tup [a', .sc x]) := fun G v hv => by
  cases hv with
  | tup _ vs hl hg =>
    refine .tup _ vs hl fun i c u hc hu => ?_
    match i, hc with
    | 0, hc => simp at hc; subst hc; exact h G u (hg 0 a u rfl hu)
    | 1, hc => exact hg 1 c u hc hu
section
variable {st : St} {b mb c : Nat} {most : Int} {T l : List It} {es : List (V × V × Nat)} {tk : Tk} {kind x : Int} {k : Key}
set_option maxRecDepth 100000 in
set_option maxHeartbeats 8000000 in
theorem asks18_v (h : TblB st b mb most T es c) (hT : T.length ≤ 1000) (hp : T.Perm l) (hs : SrtL l) (h0 : 0 ≤ kind) :
    VCalls Try.prog 86 [ptrV b, .sl tk (its l), .agg [.sc (.int .i64 kind), .sc (.int .i64 x), .sc (.int .i64 k.1), .sc (.int .u16 k.2)], .sc (.int .i64 most)] st fun v s => v = .sc (.bool true) ∧ st = s := by
  have bT : (true == true) = true := rfl
  have bF : (false == false) = true := rfl
  have hln := hp.length_eq
  have hkeys := hs.keys
  refine vcalls_enter vc86 (Nat.le_of_ble_eq_true rfl) fun hwf hok => ?_
  show Run _ Vc86.body (.fin (finQ Vc86.res _)) _ _
  unfold Vc86
  have hlt := hwf.lt
  have hms := hlt.box mb _ h.mbox
  have hbs := hlt.box b _ h.box
  simp (config := {maxSteps := 3000000}) only [go_sem, Nat.reduceEqDiff, Nat.reduceAdd, Nat.reduceLeDiff, ↓reduceIte, reduceCtorEq]
  intro d hd
  have h2 := h.put (cs := [.sc (.int .i64 kind), .sc (.int .i64 x), .sc (.int .i64 k.1), .sc (.int .u16 k.2)]) (show b ≠ d by omega) (show mb ≠ d by omega)
  have fin := weak_put (cs := [.sc (.int .i64 kind), .sc (.int .i64 x), .sc (.int .i64 k.1), .sc (.int .u16 k.2)]) hwf.weak hd
  refine Cal.mk find18_v ?_
  rintro _ _ ⟨⟨i, B, hP, hB, rfl⟩, rfl⟩ -
  by_cases c5 : kind % 7 = 5
  · simp (config := {maxSteps := 3000000}) only [go_sem, Nat.reduceEqDiff, Int.reduceLT, ↓reduceIte, reduceCtorEq, decide_eq_true c5]
    repeat (apply And.intro; focus (first | omega | (simp; done)))
    refine Cal.mk (tblFresh_v h2 hT) ?_
    rintro v _ ⟨rfl, hq⟩ -
    have hm := many_same hp k.1
    rcases hq with ⟨cm, rfl⟩ | ⟨cm, n, n1, n2, n3, n4, rfl⟩
    · simp (config := {maxSteps := 3000000}) only [go_sem, Nat.reduceEqDiff, ↓reduceIte]
      refine Cal.mk many18_v ?_
      rintro _ _ ⟨rfl, rfl⟩ -
      rw [← hm]
      simp (config := {maxSteps := 3000000}) only [go_sem, Nat.reduceEqDiff, ↓reduceIte, decide_eq_true cm]
      exact ⟨_, _, Wk.refl _, fin, rfl, rfl⟩
    · simp (config := {maxSteps := 3000000}) only [go_sem, Nat.reduceEqDiff, ↓reduceIte]
      refine Cal.mk many18_v ?_
      rintro _ _ ⟨rfl, rfl⟩ -
      rw [← hm]
      rw [aget_perm hp hkeys] at n3
      simp (config := {maxSteps := 3000000}) only [go_sem, Nat.reduceEqDiff, ↓reduceIte, decide_eq_false cm]
      refine run_loop [13, 14, 49, 50, 51, 52, 53, 54, 55, 56, 57, 58, 59, 60, 61, 62, 63, 64, 65, 66, 67, 68, 69, 70, 71, 72, 73, 74, 75, 76] (fun D s => ∃ (j w : Nat), j ≤ l.length ∧ D 14 = .sc (.int .i64 j) ∧ D 13 = .sc (.int .u16 w) ∧ LeastI k.1 l j w ∧ s = st.put d [.sc (.int .i64 kind), .sc (.int .i64 x), .sc (.int .i64 k.1), .sc (.int .u16 k.2)]) (fun D _ => l.length - vnat (D 14)) rfl ?_ ?_
      · simp (config := {maxSteps := 3000000}) only [go_sem, Nat.reduceEqDiff, ↓reduceIte]
        exact ⟨0, 1, by omega, rfl, rfl, LeastI.start⟩
      · rintro D s ⟨j, w, hj, h14, h13, hL, rfl⟩
        have hwl := hL.le
        by_cases c1 : j < l.length
        · obtain ⟨p, hx⟩ := get_ex c1
          by_cases d1 : p.1.1 = k.1
          · by_cases d2 : p.1.2 = (w : Int)
            · have e1 : ((w : Int) + 1) % 65536 = ((w + 1 : Nat) : Int) := by omega
              simp (config := {maxSteps := 3000000}) only [go_sem, Nat.reduceEqDiff, Nat.reduceAdd, Int.reduceNeg, ↓reduceIte, Nat.reduceBEq, h14, h13, its_get hx, its_len, decide_eq_true (show (j : Int) < (l.length : Int) by omega), decide_eq_true d1, decide_eq_true d2, e1]
              repeat (apply And.intro; focus (first | omega | (simp; done)))
              exact ⟨⟨j + 1, w + 1, by omega, by simp, rfl, hL.up hx d1 d2⟩, by omega⟩
            · simp (config := {maxSteps := 3000000}) only [go_sem, Nat.reduceEqDiff, Nat.reduceAdd, Int.reduceNeg, ↓reduceIte, Nat.reduceBEq, h14, h13, its_get hx, its_len, decide_eq_true (show (j : Int) < (l.length : Int) by omega), decide_eq_true d1, decide_eq_false d2]
              repeat (apply And.intro; focus (first | omega | (simp; done)))
              exact ⟨⟨j + 1, w, by omega, by simp, rfl, hL.step hs hx (fun h => d2 h.2)⟩, by omega⟩
          · simp (config := {maxSteps := 3000000}) only [go_sem, Nat.reduceEqDiff, Nat.reduceAdd, Int.reduceNeg, ↓reduceIte, Nat.reduceBEq, h14, h13, its_get hx, its_len, decide_eq_true (show (j : Int) < (l.length : Int) by omega), decide_eq_false d1]
            repeat (apply And.intro; focus (first | omega | (simp; done)))
            exact ⟨⟨j + 1, w, by omega, by simp, rfl, hL.step hs hx (fun h => d1 h.1)⟩, by omega⟩
        · have hnw := hL.fin (by omega) n1 n3 (fun m m1 m2 => by rw [← aget_perm hp hkeys]; exact n4 m m1 m2)
          subst hnw
          simp (config := {maxSteps := 3000000}) only [go_sem, Nat.reduceEqDiff, ↓reduceIte, Nat.reduceBEq, h14, h13, its_len, decide_eq_false (show ¬ (j : Int) < (l.length : Int) by omega)]
          exact ⟨_, _, Wk.refl _, fin, rfl, rfl⟩
  · simp (config := {maxSteps := 3000000}) only [go_sem, Nat.reduceEqDiff, Nat.reduceAdd, Nat.reduceLeDiff, Int.reduceLT, ↓reduceIte, reduceCtorEq, decide_eq_false c5]
    repeat (apply And.intro; focus (first | omega | (simp; done)))
    refine Cal.mk (tblGet_v h2) ?_
    rintro _ _ ⟨rfl, rfl⟩ -
    rw [aget_perm hp hkeys]
    cases B
    · have hn : aget k l = none := hP.miss hs fun p hp e => by
        have := hB.2 ⟨p, hp, e⟩
        cases this
      simp (config := {maxSteps := 3000000}) only [go_sem, Nat.reduceEqDiff, ↓reduceIte, hn, Option.isSome_none, Option.getD_none, bF]
      exact ⟨_, _, Wk.refl _, fin, rfl, rfl⟩
    · obtain ⟨p, hpi, e⟩ := hB.1 rfl
      have hn := (hP.hit hpi e).1
      have hi0 : (0 : Int) ≤ (i : Int) := by omega
      simp (config := {maxSteps := 3000000}) only [go_sem, Nat.reduceEqDiff, Nat.reduceAdd, ↓reduceIte, hn, Option.isSome_some, Option.getD_some, bT, its_get hpi, hi0]
      exact ⟨_, _, Wk.refl _, fin, rfl, rfl⟩
/-- A step's answer. -/
def StepT (st : St) (b mb : Nat) (most : Int) (l : List It) (v : V) (s : St) : Prop :=
  ∃ (T' l' : List It) (es' : List (V × V × Nat)) (c' : Nat), v = .tup [.sl .no (its l'), .sc (.bool true)] ∧ s = st.put mb [.mp true [.int .i64, .int .u16] es' c'] ∧ TblB s b mb most T' es' c' ∧ T'.Perm l' ∧ SrtL l' ∧ l'.length ≤ l.length + 1
theorem RO.use0' {size : Nat} {st s : St} (hw : st.weak s) (hl : s.Lt) {g : Nat} (hg : s.sz ≤ g) : RO size st (s.use g 0) (.sl (.own g size) []) [] := RO.use (cs := []) hw hl hg
theorem TblB.set {s : St} (h : TblB s b mb most T es c) (k : Key) (x : Int) : TblB (s.put mb [.mp true [.int .i64, .int .u16] (mset (keyV k) (ival x) c es) (mclk es (keyV k) c)]) b mb most (aset k x T) (mset (keyV k) (ival x) c es) (mclk es (keyV k) c) :=
  ⟨by rw [put_box_ne h.bm]; exact h.box, put_box_same, Mp.set keyV_eq h.mp k x, h.bm⟩
theorem TblB.del {s : St} (h : TblB s b mb most T es c) (k : Key) : TblB (s.put mb [.mp true [.int .i64, .int .u16] (mdel (keyV k) es) c]) b mb most (adel k T) (mdel (keyV k) es) c :=
  ⟨by rw [put_box_ne h.bm]; exact h.box, put_box_same, Mp.del keyV_eq h.mp k, h.bm⟩
end
end
section
open Go

def pfs (L : List Pfx) : List V := L.map pfxV
theorem pfs_len (L : List Pfx) : (pfs L).length = L.length := by simp [pfs]
theorem pfs_append (l m : List Pfx) : pfs l ++ pfs m = pfs (l ++ m) := by simp [pfs]
theorem allSz_pfs (l : List Pfx) : allSz 2 (pfs l) := fun d hd => by
  obtain ⟨x, _, rfl⟩ := List.mem_map.1 hd; rfl
/-- Where the next shorter one lies, of fewer than so many bits. -/
def upN (T : List Rt) (a : Int) : Nat → Option Int
  | 0 => none
  | n + 1 => match aget (cutP a n) T with
    | some to => some to
    | none => upN T a n
def needB (T : List Rt) (p : Pfx) : Bool := match upN T p.1 p.2.toNat with
  | some to => decide (to = (aget p T).getD 0)
  | none => false
section
variable {st : St} {b c : Nat} {om : Option Nat} {T : List Rt} {es : List (V × V × Nat)}
set_option maxRecDepth 100000 in
set_option maxHeartbeats 8000000 in
theorem rtNeedless1_v {mb : Nat} (h : RtB st b (some mb) T es c) (hS : T.length ≤ 1000) (hR : ∀ x ∈ T, 0 ≤ x.1.1 ∧ x.1.1 < 4294967296 ∧ 0 ≤ x.1.2 ∧ x.1.2 ≤ 32) : VCalls Try.prog 29 [ptrV b] st fun v s =>
    ∃ M : List Pfx, M.Perm (T.map (·.1)) ∧ M.Pairwise (fun x y => ltP y x = false) ∧ v = .sl .no (pfs (M.filter (needB T))) ∧ st = s := by
  refine vcalls_enter vc29 (Nat.le_of_ble_eq_true rfl) fun hwf hok => ?_
  show Run _ Vc29.body (.fin (finQ Vc29.res _)) _ _
  unfold Vc29
  have hlt := hwf.lt
  obtain ⟨hm, hmp, hbm⟩ := h.map mb rfl
  simp (config := {maxSteps := 3000000}) only [go_sem, ↓reduceIte, reduceCtorEq]
  refine Cal.mk (rtAll1_v h hS) ?_
  rintro _ s1 ⟨ob, M, sp, m1, m2, rfl, R⟩ -
  have hMl : M.length = T.length := by rw [m1.length_eq]; simp
  have hMR : ∀ p ∈ M, 0 ≤ p.1 ∧ p.1 < 4294967296 ∧ 0 ≤ p.2 ∧ p.2 ≤ 32 := fun p hp => by
    obtain ⟨x, hx, rfl⟩ := List.mem_map.1 (m1.mem_iff.1 hp)
    exact hR x hx
  simp (config := {maxSteps := 3000000}) only [go_sem, ↓reduceIte, dataV]
  refine run_loop [3, 5, 6, 7, 8, 12, 13, 14, 15, 16, 17, 18, 19, 20, 21, 22, 23, 24, 25, 26, 27, 28, 29, 30, 31, 32, 33, 34, 35, 36, 37, 38, 39, 40, 41, 42, 43, 44, 45, 46, 47, 48, 49] (fun B s => ∃ (i : Nat) (v : V), i ≤ M.length ∧ B 12 = .sc (.int .i64 i) ∧ B 3 = v ∧ RO 2 st s v (pfs ((M.take i).filter (needB T))) ∧ s.box ob = some (rowc pval M sp)) (fun B _ => M.length - vnat (B 12)) rfl ?_ ?_
  · exact ⟨0, .sl .nil [], by omega, rfl, rfl, RO.nil R.weak R.lt, R.box⟩
  · rintro B s ⟨i, v, hi, h12, h3, RR, hob⟩
    by_cases c1 : i < M.length
    · have hpM : M[i]! ∈ M := by rw [getElem!_pos M i c1]; exact List.getElem_mem c1
      obtain ⟨p, hpe⟩ : ∃ p, p = M[i]! := ⟨_, rfl⟩
      rw [← hpe] at hpM
      obtain ⟨p0, p1, p2, p3⟩ := hMR p hpM
      have hget := rowc_get (val := pval) (sp := sp) c1
      rw [← hpe] at hget
      have hbx := (RR.weak.box b _ h.box).1
      have hmx := (RR.weak.box mb _ hm).1
      have htk : (M.take (i + 1)).filter (needB T) = (M.take i).filter (needB T) ++ if needB T p = true then [p] else [] := by
        rw [take_bang c1, ← hpe, List.filter_append]
        congr 1
        cases e : needB T p <;> simp [e]
      have hfl : ((M.take i).filter (needB T)).length ≤ i := Nat.le_trans (List.length_filter_le _ _) (by simp; omega)
      simp (config := {maxSteps := 3000000}) only [go_sem, Nat.reduceEqDiff, Nat.reduceAdd, Nat.reduceLT, Nat.reduceLeDiff, Int.reduceNeg, ↓reduceIte, Nat.reduceBEq, h12, hob, hMl.symm, decide_eq_true (show (i : Int) < (M.length : Int) by omega), hget, rowc_len, R.mono, pval]
      repeat (apply And.intro; focus (first | omega | (simp; done)))
      intro w hw
      have bw : b ≠ w := by have := RR.lt.box b _ hbx; omega
      have mw : mb ≠ w := by have := RR.lt.box mb _ hmx; omega
      have ow : ob ≠ w := by have := RR.lt.box ob _ hob; omega
      have sw : st.sz ≤ w := by have := RR.weak.sz; omega
      have RW := RR.put (c := w) (cs := [.sc (.int .u32 p.1), .sc (.int .i64 p.2)]) sw
      repeat (apply And.intro; focus (first | omega | (simp; done)))
      refine run_loop [3, 6, 7, 8, 19, 20, 21, 22, 23, 24, 25, 26, 27, 28, 29, 30, 31, 32, 33, 34, 35, 36, 37, 38, 39, 40, 41, 42, 43, 44, 45, 46, 47, 48] (fun D s' => ∃ q : Int, -1 ≤ q ∧ q < p.2 ∧ D 6 = .sc (.int .i64 q) ∧ D 3 = v ∧ upN T p.1 p.2.toNat = upN T p.1 (q + 1).toNat ∧ s' = s.put w [.sc (.int .u32 p.1), .sc (.int .i64 p.2)]) (fun D _ => match D 6 with | .sc (.int _ n) => (n + 1).toNat | _ => 0) rfl ?_ ?_
      · exact ⟨p.2 - 1, by omega, by omega, rfl, h3, by rw [Int.sub_add_cancel], rfl⟩
      · rintro D s' ⟨q, hq0, hq1, h6, h3, hup, rfl⟩
        by_cases c2 : 0 ≤ q
        · have e1 : (q + 1).toNat = q.toNat + 1 := by omega
          have e2 : ((q.toNat : Nat) : Int) = q := by omega
          rw [e1] at hup
          simp only [upN, e2] at hup
          have hf : mfind (.agg [.sc (.int .u32 (p.1 - p.1 % sizeN q)), .sc (.int .i64 q)]) es = (aget (cutP p.1 q) T).map ival := h.find (cutP p.1 q)
          have hfp : mfind (.agg [.sc (.int .u32 p.1), .sc (.int .i64 p.2)]) es = (aget p T).map ival := h.find p
          simp (config := {maxSteps := 3000000}) only [go_sem, Nat.reduceEqDiff, Int.reduceNeg, ↓reduceIte, reduceCtorEq, Nat.reduceBEq, h6, decide_eq_true c2, put_box_ne bw, hbx]
          refine Cal.mk (pOf_v p0 p1 c2 (by omega)) ?_
          rintro _ _ ⟨rfl, rfl⟩ -
          cases hg : aget (cutP p.1 q) T with
          | none =>
            rw [hg] at hup
            simp (config := {maxSteps := 3000000}) only [go_sem, Nat.reduceEqDiff, Int.reduceNeg, ↓reduceIte, Nat.reduceBEq, h6, put_box_ne bw, put_box_ne mw, hbx, hmx, hf, hg, Option.isSome_none, Option.getD_none, Option.map_none]
            repeat (apply And.intro; focus (first | omega | (simp; done)))
            exact ⟨⟨q - 1, by omega, by omega, rfl, h3, by rw [hup, show (q - 1 + 1).toNat = q.toNat by omega]⟩, by omega⟩
          | some to =>
            rw [hg] at hup
            have hpm : (aget p T).isSome = true := by
              obtain ⟨x, hx, e⟩ := List.mem_map.1 (m1.mem_iff.1 hpM)
              obtain ⟨y, hy⟩ := aget_some (a := p) (l := T) ⟨x, hx, e⟩
              rw [hy]; rfl
            obtain ⟨y, hy⟩ := Option.isSome_iff_exists.1 hpm
            have hnb : needB T p = decide (to = y) := by unfold needB; rw [hup, hy]; rfl
            by_cases c3 : to = y
            · rw [hnb, decide_eq_true c3, if_pos rfl] at htk
              obtain ⟨tv, rfl⟩ := RW.sl
              simp (config := {maxSteps := 3000000}) only [go_sem, Nat.reduceEqDiff, Nat.reduceAdd, Nat.reduceLeDiff, Int.reduceNeg, ↓reduceIte, reduceCtorEq, Nat.reduceBEq, h3, put_box_ne bw, put_box_ne mw, hbx, hmx, hf, hfp, hg, hy, Option.isSome_some, Option.getD_some, Option.map_some, ival, decide_eq_true c3]
              refine App.mk (bytes := 16) (l := pfs ((M.take i).filter (needB T))) (ys := pfs [p]) RW.own (allSz_pfs _) (by simp only [pfs_len, List.length_cons, List.length_nil, maxLen]; omega) (by simp only [pfs_len, List.length_cons, List.length_nil]; omega) ?_
              intro r2 s2 k3 k4
              have R2 := RW.app k3 k4
              rw [pfs_append, ← htk] at R2
              simp (config := {maxSteps := 3000000}) only [go_sem, Nat.reduceEqDiff, Int.reduceNeg, ↓reduceIte, Nat.reduceBEq, h12]
              repeat (apply And.intro; focus (first | omega | (simp; done)))
              exact ⟨⟨i + 1, _, by omega, by simp, rfl, R2, by rw [k4.box, put_box_ne ow]; exact hob⟩, by omega⟩
            · rw [hnb, decide_eq_false c3, if_neg (by simp), List.append_nil] at htk
              simp (config := {maxSteps := 3000000}) only [go_sem, Nat.reduceEqDiff, Nat.reduceAdd, Nat.reduceLeDiff, Int.reduceNeg, ↓reduceIte, reduceCtorEq, Nat.reduceBEq, h12, h3, put_box_ne bw, put_box_ne mw, hbx, hmx, hf, hfp, hg, hy, Option.isSome_some, Option.getD_some, Option.map_some, ival, decide_eq_false c3]
              repeat (apply And.intro; focus (first | omega | (simp; done)))
              exact ⟨⟨i + 1, v, by omega, by simp, rfl, by rw [htk]; exact RW, by rw [put_box_ne ow]; exact hob⟩, by omega⟩
        · have eq : q = -1 := by omega
          subst eq
          have hnb : needB T p = false := by unfold needB; rw [hup]; rfl
          rw [hnb, if_neg (by simp), List.append_nil] at htk
          simp (config := {maxSteps := 3000000}) only [go_sem, Nat.reduceEqDiff, Int.reduceToNat, Int.reduceLE, Int.reduceAdd, Int.reduceNeg, ↓reduceIte, Nat.reduceBEq, h6, h12, h3]
          repeat (apply And.intro; focus (first | omega | (simp; done)))
          exact ⟨⟨i + 1, v, by omega, by simp, rfl, by rw [htk]; exact RW, by rw [put_box_ne ow]; exact hob⟩, by omega⟩
    · obtain rfl : i = M.length := by omega
      rw [List.take_length] at RR
      obtain ⟨tv, rfl⟩ := RR.sl
      simp (config := {maxSteps := 3000000}) only [go_sem, Nat.reduceEqDiff, ↓reduceIte, Nat.reduceBEq, h12, h3, hMl.symm]
      exact ⟨_, _, Wk.no, RR.weak, M, m1, m2, rfl, rfl⟩
set_option maxRecDepth 100000 in
theorem rtNeedless0_v (h : RtB st b none T es c) : VCalls Try.prog 29 [ptrV b] st fun v s => v = .sl .no [] ∧ st = s := by
  have nc0 : ((0 : Nat) : Int) = 0 := rfl
  refine vcalls_enter vc29 (Nat.le_of_ble_eq_true rfl) fun hwf hok => ?_
  show Run _ Vc29.body (.fin (finQ Vc29.res _)) _ _
  unfold Vc29
  have e := h.nil rfl
  subst e
  simp (config := {maxSteps := 3000000}) only [go_sem, ↓reduceIte, reduceCtorEq]
  refine Cal.mk (rtAll0_v h) ?_
  rintro _ s1 ⟨ob, M, sp, m1, m2, rfl, R⟩ -
  have hM : M = [] := m1.eq_nil
  subst hM
  have nl : (([] : List Rt).length : Int) = 0 := rfl
  have nl2 : (([] : List Pfx).length : Int) = 0 := rfl
  simp (config := {maxSteps := 3000000}) only [go_sem, ↓reduceIte, dataV, nc0]
  refine run_loop [3, 5, 6, 7, 8, 12, 13, 14, 15, 16, 17, 18, 19, 20, 21, 22, 23, 24, 25, 26, 27, 28, 29, 30, 31, 32, 33, 34, 35, 36, 37, 38, 39, 40, 41, 42, 43, 44, 45, 46, 47, 48, 49] (fun B s => B 12 = .sc (.int .i64 0) ∧ B 3 = .sl .nil [] ∧ s = s1) (fun B _ => 0) rfl ?_ ?_
  · exact ⟨rfl, rfl, rfl⟩
  · rintro B s ⟨h12, h3, rfl⟩
    simp (config := {maxSteps := 3000000}) only [go_sem, Nat.reduceEqDiff, ↓reduceIte, Nat.reduceBEq, h12, h3]
    exact ⟨_, _, Wk.no, R.weak, rfl, rfl⟩
end
end
section
open Go

section
variable {κ ν : Type} [DecidableEq κ] {T l : List (κ × ν)} {k : κ} {x : ν}
theorem aget_iffG (hn : (T.map (·.1)).Nodup) : aget k T = some x ↔ (k, x) ∈ T := ⟨aget_mem, aget_of_mem hn⟩
theorem aget_permG (h : T.Perm l) (hn : (l.map (·.1)).Nodup) (k : κ) : aget k T = aget k l := by
  have hT : (T.map (·.1)).Nodup := (h.map (·.1)).nodup_iff.2 hn
  cases e : aget k l with
  | some x => exact (aget_iffG hT).2 (h.mem_iff.2 ((aget_iffG hn).1 e))
  | none =>
    cases e2 : aget k T with
    | none => rfl
    | some x =>
      have := (aget_iffG hn).2 (h.mem_iff.1 ((aget_iffG hT).1 e2))
      rw [e] at this; cases this
theorem adel_permG (h : T.Perm l) (hn : (l.map (·.1)).Nodup) (k : κ) : (adel k T).Perm (adel k l) := by
  have hT : (T.map (·.1)).Nodup := (h.map (·.1)).nodup_iff.2 hn
  rw [adel_filter hT, adel_filter hn]
  exact h.filter _
theorem aset_perm : ∀ {T : List (κ × ν)} {k : κ} {x : ν}, (aset k x T).Perm (adel k T ++ [(k, x)])
  | [], k, x => .refl _
  | p :: T, k, x => by
    simp only [aset, adel]
    split
    · exact (List.perm_append_comm (l₁ := [(k, x)]) (l₂ := T))
    · exact (aset_perm (T := T)).cons p
theorem aset_permG (h : T.Perm l) (hn : (l.map (·.1)).Nodup) (k : κ) (x : ν) : (aset k x T).Perm (adel k l ++ [(k, x)]) := aset_perm.trans ((adel_permG h hn k).append_right _)
theorem adel_none (hn : (l.map (·.1)).Nodup) : aget k (adel k l) = none := by rw [aget_del hn, if_pos rfl]
theorem aset_nodupG (hn : (l.map (·.1)).Nodup) (k : κ) (x : ν) : ((adel k l ++ [(k, x)]).map (·.1)).Nodup := by
  have := aset_nodup (a := k) (v := x) hn
  exact ((aset_perm (T := l) (k := k) (x := x)).map (·.1)).nodup_iff.1 this
theorem adel_len (h : aget k l = some x) : (adel k l).length + 1 = l.length := by
  induction l with
  | nil => cases h
  | cons p l ih =>
    simp only [aget, adel] at h ⊢
    split
    · rfl
    · rename_i e
      rw [if_neg e] at h
      simp only [List.length_cons, ih h]
theorem at_firstG {a : κ} : ∀ {l : List (κ × ν)} {i : Nat} {p : κ × ν}, l[i]? = some p → p.1 = a → (∀ (j : Nat) (q : κ × ν), j < i → l[j]? = some q → q.1 ≠ a) → aget a l = some p.2 ∧ adel a l = l.take i ++ l.drop (i + 1)
  | [], i, p, h, _, _ => by simp at h
  | t :: l, 0, p, h, hn, _ => by
    simp at h
    subst h
    simp [aget, adel, hn]
  | t :: l, i + 1, p, h, hn, hb => by
    have h0 := hb 0 t (by omega) rfl
    have ih := at_firstG (l := l) (i := i) (by simpa using h) hn fun j q hj hq => hb (j + 1) q (by omega) (by simpa using hq)
    simp only [aget, adel]
    rw [if_neg (fun e => h0 e.symm), if_neg (fun e => h0 e.symm)]
    exact ⟨ih.1, by rw [ih.2]; rfl⟩
theorem aget_noneI (h : ∀ (j : Nat) (q : κ × ν), l[j]? = some q → q.1 ≠ k) : aget k l = none :=
  aget_none.2 fun p hp e => by
    obtain ⟨j, hj⟩ := List.mem_iff_getElem?.1 hp
    exact h j p hj e
end
end
section
open Go

def oneV (x : Rt) : V := .agg [.sc (.int .u32 x.1.1), .sc (.int .i64 x.1.2), .sc (.int .i64 x.2)]
def rts (l : List Rt) : List V := l.map oneV
theorem rts_len (l : List Rt) : (rts l).length = l.length := by simp [rts]
theorem rts_get {l : List Rt} {i : Nat} {x : Rt} (h : l[i]? = some x) : (rts l)[i]? = some (.agg [.sc (.int .u32 x.1.1), .sc (.int .i64 x.1.2), .sc (.int .i64 x.2)]) := by simp [rts, h, oneV]
theorem rts_append (l m : List Rt) : rts l ++ rts m = rts (l ++ m) := by simp [rts]
theorem rts_take (l : List Rt) (n : Nat) : (rts l).take n = rts (l.take n) := by simp [rts, List.map_take]
theorem rts_drop (l : List Rt) (n : Nat) : (rts l).drop n = rts (l.drop n) := by simp [rts, List.map_drop]
theorem allSz_rts (l : List Rt) : allSz 3 (rts l) := fun d hd => by
  obtain ⟨x, _, rfl⟩ := List.mem_map.1 hd; rfl
theorem pfs_get {l : List Pfx} {i : Nat} {x : Pfx} (h : l[i]? = some x) : (pfs l)[i]? = some (.agg [.sc (.int .u32 x.1), .sc (.int .i64 x.2)]) := by simp [pfs, h, pfxV]
theorem pfs_take (l : List Pfx) (n : Nat) : (pfs l).take n = pfs (l.take n) := by simp [pfs, List.map_take]
theorem pfs_drop (l : List Pfx) (n : Nat) : (pfs l).drop n = pfs (l.drop n) := by simp [pfs, List.map_drop]
/-- All that lie may lie. -/
def RtR (l : List Rt) : Prop := ∀ x ∈ l, 0 ≤ x.1.1 ∧ x.1.1 < 4294967296 ∧ rightB x.1.1 x.1.2 = true
theorem RtR.perm {l T : List Rt} (h : RtR l) (hp : T.Perm l) : RtR T := fun x hx => h x (hp.mem_iff.1 hx)
theorem RtR.bits {l : List Rt} (h : RtR l) : ∀ x ∈ l, 0 ≤ x.1.1 ∧ x.1.1 < 4294967296 ∧ 0 ≤ x.1.2 ∧ x.1.2 ≤ 32 := fun x hx => by
  obtain ⟨h1, h2, h3⟩ := h x hx
  have h4 := of_decide_eq_true h3
  exact ⟨h1, h2, h4.1, h4.2.1⟩
theorem RtR.del {l : List Rt} (h : RtR l) (hn : (l.map (·.1)).Nodup) (p : Pfx) : RtR (adel p l) := fun x hx => by
  rw [adel_filter hn] at hx
  exact h x (List.mem_filter.1 hx).1
theorem RtR.add {l : List Rt} (h : RtR l) {p : Pfx} {to : Int} (h0 : 0 ≤ p.1) (h1 : p.1 < 4294967296) (hr : rightB p.1 p.2 = true) : RtR (l ++ [(p, to)]) := fun x hx => by
  rcases List.mem_append.1 hx with hx | hx
  · exact h x hx
  · simp only [List.mem_singleton] at hx
    subst hx
    exact ⟨h0, h1, hr⟩
theorem has_cut {p : Pfx} {a : Int} (hp : 0 ≤ p.1) (ha : 0 ≤ a) (hr : rightB p.1 p.2 = true) : hasB p.1 p.2 a = true ↔ cutP a p.2 = p := by
  unfold hasB
  rw [hr, Bool.true_and, ← has_eq p.1 p.2 a hp ha hr, beq_iff_eq]
  unfold cutP
  exact ⟨fun h => Prod.ext h rfl, fun h => congrArg Prod.fst h⟩

/-- The one of the most bits, of fewer than some, that has an address, among the first n. -/
def LongQ (l : List Rt) (a below : Int) (n : Nat) (r : Int) : Prop :=
  (r = -1 ∧ ∀ (j : Nat) (x : Rt), j < n → l[j]? = some x → ¬ (x.1.2 < below ∧ hasB x.1.1 x.1.2 a = true)) ∨
  ∃ (i : Nat) (x : Rt), r = i ∧ i < n ∧ l[i]? = some x ∧ x.1.2 < below ∧ hasB x.1.1 x.1.2 a = true ∧ ∀ (j : Nat) (y : Rt), j < n → l[j]? = some y → y.1.2 < below → hasB y.1.1 y.1.2 a = true → y.1.2 ≤ x.1.2
section
variable {l : List Rt} {a below r : Int} {n : Nat} {x : Rt}
theorem LongQ.start : LongQ l a below 0 (-1) := .inl ⟨rfl, fun j x hj => by omega⟩
theorem LongQ.skip (h : LongQ l a below n r) (hx : l[n]? = some x) (hn : ¬ (x.1.2 < below ∧ hasB x.1.1 x.1.2 a = true)) : LongQ l a below (n + 1) r := by
  rcases h with ⟨h1, h2⟩ | ⟨i, z, h1, h2, h3, h4, h5, h6⟩
  · refine .inl ⟨h1, fun j y hj hy => ?_⟩
    by_cases e : j = n
    · subst e; rw [hx] at hy; cases hy; exact hn
    · exact h2 j y (by omega) hy
  · refine .inr ⟨i, z, h1, by omega, h3, h4, h5, fun j y hj hy k1 k2 => ?_⟩
    by_cases e : j = n
    · subst e; rw [hx] at hy; cases hy; exact absurd ⟨k1, k2⟩ hn
    · exact h6 j y (by omega) hy k1 k2
theorem LongQ.first (h : LongQ l a below n (-1)) (hx : l[n]? = some x) (h1 : x.1.2 < below) (h2 : hasB x.1.1 x.1.2 a = true) : LongQ l a below (n + 1) n := by
  rcases h with ⟨_, h3⟩ | ⟨i, z, h3, _⟩
  · refine .inr ⟨n, x, rfl, by omega, hx, h1, h2, fun j y hj hy k1 k2 => ?_⟩
    by_cases e : j = n
    · subst e; rw [hx] at hy; cases hy; exact Int.le_refl _
    · exact absurd ⟨k1, k2⟩ (h3 j y (by omega) hy)
  · omega
theorem LongQ.next {i : Nat} {z : Rt} (h : LongQ l a below n (i : Int)) (hz : l[i]? = some z) (hx : l[n]? = some x) (h1 : x.1.2 < below) (h2 : hasB x.1.1 x.1.2 a = true) : LongQ l a below (n + 1) (if z.1.2 < x.1.2 then (n : Int) else (i : Int)) := by
  rcases h with ⟨h3, _⟩ | ⟨i', z', h3, h4, h5, h6, h7, h8⟩
  · omega
  · obtain rfl : i = i' := by omega
    rw [hz] at h5
    cases h5
    split
    · rename_i c
      refine .inr ⟨n, x, rfl, by omega, hx, h1, h2, fun j y hj hy k1 k2 => ?_⟩
      by_cases e : j = n
      · subst e; rw [hx] at hy; cases hy; exact Int.le_refl _
      · have := h8 j y (by omega) hy k1 k2; omega
    · rename_i c
      refine .inr ⟨i, z, rfl, by omega, hz, h6, h7, fun j y hj hy k1 k2 => ?_⟩
      by_cases e : j = n
      · subst e; rw [hx] at hy; cases hy; omega
      · exact h8 j y (by omega) hy k1 k2
theorem LongQ.idx (h : LongQ l a below n r) (hr : 0 ≤ r) : ∃ (i : Nat) (z : Rt), r = i ∧ i < n ∧ l[i]? = some z := by
  rcases h with ⟨h1, _⟩ | ⟨i, z, h1, h2, h3, _⟩
  · omega
  · exact ⟨i, z, h1, h2, h3⟩
variable {T : List Rt}
theorem LongQ.tells (h : LongQ l a below l.length r) (hp : T.Perm l) (hn : (l.map (·.1)).Nodup) (hR : RtR l) (ha : 0 ≤ a) (hb : below ≤ 33) :
    (r = -1 ∧ ∀ q, 0 ≤ q → q < below → aget (cutP a q) T = none) ∨ ∃ (i : Nat) (x : Rt), r = i ∧ l[i]? = some x ∧ x.1 = cutP a x.1.2 ∧ 0 ≤ x.1.2 ∧ x.1.2 < below ∧ aget x.1 T = some x.2 ∧ ∀ q, x.1.2 < q → q < below → aget (cutP a q) T = none := by
  have key : ∀ q to, aget (cutP a q) T = some to → 0 ≤ q → q < below → ∃ j, l[j]? = some (cutP a q, to) ∧ hasB (cutP a q).1 (cutP a q).2 a = true := fun q to ht h0 h1 => by
    rw [aget_permG hp hn] at ht
    have hm := aget_mem ht
    obtain ⟨j, hj⟩ := List.mem_iff_getElem?.1 hm
    obtain ⟨k1, k2, k3⟩ := hR _ hm
    exact ⟨j, hj, (has_cut k1 ha k3).2 rfl⟩
  rcases h with ⟨h1, h2⟩ | ⟨i, x, h1, h2, h3, h4, h5, h6⟩
  · refine .inl ⟨h1, fun q h3 h4 => ?_⟩
    cases e : aget (cutP a q) T with
    | none => rfl
    | some to =>
      obtain ⟨j, hj, hh⟩ := key q to e h3 h4
      exact absurd ⟨h4, hh⟩ (h2 j _ (List.getElem?_eq_some_iff.1 hj).1 hj)
  · have hm := List.mem_of_getElem? h3
    obtain ⟨k1, k2, k3⟩ := hR _ hm
    have k4 := of_decide_eq_true k3
    refine .inr ⟨i, x, h1, h3, ((has_cut k1 ha k3).1 h5).symm, k4.1, h4, ?_, fun q q1 q2 => ?_⟩
    · rw [aget_permG hp hn]; exact aget_of_mem hn hm
    · cases e : aget (cutP a q) T with
      | none => rfl
      | some to =>
        obtain ⟨j, hj, hh⟩ := key q to e (by omega) q2
        have := h6 j _ (List.getElem?_eq_some_iff.1 hj).1 hj q2 hh
        simp only [cutP] at this
        omega
theorem find_long {v : V} (h : LongQ l a 33 l.length r) (hp : T.Perm l) (hn : (l.map (·.1)).Nodup) (hR : RtR l) (ha : 0 ≤ a) (hv : RFindQ T a v) :
    (r = -1 ∧ v = .tup [.agg [.sc (.int .u32 0), .sc (.int .i64 0)], .sc (.int .i64 0), .sc (.bool false)]) ∨ ∃ (i : Nat) (x : Rt), r = i ∧ l[i]? = some x ∧ v = .tup [.agg [.sc (.int .u32 x.1.1), .sc (.int .i64 x.1.2)], .sc (.int .i64 x.2), .sc (.bool true)] := by
  rcases h.tells hp hn hR ha (by omega) with ⟨h1, h2⟩ | ⟨i, x, h1, h2, h3, h4, h5, h6, h7⟩
  · rcases hv with ⟨q, to, q0, q1, q2, q3, rfl⟩ | ⟨h3, rfl⟩
    · rw [h2 q q0 (by omega)] at q2; cases q2
    · exact .inl ⟨h1, rfl⟩
  · rcases hv with ⟨q, to, q0, q1, q2, q3, rfl⟩ | ⟨q3, rfl⟩
    · have e : q = x.1.2 := by
        rcases Int.lt_trichotomy q x.1.2 with c | c | c
        · have := q3 x.1.2 c (by omega)
          rw [← h3, h6] at this; cases this
        · exact c
        · rw [h7 q c (by omega)] at q2; cases q2
      subst e
      rw [← h3, h6] at q2
      cases q2
      rw [← h3]
      exact .inr ⟨i, x, h1, h2, rfl⟩
    · have := q3 x.1.2 h4 (by omega)
      rw [← h3, h6] at this; cases this
theorem upN_none : ∀ {n : Nat}, (∀ q : Int, 0 ≤ q → q < n → aget (cutP a q) T = none) → upN T a n = none
  | 0, _ => rfl
  | n + 1, h => by
    simp only [upN, h n (by omega) (by omega)]
    exact upN_none fun q h0 h1 => h q h0 (by omega)
theorem upN_some {to : Int} : ∀ {n q : Nat}, q < n → aget (cutP a q) T = some to → (∀ r : Int, q < r → r < n → aget (cutP a r) T = none) → upN T a n = some to
  | 0, q, hq, _, _ => by omega
  | n + 1, q, hq, h, hno => by
    by_cases e : q = n
    · subst e
      simp only [upN, h]
    · simp only [upN, hno n (by omega) (by omega)]
      exact upN_some (by omega) h fun r h0 h1 => hno r h0 (by omega)
theorem need_long {y : Rt} (hy : y ∈ l) (h : LongQ l y.1.1 y.1.2 l.length r) (hp : T.Perm l) (hn : (l.map (·.1)).Nodup) (hR : RtR l) :
    (r = -1 ∧ needB T y.1 = false) ∨ ∃ (i : Nat) (x : Rt), r = i ∧ l[i]? = some x ∧ needB T y.1 = decide (x.2 = y.2) := by
  obtain ⟨k1, k2, k3, k4⟩ := hR.bits y hy
  have hg : aget y.1 T = some y.2 := by rw [aget_permG hp hn]; exact aget_of_mem hn hy
  rcases h.tells hp hn hR k1 (by omega) with ⟨h1, h2⟩ | ⟨i, x, h1, h2, h3, h4, h5, h6, h7⟩
  · refine .inl ⟨h1, ?_⟩
    unfold needB
    rw [upN_none fun q h0 h1 => h2 q h0 (by omega)]
  · refine .inr ⟨i, x, h1, h2, ?_⟩
    unfold needB
    have e : ((x.1.2.toNat : Nat) : Int) = x.1.2 := by omega
    rw [upN_some (q := x.1.2.toNat) (to := x.2) (by omega) (by rw [e, ← h3]; exact h6) fun q h0 h1 => h7 q (by omega) (by omega), hg]
    rfl
end
/-! ### In order -/
theorem ins_sortP {M : List Pfx} {x : Pfx} {k : Nat} (hs : M.Pairwise fun x y => ltP y x = false) (hi : ∀ (j : Nat) (y : Pfx), k ≤ j → M[j]? = some y → ltP x y = true)
    (lo : k = 0 ∨ ∃ y, M[k - 1]? = some y ∧ ltP x y = false) : (M.take k ++ [x] ++ M.drop k).Pairwise fun x y => ltP y x = false := by
  have hsp : (M.take k ++ M.drop k).Pairwise fun x y => ltP y x = false := by rwa [List.take_append_drop]
  obtain ⟨h1, h2, h3⟩ := List.pairwise_append.1 hsp
  have hx1 : ∀ y ∈ M.take k, ltP x y = false := fun y hy => by
    rcases lo with rfl | ⟨z, hz, hxz⟩
    · simp at hy
    · obtain ⟨j, hj⟩ := List.mem_iff_getElem?.1 hy
      rw [List.getElem?_take] at hj
      split at hj
      · rename_i hjk
        by_cases e : j = k - 1
        · subst e; rw [hz] at hj; cases hj; exact hxz
        · obtain ⟨a1, a2⟩ := List.getElem?_eq_some_iff.1 hj
          obtain ⟨b1, b2⟩ := List.getElem?_eq_some_iff.1 hz
          have := List.pairwise_iff_getElem.1 hs j (k - 1) a1 b1 (by omega)
          rw [a2, b2] at this
          exact ltP_ord.trans this hxz
      · cases hj
  have hx2 : ∀ y ∈ M.drop k, ltP y x = false := fun y hy => by
    obtain ⟨j, hj⟩ := List.mem_iff_getElem?.1 hy
    rw [List.getElem?_drop] at hj
    exact ltP_ord.asymm (hi (k + j) y (by omega) hj)
  rw [List.append_assoc, List.pairwise_append]
  refine ⟨h1, List.pairwise_cons.2 ⟨hx2, h2⟩, fun y hy z hz => ?_⟩
  rcases List.mem_cons.1 hz with rfl | hz
  · exact hx1 y hy
  · exact h3 y hy z hz
theorem ins_permP {M N : List Pfx} {x : Pfx} (h : M.Perm N) (k : Nat) : (M.take k ++ [x] ++ M.drop k).Perm (N ++ [x]) := by
  have h2 : (M.take k ++ [x] ++ M.drop k).Perm (x :: (M.take k ++ M.drop k)) := by
    rw [List.append_assoc]
    exact List.perm_middle
  rw [List.take_append_drop] at h2
  exact h2.trans ((h.cons x).trans (List.perm_append_comm (l₁ := [x])))
end
section
open Go

section
variable {st : St} {a b x : Int}
theorem size26_v (h0 : 0 ≤ b) (h1 : b ≤ 32) : VCalls Try.prog 132 [.sc (.int .i64 b)] st fun r st' => r = .sc (.int .i64 (sizeN b)) ∧ st = st' := by
  refine vcalls_enter vc132 (Nat.le_of_ble_eq_true rfl) fun hwf hok => ?_
  show Run _ Vc132.body (.fin (finQ Vc132.res _)) _ _
  unfold Vc132
  obtain ⟨n, rfl⟩ : ∃ n : Nat, b = n := ⟨b.toNat, by omega⟩
  have hs : sizeN (n : Int) = 2 ^ (32 - n) := by unfold sizeN; rw [show ((32 : Int) - n).toNat = 32 - n by omega]
  rw [hs]
  simp (config := {maxSteps := 3000000}) only [go_sem, ↓reduceIte, reduceCtorEq]
  refine run_loop [3, 4, 6, 7, 8, 9, 10, 11] (fun B s => st = s ∧ ∃ i : Nat, n ≤ i ∧ i ≤ 32 ∧ B 4 = .sc (.int .i64 i) ∧ B 3 = .sc (.int .i64 (2 ^ (i - n)))) (fun B _ => 32 - vnat (B 4)) rfl ?_ ?_
  · simp (config := {maxSteps := 3000000}) only [go_sem, Nat.reduceEqDiff, ↓reduceIte]
    exact ⟨n, by omega, by omega, rfl, by simp⟩
  · rintro B s ⟨rfl, i, hn, hi, h4, h3⟩
    by_cases hlt : i < 32
    · have hp : (2 : Int) ^ (i - n) ≤ 4294967296 ∧ 0 < (2 : Int) ^ (i - n) := by
        have h33 : ∀ k : Nat, k ≤ 32 → (2 : Int) ^ k ≤ 4294967296 := by decide
        exact ⟨h33 _ (by omega), Int.pow_pos (by omega)⟩
      have hs2 : (2 : Int) * 2 ^ (i - n) = 2 ^ (i + 1 - n) := by rw [show i + 1 - n = (i - n) + 1 by omega, Int.pow_succ, Int.mul_comm]
      simp (config := {maxSteps := 3000000}) only [go_sem, Nat.reduceEqDiff, Int.reduceNeg, ↓reduceIte, Nat.reduceBEq, h4, h3, hs2, decide_eq_true (show (i : Int) < 32 by omega)]
      have hp2 : (2 : Int) ^ (i + 1 - n) ≤ 8589934592 ∧ 0 < (2 : Int) ^ (i + 1 - n) := by rw [← hs2]; omega
      repeat (apply And.intro; focus (first | omega | (simp; done)))
      exact ⟨⟨i + 1, by omega, by omega, by simp, rfl⟩, by omega⟩
    · obtain rfl : i = 32 := by omega
      have h32 : ((32 : Nat) : Int) = 32 := rfl
      simp (config := {maxSteps := 3000000}) only [go_sem, Nat.reduceEqDiff, Nat.reduceSub, Int.reduceToNat, ↓reduceIte, Nat.reduceBEq, h4, h3, h32]
      exact ⟨_, _, Wk.refl _, hwf.weak, rfl, rfl⟩
theorem right26_v (h0 : 0 ≤ a) (h1 : a < 4294967296) : VCalls Try.prog 79 [.agg [.sc (.int .u32 a), .sc (.int .i64 b)]] st fun r st' => r = .sc (.bool (rightB a b)) ∧ st = st' := by
  refine vcalls_enter vc79 (Nat.le_of_ble_eq_true rfl) fun hwf hok => ?_
  show Run _ Vc79.body (.fin (finQ Vc79.res _)) _ _
  unfold Vc79
  by_cases c1 : 0 ≤ b
  case neg =>
    have hr : rightB a b = false := decide_eq_false (fun h => c1 h.1)
    rw [hr]
    simp (config := {maxSteps := 3000000}) only [go_sem, Nat.reduceEqDiff, Nat.reduceAdd, ↓reduceIte, reduceCtorEq]
    intro c hc
    simp (config := {maxSteps := 3000000}) only [go_sem, Nat.reduceEqDiff, ↓reduceIte, decide_eq_false c1]
    exact ⟨_, _, Wk.refl _, weak_put hwf.weak hc, rfl, rfl⟩
  by_cases c2 : b ≤ 32
  case neg =>
    have hr : rightB a b = false := decide_eq_false (fun h => c2 h.2.1)
    rw [hr]
    simp (config := {maxSteps := 3000000}) only [go_sem, Nat.reduceEqDiff, Nat.reduceAdd, ↓reduceIte, reduceCtorEq]
    intro c hc
    simp (config := {maxSteps := 3000000}) only [go_sem, Nat.reduceEqDiff, ↓reduceIte, decide_eq_true c1, decide_eq_false c2]
    exact ⟨_, _, Wk.refl _, weak_put hwf.weak hc, rfl, rfl⟩
  have hr : rightB a b = decide (a % sizeN b = 0) := decide_eq_decide.2 ⟨fun h => h.2.2, fun h => ⟨c1, c2, h⟩⟩
  have hp := sizeN_pos b
  rw [hr]
  simp (config := {maxSteps := 3000000}) only [go_sem, Nat.reduceEqDiff, Nat.reduceAdd, ↓reduceIte, reduceCtorEq]
  intro c hc
  simp (config := {maxSteps := 3000000}) only [go_sem, Nat.reduceEqDiff, Int.reduceNeg, ↓reduceIte, decide_eq_true c1, decide_eq_true c2]
  repeat (apply And.intro; focus (first | omega | (simp; done)))
  refine Cal.mk (size26_v c1 c2) ?_
  rintro _ _ ⟨rfl, rfl⟩ -
  simp (config := {maxSteps := 3000000}) only [go_sem, Nat.reduceEqDiff, ↓reduceIte]
  repeat (apply And.intro; focus (first | omega | (simp; done)))
  exact ⟨_, _, Wk.refl _, weak_put hwf.weak hc, rfl, rfl⟩
theorem span26_v (h0 : 0 ≤ a) (h1 : a < 4294967296) (c1 : 0 ≤ b) (c2 : b ≤ 32) : VCalls Try.prog 100 [.agg [.sc (.int .u32 a), .sc (.int .i64 b)]] st fun r st' => r = .tup [.sc (.int .i64 a), .sc (.int .i64 (a + sizeN b - 1))] ∧ st = st' := by
  refine vcalls_enter vc100 (Nat.le_of_ble_eq_true rfl) fun hwf hok => ?_
  show Run _ Vc100.body (.fin (finQ Vc100.res _)) _ _
  unfold Vc100
  have hp := sizeN_pos b
  have hl := sizeN_le b c1
  simp (config := {maxSteps := 3000000}) only [go_sem, Nat.reduceEqDiff, Nat.reduceAdd, Int.reduceNeg, ↓reduceIte, reduceCtorEq]
  intro c hc
  repeat (apply And.intro; focus (first | omega | (simp; done)))
  refine Cal.mk (size26_v c1 c2) ?_
  rintro _ _ ⟨rfl, rfl⟩ -
  simp (config := {maxSteps := 3000000}) only [go_sem, Nat.reduceEqDiff, Int.reduceNeg, ↓reduceIte]
  repeat (apply And.intro; focus (first | omega | (simp; done)))
  exact ⟨_, _, Wk.refl _, weak_put hwf.weak hc, rfl, rfl⟩
theorem has26_v (h0 : 0 ≤ a) (h1 : a < 4294967296) (x0 : 0 ≤ x) (x1 : x < 4294967296) : VCalls Try.prog 58 [.agg [.sc (.int .u32 a), .sc (.int .i64 b)], .sc (.int .u32 x)] st fun r st' => r = .sc (.bool (hasB a b x)) ∧ st = st' := by
  refine vcalls_enter vc58 (Nat.le_of_ble_eq_true rfl) fun hwf hok => ?_
  show Run _ Vc58.body (.fin (finQ Vc58.res _)) _ _
  unfold Vc58
  unfold hasB
  simp (config := {maxSteps := 3000000}) only [go_sem, Nat.reduceEqDiff, Nat.reduceAdd, Nat.reduceLeDiff, ↓reduceIte, reduceCtorEq]
  intro c hc
  refine Cal.mk (right26_v h0 h1) ?_
  rintro _ _ ⟨rfl, rfl⟩ -
  cases hr : rightB a b
  · simp (config := {maxSteps := 3000000}) only [go_sem, ↓reduceIte]
    exact ⟨_, _, Wk.refl _, weak_put hwf.weak hc, by simp, rfl⟩
  · have hr2 := of_decide_eq_true hr
    simp (config := {maxSteps := 3000000}) only [go_sem, Nat.reduceEqDiff, Nat.reduceAdd, Nat.reduceLeDiff, ↓reduceIte]
    refine Cal.mk (span26_v h0 h1 hr2.1 hr2.2.1) ?_
    rintro _ _ ⟨rfl, rfl⟩ -
    by_cases c1 : a ≤ x
    · simp (config := {maxSteps := 3000000}) only [go_sem, Nat.reduceEqDiff, Int.reduceNeg, ↓reduceIte, decide_eq_true c1]
      repeat (apply And.intro; focus (first | omega | (simp; done)))
      exact ⟨_, _, Wk.refl _, weak_put hwf.weak hc, by simp [c1], rfl⟩
    · simp (config := {maxSteps := 3000000}) only [go_sem, Nat.reduceEqDiff, Int.reduceNeg, ↓reduceIte, decide_eq_false c1]
      repeat (apply And.intro; focus (first | omega | (simp; done)))
      exact ⟨_, _, Wk.refl _, weak_put hwf.weak hc, by simp [c1], rfl⟩
end
end
section
open Go

section
variable {st : St} {l : List Rt} {tk : Tk} {p : Pfx} {a below : Int}
/-- The place of a prefix. -/
def FindI (l : List Rt) (p : Pfx) (r : Int) : Prop :=
  (r = -1 ∧ aget p l = none) ∨ ∃ (i : Nat) (x : Int), r = i ∧ i < l.length ∧ aget p l = some x ∧ adel p l = l.take i ++ l.drop (i + 1)
def FindV (l : List Rt) (p : Pfx) (v : V) : Prop := ∃ r, FindI l p r ∧ v = .sc (.int .i64 r)
def LongV (l : List Rt) (a below : Int) (v : V) : Prop := ∃ r, LongQ l a below l.length r ∧ v = .sc (.int .i64 r)
def RiseV (l : List Rt) (v : V) : Prop := ∃ M : List Pfx, M.Perm (l.map (·.1)) ∧ M.Pairwise (fun x y => ltP y x = false) ∧ v = .sl .no (pfs M)
set_option maxRecDepth 100000 in
theorem find52_v : VCalls Try.prog 78 [.sl tk (rts l), .agg [.sc (.int .u32 p.1), .sc (.int .i64 p.2)]] st fun v s => FindV l p v ∧ st = s := by
  refine vcalls_enter vc78 (Nat.le_of_ble_eq_true rfl) fun hwf hok => ?_
  show Run _ Vc78.body (.fin (finQ Vc78.res _)) _ _
  unfold Vc78
  have hlm := vlen_max (hok (.sl tk (rts l)) (by simp))
  rw [rts_len] at hlm
  simp (config := {maxSteps := 3000000}) only [go_sem, Nat.reduceAdd, Int.reduceNeg, reduceCtorEq]
  intro d hd
  refine run_loop [4, 5, 6, 7, 8, 9, 10, 11, 12, 13, 14, 15, 16, 17, 18, 19] (fun B s => ∃ i : Nat, i ≤ l.length ∧ B 5 = .sc (.int .i64 i) ∧ (∀ (j : Nat) (q : Rt), j < i → l[j]? = some q → q.1 ≠ p) ∧ s = st.put d [.sc (.int .u32 p.1), .sc (.int .i64 p.2)]) (fun B _ => l.length - vnat (B 5)) rfl ?_ ?_
  · exact ⟨0, by omega, rfl, fun j q hj => by omega, rfl⟩
  · rintro B s ⟨i, hi, h5, hno, rfl⟩
    by_cases c1 : i < l.length
    · obtain ⟨x, hx⟩ := get_ex c1
      have he : eqV [.sc (.int .u32 x.1.1), .sc (.int .i64 x.1.2)] [.sc (.int .u32 p.1), .sc (.int .i64 p.2)] = decide (x.1 = p) := pfxV_eq x.1 p
      by_cases c2 : x.1 = p
      · simp (config := {maxSteps := 3000000}) only [go_sem, Nat.reduceEqDiff, Nat.reduceAdd, Nat.reduceLeDiff, Int.reduceNeg, ↓reduceIte, reduceCtorEq, Nat.reduceBEq, h5, rts_len, rts_get hx, fitsV, he, decide_eq_true (show (i : Int) < (l.length : Int) by omega), decide_eq_true c2]
        repeat (apply And.intro; focus (first | omega | (simp; done)))
        obtain ⟨k1, k2⟩ := at_firstG hx c2 hno
        exact ⟨_, _, Wk.refl _, weak_put hwf.weak hd, ⟨i, .inr ⟨i, x.2, rfl, c1, k1, k2⟩, rfl⟩, rfl⟩
      · simp (config := {maxSteps := 3000000}) only [go_sem, Nat.reduceEqDiff, Nat.reduceAdd, Nat.reduceLeDiff, Int.reduceNeg, ↓reduceIte, reduceCtorEq, Nat.reduceBEq, h5, rts_len, rts_get hx, fitsV, he, decide_eq_true (show (i : Int) < (l.length : Int) by omega), decide_eq_false c2]
        repeat (apply And.intro; focus (first | omega | (simp; done)))
        refine ⟨⟨i + 1, by omega, by simp, fun j q hj hq => ?_⟩, by omega⟩
        by_cases e : j = i
        · subst e; rw [hx] at hq; cases hq; exact c2
        · exact hno j q (by omega) hq
    · simp (config := {maxSteps := 3000000}) only [go_sem, Nat.reduceEqDiff, Int.reduceNeg, ↓reduceIte, reduceCtorEq, Nat.reduceBEq, h5, rts_len, decide_eq_false (show ¬ (i : Int) < (l.length : Int) by omega)]
      exact ⟨_, _, Wk.refl _, weak_put hwf.weak hd, ⟨-1, .inl ⟨rfl, aget_noneI fun j q hq => hno j q (by have := (List.getElem?_eq_some_iff.1 hq).1; omega) hq⟩, rfl⟩, rfl⟩
theorem before52_v {x y : Pfx} : VCalls Try.prog 82 [.agg [.sc (.int .u32 x.1), .sc (.int .i64 x.2)], .agg [.sc (.int .u32 y.1), .sc (.int .i64 y.2)]] st fun v s => v = .sc (.bool (ltP x y)) ∧ st = s := by
  refine vcalls_enter vc82 (Nat.le_of_ble_eq_true rfl) fun hwf hok => ?_
  show Run _ Vc82.body (.fin (finQ Vc82.res _)) _ _
  unfold Vc82
  simp (config := {maxSteps := 3000000}) only [go_sem, Nat.reduceEqDiff, Nat.reduceAdd, ↓reduceIte, reduceCtorEq]
  intro b hb c hc
  have bc : b < c := by omega
  have sc : st.sz ≤ c := by omega
  clear hc
  have n1 := Nat.ne_of_lt bc
  have n2 := Nat.ne_of_gt bc
  by_cases c1 : x.1 < y.1
  · simp (config := {maxSteps := 3000000}) only [go_sem, Nat.reduceEqDiff, ↓reduceIte, put_box_ne n1, decide_eq_true c1]
    exact ⟨_, _, Wk.refl _, weak_put (weak_put hwf.weak hb) sc, by simp [ltP, c1], rfl⟩
  · by_cases c2 : x.1 = y.1
    · by_cases c3 : x.2 < y.2
      · simp (config := {maxSteps := 3000000}) only [go_sem, Nat.reduceEqDiff, ↓reduceIte, put_box_ne n1, decide_eq_false c1, decide_eq_true c2, decide_eq_true c3]
        exact ⟨_, _, Wk.refl _, weak_put (weak_put hwf.weak hb) sc, by simp [ltP, c2, c3], rfl⟩
      · simp (config := {maxSteps := 3000000}) only [go_sem, Nat.reduceEqDiff, ↓reduceIte, put_box_ne n1, decide_eq_false c1, decide_eq_true c2, decide_eq_false c3]
        exact ⟨_, _, Wk.refl _, weak_put (weak_put hwf.weak hb) sc, by simp [ltP, c2, c3], rfl⟩
    · simp (config := {maxSteps := 3000000}) only [go_sem, Nat.reduceEqDiff, ↓reduceIte, put_box_ne n1, decide_eq_false c1, decide_eq_false c2]
      exact ⟨_, _, Wk.refl _, weak_put (weak_put hwf.weak hb) sc, by simp [ltP, c1, c2], rfl⟩
set_option maxRecDepth 100000 in
set_option maxHeartbeats 4000000 in
theorem longest52_v (hR : RtR l) (a0 : 0 ≤ a) (a1 : a < 4294967296) : VCalls Try.prog 44 [.sl tk (rts l), .sc (.int .u32 a), .sc (.int .i64 below)] st fun v s => LongV l a below v ∧ st = s := by
  refine vcalls_enter vc44 (Nat.le_of_ble_eq_true rfl) fun hwf hok => ?_
  show Run _ Vc44.body (.fin (finQ Vc44.res _)) _ _
  unfold Vc44
  have hlm := vlen_max (hok (.sl tk (rts l)) (by simp))
  rw [rts_len] at hlm
  simp (config := {maxSteps := 3000000}) only [go_sem, Int.reduceNeg]
  refine run_loop [7, 8, 9, 10, 11, 12, 13, 14, 15, 16, 17, 18, 19, 20, 21, 22, 23, 24, 25, 26, 27, 28, 29, 30, 31, 32, 33, 34, 35, 36, 37, 38, 39, 40, 41, 42, 43, 44, 45, 46, 47, 48, 49, 50, 51] (fun B s => ∃ (i : Nat) (r : Int), i ≤ l.length ∧ B 8 = .sc (.int .i64 i) ∧ B 7 = .sc (.int .i64 r) ∧ LongQ l a below i r ∧ s = st) (fun B _ => l.length - vnat (B 8)) rfl ?_ ?_
  · exact ⟨0, -1, by omega, rfl, rfl, LongQ.start, rfl⟩
  · rintro B s ⟨i, r, hi, h8, h7, hq, rfl⟩
    by_cases c1 : i < l.length
    · obtain ⟨x, hx⟩ := get_ex c1
      obtain ⟨x0, x1, x2⟩ := hR x (List.mem_of_getElem? hx)
      by_cases c2 : x.1.2 < below
      · simp (config := {maxSteps := 3000000}) only [go_sem, Nat.reduceEqDiff, Nat.reduceAdd, Nat.reduceLeDiff, Int.reduceNeg, ↓reduceIte, reduceCtorEq, Nat.reduceBEq, h8, rts_len, rts_get hx, decide_eq_true (show (i : Int) < (l.length : Int) by omega), decide_eq_true c2]
        repeat (apply And.intro; focus (first | omega | (simp; done)))
        refine Cal.mk (has26_v x0 x1 a0 a1) ?_
        rintro _ _ ⟨rfl, rfl⟩ -
        cases c3 : hasB x.1.1 x.1.2 a
        · simp (config := {maxSteps := 3000000}) only [go_sem, Nat.reduceEqDiff, Int.reduceNeg, ↓reduceIte, Nat.reduceBEq, h8, h7]
          repeat (apply And.intro; focus (first | omega | (simp; done)))
          exact ⟨⟨i + 1, r, by omega, by simp, rfl, hq.skip hx (by simp [c3])⟩, by omega⟩
        · by_cases c4 : r < 0
          · have e : r = -1 := by
              rcases hq with ⟨h, _⟩ | ⟨j, z, h, _⟩
              · exact h
              · omega
            subst e
            simp (config := {maxSteps := 3000000}) only [go_sem, Nat.reduceEqDiff, Int.reduceLT, Int.reduceNeg, ↓reduceIte, Nat.reduceBEq, h8, h7]
            repeat (apply And.intro; focus (first | omega | (simp; done)))
            exact ⟨⟨i + 1, i, by omega, by simp, rfl, hq.first hx c2 c3⟩, by omega⟩
          · obtain ⟨j, z, rfl, hj, hz⟩ := hq.idx (by omega)
            have hq2 := hq.next hz hx c2 c3
            by_cases c5 : z.1.2 < x.1.2
            · rw [if_pos c5] at hq2
              simp (config := {maxSteps := 3000000}) only [go_sem, Nat.reduceEqDiff, Nat.reduceAdd, Int.reduceNeg, ↓reduceIte, reduceCtorEq, Nat.reduceBEq, h8, h7, rts_get hx, rts_get hz, decide_eq_false c4, decide_eq_true c5]
              repeat (apply And.intro; focus (first | omega | (simp; done)))
              exact ⟨⟨i + 1, i, by omega, by simp, rfl, hq2⟩, by omega⟩
            · rw [if_neg c5] at hq2
              simp (config := {maxSteps := 3000000}) only [go_sem, Nat.reduceEqDiff, Nat.reduceAdd, Int.reduceNeg, ↓reduceIte, reduceCtorEq, Nat.reduceBEq, h8, h7, rts_get hx, rts_get hz, decide_eq_false c4, decide_eq_false c5]
              repeat (apply And.intro; focus (first | omega | (simp; done)))
              exact ⟨⟨i + 1, j, by omega, by simp, rfl, hq2⟩, by omega⟩
      · simp (config := {maxSteps := 3000000}) only [go_sem, Nat.reduceEqDiff, Nat.reduceAdd, Int.reduceNeg, ↓reduceIte, reduceCtorEq, Nat.reduceBEq, h8, h7, rts_len, rts_get hx, decide_eq_true (show (i : Int) < (l.length : Int) by omega), decide_eq_false c2]
        repeat (apply And.intro; focus (first | omega | (simp; done)))
        exact ⟨⟨i + 1, r, by omega, by simp, rfl, hq.skip hx (fun h => c2 h.1)⟩, by omega⟩
    · obtain rfl : i = l.length := by omega
      simp (config := {maxSteps := 3000000}) only [go_sem, Nat.reduceEqDiff, Int.reduceNeg, ↓reduceIte, reduceCtorEq, Nat.reduceBEq, h8, h7, rts_len]
      exact ⟨_, _, Wk.refl _, hwf.weak, ⟨r, hq, rfl⟩, rfl⟩
set_option maxRecDepth 100000 in
set_option maxHeartbeats 8000000 in
theorem rising52_v (hl : l.length ≤ 1000) : VCalls Try.prog 47 [.sl tk (rts l)] st fun v s => RiseV l v ∧ st = s := by
  refine vcalls_enter vc47 (Nat.le_of_ble_eq_true rfl) fun hwf hok => ?_
  show Run _ Vc47.body (.fin (finQ Vc47.res _)) _ _
  unfold Vc47
  simp (config := {maxSteps := 3000000}) only [go_sem]
  refine run_loop [3, 4, 5, 6, 7, 8, 9, 10, 11, 12, 13, 14, 15, 16, 17, 18, 19, 20, 21, 22, 23, 24, 25, 26, 27, 28, 29, 30, 31, 32, 33, 34, 35, 36, 37, 38, 39, 40, 41, 42, 43, 44, 45, 46] (fun B s => ∃ (i : Nat) (v : V) (M : List Pfx), i ≤ l.length ∧ B 4 = .sc (.int .i64 i) ∧ B 3 = v ∧ RO 2 st s v (pfs M) ∧ M.Perm ((l.take i).map (·.1)) ∧ M.Pairwise (fun x y => ltP y x = false)) (fun B _ => l.length - vnat (B 4)) rfl ?_ ?_
  · exact ⟨0, .sl .nil [], [], by omega, rfl, rfl, RO.nil hwf.weak hwf.lt, .refl _, .nil⟩
  · rintro B s ⟨i, v, M, hi, h4, h3, R, hp, hs⟩
    have hMl : M.length = i := by rw [hp.length_eq]; simp; omega
    by_cases c1 : i < l.length
    · obtain ⟨x, hx⟩ := get_ex c1
      obtain ⟨tv, rfl⟩ := R.sl
      have htk : (l.take (i + 1)).map (·.1) = (l.take i).map (·.1) ++ [x.1] := by rw [List.take_add_one, hx]; simp
      simp (config := {maxSteps := 3000000}) only [go_sem, Nat.reduceEqDiff, ↓reduceIte, reduceCtorEq, Nat.reduceBEq, h4, h3, rts_len, pfs_len, decide_eq_true (show (i : Int) < (l.length : Int) by omega)]
      refine run_loop [5, 14, 15, 16, 17, 18, 19, 20, 21, 22, 23, 24, 25, 26, 27, 28, 29, 30] (fun D s' => ∃ k : Nat, k ≤ M.length ∧ D 5 = .sc (.int .i64 k) ∧ (∀ (j : Nat) (y : Pfx), k ≤ j → M[j]? = some y → ltP x.1 y = true) ∧ s' = s) (fun D _ => vnat (D 5)) rfl ?_ ?_
      · exact ⟨M.length, Nat.le_refl _, rfl, fun j y hj hy => by have := (List.getElem?_eq_some_iff.1 hy).1; omega, rfl⟩
      · rintro D s' ⟨k, hk, h5, hge, rfl⟩
        have fin : (k = 0 ∨ ∃ y, M[k - 1]? = some y ∧ ltP x.1 y = false) → ∃ N : List Pfx, N = M.take k ++ [x.1] ++ M.drop k ∧ N.Perm ((l.take (i + 1)).map (·.1)) ∧ N.Pairwise (fun x y => ltP y x = false) := fun h =>
          ⟨_, rfl, by rw [htk]; exact ins_permP hp k, ins_sortP hs hge h⟩
        by_cases c2 : k = 0
        · obtain ⟨N, hN, hN1, hN2⟩ := fin (.inl c2)
          subst c2
          have nc0 : ((0 : Nat) : Int) = 0 := rfl
          simp (config := {maxSteps := 3000000}) only [go_sem, Nat.reduceEqDiff, Nat.reduceAdd, Nat.reduceLeDiff, Int.reduceToNat, Int.reduceLE, ↓reduceIte, reduceCtorEq, Nat.reduceBEq, h5, h4, h3, nc0, rts_get hx, pfs_len, pfs_take, pfs_drop, allSz_pfs]
          repeat (apply And.intro; focus (first | omega | (simp; done)))
          refine Bo.own (by simp [allLen]) ?_
          intro g hg
          have R0 : RO 2 st (s'.use g 0) (.sl (.own g 2) []) [] := RO.use0' R.weak R.lt hg
          simp (config := {maxSteps := 3000000}) only [go_sem, Nat.reduceEqDiff, Nat.reduceAdd, Nat.reduceLeDiff, ↓reduceIte]
          refine App.mk (bytes := 16) (l := []) (ys := pfs (M.take 0)) R0.own (allSz_pfs _) (by simp only [pfs_len, List.length_nil, List.length_take, maxLen]; omega) (by simp only [pfs_len, List.length_nil, List.length_take]; omega) ?_
          intro r1 s1 k1 k2
          have R1 := R0.app k1 k2
          rw [List.nil_append] at R1
          simp (config := {maxSteps := 3000000}) only [go_sem, Nat.reduceEqDiff, Nat.reduceAdd, Nat.reduceLeDiff, ↓reduceIte]
          refine App.mk (bytes := 16) (l := pfs (M.take 0)) (ys := pfs [x.1]) R1.own (allSz_pfs _) (by simp only [pfs_len, List.length_cons, List.length_nil, List.length_take, maxLen]; omega) (by simp only [pfs_len, List.length_cons, List.length_nil, List.length_take]; omega) ?_
          intro r2 s2 k3 k4
          have R2 := R1.app k3 k4
          rw [pfs_append] at R2
          simp (config := {maxSteps := 3000000}) only [go_sem, Nat.reduceEqDiff, ↓reduceIte]
          refine App.mk (bytes := 16) (l := pfs (M.take 0 ++ [x.1])) (ys := pfs (M.drop 0)) R2.own (allSz_pfs _) (by simp only [pfs_len, List.length_append, List.length_cons, List.length_nil, List.length_take, List.length_drop, maxLen]; omega) (by simp only [pfs_len, List.length_append, List.length_cons, List.length_nil, List.length_take, List.length_drop]; omega) ?_
          intro r3 s3 k5 k6
          have R3 := R2.app k5 k6
          rw [pfs_append, ← hN] at R3
          simp (config := {maxSteps := 3000000}) only [go_sem, Nat.reduceEqDiff, Int.reduceNeg, ↓reduceIte, Nat.reduceBEq, h4]
          repeat (apply And.intro; focus (first | omega | (simp; done)))
          exact ⟨⟨i + 1, r3, N, by omega, by simp, rfl, R3, hN1, hN2⟩, by omega⟩
        · obtain ⟨y, hy⟩ := get_ex (show k - 1 < M.length by omega)
          have e1 : ((k : Int) - 1).toNat = k - 1 := by omega
          cases c3 : ltP x.1 y
          · obtain ⟨N, hN, hN1, hN2⟩ := fin (.inr ⟨y, hy, c3⟩)
            simp (config := {maxSteps := 3000000}) only [go_sem, Nat.reduceEqDiff, Nat.reduceAdd, Nat.reduceLeDiff, Int.reduceNeg, ↓reduceIte, reduceCtorEq, Nat.reduceBEq, h5, h4, h3, e1, rts_get hx, pfs_get hy, decide_eq_true (show (0 : Int) < (k : Int) by omega)]
            repeat (apply And.intro; focus (first | omega | (simp; done)))
            refine Cal.mk before52_v ?_
            rintro _ _ ⟨rfl, rfl⟩ -
            rw [c3]
            simp (config := {maxSteps := 3000000}) only [go_sem, Nat.reduceEqDiff, Nat.reduceAdd, Nat.reduceLeDiff, ↓reduceIte, reduceCtorEq, Nat.reduceBEq, h5, h4, h3, rts_get hx, pfs_len, pfs_take, pfs_drop, allSz_pfs]
            repeat (apply And.intro; focus (first | omega | (simp; done)))
            refine Bo.own (by simp [allLen]) ?_
            intro g hg
            have R0 : RO 2 st (s'.use g 0) (.sl (.own g 2) []) [] := RO.use0' R.weak R.lt hg
            simp (config := {maxSteps := 3000000}) only [go_sem, Nat.reduceEqDiff, Nat.reduceAdd, Nat.reduceLeDiff, ↓reduceIte]
            refine App.mk (bytes := 16) (l := []) (ys := pfs (M.take k)) R0.own (allSz_pfs _) (by simp only [pfs_len, List.length_nil, List.length_take, maxLen]; omega) (by simp only [pfs_len, List.length_nil, List.length_take]; omega) ?_
            intro r1 s1 k1 k2
            have R1 := R0.app k1 k2
            rw [List.nil_append] at R1
            simp (config := {maxSteps := 3000000}) only [go_sem, Nat.reduceEqDiff, Nat.reduceAdd, Nat.reduceLeDiff, ↓reduceIte]
            refine App.mk (bytes := 16) (l := pfs (M.take k)) (ys := pfs [x.1]) R1.own (allSz_pfs _) (by simp only [pfs_len, List.length_cons, List.length_nil, List.length_take, maxLen]; omega) (by simp only [pfs_len, List.length_cons, List.length_nil, List.length_take]; omega) ?_
            intro r2 s2 k3 k4
            have R2 := R1.app k3 k4
            rw [pfs_append] at R2
            simp (config := {maxSteps := 3000000}) only [go_sem, Nat.reduceEqDiff, ↓reduceIte]
            refine App.mk (bytes := 16) (l := pfs (M.take k ++ [x.1])) (ys := pfs (M.drop k)) R2.own (allSz_pfs _) (by simp only [pfs_len, List.length_append, List.length_cons, List.length_nil, List.length_take, List.length_drop, maxLen]; omega) (by simp only [pfs_len, List.length_append, List.length_cons, List.length_nil, List.length_take, List.length_drop]; omega) ?_
            intro r3 s3 k5 k6
            have R3 := R2.app k5 k6
            rw [pfs_append, ← hN] at R3
            simp (config := {maxSteps := 3000000}) only [go_sem, Nat.reduceEqDiff, Int.reduceNeg, ↓reduceIte, Nat.reduceBEq, h4]
            repeat (apply And.intro; focus (first | omega | (simp; done)))
            exact ⟨⟨i + 1, r3, N, by omega, by simp, rfl, R3, hN1, hN2⟩, by omega⟩
          · simp (config := {maxSteps := 3000000}) only [go_sem, Nat.reduceEqDiff, Nat.reduceAdd, Nat.reduceLeDiff, Int.reduceNeg, ↓reduceIte, reduceCtorEq, Nat.reduceBEq, h5, h4, h3, e1, rts_get hx, pfs_get hy, decide_eq_true (show (0 : Int) < (k : Int) by omega)]
            repeat (apply And.intro; focus (first | omega | (simp; done)))
            refine Cal.mk before52_v ?_
            rintro _ _ ⟨rfl, rfl⟩ -
            rw [c3]
            simp (config := {maxSteps := 3000000}) only [go_sem, Nat.reduceEqDiff, Int.reduceNeg, ↓reduceIte, Nat.reduceBEq, h5]
            repeat (apply And.intro; focus (first | omega | (simp; done)))
            refine ⟨⟨k - 1, by omega, by rw [show ((k - 1 : Nat) : Int) = (k : Int) - 1 by omega], fun j z hj hz => ?_⟩, by omega⟩
            by_cases e : j = k - 1
            · subst e; rw [hy] at hz; cases hz; exact c3
            · exact hge j z (by omega) hz
    · obtain rfl : i = l.length := by omega
      rw [List.take_length] at hp
      obtain ⟨tv, rfl⟩ := R.sl
      simp (config := {maxSteps := 3000000}) only [go_sem, Nat.reduceEqDiff, ↓reduceIte, reduceCtorEq, Nat.reduceBEq, h4, h3, rts_len]
      exact ⟨_, _, Wk.no, R.weak, ⟨M, hp, hs, rfl⟩, rfl⟩
end
end
section
open Go

/-- What a call leaves of a table's memory. -/
def TurnR (st s : St) (b : Nat) (om om' : Option Nat) : Prop := (s = st ∧ om' = om) ∨ ∃ mb X, (om = some mb ∨ om = none ∧ st.sz ≤ mb) ∧ om' = some mb ∧ s = (st.put mb X).put b [.sc (.map (some mb))]
/-- The table has just these. -/
structure RtI (s : St) (b : Nat) (om : Option Nat) (l : List Rt) : Prop where
  tab : ∃ T es c, RtB s b om T es c ∧ T.Perm l
  nd : (l.map (·.1)).Nodup
  right : RtR l
def StepR (st : St) (b : Nat) (om : Option Nat) (l : List Rt) (v : V) (s : St) : Prop :=
  ∃ l' om', v = .tup [.sl .no (rts l'), .sc (.bool true)] ∧ RtI s b om' l' ∧ l'.length ≤ l.length + 1 ∧ TurnR st s b om om'
theorem aget_T {T l : List Rt} {p : Pfx} (hp : T.Perm l) (hn : (l.map (·.1)).Nodup) : aget p T = aget p l := aget_permG hp hn p
theorem Wk.pairT {a a' : V} {x : Value} (h : Wk a a') : Wk (.tup [a, .sc x]) (.tup [a', .sc x]) := Wk.tupT h
theorem bmap_self {st : St} {b : Nat} {x : Option Nat} (h : st.box b = some [.sc (.map x)]) (hl : b < st.sz) : st.put b [.sc (.map x)] = st := put_selfR h hl
section
variable {st : St} {b : Nat} {om : Option Nat} {l : List Rt} {tk : Tk} {kind to : Int} {p : Pfx}
set_option maxRecDepth 100000 in
set_option maxHeartbeats 16000000 in
theorem step52_v (hI : RtI st b om l) (hl : l.length ≤ 500) (h0 : 0 ≤ kind) (p0 : 0 ≤ p.1) (p1 : p.1 < 4294967296) :
    VCalls Try.prog 42 [ptrV b, .sl tk (rts l), .agg [.sc (.int .i64 kind), .sc (.int .i64 to), .sc (.int .u32 p.1), .sc (.int .i64 p.2)]] st (StepR st b om l) := by
  have bT : (true == true) = true := rfl
  have bF : (false == false) = true := rfl
  obtain ⟨⟨T, es, c, h, hp⟩, hn, hR⟩ := hI
  have hln := hp.length_eq
  have hTn : (T.map (·.1)).Nodup := (hp.map (·.1)).nodup_iff.2 hn
  refine vcalls_enter vc42 (Nat.le_of_ble_eq_true rfl) fun hwf hok => ?_
  show Run _ Vc42.body (.fin (finQ Vc42.res _)) _ _
  unfold Vc42
  have hlt := hwf.lt
  have hbs := hlt.box b _ h.box
  simp (config := {maxSteps := 3000000}) only [go_sem, Nat.reduceEqDiff, Nat.reduceAdd, Nat.reduceLeDiff, ↓reduceIte, reduceCtorEq]
  intro d hd
  have db : b ≠ d := by omega
  have dm : ∀ mb, om = some mb → mb ≠ d := fun mb e => by
    have := hlt.box mb _ (h.map mb e).1
    omega
  have hW2 := weak_put (b := d) (cs := [.sc (.int .i64 kind), .sc (.int .i64 to), .sc (.int .u32 p.1), .sc (.int .i64 p.2)]) hwf.weak hd
  have hL2 := hlt.put (b := d) (cs := [.sc (.int .i64 kind), .sc (.int .i64 to), .sc (.int .u32 p.1), .sc (.int .i64 p.2)])
  have P2 := h.put (cs := [.sc (.int .i64 kind), .sc (.int .i64 to), .sc (.int .u32 p.1), .sc (.int .i64 p.2)]) db dm
  have bd : (st.put d [.sc (.int .i64 kind), .sc (.int .i64 to), .sc (.int .u32 p.1), .sc (.int .i64 p.2)]).box d = some [.sc (.int .i64 kind), .sc (.int .i64 to), .sc (.int .u32 p.1), .sc (.int .i64 p.2)] := put_box_same
  generalize st.put d [.sc (.int .i64 kind), .sc (.int .i64 to), .sc (.int .u32 p.1), .sc (.int .i64 p.2)] = s2 at P2 hW2 hL2 bd ⊢
  have same : StepR st b om l (.tup [.sl .no (rts l), .sc (.bool true)]) st := ⟨l, om, rfl, ⟨⟨T, es, c, h, hp⟩, hn, hR⟩, by omega, .inl ⟨rfl, rfl⟩⟩
  refine Cal.mk find52_v ?_
  rintro _ _ ⟨⟨r, hF, rfl⟩, rfl⟩ -
  have hdl : (adel p l).length ≤ l.length := by rw [adel_filter hn]; exact List.length_filter_le _ _
  rcases hF with ⟨rfl, hg⟩ | ⟨i, x, rfl, hi, hg, hdel⟩
  · have edel := adel_same hg
    simp (config := {maxSteps := 3000000}) only [go_sem, Nat.reduceEqDiff, Int.reduceLE, Int.reduceNeg, ↓reduceIte]
    obtain ⟨sv, hsv⟩ : ∃ sv, sv = s2 := ⟨_, rfl⟩
    have hV : s2.weak sv := by rw [hsv]; exact hL2.weak
    have hVl : sv.Lt := by rw [hsv]; exact hL2
    have P3 : RtB sv b om T es c := by rw [hsv]; exact P2
    have bdv : sv.box d = some [.sc (.int .i64 kind), .sc (.int .i64 to), .sc (.int .u32 p.1), .sc (.int .i64 p.2)] := by rw [hsv]; exact bd
    rw [← hsv]
    clear hsv
    by_cases ck : kind % 4 = 3
    · simp (config := {maxSteps := 3000000}) only [go_sem, Nat.reduceEqDiff, Nat.reduceAdd, Nat.reduceLeDiff, Int.reduceLT, Int.reduceNeg, ↓reduceIte, reduceCtorEq, bdv, decide_eq_true ck]
      repeat (apply And.intro; focus (first | omega | (simp; done)))
      refine Cal.mk (rtDrop_v P3) ?_
      rintro _ s3 ⟨rfl, es', c', Q3, hs3⟩ -
      rw [aget_T hp hn, hg]
      have Q4 : RtI s3 b om (adel p l) := ⟨⟨_, _, _, Q3, adel_permG hp hn p⟩, adel_nodup hn, hR.del hn p⟩
      simp (config := {maxSteps := 3000000}) only [go_sem, Nat.reduceEqDiff, Int.reduceLE, Int.reduceNeg, ↓reduceIte, Option.isSome_none, bF]
      rcases hs3 with ⟨e, rfl⟩ | ⟨mb, X, e, rfl⟩
      · refine ⟨_, st, Wk.tupT Wk.no, weak_tr hW2 hV, adel p l, om, by rw [edel], ?_, by omega, .inl ⟨rfl, rfl⟩⟩
        subst e
        exact ⟨⟨_, es, c, ⟨h.box, fun _ => Q3.nil rfl, fun mb e => by cases e⟩, adel_permG hp hn p⟩, adel_nodup hn, hR.del hn p⟩
      · have hbm := (h.map mb e).2.2
        refine ⟨_, st.put mb X, Wk.tupT Wk.no, weak_both (weak_tr hW2 hV), adel p l, om, by rw [edel], ⟨⟨_, es', c', ⟨by rw [put_box_ne hbm]; exact h.box, Q3.nil, fun mb' e' => ?_⟩, adel_permG hp hn p⟩, adel_nodup hn, hR.del hn p⟩, by omega, .inr ⟨mb, X, .inl e, e, ?_⟩⟩
        · have e2 : mb = mb' := by rw [e] at e'; cases e'; rfl
          subst e2
          have := Q3.map mb e
          rw [put_box_same] at this
          exact ⟨by rw [put_box_same]; exact this.1, this.2⟩
        · subst e
          exact (bmap_self (by rw [put_box_ne hbm]; exact h.box) (by simp only [put_sz]; omega)).symm
    · simp (config := {maxSteps := 3000000}) only [go_sem, Nat.reduceEqDiff, Nat.reduceAdd, Nat.reduceLeDiff, Int.reduceLT, Int.reduceNeg, ↓reduceIte, reduceCtorEq, bdv, decide_eq_false ck]
      repeat (apply And.intro; focus (first | omega | (simp; done)))
      refine Cal.mk (rtPut_v P3 p0 p1) ?_
      rintro _ s3 hq -
      rcases hq with ⟨q1, rfl, rfl⟩ | ⟨q1, q2, q3, rfl, rfl⟩ | ⟨q1, q2, rfl, mb, X, es', c', hmb, rfl, Q3⟩
      · simp (config := {maxSteps := 3000000}) only [go_sem, Nat.reduceEqDiff, Nat.reduceAdd, Nat.reduceLeDiff, Int.reduceNeg, ↓reduceIte, bdv]
        refine Cal.mk (right26_v p0 p1) ?_
        rintro _ _ ⟨rfl, rfl⟩ -
        rw [q1]
        simp (config := {maxSteps := 3000000}) only [go_sem, Nat.reduceEqDiff, Int.reduceNeg, ↓reduceIte]
        exact ⟨_, _, Wk.tupT Wk.no, weak_tr hW2 hV, same⟩
      · simp (config := {maxSteps := 3000000}) only [go_sem, Nat.reduceEqDiff, Nat.reduceAdd, Nat.reduceLeDiff, Int.reduceNeg, ↓reduceIte, bdv]
        refine Cal.mk (right26_v p0 p1) ?_
        rintro _ _ ⟨rfl, rfl⟩ -
        rw [q1]
        simp (config := {maxSteps := 3000000}) only [go_sem, Nat.reduceEqDiff, Int.reduceLT, Int.reduceNeg, ↓reduceIte, rts_len, decide_eq_true (show (200 : Int) ≤ (l.length : Int) by omega)]
        exact ⟨_, _, Wk.tupT Wk.no, weak_tr hW2 hV, same⟩
      · have hmd : mb ≠ d := by
          rcases hmb with e | ⟨e, k⟩
          · exact dm mb e
          · have := hVl.box d _ bdv; omega
        have hdm := hmd.symm
        have hdb := db.symm
        have bd4 : ((sv.put mb X).put b [.sc (.map (some mb))]).box d = some [.sc (.int .i64 kind), .sc (.int .i64 to), .sc (.int .u32 p.1), .sc (.int .i64 p.2)] := by rw [put_box_ne hdb, put_box_ne hdm]; exact bdv
        have hW4 : ((st.put mb X).put b [.sc (.map (some mb))]).weak ((sv.put mb X).put b [.sc (.map (some mb))]) := weak_both (weak_both (weak_tr hW2 hV))
        have hL4 : ((sv.put mb X).put b [.sc (.map (some mb))]).Lt := hVl.put.put
        have hfin : StepR st b om l (.tup [.sl .no (rts (adel p l ++ [(p, to)])), .sc (.bool true)]) ((st.put mb X).put b [.sc (.map (some mb))]) := by
          have hbm := (Q3.map mb rfl).2.2
          refine ⟨_, some mb, rfl, ⟨⟨aset p to T, es', c', ⟨put_box_same, fun e => (by cases e), fun mb' e => ?_⟩, aset_permG hp hn p to⟩, aset_nodupG hn p to, (hR.del hn p).add p0 p1 q1⟩, by simp only [List.length_append, List.length_cons, List.length_nil]; omega, .inr ⟨mb, X, ?_, rfl, rfl⟩⟩
          · cases e
            have := Q3.map mb rfl
            rw [put_box_ne hbm.symm, put_box_same] at this
            exact ⟨by rw [put_box_ne hbm.symm, put_box_same]; exact this.1, this.2⟩
          · rcases hmb with e | ⟨e, k⟩
            · exact .inl e
            · exact .inr ⟨e, by have := (weak_tr hW2 hV).sz; omega⟩
        generalize (sv.put mb X).put b [.sc (.map (some mb))] = s4 at bd4 hW4 hL4 ⊢
        simp (config := {maxSteps := 3000000}) only [go_sem, Nat.reduceEqDiff, Nat.reduceAdd, Nat.reduceLeDiff, Int.reduceNeg, ↓reduceIte, bd4]
        refine Cal.mk (right26_v p0 p1) ?_
        rintro _ _ ⟨rfl, rfl⟩ -
        rw [q1]
        simp (config := {maxSteps := 3000000}) only [go_sem, Nat.reduceEqDiff, Nat.reduceAdd, Nat.reduceLT, Nat.reduceLeDiff, Int.reduceLT, Int.reduceNeg, ↓reduceIte, bd4, rts_len, decide_eq_false (show ¬ (200 : Int) ≤ (l.length : Int) from fun k => q2 ⟨by rw [aget_T hp hn]; exact hg, by omega⟩)]
        refine Bo.own (by simp [allLen]) ?_
        intro g4 hg4
        have R5 : RO 3 ((st.put mb X).put b [.sc (.map (some mb))]) (s4.use g4 0) (.sl (.own g4 3) []) [] := RO.use0' hW4 hL4 hg4
        simp (config := {maxSteps := 3000000}) only [go_sem, Nat.reduceEqDiff, Nat.reduceAdd, Nat.reduceLeDiff, Int.reduceNeg, ↓reduceIte, bd4]
        refine App.mk (bytes := 24) (l := []) (ys := rts l) R5.own (allSz_rts _) (by simp only [rts_len, List.length_nil, maxLen]; omega) (by simp only [rts_len, List.length_nil]; omega) ?_
        intro r5 s5 k5 k6
        have R6 := R5.app k5 k6
        rw [List.nil_append] at R6
        have bd5 : s5.box d = some [.sc (.int .i64 kind), .sc (.int .i64 to), .sc (.int .u32 p.1), .sc (.int .i64 p.2)] := by rw [k6.box]; exact bd4
        simp (config := {maxSteps := 3000000}) only [go_sem, Nat.reduceEqDiff, Nat.reduceAdd, Nat.reduceLeDiff, Int.reduceNeg, ↓reduceIte, bd5]
        refine App.mk (bytes := 24) (l := rts l) (ys := rts [(p, to)]) R6.own (allSz_rts _) (by simp only [rts_len, List.length_cons, List.length_nil, maxLen]; omega) (by simp only [rts_len, List.length_cons, List.length_nil]; omega) ?_
        intro r6 s6 k7 k8
        have R7 := R6.app k7 k8
        rw [rts_append] at R7
        simp (config := {maxSteps := 3000000}) only [go_sem, Nat.reduceEqDiff, Int.reduceNeg, ↓reduceIte]
        rw [edel] at hfin
        obtain ⟨tv, rfl⟩ := R7.sl
        exact ⟨_, _, Wk.tupT Wk.no, R7.weak, hfin⟩
  · have e1 : ((i : Int) + 1).toNat = i + 1 := by omega
    simp (config := {maxSteps := 3000000}) only [go_sem, Nat.reduceEqDiff, Int.reduceNeg, ↓reduceIte, e1, rts_len, rts_take, rts_drop, allSz_rts, decide_eq_true (show (0 : Int) ≤ (i : Int) by omega)]
    repeat (apply And.intro; focus (first | omega | (simp; done)))
    refine Bo.own (by simp [allLen]) ?_
    intro g hg2
    have R0 : RO 3 s2 (s2.use g 0) (.sl (.own g 3) []) [] := RO.use0' hL2.weak hL2 hg2
    simp (config := {maxSteps := 3000000}) only [go_sem, Nat.reduceEqDiff, ↓reduceIte]
    refine App.mk (bytes := 24) (l := []) (ys := rts (l.take i)) R0.own (allSz_rts _) (by simp only [rts_len, List.length_nil, List.length_take, maxLen]; omega) (by simp only [rts_len, List.length_nil, List.length_take]; omega) ?_
    intro r1 s1 k1 k2
    have R1 := R0.app k1 k2
    rw [List.nil_append] at R1
    simp (config := {maxSteps := 3000000}) only [go_sem, Nat.reduceEqDiff, ↓reduceIte]
    refine App.mk (bytes := 24) (l := rts (l.take i)) (ys := rts (l.drop (i + 1))) R1.own (allSz_rts _) (by simp only [rts_len, List.length_take, List.length_drop, maxLen]; omega) (by simp only [rts_len, List.length_take, List.length_drop]; omega) ?_
    intro r2 sv k3 k4
    have R2 := R1.app k3 k4
    rw [rts_append, ← hdel] at R2
    obtain ⟨tw, rfl⟩ := R2.sl
    have hV := R2.weak
    have hVl := R2.lt
    have bdv := (hV.box d _ bd).1
    have P3 : RtB sv b om T es c := ⟨(hV.box b _ P2.box).1, P2.nil, fun mb e => ⟨(hV.box mb _ (P2.map mb e).1).1, (P2.map mb e).2⟩⟩
    by_cases ck : kind % 4 = 3
    · simp (config := {maxSteps := 3000000}) only [go_sem, Nat.reduceEqDiff, Nat.reduceAdd, Nat.reduceLeDiff, Int.reduceLT, ↓reduceIte, reduceCtorEq, bdv, decide_eq_true ck]
      repeat (apply And.intro; focus (first | omega | (simp; done)))
      refine Cal.mk (rtDrop_v P3) ?_
      rintro _ s3 ⟨rfl, es', c', Q3, hs3⟩ -
      rw [aget_T hp hn, hg]
      have Q4 : RtI s3 b om (adel p l) := ⟨⟨_, _, _, Q3, adel_permG hp hn p⟩, adel_nodup hn, hR.del hn p⟩
      simp (config := {maxSteps := 3000000}) only [go_sem, Nat.reduceEqDiff, ↓reduceIte, decide_eq_true (show (0 : Int) ≤ (i : Int) by omega), Option.isSome_some, bT]
      rcases hs3 with ⟨e, rfl⟩ | ⟨mb, X, e, rfl⟩
      · refine ⟨_, st, Wk.tupT Wk.no, weak_tr hW2 hV, adel p l, om, rfl, ?_, by omega, .inl ⟨rfl, rfl⟩⟩
        subst e
        exact ⟨⟨_, es, c, ⟨h.box, fun _ => Q3.nil rfl, fun mb e => by cases e⟩, adel_permG hp hn p⟩, adel_nodup hn, hR.del hn p⟩
      · have hbm := (h.map mb e).2.2
        refine ⟨_, st.put mb X, Wk.tupT Wk.no, weak_both (weak_tr hW2 hV), adel p l, om, rfl, ⟨⟨_, es', c', ⟨by rw [put_box_ne hbm]; exact h.box, Q3.nil, fun mb' e' => ?_⟩, adel_permG hp hn p⟩, adel_nodup hn, hR.del hn p⟩, by omega, .inr ⟨mb, X, .inl e, e, ?_⟩⟩
        · have e2 : mb = mb' := by rw [e] at e'; cases e'; rfl
          subst e2
          have := Q3.map mb e
          rw [put_box_same] at this
          exact ⟨by rw [put_box_same]; exact this.1, this.2⟩
        · subst e
          exact (bmap_self (by rw [put_box_ne hbm]; exact h.box) (by simp only [put_sz]; omega)).symm
    · simp (config := {maxSteps := 3000000}) only [go_sem, Nat.reduceEqDiff, Nat.reduceAdd, Nat.reduceLeDiff, Int.reduceLT, ↓reduceIte, reduceCtorEq, bdv, decide_eq_false ck]
      repeat (apply And.intro; focus (first | omega | (simp; done)))
      refine Cal.mk (rtPut_v P3 p0 p1) ?_
      rintro _ s3 hq -
      rcases hq with ⟨q1, rfl, rfl⟩ | ⟨q1, q2, q3, rfl, rfl⟩ | ⟨q1, q2, rfl, mb, X, es', c', hmb, rfl, Q3⟩
      · simp (config := {maxSteps := 3000000}) only [go_sem, Nat.reduceEqDiff, Nat.reduceAdd, Nat.reduceLeDiff, ↓reduceIte, bdv]
        refine Cal.mk (right26_v p0 p1) ?_
        rintro _ _ ⟨rfl, rfl⟩ -
        rw [q1]
        simp (config := {maxSteps := 3000000}) only [go_sem, Nat.reduceEqDiff, ↓reduceIte]
        exact ⟨_, _, Wk.tupT Wk.no, weak_tr hW2 hV, same⟩
      · rw [aget_T hp hn, hg] at q2; cases q2
      · have hmd : mb ≠ d := by
          rcases hmb with e | ⟨e, k⟩
          · exact dm mb e
          · have := hVl.box d _ bdv; omega
        have hdm := hmd.symm
        have hdb := db.symm
        have bd4 : ((sv.put mb X).put b [.sc (.map (some mb))]).box d = some [.sc (.int .i64 kind), .sc (.int .i64 to), .sc (.int .u32 p.1), .sc (.int .i64 p.2)] := by rw [put_box_ne hdb, put_box_ne hdm]; exact bdv
        have hW4 : ((st.put mb X).put b [.sc (.map (some mb))]).weak ((sv.put mb X).put b [.sc (.map (some mb))]) := weak_both (weak_both (weak_tr hW2 hV))
        have hL4 : ((sv.put mb X).put b [.sc (.map (some mb))]).Lt := hVl.put.put
        have hfin : StepR st b om l (.tup [.sl .no (rts (adel p l ++ [(p, to)])), .sc (.bool true)]) ((st.put mb X).put b [.sc (.map (some mb))]) := by
          have hbm := (Q3.map mb rfl).2.2
          refine ⟨_, some mb, rfl, ⟨⟨aset p to T, es', c', ⟨put_box_same, fun e => (by cases e), fun mb' e => ?_⟩, aset_permG hp hn p to⟩, aset_nodupG hn p to, (hR.del hn p).add p0 p1 q1⟩, by simp only [List.length_append, List.length_cons, List.length_nil]; omega, .inr ⟨mb, X, ?_, rfl, rfl⟩⟩
          · cases e
            have := Q3.map mb rfl
            rw [put_box_ne hbm.symm, put_box_same] at this
            exact ⟨by rw [put_box_ne hbm.symm, put_box_same]; exact this.1, this.2⟩
          · rcases hmb with e | ⟨e, k⟩
            · exact .inl e
            · exact .inr ⟨e, by have := (weak_tr hW2 hV).sz; omega⟩
        generalize (sv.put mb X).put b [.sc (.map (some mb))] = s4 at bd4 hW4 hL4 ⊢
        simp (config := {maxSteps := 3000000}) only [go_sem, Nat.reduceEqDiff, Nat.reduceAdd, Nat.reduceLeDiff, ↓reduceIte, bd4]
        refine Cal.mk (right26_v p0 p1) ?_
        rintro _ _ ⟨rfl, rfl⟩ -
        rw [q1]
        simp (config := {maxSteps := 3000000}) only [go_sem, Nat.reduceEqDiff, Nat.reduceAdd, Nat.reduceLT, Nat.reduceLeDiff, ↓reduceIte, bd4, decide_eq_false (show ¬ (i : Int) < 0 by omega)]
        refine Bo.own (by simp [allLen]) ?_
        intro g4 hg4
        have R5 : RO 3 ((st.put mb X).put b [.sc (.map (some mb))]) (s4.use g4 0) (.sl (.own g4 3) []) [] := RO.use0' hW4 hL4 hg4
        simp (config := {maxSteps := 3000000}) only [go_sem, Nat.reduceEqDiff, Nat.reduceAdd, Nat.reduceLeDiff, ↓reduceIte, bd4]
        refine App.mk (bytes := 24) (l := []) (ys := rts (adel p l)) R5.own (allSz_rts _) (by simp only [rts_len, List.length_nil, maxLen]; omega) (by simp only [rts_len, List.length_nil]; omega) ?_
        intro r5 s5 k5 k6
        have R6 := R5.app k5 k6
        rw [List.nil_append] at R6
        have bd5 : s5.box d = some [.sc (.int .i64 kind), .sc (.int .i64 to), .sc (.int .u32 p.1), .sc (.int .i64 p.2)] := by rw [k6.box]; exact bd4
        simp (config := {maxSteps := 3000000}) only [go_sem, Nat.reduceEqDiff, Nat.reduceAdd, Nat.reduceLeDiff, ↓reduceIte, bd5]
        refine App.mk (bytes := 24) (l := rts (adel p l)) (ys := rts [(p, to)]) R6.own (allSz_rts _) (by simp only [rts_len, List.length_cons, List.length_nil, maxLen]; omega) (by simp only [rts_len, List.length_cons, List.length_nil]; omega) ?_
        intro r6 s6 k7 k8
        have R7 := R6.app k7 k8
        rw [rts_append] at R7
        simp (config := {maxSteps := 3000000}) only [go_sem, Nat.reduceEqDiff, ↓reduceIte]

        obtain ⟨tv, rfl⟩ := R7.sl
        exact ⟨_, _, Wk.tupT Wk.no, R7.weak, hfin⟩
end
end
section
open Go

section
variable {st s : St} {b : Nat} {om : Option Nat} {l : List Rt} {p : Pfx} {to a : Int}
theorem RtB.lts {T : List Rt} {es : List (V × V × Nat)} {c : Nat} (h : RtB s b om T es c) (hl : s.Lt) : b < s.sz ∧ ∀ mb, om = some mb → mb < s.sz := ⟨hl.box b _ h.box, fun mb e => hl.box mb _ (h.map mb e).1⟩
theorem RtI.put (h : RtI s b om l) (hl : s.Lt) {q : Nat} {cs : List V} (hq : s.sz ≤ q) : RtI (s.put q cs) b om l := by
  obtain ⟨⟨T, es, c, h1, h2⟩, h3, h4⟩ := h
  obtain ⟨k1, k2⟩ := h1.lts hl
  exact ⟨⟨T, es, c, h1.put (by omega) (fun mb e => by have := k2 mb e; omega), h2⟩, h3, h4⟩
theorem RtI.of (h : RtI s b om l) {s' : St} (hw : s.weak s') : RtI s' b om l := by
  obtain ⟨⟨T, es, c, h1, h2⟩, h3, h4⟩ := h
  exact ⟨⟨T, es, c, ⟨(hw.box b _ h1.box).1, h1.nil, fun mb e => ⟨(hw.box mb _ (h1.map mb e).1).1, (h1.map mb e).2⟩⟩, h2⟩, h3, h4⟩
theorem RtI.box' (h : RtI s b om l) {s' : St} (hw : s'.box = s.box) : RtI s' b om l := by
  obtain ⟨⟨T, es, c, h1, h2⟩, h3, h4⟩ := h
  exact ⟨⟨T, es, c, ⟨by rw [hw]; exact h1.box, h1.nil, fun mb e => ⟨by rw [hw]; exact (h1.map mb e).1, (h1.map mb e).2⟩⟩, h2⟩, h3, h4⟩
theorem RtI.new {cs : List V} (h : s.box b = some [.sc (.map none)]) : RtI s b none [] :=
  ⟨⟨[], [], 0, ⟨h, fun _ => rfl, fun mb e => by cases e⟩, .refl _⟩, .nil, fun x hx => by cases hx⟩
/-- Where a table lies, beside what was. -/
structure RtS (base s : St) (b : Nat) (om : Option Nat) (l : List Rt) : Prop where
  rt : RtI s b om l
  weak : base.weak s
  lt : s.Lt
  fb : base.sz ≤ b
  fm : ∀ mb, om = some mb → base.sz ≤ mb
theorem RtS.turn {base s' : St} {om' : Option Nat} {l' : List Rt} (h : RtS base s b om l) (ht : TurnR s s' b om om') (hI : RtI s' b om' l') : RtS base s' b om' l' := by
  rcases ht with ⟨rfl, rfl⟩ | ⟨mb, X, h1, rfl, rfl⟩
  · exact ⟨hI, h.weak, h.lt, h.fb, h.fm⟩
  · have hm : base.sz ≤ mb := by
      rcases h1 with e | ⟨e, k⟩
      · exact h.fm mb e
      · have := h.weak.sz; omega
    exact ⟨hI, weak_put (weak_put h.weak hm) h.fb, h.lt.put.put, h.fb, fun mb' e => by cases e; exact hm⟩
theorem RtS.put {base : St} {q : Nat} {cs : List V} (h : RtS base s b om l) (hq : s.sz ≤ q) : RtS base (s.put q cs) b om l :=
  ⟨h.rt.put h.lt hq, weak_put h.weak (by have := h.weak.sz; omega), h.lt.put, h.fb, h.fm⟩
theorem TurnR.ro {base s' : St} {om' : Option Nat} {v : V} {L : List V} {k : Nat} (ht : TurnR s s' b om om') (hS : RtS base s b om l) (h : RO k base s v L) : RO k base s' v L := by
  rcases ht with ⟨rfl, rfl⟩ | ⟨mb, X, h1, rfl, rfl⟩
  · exact h
  · have hm : base.sz ≤ mb := by
      rcases h1 with e | ⟨e, k⟩
      · exact hS.fm mb e
      · have := hS.weak.sz; omega
    exact (h.put hm).put hS.fb
def PutI (st : St) (b : Nat) (om : Option Nat) (l : List Rt) (p : Pfx) (to : Int) (v : V) (s : St) : Prop := ∃ l' om', RtI s b om' l' ∧ TurnR st s b om om' ∧
  ((rightB p.1 p.2 = false ∧ l' = l ∧ v = .sc (.int .i64 13)) ∨ (rightB p.1 p.2 = true ∧ aget p l = none ∧ 200 ≤ l.length ∧ l' = l ∧ v = .sc (.int .i64 70)) ∨
    (rightB p.1 p.2 = true ∧ ¬ (aget p l = none ∧ 200 ≤ l.length) ∧ l' = adel p l ++ [(p, to)] ∧ v = .sc (.int .i64 0)))
theorem rtPutI_v (h : RtI st b om l) (p0 : 0 ≤ p.1) (p1 : p.1 < 4294967296) : VCalls Try.prog 28 [ptrV b, .agg [.sc (.int .u32 p.1), .sc (.int .i64 p.2)], .sc (.int .i64 to)] st (PutI st b om l p to) := by
  have hI := h
  obtain ⟨⟨T, es, c, h1, h2⟩, h3, h4⟩ := h
  have hln := h2.length_eq
  refine (rtPut_v h1 p0 p1).mono fun v s hq => ?_
  rcases hq with ⟨q1, rfl, rfl⟩ | ⟨q1, q2, q3, rfl, rfl⟩ | ⟨q1, q2, rfl, mb, X, es', c', hmb, rfl, Q3⟩
  · exact ⟨l, om, hI, .inl ⟨rfl, rfl⟩, .inl ⟨q1, rfl, rfl⟩⟩
  · rw [aget_T h2 h3] at q2
    exact ⟨l, om, hI, .inl ⟨rfl, rfl⟩, .inr (.inl ⟨q1, q2, by omega, rfl, rfl⟩)⟩
  · rw [aget_T h2 h3, hln] at q2
    exact ⟨_, some mb, ⟨⟨_, _, _, Q3, aset_permG h2 h3 p to⟩, aset_nodupG h3 p to, (h4.del h3 p).add p0 p1 q1⟩, .inr ⟨mb, X, hmb, rfl, rfl⟩, .inr (.inr ⟨q1, q2, rfl, rfl⟩)⟩
theorem rtLenI_v (h : RtI st b om l) : VCalls Try.prog 43 [ptrV b] st fun v s => v = .sc (.int .i64 l.length) ∧ st = s := by
  obtain ⟨⟨T, es, c, h1, h2⟩, h3, h4⟩ := h
  rw [← h2.length_eq]
  exact rtLen_v h1
def AllV (st : St) (l : List Rt) (r : V) (s : St) : Prop := ∃ (ob : Nat) (M : List Pfx) (sp : List V), M.Perm (l.map (·.1)) ∧ M.Pairwise (fun x y => ltP y x = false) ∧ r = dataV ob M.length l.length ∧ RBC pval st s ob l.length M sp
theorem rtAllI_v (h : RtI st b om l) (hl : l.length ≤ 1000) : VCalls Try.prog 46 [ptrV b] st (AllV st l) := by
  obtain ⟨⟨T, es, c, h1, h2⟩, h3, h4⟩ := h
  have hln := h2.length_eq
  cases om with
  | none =>
    refine (rtAll0_v h1).mono fun v s hq => ?_
    obtain ⟨ob, M, sp, m1, m2, m3, m4⟩ := hq
    exact ⟨ob, M, sp, m1.trans (h2.map _), m2, by rw [← hln]; exact m3, by rw [← hln]; exact m4⟩
  | some mb =>
    refine (rtAll1_v h1 (by omega)).mono fun v s hq => ?_
    obtain ⟨ob, M, sp, m1, m2, m3, m4⟩ := hq
    exact ⟨ob, M, sp, m1.trans (h2.map _), m2, by rw [← hln]; exact m3, by rw [← hln]; exact m4⟩
def NeedV (T l : List Rt) (r : V) : Prop := ∃ M : List Pfx, M.Perm (l.map (·.1)) ∧ M.Pairwise (fun x y => ltP y x = false) ∧ r = .sl .no (pfs (M.filter (needB T)))
theorem rtNeedI_v {T : List Rt} {es : List (V × V × Nat)} {c : Nat} (h1 : RtB st b om T es c) (h2 : T.Perm l) (hR : RtR l) (hl : l.length ≤ 1000) : VCalls Try.prog 29 [ptrV b] st fun v s => NeedV T l v ∧ st = s := by
  have hln := h2.length_eq
  cases om with
  | none =>
    have e := h1.nil rfl
    subst e
    have el : l = [] := h2.symm.eq_nil
    subst el
    exact (rtNeedless0_v h1).mono fun v s hq => ⟨⟨[], .refl _, .nil, hq.1⟩, hq.2⟩
  | some mb =>
    refine (rtNeedless1_v h1 (by omega) (fun x hx => hR.bits x (h2.mem_iff.1 hx))).mono fun v s hq => ?_
    obtain ⟨M, m1, m2, m3, m4⟩ := hq
    exact ⟨⟨M, m1.trans (h2.map _), m2, m3⟩, m4⟩
set_option maxRecDepth 100000 in
theorem eqPfx1_v {b1 n1 : Nat} {tk : Tk} {L : List Pfx} {s1 : List V} (h1 : st.box b1 = some (rowc pval L s1)) (m1 : mono (rowc pval L s1)) (hl : L.length < 4611686018427387904) :
    VCalls Try.prog 45 [dataV b1 L.length n1, .sl tk (pfs L)] st fun r s => r = .sc (.bool true) ∧ st = s := by
  refine vcalls_enter vc45 (Nat.le_of_ble_eq_true rfl) fun hwf hok => ?_
  show Run _ Vc45.body (.fin (finQ Vc45.res _)) _ _
  unfold Vc45
  simp (config := {maxSteps := 3000000}) only [go_sem, Nat.reduceEqDiff, ↓reduceIte, reduceCtorEq, dataV, pfs_len]
  refine run_loop [4, 5, 13, 14, 15, 16, 17, 18, 19, 20, 21, 22, 23, 24, 25] (fun B s => ∃ i : Nat, i ≤ L.length ∧ B 13 = .sc (.int .i64 i) ∧ s = st) (fun B _ => L.length - vnat (B 13)) rfl ?_ ?_
  · simp (config := {maxSteps := 3000000}) only [go_sem, ↓reduceIte]
    exact ⟨0, by omega, rfl⟩
  · rintro B s ⟨i, hi, h13, rfl⟩
    by_cases c1 : i < L.length
    · have hg : (pfs L)[i]? = some (.agg [.sc (.int .u32 L[i]!.1), .sc (.int .i64 L[i]!.2)]) := pfs_get (bang_get c1)
      simp (config := {maxSteps := 3000000}) only [go_sem, Nat.reduceEqDiff, Nat.reduceAdd, Nat.reduceLeDiff, Int.reduceNeg, ↓reduceIte, reduceCtorEq, Nat.reduceBEq, h13, h1, hg, rowc_get c1, rowc_len, m1, pval, fitsV, eqV, Bool.and_self, decide_eq_true (show (i : Int) < (L.length : Int) by omega)]
      repeat (apply And.intro; focus (first | omega | (simp; done)))
      exact ⟨⟨i + 1, by omega, by simp⟩, by omega⟩
    · simp (config := {maxSteps := 3000000}) only [go_sem, Nat.reduceEqDiff, ↓reduceIte, Nat.reduceBEq, h13, decide_eq_false (show ¬ (i : Int) < (L.length : Int) by omega)]
      exact ⟨_, _, Wk.refl _, hwf.weak, rfl, rfl⟩
set_option maxRecDepth 100000 in
theorem eqPfx2_v {t1 t2 : Tk} {L : List Pfx} (hl : L.length < 4611686018427387904) :
    VCalls Try.prog 45 [.sl t1 (pfs L), .sl t2 (pfs L)] st fun r s => r = .sc (.bool true) ∧ st = s := by
  refine vcalls_enter vc45 (Nat.le_of_ble_eq_true rfl) fun hwf hok => ?_
  show Run _ Vc45.body (.fin (finQ Vc45.res _)) _ _
  unfold Vc45
  simp (config := {maxSteps := 3000000}) only [go_sem, Nat.reduceEqDiff, ↓reduceIte, reduceCtorEq, pfs_len]
  refine run_loop [4, 5, 13, 14, 15, 16, 17, 18, 19, 20, 21, 22, 23, 24, 25] (fun B s => ∃ i : Nat, i ≤ L.length ∧ B 13 = .sc (.int .i64 i) ∧ s = st) (fun B _ => L.length - vnat (B 13)) rfl ?_ ?_
  · simp (config := {maxSteps := 3000000}) only [go_sem, ↓reduceIte]
    exact ⟨0, by omega, rfl⟩
  · rintro B s ⟨i, hi, h13, rfl⟩
    by_cases c1 : i < L.length
    · have hg : (pfs L)[i]? = some (.agg [.sc (.int .u32 L[i]!.1), .sc (.int .i64 L[i]!.2)]) := pfs_get (bang_get c1)
      simp (config := {maxSteps := 3000000}) only [go_sem, Nat.reduceEqDiff, Nat.reduceAdd, Nat.reduceLeDiff, Int.reduceNeg, ↓reduceIte, reduceCtorEq, Nat.reduceBEq, h13, hg, fitsV, eqV, Bool.and_self, decide_eq_true (show (i : Int) < (L.length : Int) by omega)]
      repeat (apply And.intro; focus (first | omega | (simp; done)))
      exact ⟨⟨i + 1, by omega, by simp⟩, by omega⟩
    · simp (config := {maxSteps := 3000000}) only [go_sem, Nat.reduceEqDiff, ↓reduceIte, Nat.reduceBEq, h13, decide_eq_false (show ¬ (i : Int) < (L.length : Int) by omega)]
      exact ⟨_, _, Wk.refl _, hwf.weak, rfl, rfl⟩
end
/-- The example's table. -/
theorem find_ex {v : V} (h : RFindQ [(((167772160 : Int), (8 : Int)), (1 : Int)), ((167772160, 9), 2)] 167772161 v) : v = .tup [.agg [.sc (.int .u32 167772160), .sc (.int .i64 9)], .sc (.int .i64 2), .sc (.bool true)] := by
  have e9 : aget (cutP 167772161 9) [(((167772160 : Int), (8 : Int)), (1 : Int)), ((167772160, 9), 2)] = some 2 := by decide
  rcases h with ⟨q, to, q0, q1, q2, q3, rfl⟩ | ⟨q3, rfl⟩
  · have hq : q = 9 := by
      rcases Int.lt_trichotomy q 9 with c | c | c
      · have := q3 9 c (by omega)
        rw [e9] at this; cases this
      · exact c
      · have hm := aget_mem q2
        simp only [cutP, List.mem_cons, Prod.mk.injEq, List.not_mem_nil, or_false] at hm
        omega
    subst hq
    rw [e9] at q2
    cases q2
    rfl
  · have := q3 9 (by omega) (by omega)
    rw [e9] at this; cases this
section
variable {st : St}
set_option maxRecDepth 100000 in
set_option maxHeartbeats 4000000 in
theorem alive52_v : VCalls Try.prog 32 [] st fun r s => r = .sc (.bool true) ∧ st = s := by
  refine vcalls_enter vc32 (Nat.le_of_ble_eq_true rfl) fun hwf hok => ?_
  show Run _ Vc32.body (.fin (finQ Vc32.res _)) _ _
  unfold Vc32
  have r8 : rightB 167772160 8 = true := by decide
  have r9 : rightB 167772160 9 = true := by decide
  simp (config := {maxSteps := 3000000}) only [go_sem, Nat.reduceEqDiff, Nat.reduceAdd, Nat.reduceLT, Nat.reduceLeDiff, ↓reduceIte, reduceCtorEq]
  intro b hb
  have N0 : RtB (st.put b [.sc (.map none)]) b none [] [] 0 := ⟨put_box_same, fun _ => rfl, fun mb e => by cases e⟩
  have W0 := weak_put (cs := [.sc (.map none)]) hwf.weak hb
  refine Cal.mk (rtPut_v N0 (p := (167772160, 8)) (by omega) (by omega)) ?_
  rintro _ s1 hq -
  rcases hq with ⟨q1, _⟩ | ⟨_, _, q1, _⟩ | ⟨_, _, rfl, mb, X, es', c', hmb, rfl, Q1⟩
  · rw [r8] at q1; cases q1
  · simp at q1
  have hm1 : st.sz ≤ mb := by
    rcases hmb with e | ⟨_, k⟩
    · cases e
    · have := W0.sz; omega
  have W1 := weak_put (b := b) (cs := [.sc (.map (some mb))]) (weak_put (b := mb) (cs := X) W0 hm1) hb
  generalize ((st.put b [.sc (.map none)]).put mb X).put b [.sc (.map (some mb))] = s1 at Q1 W1 ⊢
  simp (config := {maxSteps := 3000000}) only [go_sem, Nat.reduceEqDiff, Nat.reduceAdd, Nat.reduceLT, Nat.reduceLeDiff, ↓reduceIte]
  refine Cal.mk (rtPut_v Q1 (p := (167772160, 9)) (by omega) (by omega)) ?_
  rintro _ s2 hq -
  rcases hq with ⟨q1, _⟩ | ⟨_, _, q1, _⟩ | ⟨_, _, rfl, mb2, X2, es2, c2, hmb2, rfl, Q2⟩
  · rw [r9] at q1; cases q1
  · simp [aset] at q1
  have hm2 : mb2 = mb := by
    rcases hmb2 with e | ⟨e, _⟩
    · cases e; rfl
    · cases e
  subst hm2
  have W2 := weak_put (b := b) (cs := [.sc (.map (some mb2))]) (weak_put (b := mb2) (cs := X2) W1 hm1) hb
  generalize (s1.put mb2 X2).put b [.sc (.map (some mb2))] = s2 at Q2 W2 ⊢
  simp (config := {maxSteps := 3000000}) only [go_sem, Nat.reduceEqDiff, ↓reduceIte]
  refine Cal.mk (rtFind_v Q2 (a := 167772161) (by omega) (by omega)) ?_
  rintro v _ ⟨hf, rfl⟩ -
  have hv := find_ex hf
  subst hv
  simp (config := {maxSteps := 3000000}) only [go_sem, Nat.reduceEqDiff, Nat.reduceAdd, Nat.reduceLT, Nat.reduceLeDiff, ↓reduceIte]
  intro t ht
  exact ⟨_, _, Wk.refl _, weak_put W2 (by have := W2.sz; omega), rfl, rfl⟩
end
end
section
open Go

/-- A call of the laws'. -/
structure OpR where
  kind : Int
  to : Int
  a : Int
  b : Int
def OpR.v (o : OpR) : V := .agg [.sc (.int .i64 o.kind), .sc (.int .i64 o.to), .sc (.int .u32 o.a), .sc (.int .i64 o.b)]
def opsR (l : List OpR) : List V := l.map OpR.v
theorem opr_len (l : List OpR) : (opsR l).length = l.length := by simp [opsR]
theorem opr_get {l : List OpR} {i : Nat} {o : OpR} (h : l[i]? = some o) : (opsR l)[i]? = some (.agg [.sc (.int .i64 o.kind), .sc (.int .i64 o.to), .sc (.int .u32 o.a), .sc (.int .i64 o.b)]) := by simp [opsR, h, OpR.v]
/-- Those of 32 bits that lie ahead. -/
def aheadL (n : Nat) : List Rt := (List.range n).map fun i : Nat => ((3355443200 + (i : Int), 32), 0)
theorem ahead_len (n : Nat) : (aheadL n).length = n := by simp [aheadL]
theorem ahead_succ (n : Nat) : aheadL (n + 1) = aheadL n ++ [((3355443200 + (n : Int), 32), 0)] := by simp [aheadL, List.range_succ]
theorem ahead_none (n : Nat) : aget ((3355443200 + (n : Int), 32) : Pfx) (aheadL n) = none := by
  rw [aget_none]
  intro p hp e
  simp only [aheadL, List.mem_map, List.mem_range] at hp
  obtain ⟨i, hi, rfl⟩ := hp
  simp only [Prod.mk.injEq] at e
  omega
theorem right32 (a : Int) : rightB a 32 = true := by
  unfold rightB
  rw [decide_eq_true_eq, show sizeN 32 = 1 from rfl]
  exact ⟨by omega, by omega, Int.emod_one a⟩
theorem need_map {T l : List Rt} : (l.filter fun x => needB T x.1).map (·.1) = (l.map (·.1)).filter (needB T) := by
  rw [List.filter_map]
  rfl
theorem RO.sealed {k : Nat} {base s : St} {v : V} {L : List V} (h : RO k base s v L) : ∃ tk, v = .sl tk L := h.sl
theorem RFindQ.form {T : List Rt} {a : Int} {v : V} (h : RFindQ T a v) : ∃ (x1 x2 to : Int) (ok : Bool), v = .tup [.agg [.sc (.int .u32 x1), .sc (.int .i64 x2)], .sc (.int .i64 to), .sc (.bool ok)] := by
  rcases h with ⟨q, to, _, _, _, _, rfl⟩ | ⟨_, rfl⟩
  · exact ⟨_, _, _, _, rfl⟩
  · exact ⟨_, _, _, _, rfl⟩
section
variable {st : St} {ahead a : Int} {C : List OpR} {t2 : Tk}
set_option maxRecDepth 100000 in
set_option maxHeartbeats 16000000 in
theorem routePlays_v (a0 : 0 ≤ a) (a1 : a < 4294967296) (hC : ∀ o ∈ C, 0 ≤ o.a ∧ o.a < 4294967296) :
    VCalls Try.prog 7 [.sc (.int .i64 ahead), .sl t2 (opsR C), .sc (.int .u32 a)] st fun r s => r = .sc (.bool true) ∧ st = s := by
  have bT : (true == true) = true := rfl
  have bF : (false == false) = true := rfl
  refine vcalls_enter vc7 (Nat.le_of_ble_eq_true rfl) fun hwf hok => ?_
  show Run _ Vc7.body (.fin (finQ Vc7.res _)) _ _
  unfold Vc7
  have hcm := vlen_max (hok (.sl t2 (opsR C)) (by simp))
  rw [opr_len] at hcm
  by_cases g1 : ahead < 0
  · simp (config := {maxSteps := 3000000}) only [go_sem, Nat.reduceEqDiff, ↓reduceIte, reduceCtorEq, decide_eq_true g1]
    exact ⟨_, _, Wk.refl _, hwf.weak, rfl, rfl⟩
  by_cases g2 : 200 < ahead
  · simp (config := {maxSteps := 3000000}) only [go_sem, Nat.reduceEqDiff, ↓reduceIte, reduceCtorEq, decide_eq_false g1, decide_eq_true g2]
    exact ⟨_, _, Wk.refl _, hwf.weak, rfl, rfl⟩
  by_cases g3 : 60 < C.length
  · simp (config := {maxSteps := 3000000}) only [go_sem, Nat.reduceEqDiff, ↓reduceIte, reduceCtorEq, opr_len, decide_eq_false g1, decide_eq_false g2, decide_eq_true (show (60 : Int) < (C.length : Int) by omega)]
    exact ⟨_, _, Wk.refl _, hwf.weak, rfl, rfl⟩
  obtain ⟨n, rfl⟩ : ∃ n : Nat, ahead = n := ⟨ahead.toNat, by omega⟩
  simp (config := {maxSteps := 3000000}) only [go_sem, Nat.reduceEqDiff, ↓reduceIte, reduceCtorEq, opr_len, decide_eq_false g1, decide_eq_false g2, decide_eq_false (show ¬ (60 : Int) < (C.length : Int) by omega)]
  intro b hb
  refine run_loop [8, 9, 10, 34, 35, 36, 37, 38, 39, 40, 41, 42, 43, 44, 45, 46, 47, 48, 49, 50] (fun B s => ∃ (i : Nat) (v : V) (om : Option Nat), i ≤ n ∧ B 9 = .sc (.int .i64 i) ∧ B 8 = v ∧ RO 3 st s v (rts (aheadL i)) ∧ RtS st s b om (aheadL i)) (fun B _ => n - vnat (B 9)) rfl ?_ ?_
  · exact ⟨0, .sl .nil [], none, by omega, rfl, rfl, (RO.nil hwf.weak hwf.lt).put hb, ⟨RtI.new (cs := []) put_box_same, weak_put hwf.weak hb, hwf.lt.put, hb, fun mb e => by cases e⟩⟩
  · rintro B s ⟨i, v, om, hi, h9, h8, R, hS⟩
    by_cases c1 : i < n
    · have e0 : ((3355443200 : Int) + i) % 4294967296 = 3355443200 + i := Int.emod_eq_of_lt (by omega) (by omega)
      simp (config := {maxSteps := 3000000}) only [go_sem, Nat.reduceEqDiff, Nat.reduceAdd, Nat.reduceLT, Nat.reduceLeDiff, Int.reduceNeg, ↓reduceIte, reduceCtorEq, Nat.reduceBEq, h9, e0, decide_eq_true (show (i : Int) < (n : Int) by omega)]
      repeat (apply And.intro; focus (first | omega | (simp; done)))
      intro q hq
      have sq : st.sz ≤ q := by have := R.weak.sz; omega
      have S1 := hS.put (cs := [.sc (.int .u32 (3355443200 + i)), .sc (.int .i64 32)]) hq
      have R1 := R.put (cs := [.sc (.int .u32 (3355443200 + i)), .sc (.int .i64 32)]) sq
      have hbq : (s.put q [.sc (.int .u32 (3355443200 + i)), .sc (.int .i64 32)]).box q = some [.sc (.int .u32 (3355443200 + i)), .sc (.int .i64 32)] := put_box_same
      have bq : b ≠ q := by
        obtain ⟨T, es, c, h1, _⟩ := hS.rt.tab
        have := (h1.lts hS.lt).1; omega
      have mq : ∀ mb, om = some mb → mb ≠ q := fun mb e => by
        obtain ⟨T, es, c, h1, _⟩ := hS.rt.tab
        have := (h1.lts hS.lt).2 mb e; omega
      have ltq : q < (s.put q [.sc (.int .u32 (3355443200 + i)), .sc (.int .i64 32)]).sz := by simp only [put_sz]; omega
      generalize s.put q [.sc (.int .u32 (3355443200 + i)), .sc (.int .i64 32)] = s1 at S1 R1 hbq ltq ⊢
      refine Cal.mk (rtPutI_v S1.rt (p := (3355443200 + (i : Int), 32)) (by omega) (by omega)) ?_
      rintro _ s2 ⟨l', om', hI, hT, hv⟩ -
      rcases hv with ⟨q1, _⟩ | ⟨_, _, q1, _⟩ | ⟨_, _, rfl, rfl⟩
      · rw [right32] at q1; cases q1
      · rw [ahead_len] at q1; omega
      rw [adel_same (ahead_none i), ← ahead_succ] at hI
      have S2 := S1.turn hT hI
      have R2 := hT.ro S1 R1
      have hbq2 : s2.box q = some [.sc (.int .u32 (3355443200 + i)), .sc (.int .i64 32)] := by
        rcases hT with ⟨rfl, _⟩ | ⟨mb, X, k1, k2, rfl⟩
        · exact hbq
        · have hmq : q ≠ mb := by
            rcases k1 with e | ⟨e, k⟩
            · exact (mq mb e).symm
            · omega
          rw [put_box_ne bq.symm, put_box_ne hmq]; exact hbq
      obtain ⟨tv, rfl⟩ := R2.sl
      simp (config := {maxSteps := 3000000}) only [go_sem, Nat.reduceEqDiff, Nat.reduceAdd, Nat.reduceLT, Nat.reduceLeDiff, ↓reduceIte, Nat.reduceBEq, hbq2, h8]
      refine App.mk (bytes := 24) (l := rts (aheadL i)) (ys := rts [((3355443200 + (i : Int), 32), 0)]) R2.own (allSz_rts _) (by simp only [rts_len, ahead_len, List.length_cons, List.length_nil, maxLen]; omega) (by simp only [rts_len, ahead_len, List.length_cons, List.length_nil]; omega) ?_
      intro r3 s3 k1 k2
      have R3 := R2.app k1 k2
      rw [rts_append, ← ahead_succ] at R3
      simp (config := {maxSteps := 3000000}) only [go_sem, Nat.reduceEqDiff, Int.reduceNeg, ↓reduceIte, Nat.reduceBEq, h9]
      repeat (apply And.intro; focus (first | omega | (simp; done)))
      exact ⟨⟨i + 1, r3, om', by omega, by simp, rfl, R3, ⟨S2.rt.box' k2.box, R3.weak, R3.lt, S2.fb, S2.fm⟩⟩, by omega⟩
    · obtain rfl : i = n := by omega
      obtain ⟨tv, rfl⟩ := R.sl
      clear R
      simp (config := {maxSteps := 3000000}) only [go_sem, Nat.reduceEqDiff, ↓reduceIte, reduceCtorEq, Nat.reduceBEq, h9]
      refine run_loop [6, 8, 11, 12, 13, 51, 52, 53, 54, 55, 56, 57, 58, 59, 60, 61, 62, 63, 64, 65, 66, 67, 68, 69, 70, 71, 72, 73, 74, 75, 76, 77, 78, 79, 80, 81, 82] (fun D s' => ∃ (j : Nat) (tk : Tk) (om : Option Nat) (l : List Rt), j ≤ C.length ∧ l.length ≤ 200 + j ∧ D 11 = .sc (.int .i64 j) ∧ D 8 = .sl tk (rts l) ∧ RtS st s' b om l) (fun D _ => C.length - vnat (D 11)) rfl ?_ ?_
      · exact ⟨0, tv, om, aheadL i, by omega, by rw [ahead_len]; omega, rfl, h8, hS⟩
      · clear hS
        rintro D s' ⟨j, tk, om, l, hj, hll, h11, h8, hS⟩
        by_cases c2 : j < C.length
        · obtain ⟨o, ho⟩ := get_ex c2
          obtain ⟨o0, o1⟩ := hC o (List.mem_of_getElem? ho)
          by_cases c3 : o.kind < 0
          · simp (config := {maxSteps := 3000000}) only [go_sem, Nat.reduceEqDiff, Nat.reduceAdd, ↓reduceIte, Nat.reduceBEq, h11, opr_len, opr_get ho, decide_eq_true (show (j : Int) < (C.length : Int) by omega), decide_eq_true c3]
            repeat (apply And.intro; focus (first | omega | (simp; done)))
            exact ⟨_, _, Wk.refl _, hS.weak, rfl, rfl⟩
          simp (config := {maxSteps := 3000000}) only [go_sem, Nat.reduceEqDiff, Nat.reduceAdd, Nat.reduceLeDiff, ↓reduceIte, Nat.reduceBEq, h11, h8, opr_len, opr_get ho, decide_eq_true (show (j : Int) < (C.length : Int) by omega), decide_eq_false c3]
          repeat (apply And.intro; focus (first | omega | (simp; done)))
          refine Cal.mk (step52_v (p := (o.a, o.b)) hS.rt (by omega) (by omega) o0 o1) ?_
          rintro _ s2 ⟨l', om', rfl, hI, hl', hT⟩ -
          have S2 := hS.turn hT hI
          simp (config := {maxSteps := 3000000}) only [go_sem, Nat.reduceEqDiff, ↓reduceIte, Nat.reduceBEq]
          refine Cal.mk (rtLenI_v hI) ?_
          rintro _ _ ⟨rfl, rfl⟩ -
          simp (config := {maxSteps := 3000000}) only [go_sem, Nat.reduceEqDiff, Int.reduceNeg, ↓reduceIte, Nat.reduceBEq, h11, rts_len]
          repeat (apply And.intro; focus (first | omega | (simp; done)))
          exact ⟨⟨j + 1, .no, om', l', by omega, by omega, by simp, rfl, S2⟩, by omega⟩
        · obtain rfl : j = C.length := by omega
          simp (config := {maxSteps := 3000000}) only [go_sem, Nat.reduceEqDiff, ↓reduceIte, Nat.reduceBEq, h11, opr_len]
          obtain ⟨T, es, c, h1, h2⟩ := hS.rt.tab
          have hn := hS.rt.nd
          have hR := hS.rt.right
          refine Cal.mk (rtFind_v h1 a0 a1) ?_
          rintro v _ ⟨hf, rfl⟩ -
          have hlb := hll
          obtain ⟨x1, x2, to, ok, hv⟩ := RFindQ.form hf
          rw [hv] at hf ⊢
          clear hv
          simp (config := {maxSteps := 3000000}) only [go_sem, Nat.reduceEqDiff, Nat.reduceAdd, Nat.reduceLT, Nat.reduceLeDiff, ↓reduceIte, Nat.reduceBEq]
          intro t ht
          have st' : st.sz ≤ t := by have := hS.weak.sz; omega
          have S3 := hS.put (cs := [.sc (.int .u32 x1), .sc (.int .i64 x2)]) ht
          have hbt : (s'.put t [.sc (.int .u32 x1), .sc (.int .i64 x2)]).box t = some [.sc (.int .u32 x1), .sc (.int .i64 x2)] := put_box_same
          have h1' : RtB (s'.put t [.sc (.int .u32 x1), .sc (.int .i64 x2)]) b om T es c := by
            obtain ⟨k1, k2⟩ := h1.lts hS.lt
            exact h1.put (by omega) (fun mb e => by have := k2 mb e; omega)
          simp (config := {maxSteps := 3000000}) only [go_sem, h8]
          generalize s'.put t [.sc (.int .u32 x1), .sc (.int .i64 x2)] = s3 at S3 hbt h1' ⊢
          refine Cal.mk (longest52_v hR a0 a1) ?_
          rintro _ _ ⟨⟨r, hL, rfl⟩, rfl⟩ -
          rcases find_long hL h2 hn hR a0 hf with ⟨rfl, hv⟩ | ⟨i, x, rfl, hx, hv⟩
          case' inl =>
            simp only [V.tup.injEq, List.cons.injEq, V.agg.injEq, V.sc.injEq, Value.int.injEq, Value.bool.injEq, true_and, and_true] at hv
            obtain ⟨⟨rfl, rfl⟩, rfl, rfl⟩ := hv
            have z0 : (!((false : Bool) == false)) = false := rfl
            simp (config := {maxSteps := 3000000}) only [go_sem, Nat.reduceEqDiff, Nat.reduceAdd, Nat.reduceLeDiff, Int.reduceLE, Int.reduceNeg, ↓reduceIte, hbt, z0, fitsV, eqV, Bool.and_self]
          case' inr =>
            simp only [V.tup.injEq, List.cons.injEq, V.agg.injEq, V.sc.injEq, Value.int.injEq, Value.bool.injEq, true_and, and_true] at hv
            obtain ⟨⟨rfl, rfl⟩, rfl, rfl⟩ := hv
            have z0 : (!((true : Bool) == true)) = false := rfl
            simp (config := {maxSteps := 3000000}) only [go_sem, Nat.reduceEqDiff, Nat.reduceAdd, Nat.reduceLeDiff, ↓reduceIte, Nat.reduceBEq, hbt, h8, z0, rts_get hx, fitsV, eqV, Bool.and_self, decide_eq_true (show (0 : Int) ≤ (i : Int) by omega)]
            repeat (apply And.intro; focus (first | omega | (simp; done)))
          all_goals
            refine run_loop [18, 19, 20, 131, 132, 133, 134, 135, 136, 137, 138, 139, 140, 141, 142, 143, 144, 145, 146, 147, 148, 149, 150, 151, 152, 153, 154, 155, 156, 157, 158, 159, 160, 161, 162, 163, 164, 165, 166, 167, 168, 169, 170, 171, 172] (fun E s4 => ∃ (k : Nat) (v : V), k ≤ l.length ∧ E 19 = .sc (.int .i64 k) ∧ E 18 = v ∧ RO 3 s3 s4 v (rts ((l.take k).filter fun x => needB T x.1))) (fun E _ => l.length - vnat (E 19)) rfl ?_ ?_
            · exact ⟨0, .sl .nil [], by omega, rfl, rfl, RO.nil S3.lt.weak S3.lt⟩
            · rintro E s4 ⟨k, v, hk, h19, h18, R⟩
              have hfl : ((l.take k).filter fun x => needB T x.1).length ≤ k := Nat.le_trans (List.length_filter_le _ _) (by simp; omega)
              obtain ⟨tv, rfl⟩ := R.sl
              by_cases c4 : k < l.length
              · obtain ⟨y, hy⟩ := get_ex c4
                have hym := List.mem_of_getElem? hy
                obtain ⟨y0, y1, _⟩ := hR y hym
                have htk : (l.take (k + 1)).filter (fun x => needB T x.1) = (l.take k).filter (fun x => needB T x.1) ++ if needB T y.1 = true then [y] else [] := by
                  rw [List.take_add_one, hy, List.filter_append]
                  congr 1
                  cases e : needB T y.1 <;> simp [e]
                simp (config := {maxSteps := 3000000}) only [go_sem, Nat.reduceEqDiff, Nat.reduceAdd, Int.reduceNeg, ↓reduceIte, Nat.reduceBEq, h19, h8, rts_len, rts_get hy, decide_eq_true (show (k : Int) < (l.length : Int) by omega)]
                repeat (apply And.intro; focus (first | omega | (simp; done)))
                refine Cal.mk (longest52_v hR y0 y1) ?_
                rintro _ _ ⟨⟨r2, hL2, rfl⟩, rfl⟩ -
                rcases need_long hym hL2 h2 hn hR with ⟨rfl, hnb⟩ | ⟨i2, z, rfl, hz, hnb⟩
                · rw [hnb, if_neg (by simp), List.append_nil] at htk
                  simp (config := {maxSteps := 3000000}) only [go_sem, Nat.reduceEqDiff, Int.reduceLE, Int.reduceNeg, ↓reduceIte, Nat.reduceBEq, h19, h18]
                  repeat (apply And.intro; focus (first | omega | (simp; done)))
                  exact ⟨⟨k + 1, _, by omega, by simp, rfl, by rw [htk]; exact R⟩, by omega⟩
                · by_cases c5 : z.2 = y.2
                  · rw [hnb, decide_eq_true c5, if_pos rfl] at htk
                    simp (config := {maxSteps := 3000000}) only [go_sem, Nat.reduceEqDiff, Nat.reduceAdd, Nat.reduceLeDiff, Int.reduceNeg, ↓reduceIte, Nat.reduceBEq, h19, h18, h8, rts_get hy, rts_get hz, decide_eq_true (show (0 : Int) ≤ (i2 : Int) by omega), decide_eq_true c5]
                    repeat (apply And.intro; focus (first | omega | (simp; done)))
                    refine App.mk (bytes := 24) (l := rts ((l.take k).filter fun x => needB T x.1)) (ys := rts [y]) R.own (allSz_rts _) (by simp only [rts_len, List.length_cons, List.length_nil, maxLen]; omega) (by simp only [rts_len, List.length_cons, List.length_nil]; omega) ?_
                    intro r5 s5 k5 k6
                    have R2 := R.app k5 k6
                    rw [rts_append, ← htk] at R2
                    simp (config := {maxSteps := 3000000}) only [go_sem, Nat.reduceEqDiff, Int.reduceNeg, ↓reduceIte, Nat.reduceBEq, h19]
                    repeat (apply And.intro; focus (first | omega | (simp; done)))
                    exact ⟨⟨k + 1, r5, by omega, by simp, rfl, R2⟩, by omega⟩
                  · rw [hnb, decide_eq_false c5, if_neg (by simp), List.append_nil] at htk
                    simp (config := {maxSteps := 3000000}) only [go_sem, Nat.reduceEqDiff, Nat.reduceAdd, Int.reduceNeg, ↓reduceIte, Nat.reduceBEq, h19, h18, h8, rts_get hy, rts_get hz, decide_eq_true (show (0 : Int) ≤ (i2 : Int) by omega), decide_eq_false c5]
                    repeat (apply And.intro; focus (first | omega | (simp; done)))
                    exact ⟨⟨k + 1, _, by omega, by simp, rfl, by rw [htk]; exact R⟩, by omega⟩
              · obtain rfl : k = l.length := by omega
                rw [List.take_length] at R
                simp (config := {maxSteps := 3000000}) only [go_sem, Nat.reduceEqDiff, Int.reduceNeg, ↓reduceIte, Nat.reduceBEq, h19, h8, rts_len]
                refine Cal.mk (rtAllI_v (S3.rt.of R.weak) (by omega)) ?_
                rintro _ s5 ⟨ob, M, sp, m1, m2, rfl, RB⟩ -
                have hMl : M.length = l.length := by rw [m1.length_eq]; simp
                simp (config := {maxSteps := 3000000}) only [go_sem, Nat.reduceEqDiff, Int.reduceNeg, ↓reduceIte, Nat.reduceBEq, h8]
                refine Cal.mk (rising52_v (by omega)) ?_
                rintro _ _ ⟨⟨M2, m3, m4, rfl⟩, rfl⟩ -
                have e2 : M2 = M := sortP_uniq m3 m1 m4 m2
                subst e2
                simp (config := {maxSteps := 3000000}) only [go_sem, Nat.reduceEqDiff, Int.reduceNeg, ↓reduceIte]
                refine Cal.mk (eqPfx1_v RB.box RB.mono (by omega)) ?_
                rintro _ _ ⟨rfl, rfl⟩ -
                have W5 : s3.weak s5 := weak_tr R.weak RB.weak
                have h1'' : RtB s5 b om T es c := ⟨(W5.box b _ h1'.box).1, h1'.nil, fun mb e => ⟨(W5.box mb _ (h1'.map mb e).1).1, (h1'.map mb e).2⟩⟩
                simp (config := {maxSteps := 3000000}) only [go_sem, Nat.reduceEqDiff, Int.reduceNeg, ↓reduceIte, Nat.reduceBEq]
                refine Cal.mk (rtNeedI_v h1'' h2 hR (by omega)) ?_
                rintro _ _ ⟨⟨M3, m5, m6, rfl⟩, rfl⟩ -
                simp (config := {maxSteps := 3000000}) only [go_sem, Nat.reduceEqDiff, Int.reduceNeg, ↓reduceIte, Nat.reduceBEq, h18]
                refine Cal.mk (rising52_v (by have := List.length_filter_le (fun x : Rt => needB T x.1) l; omega)) ?_
                rintro _ _ ⟨⟨M4, m7, m8, rfl⟩, rfl⟩ -
                have e4 : M4 = M3.filter (needB T) := by
                  refine sortP_uniq m7 ?_ m8 (m6.sublist List.filter_sublist)
                  rw [List.take_length, need_map]
                  exact m5.filter _
                subst e4
                simp (config := {maxSteps := 3000000}) only [go_sem, Nat.reduceEqDiff, Int.reduceNeg, ↓reduceIte]
                refine Cal.mk (eqPfx2_v (by have := List.length_filter_le (needB T) M3; have := m5.length_eq; simp at this; omega)) ?_
                rintro _ _ ⟨rfl, rfl⟩ -
                simp (config := {maxSteps := 3000000}) only [go_sem, Nat.reduceEqDiff, Int.reduceNeg, ↓reduceIte]
                refine Cal.mk alive52_v ?_
                rintro _ _ ⟨rfl, rfl⟩ -
                simp (config := {maxSteps := 3000000}) only [go_sem, Nat.reduceEqDiff, Int.reduceNeg, ↓reduceIte]
                exact ⟨_, _, Wk.refl _, weak_tr S3.weak W5, rfl, rfl⟩
end
end
section
open Go

/-- Cut twice is cut once. -/
theorem cut_cut {a q r : Int} (h : q ≤ r) (h0 : r ≤ 32) : cutP (cutP a r).1 q = cutP a q := by
  unfold cutP
  refine Prod.ext ?_ rfl
  simp only
  have hd := sizeN_dvd r q h
  have hp := sizeN_pos q
  have hr := sizeN_pos r
  obtain ⟨k, hk⟩ := hd
  have h1 : (a - a % sizeN r) % sizeN q = a % sizeN q - a % sizeN r := by
    have e1 : a % sizeN q % sizeN r = a % sizeN r := Int.emod_emod_of_dvd a ⟨k, hk⟩
    have h2 := Int.emod_nonneg a (show sizeN q ≠ 0 by omega)
    have h3 := Int.emod_lt_of_pos a hp
    have h4 := Int.emod_nonneg a (show sizeN r ≠ 0 by omega)
    have h5 : a % sizeN r ≤ a % sizeN q := by
      rw [← e1]
      have h6 := Int.emod_lt_of_pos (a % sizeN q) hr
      by_cases c : a % sizeN q < sizeN r
      · rw [Int.emod_eq_of_lt h2 c]; exact Int.le_refl _
      · omega
    rw [Int.sub_emod, ← Int.sub_emod_emod]
    rw [Int.emod_emod, Int.sub_emod_emod, Int.emod_eq_of_lt (by omega) (by omega)]
  rw [h1]
  omega
theorem upN_spec {T : List Rt} {a to : Int} : ∀ {n : Nat}, upN T a n = some to → ∃ q : Nat, q < n ∧ aget (cutP a q) T = some to ∧ ∀ r : Int, q < r → r < n → aget (cutP a r) T = none
  | 0, h => by cases h
  | n + 1, h => by
    simp only [upN] at h
    cases e : aget (cutP a n) T with
    | some x =>
      rw [e] at h
      exact ⟨n, by omega, by rw [e]; exact h, fun r h1 h2 => by omega⟩
    | none =>
      rw [e] at h
      obtain ⟨q, h1, h2, h3⟩ := upN_spec h
      refine ⟨q, by omega, h2, fun r h4 h5 => ?_⟩
      by_cases c : r = n
      · rw [c]; exact e
      · exact h3 r h4 (by omega)
/-- Without one that is needless each address lies where it did. -/
theorem find_less {T : List Rt} {p : Pfx} {a : Int} {v v' : V} (hn : (T.map (·.1)).Nodup) (hR : RtR T) (hm : p ∈ T.map (·.1)) (hp : needB T p = true) (h : RFindQ T a v) (h' : RFindQ (adel p T) a v') :
    ∃ (x1 x2 y1 y2 to : Int) (ok : Bool), v = .tup [.agg [.sc (.int .u32 x1), .sc (.int .i64 x2)], .sc (.int .i64 to), .sc (.bool ok)] ∧ v' = .tup [.agg [.sc (.int .u32 y1), .sc (.int .i64 y2)], .sc (.int .i64 to), .sc (.bool ok)] := by
  have hd : ∀ k, aget k (adel p T) = if k = p then none else aget k T := fun k => aget_del hn
  obtain ⟨x, hx, rfl⟩ := List.mem_map.1 hm
  obtain ⟨k1, k2, k3, k4⟩ := hR.bits x hx
  have hg := aget_of_mem hn hx
  rcases h with ⟨q, to, q0, q1, q2, q3, rfl⟩ | ⟨q3, rfl⟩
  · by_cases c : cutP a q = x.1
    · -- it is the longest one: the next one lies at the same place
      have eb : x.1.2 = q := by rw [← c]; rfl
      rw [c, hg] at q2
      cases q2
      unfold needB at hp
      cases hu : upN T x.1.1 x.1.2.toNat with
      | none => rw [hu] at hp; cases hp
      | some to' =>
        rw [hu, hg] at hp
        have e := of_decide_eq_true hp
        simp only [Option.getD_some] at e
        obtain ⟨r, r1, r2, r3⟩ := upN_spec hu
        have hcut : ∀ j : Int, j ≤ q → cutP x.1.1 j = cutP a j := fun j hj => by
          rw [← c]; exact cut_cut hj q1
        rw [hcut r (by omega)] at r2
        rcases h' with ⟨q', to2, p0, p1, p2, p3, rfl⟩ | ⟨p3, rfl⟩
        · rw [hd] at p2
          split at p2
          · cases p2
          · rename_i hne
            have hqr : q' = r := by
              rcases Int.lt_trichotomy q' r with c1 | c1 | c1
              · have := p3 r c1 (by omega)
                rw [hd, if_neg (fun e2 => by have := congrArg Prod.snd e2; simp only [cutP] at this; omega), r2] at this; cases this
              · exact c1
              · by_cases c2 : q' < q
                · have := r3 q' c1 (by omega)
                  rw [hcut q' (by omega), p2] at this; cases this
                · by_cases c3 : q' = q
                  · rw [c3] at hne; exact absurd c hne
                  · rw [q3 q' (by omega) p1] at p2; cases p2
            rw [hqr, r2] at p2
            cases p2
            exact ⟨_, _, _, _, _, _, rfl, by rw [e]⟩
        · have := p3 r (by omega) (by omega)
          rw [hd, if_neg (fun e2 => by have := congrArg Prod.snd e2; simp only [cutP] at this; omega), r2] at this; cases this
    · rcases h' with ⟨q', to2, p0, p1, p2, p3, rfl⟩ | ⟨p3, rfl⟩
      · rw [hd] at p2
        split at p2
        · cases p2
        · have hqr : q' = q := by
            rcases Int.lt_trichotomy q' q with c1 | c1 | c1
            · have := p3 q c1 q1
              rw [hd, if_neg c, q2] at this; cases this
            · exact c1
            · rw [q3 q' c1 p1] at p2; cases p2
          rw [hqr, q2] at p2
          cases p2
          exact ⟨_, _, _, _, _, _, rfl, rfl⟩
      · have := p3 q q0 q1
        rw [hd, if_neg c, q2] at this; cases this
  · rcases h' with ⟨q', to2, p0, p1, p2, p3, rfl⟩ | ⟨p3, rfl⟩
    · rw [hd] at p2
      split at p2
      · cases p2
      · rw [q3 q' p0 p1] at p2; cases p2
    · exact ⟨_, _, _, _, _, _, rfl, rfl⟩
theorem find_same {T : List Rt} {a : Int} {v v' : V} (h : RFindQ T a v) (h' : RFindQ T a v') :
    ∃ (x1 x2 y1 y2 to : Int) (ok : Bool), v = .tup [.agg [.sc (.int .u32 x1), .sc (.int .i64 x2)], .sc (.int .i64 to), .sc (.bool ok)] ∧ v' = .tup [.agg [.sc (.int .u32 y1), .sc (.int .i64 y2)], .sc (.int .i64 to), .sc (.bool ok)] := by
  rcases h with ⟨q, to, q0, q1, q2, q3, rfl⟩ | ⟨q3, rfl⟩
  · rcases h' with ⟨q', to2, p0, p1, p2, p3, rfl⟩ | ⟨p3, rfl⟩
    · have hqr : q' = q := by
        rcases Int.lt_trichotomy q' q with c1 | c1 | c1
        · rw [p3 q c1 q1] at q2; cases q2
        · exact c1
        · rw [q3 q' c1 p1] at p2; cases p2
      rw [hqr, q2] at p2
      cases p2
      exact ⟨_, _, _, _, _, _, rfl, rfl⟩
    · rw [p3 q q0 q1] at q2; cases q2
  · rcases h' with ⟨q', to2, p0, p1, p2, p3, rfl⟩ | ⟨p3, rfl⟩
    · rw [q3 q' p0 p1] at p2; cases p2
    · exact ⟨_, _, _, _, _, _, rfl, rfl⟩
section
variable {st : St} {a : Int} {C : List OpR} {t2 : Tk}
set_option maxRecDepth 100000 in
set_option maxHeartbeats 16000000 in
theorem routeNeedless_v (a0 : 0 ≤ a) (a1 : a < 4294967296) (hC : ∀ o ∈ C, 0 ≤ o.a ∧ o.a < 4294967296) :
    VCalls Try.prog 5 [.sl t2 (opsR C), .sc (.int .u32 a)] st fun r s => r = .sc (.bool true) ∧ st = s := by
  have bF : ∀ x : Bool, (x == x) = true := fun x => by cases x <;> rfl
  refine vcalls_enter vc5 (Nat.le_of_ble_eq_true rfl) fun hwf hok => ?_
  show Run _ Vc5.body (.fin (finQ Vc5.res _)) _ _
  unfold Vc5
  have hcm := vlen_max (hok (.sl t2 (opsR C)) (by simp))
  rw [opr_len] at hcm
  by_cases g3 : 60 < C.length
  · simp (config := {maxSteps := 3000000}) only [go_sem, ↓reduceIte, reduceCtorEq, opr_len, decide_eq_true (show (60 : Int) < (C.length : Int) by omega)]
    exact ⟨_, _, Wk.refl _, hwf.weak, rfl, rfl⟩
  simp (config := {maxSteps := 3000000}) only [go_sem, ↓reduceIte, reduceCtorEq, opr_len, decide_eq_false (show ¬ (60 : Int) < (C.length : Int) by omega)]
  intro b hb
  refine run_loop [6, 19, 20, 21, 22, 23, 24, 25, 26, 27, 28, 29, 30, 31, 32, 33, 34, 35, 36] (fun B s => ∃ (i : Nat) (om : Option Nat) (l : List Rt), i ≤ C.length ∧ l.length ≤ i ∧ B 6 = .sc (.int .i64 i) ∧ RtS st s b om l) (fun B _ => C.length - vnat (B 6)) rfl ?_ ?_
  · exact ⟨0, none, [], by omega, by simp, rfl, ⟨RtI.new (cs := []) put_box_same, weak_put hwf.weak hb, hwf.lt.put, hb, fun mb e => by cases e⟩⟩
  · rintro B s ⟨i, om, l, hi, hll, h6, hS⟩
    by_cases c1 : i < C.length
    · obtain ⟨o, ho⟩ := get_ex c1
      obtain ⟨o0, o1⟩ := hC o (List.mem_of_getElem? ho)
      simp (config := {maxSteps := 3000000}) only [go_sem, Nat.reduceEqDiff, Nat.reduceAdd, Nat.reduceLeDiff, ↓reduceIte, reduceCtorEq, Nat.reduceBEq, h6, opr_len, opr_get ho, decide_eq_true (show (i : Int) < (C.length : Int) by omega)]
      repeat (apply And.intro; focus (first | omega | (simp; done)))
      refine Cal.mk (rtPutI_v hS.rt (p := (o.a, o.b)) o0 o1) ?_
      rintro v s2 ⟨l', om', hI, hT, hv⟩ -
      have hl' : l'.length ≤ l.length + 1 := by
        have hdl : (adel (o.a, o.b) l).length ≤ l.length := by rw [adel_filter hS.rt.nd]; exact List.length_filter_le _ _
        rcases hv with ⟨_, rfl, _⟩ | ⟨_, _, _, rfl, _⟩ | ⟨_, _, rfl, _⟩
        · omega
        · omega
        · simp only [List.length_append, List.length_cons, List.length_nil]; omega
      have S2 := hS.turn hT hI
      clear hv
      simp (config := {maxSteps := 3000000}) only [go_sem, Nat.reduceEqDiff, Int.reduceNeg, ↓reduceIte, Nat.reduceBEq, h6]
      repeat (apply And.intro; focus (first | omega | (simp; done)))
      exact ⟨⟨i + 1, om', l', by omega, by omega, by simp, S2⟩, by omega⟩
    · obtain rfl : i = C.length := by omega
      obtain ⟨T, es, c, h1, h2⟩ := hS.rt.tab
      have hn := hS.rt.nd
      have hR := hS.rt.right
      have hTn : (T.map (·.1)).Nodup := (h2.map (·.1)).nodup_iff.2 hn
      have hTR := hR.perm h2
      obtain ⟨kb, km⟩ := h1.lts hS.lt
      simp (config := {maxSteps := 3000000}) only [go_sem, Nat.reduceEqDiff, ↓reduceIte, reduceCtorEq, Nat.reduceBEq, h6, opr_len]
      refine Cal.mk (rtNeedI_v h1 h2 hR (by omega)) ?_
      rintro _ _ ⟨⟨M, m1, m2, rfl⟩, rfl⟩ -
      simp (config := {maxSteps := 3000000}) only [go_sem, Nat.reduceEqDiff, ↓reduceIte, Nat.reduceBEq]
      refine Cal.mk (rtFind_v h1 a0 a1) ?_
      rintro v _ ⟨hf, rfl⟩ -
      cases hM : M.filter (needB T) with
      | nil =>
        have hz : ((pfs ([] : List Pfx)).length : Int) = 0 := rfl
        obtain ⟨x1, x2, to, ok, hv⟩ := RFindQ.form hf
        have hf0 := hf
        rw [hv] at hf ⊢
        simp (config := {maxSteps := 3000000}) only [go_sem, Nat.reduceEqDiff, Nat.reduceAdd, Nat.reduceLT, Nat.reduceLeDiff, ↓reduceIte]
        intro t ht
        have h1' := h1.put (cs := [.sc (.int .u32 x1), .sc (.int .i64 x2)]) (show b ≠ t by omega) (fun mb e => by have := km mb e; omega)
        have S3 := hS.put (cs := [.sc (.int .u32 x1), .sc (.int .i64 x2)]) ht
        simp (config := {maxSteps := 3000000}) only [go_sem, Nat.reduceEqDiff, ↓reduceIte, Nat.reduceBEq, hz]
        generalize s.put t [.sc (.int .u32 x1), .sc (.int .i64 x2)] = s3 at h1' S3 ⊢
        refine Cal.mk (rtFind_v h1' a0 a1) ?_
        rintro v2 _ ⟨hf2, rfl⟩ -
        obtain ⟨z1, z2, y1, y2, to2, ok2, e1, e2⟩ := find_same hf0 hf2
        rw [hv] at e1
        simp only [V.tup.injEq, List.cons.injEq, V.agg.injEq, V.sc.injEq, Value.int.injEq, Value.bool.injEq, true_and, and_true] at e1
        obtain ⟨-, rfl, rfl⟩ := e1
        rw [e2]
        simp (config := {maxSteps := 3000000}) only [go_sem, Nat.reduceEqDiff, Nat.reduceAdd, Nat.reduceLT, Nat.reduceLeDiff, ↓reduceIte]
        intro t2 ht2
        simp (config := {maxSteps := 3000000}) only [go_sem, bF]
        refine Cal.mk alive52_v ?_
        rintro _ _ ⟨rfl, rfl⟩ -
        simp (config := {maxSteps := 3000000}) only [go_sem, Nat.reduceEqDiff, ↓reduceIte]
        exact ⟨_, _, Wk.refl _, (S3.put ht2).weak, rfl, rfl⟩
      | cons p K =>
        have hpM : p ∈ M.filter (needB T) := by rw [hM]; simp
        obtain ⟨hpm, hpn⟩ := List.mem_filter.1 hpM
        have hpT : p ∈ T.map (·.1) := (h2.map (·.1)).mem_iff.2 (m1.mem_iff.1 hpm)
        have hgp : (aget p T).isSome = true := by
          obtain ⟨x, hx, e⟩ := List.mem_map.1 hpT
          obtain ⟨y, hy⟩ := aget_some (a := p) (l := T) ⟨x, hx, e⟩
          rw [hy]; rfl
        have hz : ((pfs (p :: K)).length : Int) = (K.length + 1 : Nat) := by rw [pfs_len]; rfl
        have hg0 : (pfs (p :: K))[0]? = some (.agg [.sc (.int .u32 p.1), .sc (.int .i64 p.2)]) := rfl
        have it0 : (0 : Int).toNat = 0 := rfl
        obtain ⟨x1, x2, to, ok, hv⟩ := RFindQ.form hf
        have hf0 := hf
        rw [hv] at hf ⊢
        simp (config := {maxSteps := 3000000}) only [go_sem, Nat.reduceEqDiff, Nat.reduceAdd, Nat.reduceLT, Nat.reduceLeDiff, ↓reduceIte]
        intro t ht
        have h1' := h1.put (cs := [.sc (.int .u32 x1), .sc (.int .i64 x2)]) (show b ≠ t by omega) (fun mb e => by have := km mb e; omega)
        have S3 := hS.put (cs := [.sc (.int .u32 x1), .sc (.int .i64 x2)]) ht
        simp (config := {maxSteps := 3000000}) only [go_sem, Nat.reduceEqDiff, Nat.reduceAdd, Nat.reduceLeDiff, Int.reduceLE, ↓reduceIte, Nat.reduceBEq, hz, it0, hg0, decide_eq_true (show (0 : Int) < ((K.length + 1 : Nat) : Int) by omega)]
        generalize s.put t [.sc (.int .u32 x1), .sc (.int .i64 x2)] = s3 at h1' S3 ⊢
        refine Cal.mk (rtDrop_v h1') ?_
        rintro _ s4 ⟨rfl, es', c', Q, hs4⟩ -
        have S4 : st.weak s4 ∧ s4.Lt := by
          rcases hs4 with ⟨_, rfl⟩ | ⟨mb, X, e, rfl⟩
          · exact ⟨S3.weak, S3.lt⟩
          · exact ⟨weak_put S3.weak (S3.fm mb e), S3.lt.put⟩
        rw [hgp]
        simp (config := {maxSteps := 3000000}) only [go_sem, Nat.reduceEqDiff, ↓reduceIte, Nat.reduceBEq]
        refine Cal.mk (rtFind_v Q a0 a1) ?_
        rintro v2 _ ⟨hf2, rfl⟩ -
        obtain ⟨z1, z2, y1, y2, to2, ok2, e1, e2⟩ := find_less hTn hTR hpT hpn hf0 hf2
        rw [hv] at e1
        simp only [V.tup.injEq, List.cons.injEq, V.agg.injEq, V.sc.injEq, Value.int.injEq, Value.bool.injEq, true_and, and_true] at e1
        obtain ⟨-, rfl, rfl⟩ := e1
        rw [e2]
        simp (config := {maxSteps := 3000000}) only [go_sem, Nat.reduceEqDiff, Nat.reduceAdd, Nat.reduceLT, Nat.reduceLeDiff, ↓reduceIte]
        intro t2 ht2
        simp (config := {maxSteps := 3000000}) only [go_sem, bF]
        refine Cal.mk alive52_v ?_
        rintro _ _ ⟨rfl, rfl⟩ -
        simp (config := {maxSteps := 3000000}) only [go_sem, Nat.reduceEqDiff, ↓reduceIte]
        exact ⟨_, _, Wk.refl _, weak_put S4.1 (by have := S4.1.sz; omega), rfl, rfl⟩
end
end
section
open Go Go.RowKit

/-- The call hands back v, and nothing that was there has turned. -/
def Pure (w : World) (v : Value) (e : Ending) (w' : World) : Prop := e = .returned v ∧ Below w.heap.size w w'

theorem ret_int {k : IntKind} {a b : Int} (h : a = b) : Ending.returned (.int k a) = .returned (.int k b) := by rw [h]
theorem ret_bool {a b : Bool} (h : a = b) : Ending.returned (.bool a) = .returned (.bool b) := by rw [h]
theorem bcell {W w1 : World} (hb : Below W.heap.size W w1) : (∀ b o, b < W.heap.size → w1.cell? ⟨b, o, none⟩ = W.cell? ⟨b, o, none⟩) ∧ (∀ b o, b < W.heap.size → w1.frozen? ⟨b, o, none⟩ = W.frozen? ⟨b, o, none⟩) :=
  ⟨fun b o h => hb.cell (p := ⟨b, o, none⟩) h, fun b o h => hb.frozen (p := ⟨b, o, none⟩) h⟩
theorem lt_of_cell {w : World} {a : Addr} {v : Value} (h : w.cell? a = some v) : a.block < w.heap.size := by
  rcases Nat.lt_or_ge a.block w.heap.size with hlt | hge
  · exact hlt
  · simp [World.cell?, Array.getElem?_eq_none hge] at h
theorem keep_cell {w w1 : World} {a : Addr} {v : Value} (h : w.cell? a = some v) (hb : Below w.heap.size w w1) : w1.cell? a = some v := (hb.cell (lt_of_cell h)).trans h
theorem below_on {a w w1 : World} (h : Below a.heap.size a w) (h1 : Below w.heap.size w w1) : Below a.heap.size a w1 := h.trans (h1.mono h.size)
theorem below_new {w w1 : World} {o : Obj} (h1 : Below (w.alloc o).heap.size (w.alloc o) w1) : Below w.heap.size w w1 := below_on ((Below.refl _ _).alloc (Nat.le_refl _) _) h1

/-! ### A region that draws its order, whose operations read and whose callees at most make new memory: one walk, in the order of the text -/

structure More where
  blocks : List Obj
  count : Nat
instance : Nonempty More := ⟨⟨[], 0⟩⟩

/-- The world w with new blocks behind, at another count of draws. -/
def ext (w : World) (e : More) : World := { w with heap := w.heap ++ e.blocks.toArray, drawn := e.count }
theorem below_ext (w : World) (e : More) : Below w.heap.size w (ext w e) :=
  ⟨rfl, rfl, rfl, by simp [ext], fun k hk => by simp [ext, Array.getElem?_append, hk]⟩
theorem ext_of_below {w w' : World} (h : Below w.heap.size w w') : ∃ e, w' = ext w e := by
  refine ⟨⟨(w'.heap.toList.drop w.heap.size), w'.drawn⟩, ?_⟩
  obtain ⟨h1, h2, h3, h4, h5⟩ := h
  cases w with | mk hp tp dr os out =>
  cases w' with | mk hp' tp' dr' os' out' =>
  simp only at h1 h2 h3 h4 h5
  subst h1 h2 h3
  simp only [ext, World.mk.injEq, and_true]
  apply Array.ext_getElem?
  intro i
  rw [Array.getElem?_append]
  split
  · rename_i hi; exact h5 i hi
  · rename_i hi
    simp only [List.getElem?_toArray, List.getElem?_drop, Array.getElem?_toList]
    congr 1
    omega
theorem calm_of {P : Program} {f : FuncId} {args : Array Value} {w : World} {e : More} {v : Value} (h : Calls P f args (ext w e) (Pure (ext w e) v)) :
    Calls P f args (ext w e) fun en w'' => en = .returned v ∧ ∃ e2, w'' = ext w e2 :=
  h.mono fun _ _ ⟨he, hb⟩ => ⟨he, ext_of_below (below_on (below_ext w e) hb)⟩
theorem calm_same {P : Program} {f : FuncId} {args : Array Value} {w : World} {e : More} {v : Value} (h : Calls P f args (ext w e) fun en w' => en = .returned v ∧ ext w e = w') :
    Calls P f args (ext w e) fun en w'' => en = .returned v ∧ ∃ e2, w'' = ext w e2 :=
  h.mono fun _ _ ⟨he, hb⟩ => ⟨he, e, hb.symm⟩

/-- The cells of a list are there. -/
def Holds (w : World) (L : List (Addr × Value)) : Prop := ∀ p ∈ L, w.cell? p.1 = some p.2
theorem Holds.keep {w w1 : World} {L : List (Addr × Value)} (h : Holds w L) (hb : Below w.heap.size w w1) : Holds w1 L := fun p hp => keep_cell (h p hp) hb
theorem Holds.cons {w : World} {a : Addr} {v : Value} {L : List (Addr × Value)} : Holds w ((a, v) :: L) ↔ w.cell? a = some v ∧ Holds w L := by
  simp [Holds]
theorem Holds.nil {w : World} : Holds w [] ↔ True := by simp [Holds]

theorem Holds.append {w : World} {L M : List (Addr × Value)} (h : Holds w L) (h' : Holds w M) : Holds w (L ++ M) := by
  intro p hp
  rcases List.mem_append.1 hp with hp | hp
  · exact h p hp
  · exact h' p hp

/-- The cells cs, one behind the other, from place o of block b on. -/
def elemL (b o : Nat) : List Value → List (Addr × Value)
  | [] => []
  | v :: cs => (⟨b, o, none⟩, v) :: elemL b (o + 1) cs
theorem elemL_holds {w : World} {b : Nat} : ∀ (cs : List Value) (o : Nat), (∀ j v, cs[j]? = some v → w.cell? ⟨b, o + j, none⟩ = some v) → Holds w (elemL b o cs)
  | [], _, _ => by simp [elemL, Holds]
  | v :: cs, o, h => by
    rw [elemL, Holds.cons]
    refine ⟨by simpa using h 0 v rfl, elemL_holds cs (o + 1) fun j u hu => ?_⟩
    rw [show o + 1 + j = o + (j + 1) from by omega]
    exact h (j + 1) u (by simpa using hu)
/-- A new block holds what it was made of. -/
theorem elemL_new (w : World) (cs : Array Value) (t : TypeId) : Holds (w.alloc (.cells cs t)) (elemL w.heap.size 0 cs.toList) :=
  elemL_holds _ _ fun j v hv => by
    simp only [World.cell?, World.alloc, Nat.zero_add, Array.getElem?_push_size]
    simpa using hv

/-- A slice whose elements (each of 'size' cells) are these. -/
def Elems (w : World) (A : Option Addr) (size : Nat) (xs : List (List Value)) : Prop :=
  ∀ i cs, xs[i]? = some cs → ∃ b o, A = some ⟨b, o, none⟩ ∧ Holds w (elemL b (o + i * size) cs)
theorem Elems.keep {w w1 : World} {A : Option Addr} {size : Nat} {xs : List (List Value)} (h : Elems w A size xs) (hb : Below w.heap.size w w1) : Elems w1 A size xs := fun i cs hi => by
  obtain ⟨b, o, hA, hh⟩ := h i cs hi
  exact ⟨b, o, hA, hh.keep hb⟩

/-- The place of the first that is so; below 0: there is none. -/
def firstI {α : Type} (h : α → Bool) (l : List α) : Int := match l.findIdx? h with | some i => (i : Int) | none => -1
theorem firstI_at {α : Type} {h : α → Bool} {l : List α} {k : Nat} (hk : k < l.length) (hf : ∀ j, j < k → ∀ x, l[j]? = some x → h x = false) (ht : h l[k] = true) : firstI h l = k := by
  have : l.findIdx? h = some k := by
    rw [List.findIdx?_eq_some_iff_getElem]
    refine ⟨hk, ht, fun j hj => ?_⟩
    have := hf j hj l[j] (List.getElem?_eq_getElem (by omega))
    simp [this]
  rw [firstI, this]
theorem firstI_none {α : Type} {h : α → Bool} {l : List α} (hf : ∀ (j : Nat) (x : α), l[j]? = some x → h x = false) : firstI h l = -1 := by
  have : l.findIdx? h = none := by
    rw [List.findIdx?_eq_none_iff]
    intro x hx
    obtain ⟨j, hj, rfl⟩ := List.mem_iff_getElem.1 hx
    exact hf j _ (List.getElem?_eq_getElem hj)
  rw [firstI, this]
theorem firstI_cases {α : Type} (h : α → Bool) (l : List α) : firstI h l = -1 ∨ ∃ k : Nat, ∃ hk : k < l.length, firstI h l = k ∧ h l[k] = true := by
  unfold firstI
  cases e : l.findIdx? h with
  | none => exact .inl rfl
  | some i =>
    rw [List.findIdx?_eq_some_iff_getElem] at e
    obtain ⟨hi, ht, _⟩ := e
    exact .inr ⟨i, hi, rfl, ht⟩

theorem wp_region_calm {P : Program} {id : Nat} {Q : Exit → Act → World → Prop} {a : Act} {w : World} {l : List Oper} (L : List (Addr × Value)) (hS : Holds w L) (hm : P.follows .mixedOrders = true) (hB : Region.lexB .any l.toArray = true)
    (h : (∀ e, Holds (ext w e) L) → wpQuiet P l.toArray (fun w' => ∃ e, w' = ext w e) (fun a' => ∀ w', Below w.heap.size w w' → Holds w' L → Q .normal a' w') l a) : (Code.region id l.toArray true).wp P Q a w := by
  refine wp_region_quiet (C := fun w' => ∃ e, w' = ext w e) hm hB ⟨⟨[], w.drawn + 1⟩, by simp [ext]⟩ ?_
  have h1 := h fun e => hS.keep (below_ext w e)
  have h2 : ∀ (l : List Oper) (ops : Array Oper) (Q1 Q2 : Act → Prop) (a : Act), (∀ a, Q1 a → Q2 a) → wpQuiet P ops (fun w' => ∃ e, w' = ext w e) Q1 l a → wpQuiet P ops (fun w' => ∃ e, w' = ext w e) Q2 l a := by
    intro l
    induction l with
    | nil => intro _ _ _ a hq h; exact hq _ h
    | cons o l ih =>
      intro ops Q1 Q2 a hq h
      simp only [wpQuiet] at h ⊢
      split at h
      · rename_i hw; rw [if_pos hw]; exact Oper.quiet_mono (fun a ha => ih ops Q1 Q2 a hq ha) h
      · rename_i hw; rw [if_neg hw]; exact ih ops Q1 Q2 _ hq h
  have h3 := h2 l l.toArray _ (fun a' => ∀ w', (∃ e, w' = ext w e) → Q .normal a' w') a (fun a ha w' ⟨e, he⟩ => by subst he; exact ha _ (below_ext w e) (hS.keep (below_ext w e))) h1
  simpa using h3
end
section
open Go Go.RowKit Go.ChangeShapes Go.WideShapes Go.Deep

section
variable {H : Type} {enc : TypeId × Value → H} {P : Program} {w : World} {base : Nat} {spare : Nat → Bool} {held : Bool} {fuel : Nat} {t : TypeId} {cs : List Value} {x : DataW H × List MemPlace}

theorem trod_len {fs : Array Field} (ht : P.underlying t = some (.struct fs)) (h : DataW.trod enc P w base spare held fuel t cs = some x) : cs.length = P.cellsOf t := by
  obtain ⟨_, _, _, _, hl, _⟩ := DataW.trod_struct ht h
  exact hl
theorem trod_field {fs : Array Field} (ht : P.underlying t = some (.struct fs)) (h : DataW.trod enc P w base spare held fuel t cs = some x) (j : Nat) (f : Field) (hj : fs[j]? = some f) :
    ∃ n y, DataW.trod enc P w base spare held n f.type ((cs.drop f.offset).take (P.cellsOf f.type)) = some y := by
  obtain ⟨xs, n, _, _, _, hlen, hf⟩ := DataW.trod_struct ht h
  have h1 := hf j f hj
  have hjl : j < xs.length := by rw [hlen]; exact (Array.getElem?_eq_some_iff.1 hj).1
  exact ⟨n, xs[j], h1.trans (List.getElem?_eq_getElem hjl)⟩
theorem take_one {cs : List Value} {o : Nat} {v : Value} (h : (cs.drop o).take 1 = [v]) : cs[o]? = some v := by
  have : ((cs.drop o).take 1)[0]? = some v := by rw [h]; rfl
  simpa using this
theorem field_int {fs : Array Field} (ht : P.underlying t = some (.struct fs)) (h : DataW.trod enc P w base spare held fuel t cs = some x) (j : Nat) (f : Field) (hj : fs[j]? = some f) {k : IntKind} (hu : P.underlying f.type = some (.int k)) (hc : P.cellsOf f.type = 1) :
    ∃ n, cs[f.offset]? = some (.int k n) ∧ (Lit.int k n).wf = true := by
  obtain ⟨n, y, hy⟩ := trod_field ht h j f hj
  rw [hc] at hy
  obtain ⟨m, e, _, hw⟩ := DataW.trod_int hu hy
  exact ⟨m, take_one e, hw⟩
theorem field_bool {fs : Array Field} (ht : P.underlying t = some (.struct fs)) (h : DataW.trod enc P w base spare held fuel t cs = some x) (j : Nat) (f : Field) (hj : fs[j]? = some f) (hu : P.underlying f.type = some .bool) (hc : P.cellsOf f.type = 1) :
    ∃ b, cs[f.offset]? = some (.bool b) := by
  obtain ⟨n, y, hy⟩ := trod_field ht h j f hj
  rw [hc] at hy
  obtain ⟨m, e, _⟩ := DataW.trod_bool hu hy
  exact ⟨m, take_one e⟩
theorem field_one {fs : Array Field} (ht : P.underlying t = some (.struct fs)) (h : DataW.trod enc P w base spare held fuel t cs = some x) (j : Nat) (f : Field) (hj : fs[j]? = some f) (hc : P.cellsOf f.type = 1) {v : Value} (hv : cs[f.offset]? = some v) :
    ∃ n y, DataW.trod enc P w base spare held n f.type [v] = some y := by
  obtain ⟨n, y, hy⟩ := trod_field ht h j f hj
  rw [hc] at hy
  have : (cs.drop f.offset).take 1 = [v] := by
    obtain ⟨hlt, e⟩ := List.getElem?_eq_some_iff.1 hv
    rw [List.drop_eq_getElem_cons hlt, e]
    rfl
  rw [this] at hy
  exact ⟨n, y, hy⟩
theorem field_sub {fs : Array Field} (ht : P.underlying t = some (.struct fs)) (h : DataW.trod enc P w base spare held fuel t cs = some x) (j : Nat) (f : Field) (hj : fs[j]? = some f) {n : Nat} (hc : P.cellsOf f.type = n) :
    ∃ m y, DataW.trod enc P w base spare held m f.type ((cs.drop f.offset).take n) = some y := by
  subst hc
  exact trod_field ht h j f hj

/-- A struct that comes by value: its cells. -/
theorem open_struct {r : Reach} {b0 : Nat} {v : Value} {d : DataW H} {p : List MemPlace} {fs : Array Field} (ht : P.underlying t = some (.struct fs)) (hv : Value.okWide P w r b0 t v) (h : DataW.Trod enc P w base spare held t v d p) :
    ∃ (cs : List Value) (fuel : Nat), v = .agg cs.toArray ∧ DataW.trod enc P w base spare held fuel t cs = some (d, p) := by
  obtain ⟨cs, rfl, _⟩ := okWide_struct ht hv
  obtain ⟨fuel, hf⟩ := h
  exact ⟨cs.toList, fuel, rfl, hf⟩

theorem list_of {α : Type} {Q : Nat → α → Prop} : ∀ (n : Nat), (∀ i, i < n → ∃ r, Q i r) → ∃ l : List α, l.length = n ∧ ∀ (i : Nat) (r : α), l[i]? = some r → Q i r
  | 0, _ => ⟨[], rfl, by simp⟩
  | n + 1, h => by
    obtain ⟨l, hl, hq⟩ := list_of n (fun i hi => h i (by omega))
    obtain ⟨r, hr⟩ := h n (by omega)
    refine ⟨l ++ [r], by simp [hl], fun i r' hi => ?_⟩
    rw [List.getElem?_append] at hi
    split at hi
    · exact hq i r' hi
    · rename_i hge
      obtain rfl : i = n := by
        have := (List.getElem?_eq_some_iff.1 hi).1
        simp at this
        omega
      simp [hl] at hi
      subst hi
      exact hr

/-- A slice that comes in: nil, or a row of elements each of which reads. -/
theorem open_elems {e : TypeId} {size : Nat} {v : Value} (ht : P.underlying t = some (.slice e)) (hc : P.cellsOf e = size) (hs : 0 < size) (h : DataW.trod enc P w base spare held fuel t [v] = some x) :
    ∃ A len cap, v = .slice A len cap ∧ len ≤ cap ∧ cap ≤ maxLen ∧ (A = none → len = 0 ∧ cap = 0) ∧
      ∀ i, i < len → ∃ b o cs n y, A = some ⟨b, o, none⟩ ∧ cs.length = size ∧ Holds w (elemL b (o + i * size) cs) ∧ DataW.trod enc P w base spare held n e cs = some y := by
  rcases open_slice ht h with ⟨e1, _⟩ | ⟨a, len, cap, m, n, D, Pl, e1, hb, hl, hm, hmm, _, hi⟩
  · cases e1
    exact ⟨none, 0, 0, rfl, by omega, by omega, fun _ => ⟨rfl, rfl⟩, fun i hi => by omega⟩
  · cases e1
    refine ⟨some a, len, cap, rfl, hl, hm, (by intro h; cases h), fun i hil => ?_⟩
    obtain ⟨cs', hcs, ht'⟩ := hi i (by rw [hmm]; split <;> omega)
    rw [hc] at hcs
    obtain ⟨_, hlen, hcell⟩ := World.cells?_some hcs
    have h0 := hcell 0 hs
    have hlt0 : 0 < cs'.length := by omega
    rw [List.getElem?_eq_getElem hlt0] at h0
    have hspot := World.cell?_spot h0
    obtain ⟨b, o, sp⟩ := a
    have hsp : sp = none := by
      by_cases hz : i * size = 0
      · simpa [Addr.add, hz] using hspot
      · rcases Nat.eq_zero_or_pos i with h0' | h0'
        · simp [h0'] at hz
        · obtain ⟨cs0, hcs0, _⟩ := hi 0 (by rw [hmm]; split <;> omega)
          rw [hc] at hcs0
          obtain ⟨_, hlen0, hcell0⟩ := World.cells?_some hcs0
          have h00 := hcell0 0 hs
          rw [List.getElem?_eq_getElem (by omega)] at h00
          simpa [Addr.add] using World.cell?_spot h00
    subst hsp
    refine ⟨b, o, cs', n, _, rfl, hlen, elemL_holds _ _ fun j u hu => ?_, ht'⟩
    have hj : j < size := by have := (List.getElem?_eq_some_iff.1 hu).1; omega
    have := (hcell j hj).trans hu
    have ea : ((⟨b, o, none⟩ : Addr).add (i * size)).add j = ⟨b, o + i * size + j, none⟩ := by
      unfold Addr.add
      by_cases h1 : i * size = 0 <;> by_cases h2 : j = 0 <;> simp [h1, h2]
    rwa [ea] at this
end
/-- An argument as the statement hands it in: a value of its type, that reads as data. (A structure, so that nothing looks into it.) -/
structure ArgIn {H : Type} (enc : TypeId × Value → H) (P : Program) (W : World) (base : Nat) (t : TypeId) (v : Value) (d : DataW H) (p : List MemPlace) : Prop where
  wide : Value.okWide P W .any base t v
  trod : DataW.Trod enc P W 0 (fun _ => true) true t v d p
section
variable {H : Type} {enc : TypeId × Value → H} {P : Program} {W : World} {base : Nat} {t : TypeId} {v : Value} {d : DataW H} {p : List MemPlace}
theorem ArgIn.slice {e : TypeId} (h : ArgIn enc P W base t v d p) (ht : P.underlying t = some (.slice e)) :
    ∃ A l c fuel, v = .slice A l c ∧ DataW.trod enc P W 0 (fun _ => true) true fuel t [.slice A l c] = some (d, p) := by
  obtain ⟨A, l, c, rfl⟩ := okWide_slice ht h.wide
  obtain ⟨fuel, hf⟩ := h.trod
  exact ⟨A, l, c, fuel, rfl, hf⟩
theorem ArgIn.struct {fs : Array Field} (h : ArgIn enc P W base t v d p) (ht : P.underlying t = some (.struct fs)) :
    ∃ (cs : List Value) (fuel : Nat), v = .agg cs.toArray ∧ DataW.trod enc P W 0 (fun _ => true) true fuel t cs = some (d, p) :=
  open_struct ht h.wide h.trod
theorem ArgIn.int {k : IntKind} (h : ArgIn enc P W base t v d p) (ht : P.underlying t = some (.int k)) : ∃ n, v = .int k n ∧ (Lit.int k n).wf = true := by
  obtain ⟨n, rfl, _, _, hw⟩ := open_int ht h.wide h.trod
  exact ⟨n, rfl, hw⟩
theorem ArgIn.bool (h : ArgIn enc P W base t v d p) (ht : P.underlying t = some .bool) : ∃ b, v = .bool b := by
  obtain ⟨b, rfl, _⟩ := open_bool ht h.wide h.trod
  exact ⟨b, rfl⟩
theorem ArgIn.string (h : ArgIn enc P W base t v d p) (ht : P.underlying t = some .string) : ∃ s : ByteArray, v = .string s ∧ s.size ≤ maxLen := by
  obtain ⟨s, rfl, _, _, hs⟩ := Go.ChangeMaps.open_string ht h.wide h.trod
  exact ⟨s, rfl, hs⟩
end
/-- A contract at arguments that are these. -/
theorem calls_args {P : Program} {f : FuncId} {args args' : Array Value} {W : World} {R : Ending → World → Prop} (h : Calls P f args W R) (e : args' = args) : Calls P f args' W R := e ▸ h
end
end Go.Proofs.Ytlngegoamfklgaa
