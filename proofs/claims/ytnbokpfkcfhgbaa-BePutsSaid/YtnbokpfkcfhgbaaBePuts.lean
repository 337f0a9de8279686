/- BePuts: of any bytes, any number and any size the law returns true, and its arguments read as before. No condition. -/
import Derived.Test.YtnbokpfkcfhgbaaBe2
import Derived.Test.YtnbokpfkcfhgbaaBeBack
namespace Go.Proofs.Ytnbokpfkcfhgbaa
open Go Go.RowKit Go.ChangeShapes Go.WideShapes Go.ChangeAt Go.Deep
attribute [local go_sem ↓] Go.wp_at_zero Go.wp_at_succ

theorem beL_mod (n : Int) (hn : 0 ≤ n) : ∀ k, beL (n % 256 ^ k) k = beL n k := by
  intro k
  have h1 := numL_beL n hn k
  have h2 := numL_eq_beL k (beL n k) (beL_len n k) (beL_isB n k)
  rw [h1] at h2
  exact h2
theorem wrap_u64_of (x : Int) (h0 : 0 ≤ x) (h1 : x < 18446744073709551616) : IntKind.u64.wrap x = x := IntWalk.u64_in _ (by omega)

theorem PutC_any (v : Value) (L : List Int) (n size : Int) (B : Nat) (w : World) (hown : OwnB w B v L) (hB : B ≤ w.heap.size) (hl : L.length ≤ 1000000000000) (h0 : 0 ≤ n) (h1 : n < 18446744073709551616) :
    Calls Try.prog 25 #[v, .int .u64 n, .int .i64 size] w (AppTo w B v (L ++ chunk n size)) := Put_any v L n size B w hown hB hl h0 h1
theorem refPutC_any (A : Option Addr) (k c : Nat) (L : List Int) (n size : Int) (w : World) (hk : L.length = k) (hl : k ≤ 1000000000) (hA : Elems w A 1 (nums .u8 L)) (h0 : 0 ≤ n) (h1 : n < 18446744073709551616) :
    Calls Try.prog 40 #[.slice A k c, .int .u64 n, .int .i64 size] w (NewB w (L ++ chunk n size)) := refPut_any A k c L n size w hk hl hA h0 h1
theorem nums_take (k : IntKind) (L : List Int) (i : Nat) : (nums k L).take i = nums k (L.take i) := by simp [nums, List.map_take]

set_option maxRecDepth 100000 in
set_option maxHeartbeats 4000000 in
theorem BePuts_walk (A : Option Addr) (n c : Nat) (L : List Int) (x size : Int) (w : World) (hn : L.length = n) (hnc : n ≤ c) (hc : c ≤ maxLen) (hA : Elems w A 1 (nums .u8 L)) (hL : IsB L) (hx0 : 0 ≤ x) (hx1 : x < 18446744073709551616) :
    Calls Try.prog 7 #[.slice A n c, .int .u64 x, .int .i64 size] w (Pure w (.bool true)) := by
  unfold maxLen at hc
  by_cases h1000 : 1000 < n
  · clear hA hn hL
    go_enter Try.func7, Try.ntmps7
    go_wp2_with fail
    go_ret
    exact ⟨rfl, Below.refl _ _⟩
  have hd1000 : decide ((1000 : Int) < (n : Int)) = false := by simp; omega
  have HN := Lib.hid hn
  have hE0 := hA
  have hB0 := Below.refl w.heap.size w
  clear hn
  go_enter Try.func7, Try.ntmps7
  go_wp2_with fail
  refine (cloneB_any A n c L _ HN.out (by omega) hE0).mono ?_
  rintro e a0 ⟨va0, rfl, hoa0, hba0⟩
  go_wp2_with fail
  refine (Put8_any va0 L (x % 256) _ _ hoa0 hba0.size (by rw [HN.out]; omega)).mono ?_
  rintro e b0 ⟨vb0, rfl, hob0, hgb0⟩
  have hbb0 := hgb0.below hoa0 hba0 hba0.size
  have hEb0 := hE0.keep hbb0
  go_wp2_with fail
  refine (refPut_any A n c L x 1 _ HN.out (by omega) hEb0 hx0 hx1).mono ?_
  rintro e c0 ⟨vc0, rfl, hoc0, hbc0⟩
  have hob20 := own_below hob0 hbc0
  have hbc20 := below_on hbb0 hbc0
  obtain ⟨A10, k10, e10, _, _, hA10⟩ := own_read (L := (L ++ [x % 256])) hob20
  obtain ⟨A20, k20, e20, _, _, hA20⟩ := own_read hoc0
  subst e10 e20
  go_wp2_with fail
  refine (eqByte_any _ _ _ _ _ _ (L ++ [x % 256]) (L ++ if (1 : Int) < 1 ∨ 8 < (1 : Int) then [] else beL x (1 : Int).toNat) _ (by simp [beL_len]) (by simp [beL_len]) (by simp [maxLen]; have := HN.out; omega) hA10 hA20).mono ?_
  rintro e d0 ⟨rfl, hbd0⟩
  have he0 : ((L ++ [x % 256]) == (L ++ if (1 : Int) < 1 ∨ 8 < (1 : Int) then [] else beL x (1 : Int).toNat)) = true := by rw [if_neg (by omega)]; simp [beL]
  rw [he0]
  have hE1 := hE0.keep (below_on hbc20 hbd0)
  have hB1 := below_on (below_on hB0 hbc20) hbd0
  clear hoa0 hob0 hoc0 hob20 hgb0 hA10 hA20 hE0 hEb0 he0
  go_wp2_with fail
  refine (cloneB_any A n c L _ HN.out (by omega) hE1).mono ?_
  rintro e a1 ⟨va1, rfl, hoa1, hba1⟩
  go_wp2_with fail
  try rw [IntKind.wrap_u16]
  refine (Put16_any va1 L (x % 65536) _ _ hoa1 hba1.size (by rw [HN.out]; omega) (by omega) (by omega)).mono ?_
  rintro e b1 ⟨vb1, rfl, hob1, hgb1⟩
  have hbb1 := hgb1.below hoa1 hba1 hba1.size
  have hEb1 := hE1.keep hbb1
  go_wp2_with fail
  refine (refPut_any A n c L x 2 _ HN.out (by omega) hEb1 hx0 hx1).mono ?_
  rintro e c1 ⟨vc1, rfl, hoc1, hbc1⟩
  have hob21 := own_below hob1 hbc1
  have hbc21 := below_on hbb1 hbc1
  obtain ⟨A11, k11, e11, _, _, hA11⟩ := own_read (L := (L ++ beL (x % 65536) 2)) hob21
  obtain ⟨A21, k21, e21, _, _, hA21⟩ := own_read hoc1
  subst e11 e21
  go_wp2_with fail
  refine (eqByte_any _ _ _ _ _ _ (L ++ beL (x % 65536) 2) (L ++ if (2 : Int) < 1 ∨ 8 < (2 : Int) then [] else beL x (2 : Int).toNat) _ (by simp [beL_len]) (by simp [beL_len]) (by simp [maxLen, beL_len]; have := HN.out; omega) hA11 hA21).mono ?_
  rintro e d1 ⟨rfl, hbd1⟩
  have he1 : ((L ++ beL (x % 65536) 2) == (L ++ if (2 : Int) < 1 ∨ 8 < (2 : Int) then [] else beL x (2 : Int).toNat)) = true := by rw [if_neg (by omega)]; have := beL_mod x hx0 2; simp only [beq_iff_eq]; exact congrArg (L ++ ·) this
  rw [he1]
  have hE2 := hE1.keep (below_on hbc21 hbd1)
  have hB2 := below_on (below_on hB1 hbc21) hbd1
  clear hoa1 hob1 hoc1 hob21 hgb1 hA11 hA21 hE1 hEb1 he1
  go_wp2_with fail
  refine (cloneB_any A n c L _ HN.out (by omega) hE2).mono ?_
  rintro e a2 ⟨va2, rfl, hoa2, hba2⟩
  go_wp2_with fail
  try rw [IntKind.wrap_u32']
  refine (Put32_any va2 L (x % 4294967296) _ _ hoa2 hba2.size (by rw [HN.out]; omega) (by omega) (by omega)).mono ?_
  rintro e b2 ⟨vb2, rfl, hob2, hgb2⟩
  have hbb2 := hgb2.below hoa2 hba2 hba2.size
  have hEb2 := hE2.keep hbb2
  go_wp2_with fail
  refine (refPut_any A n c L x 4 _ HN.out (by omega) hEb2 hx0 hx1).mono ?_
  rintro e c2 ⟨vc2, rfl, hoc2, hbc2⟩
  have hob22 := own_below hob2 hbc2
  have hbc22 := below_on hbb2 hbc2
  obtain ⟨A12, k12, e12, _, _, hA12⟩ := own_read (L := (L ++ beL (x % 4294967296) 4)) hob22
  obtain ⟨A22, k22, e22, _, _, hA22⟩ := own_read hoc2
  subst e12 e22
  go_wp2_with fail
  refine (eqByte_any _ _ _ _ _ _ (L ++ beL (x % 4294967296) 4) (L ++ if (4 : Int) < 1 ∨ 8 < (4 : Int) then [] else beL x (4 : Int).toNat) _ (by simp [beL_len]) (by simp [beL_len]) (by simp [maxLen, beL_len]; have := HN.out; omega) hA12 hA22).mono ?_
  rintro e d2 ⟨rfl, hbd2⟩
  have he2 : ((L ++ beL (x % 4294967296) 4) == (L ++ if (4 : Int) < 1 ∨ 8 < (4 : Int) then [] else beL x (4 : Int).toNat)) = true := by rw [if_neg (by omega)]; have := beL_mod x hx0 4; simp only [beq_iff_eq]; exact congrArg (L ++ ·) this
  rw [he2]
  have hE3 := hE2.keep (below_on hbc22 hbd2)
  have hB3 := below_on (below_on hB2 hbc22) hbd2
  clear hoa2 hob2 hoc2 hob22 hgb2 hA12 hA22 hE2 hEb2 he2
  go_wp2_with fail
  refine (cloneB_any A n c L _ HN.out (by omega) hE3).mono ?_
  rintro e a3 ⟨va3, rfl, hoa3, hba3⟩
  go_wp2_with fail
  refine (PutC_any va3 L x size _ _ hoa3 hba3.size (by rw [HN.out]; omega) hx0 hx1).mono ?_
  rintro e b3 ⟨vb3, rfl, hob3, hgb3⟩
  have hbb3 := hgb3.below hoa3 hba3 hba3.size
  have hEb3 := hE3.keep hbb3
  go_wp2_with fail
  refine (refPutC_any A n c L x size _ HN.out (by omega) hEb3 hx0 hx1).mono ?_
  rintro e c3 ⟨vc3, rfl, hoc3, hbc3⟩
  have hob23 := own_below hob3 hbc3
  have hbc23 := below_on hbb3 hbc3
  obtain ⟨A13, k13, e13, _, _, hA13⟩ := own_read (L := (L ++ chunk x size)) hob23
  obtain ⟨A23, k23, e23, _, _, hA23⟩ := own_read hoc3
  subst e13 e23
  go_wp2_with fail
  refine (eqByte_any _ _ _ _ _ _ (L ++ chunk x size) (L ++ chunk x size) _ (by simp) (by simp) (by have h1 := HN.out; have h2 := chunk_len x size; unfold maxLen; omega) hA13 hA23).mono ?_
  rintro e d3 ⟨rfl, hbd3⟩
  have he3 : ((L ++ chunk x size) == (L ++ chunk x size)) = true := by simp
  rw [he3]
  have hE4 := hE3.keep (below_on hbc23 hbd3)
  have hB4 := below_on (below_on hB3 hbc23) hbd3
  clear hoa3 hob3 hoc3 hob23 hgb3 hA13 hA23 hE3 hEb3 he3
  have g16 := fun W hW => Get16_any A n c L W HN.out hnc (by omega) hL hW
  have g32 := fun W hW => Get32_any A n c L W HN.out hnc (by omega) hL hW
  by_cases h2 : n < 2
  ·
    rw [if_pos h2] at g16
    rw [if_pos (by omega)] at g32
    have G16 := Lib.hid g16
    have G32 := Lib.hid g32
    have dd2 : decide ((2 : Int) ≤ (n : Int)) = false := by simp; omega
    have dd4 : decide ((4 : Int) ≤ (n : Int)) = false := by simp; omega
    clear g16 g32
    go_wp2_with fail
    refine (G16.out _ hE4).mono ?_
    rintro e g1 ⟨rfl, hbg1⟩
    have hE5 := hE4.keep hbg1
    go_wp2_with fail
    refine (G32.out _ hE5).mono ?_
    rintro e g2 ⟨rfl, hbg2⟩
    go_wp2_with fail
    refine (beAlive_walk _).mono ?_
    rintro e g3 ⟨rfl, hbg3⟩
    go_wp2_with fail
    go_ret
    exact ⟨rfl, below_on (below_on (below_on hB4 hbg1) hbg2) hbg3⟩
  rw [if_neg h2] at g16
  have hr2 : 0 ≤ numL (L.take 2) ∧ numL (L.take 2) < 65536 := by
    have h := numL_range _ (L.take 2) rfl (hL.take 2)
    have e : (L.take 2).length = 2 := by simp; have := HN.out; omega
    rw [e] at h
    exact h
  by_cases h4 : n < 4
  ·
    rw [if_pos h4] at g32
    have G32 := Lib.hid g32
    have dd2 : decide ((2 : Int) ≤ (n : Int)) = true := by simp; omega
    have dd4 : decide ((4 : Int) ≤ (n : Int)) = false := by simp; omega
    have G16 := Lib.hid g16
    obtain ⟨r0, r1⟩ := hr2
    clear g32 g16
    go_wp2_with fail
    refine (refNum_any A 2 c (L.take 2) _ (by simp; have := HN.out; omega) (by omega) (hL.take 2) (by rw [← nums_take]; exact hE4.take 2)).mono ?_
    rintro e z1 ⟨rfl, rfl⟩
    go_wp2_with fail
    refine (G16.out _ hE4).mono ?_
    rintro e g1 ⟨rfl, hbg1⟩
    have hE5 := hE4.keep hbg1
    go_wp2_with fail
    refine (G32.out _ hE5).mono ?_
    rintro e g2 ⟨rfl, hbg2⟩
    go_wp2_with fail
    refine (beAlive_walk _).mono ?_
    rintro e g3 ⟨rfl, hbg3⟩
    go_wp2_with fail
    go_ret
    exact ⟨rfl, below_on (below_on (below_on hB4 hbg1) hbg2) hbg3⟩
  rw [if_neg h4] at g32
  have hr4 : 0 ≤ numL (L.take 4) ∧ numL (L.take 4) < 4294967296 := by
    have h := numL_range _ (L.take 4) rfl (hL.take 4)
    have e : (L.take 4).length = 4 := by simp; have := HN.out; omega
    rw [e] at h
    exact h
  have dd2 : decide ((2 : Int) ≤ (n : Int)) = true := by simp; omega
  have dd4 : decide ((4 : Int) ≤ (n : Int)) = true := by simp; omega
  have G32 := Lib.hid g32
  have G16 := Lib.hid g16
  obtain ⟨r0, r1⟩ := hr2
  obtain ⟨r2, r3⟩ := hr4
  clear g32 g16
  go_wp2_with fail
  refine (refNum_any A 2 c (L.take 2) _ (by simp; have := HN.out; omega) (by omega) (hL.take 2) (by rw [← nums_take]; exact hE4.take 2)).mono ?_
  rintro e z1 ⟨rfl, rfl⟩
  go_wp2_with fail
  refine (refNum_any A 4 c (L.take 4) _ (by simp; have := HN.out; omega) (by omega) (hL.take 4) (by rw [← nums_take]; exact hE4.take 4)).mono ?_
  rintro e z2 ⟨rfl, rfl⟩
  go_wp2_with fail
  refine (G16.out _ hE4).mono ?_
  rintro e g1 ⟨rfl, hbg1⟩
  have hE5 := hE4.keep hbg1
  go_wp2_with fail
  refine (G32.out _ hE5).mono ?_
  rintro e g2 ⟨rfl, hbg2⟩
  go_wp2_with fail
  refine (beAlive_walk _).mono ?_
  rintro e g3 ⟨rfl, hbg3⟩
  go_wp2_with fail
  go_ret
  exact ⟨rfl, below_on (below_on (below_on hB4 hbg1) hbg2) hbg3⟩

theorem BePuts_open {H : Type} {enc : TypeId × Value → H} {W : World} {base : Nat} {v0 v1 v2 : Value} {d0 d1 d2 : DataW H} {p0 p1 p2 : List MemPlace}
    (a0 : ArgIn enc Try.prog W base 27 v0 d0 p0) (a1 : ArgIn enc Try.prog W base 48 v1 d1 p1) (a2 : ArgIn enc Try.prog W base 3 v2 d2 p2) :
    Calls Try.prog 7 #[v0, v1, v2] W (Pure W (.bool true)) := by
  obtain ⟨_, _, _, f0, e0, t0⟩ := a0.slice Try.underlying27
  obtain ⟨A, n, c, l, e0', hn, hnc, hc, hl, hwl⟩ := open_nums Try.underlying27 Try.underlying5 cells_u8 t0
  obtain ⟨x, e1, wx⟩ := a1.int Try.underlying48
  obtain ⟨s, e2, ws⟩ := a2.int Try.underlying3
  have := bounds_u64 wx
  exact calls_args (BePuts_walk A n c l x s W hn hnc hc hl (fun y hy => by have := bounds_u8 (hwl y hy); omega) (by omega) (by omega)) (by rw [e0, e1, e2, e0'])

set_option maxRecDepth 100000 in
theorem BePuts_lifted (os : Os) (started : os.Started) (H : Type) (enc : TypeId × Value → H) :
    ReturnsInHanded {} Try.checked os 7 .any (Rows.bePutsSpec.pre6 enc Try.prog Try.f7 Rows.bePutsRow.domain false) (Rows.bePutsSpec.post enc Try.prog Try.f7 false true false false) := by
  refine returnsInHanded_of_change (C := Try.checked) own started (by kernel_rfl) Try.func7
    (ChangeSpec.witness6 (enc := enc) (C := Try.checked) false ⟨#[], #[.slice none 0 0, .int .u64 0, .int .i64 0], []⟩ 8 (by kernel_rfl) (by kernel_rfl) (by kernel_rfl) (by kernel_rfl)) ?_
  intro W base args ds gs before hval0 hW hcnd _
  have hval : ∀ (j : Nat) t v, Try.f7.params[j]? = some t → args[j]? = some v → Value.okWide Try.prog W .any base t v := hval0
  have hW' := hW
  obtain ⟨p, q, hA0, hV, rfl, hfz, hnd⟩ := hW
  have hA : DataW.TrodAll enc Try.prog W 0 (fun _ => true) true Try.f7.params.toList args.toList ds p := hA0
  rw [Try.params7] at hA hval
  obtain ⟨v0, vs0, d0, ds0, p0, q0, hargs, rfl, rfl, h0, r0⟩ := trodAll_cons hA
  obtain ⟨v1, vs1, d1, ds1, p1, q1, rfl, rfl, rfl, h1, r1⟩ := trodAll_cons r0
  obtain ⟨v2, vs2, d2, ds2, p2, q2, rfl, rfl, rfl, h2, r2⟩ := trodAll_cons r1
  obtain ⟨rfl, rfl, rfl⟩ := trodAll_nil r2
  obtain rfl : args = #[v0, v1, v2] := by cases args; simp_all
  obtain ⟨rfl, rfl⟩ := trodVars_none hV
  have lt0 : ∀ x ∈ p0, x.block < W.heap.size := by obtain ⟨m, hm⟩ := h0; exact DataW.trod_lt m _ _ _ hm
  have lt1 : ∀ x ∈ p1, x.block < W.heap.size := by obtain ⟨m, hm⟩ := h1; exact DataW.trod_lt m _ _ _ hm
  have lt2 : ∀ x ∈ p2, x.block < W.heap.size := by obtain ⟨m, hm⟩ := h2; exact DataW.trod_lt m _ _ _ hm
  clear hA0 hval0
  refine (BePuts_open ⟨hval 0 27 v0 rfl rfl, h0⟩ ⟨hval 1 48 v1 rfl rfl, h1⟩ ⟨hval 2 3 v2 rfl rfl, h2⟩).mono fun e W' ⟨he, bel⟩ => ?_
  subst he
  exact ⟨_, rfl, _, _, _, [], _, [], hW', trodAll_mk1 (shut_bool Try.underlying4 _), (trodAll_cons_mk (Below.trod laidOut (by kernel_rfl) (of_decide_eq_true (by kernel_rfl)) h0 bel lt0) (trodAll_cons_mk (Below.trod laidOut (by kernel_rfl) (of_decide_eq_true (by kernel_rfl)) h1 bel lt1) (trodAll_cons_mk (Below.trod laidOut (by kernel_rfl) (of_decide_eq_true (by kernel_rfl)) h2 bel lt2) trodAll_mk0))), rfl, bel.frame _, fun h => by cases h⟩

theorem BePuts_holds : Rows.BePutsSaid :=
  OpenClaim.holds_of_wide 7 Try.f7 rfl rfl rfl rfl rfl rfl rfl ⟨rfl, rfl, rfl, rfl, rfl⟩ rfl rfl rfl rfl rfl (by kernel_rfl) Try.func7 (by kernel_rfl)
    (of_decide_eq_true (by kernel_rfl)) (by unfold Func.isWrapper; rw [if_neg (of_decide_eq_false (by kernel_rfl))]; exact ⟨rfl, rfl⟩)
    (fun os started H enc _ => BePuts_lifted os started H enc)
#print axioms BePuts_holds
end Go.Proofs.Ytnbokpfkcfhgbaa
