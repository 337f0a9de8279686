/- CidrTells: of any two prefixes and any address the law returns true, and its arguments read as before. No condition. -/
import Derived.Test.YtnbokpfkcfhgbaaRows
import Derived.Test.YtnbokpfkcfhgbaaTypes
import Derived.Test.YtnbokpfkcfhgbaaCidr2
import Derived.Test.YtnbokpfkcfhgbaaCidrAlive
import Derived.ChangeOld
namespace Go.Proofs.Ytnbokpfkcfhgbaa
open Go Go.RowKit Go.ChangeShapes Go.WideShapes Go.ChangeAt Go.Deep
attribute [local go_sem ↓] Go.wp_at_zero Go.wp_at_succ
attribute [local go_sem] eqPfx guardPfx

set_option maxHeartbeats 1000000 in
theorem Compare_any (a b c d : Int) (w : World) :
    Calls Try.prog 58 #[.agg #[.int .u32 a, .int .i64 b], .agg #[.int .u32 c, .int .i64 d]] w (Pure w (.int .i64 (cmpP a b c d))) := by
  have hfin : cmpP a b c d = if cmpI a c = 0 then cmpI b d else cmpI a c := rfl
  generalize cmpP a b c d = r at *
  have HR := Lib.hid hfin
  clear hfin
  generalize hx : cmpI a c = x at HR
  generalize hy : cmpI b d = y at HR
  have HX := fun W => cmpAddr_any a c W
  have HY := fun W => cmpInt_any b d W
  rw [hx] at HX
  rw [hy] at HY
  clear hx hy
  have HX1 := Lib.hid HX
  have HY1 := Lib.hid HY
  clear HX HY
  go_enter Try.func58, Try.ntmps58
  go_wp2_with fail
  go_region_held3 (fun w' => w'.cell? ⟨w.heap.size, 0, none⟩ = some (.int .u32 a) ∧ w'.cell? ⟨w.heap.size, 1, none⟩ = some (.int .i64 b) ∧ w'.cell? ⟨w.heap.size + 1, 0, none⟩ = some (.int .u32 c) ∧ w'.cell? ⟨w.heap.size + 1, 1, none⟩ = some (.int .i64 d)) (go_keep)
    (first
      | (go_at_call 83; refine (HX1.out _).mono ?_; rintro e w' ⟨rfl, rfl⟩)
      | (go_at_call 84; refine (HY1.out _).mono ?_; rintro e w' ⟨rfl, rfl⟩)
      | (go_at_call 82; refine (or2_any _ x y r _ HR (by simp [go_sem]) (by simp [go_sem])).mono ?_; rintro e w' ⟨rfl, rfl⟩))
  go_wp2_with fail
  go_ret
  exact ⟨rfl, (below_new (below_new (below_new (Below.refl _ _)))).drew⟩

theorem cmpP_cases (a b c d : Int) : (a < c ∧ cmpP a b c d = -1) ∨ (a = c ∧ b < d ∧ cmpP a b c d = -1) ∨ (a = c ∧ b = d ∧ cmpP a b c d = 0) ∨ (a = c ∧ d < b ∧ cmpP a b c d = 1) ∨ (c < a ∧ cmpP a b c d = 1) := by
  unfold cmpP cmpI
  rcases Int.lt_trichotomy a c with h | h | h
  · left; simp [h]
  · subst h
    rcases Int.lt_trichotomy b d with h' | h' | h'
    · right; left; simp [h']
    · subst h'; right; right; left; simp
    · right; right; right; left
      have : ¬ b < d := by omega
      simp [h', this]
  · right; right; right; right
    have : ¬ a < c := by omega
    simp [h, this]

set_option maxRecDepth 100000 in
set_option maxHeartbeats 4000000 in
theorem CidrTells_walk (a b c d x : Int) (w : World) (ha : 0 ≤ a) (ha' : a < 4294967296) (hc : 0 ≤ c) (hc' : c < 4294967296) (hx : 0 ≤ x) (hx' : x < 4294967296) :
    Calls Try.prog 10 #[.agg #[.int .u32 a, .int .i64 b], .agg #[.int .u32 c, .int .i64 d], .int .u32 x] w (Pure w (.bool true)) := by
  have g1 := fun W => right_any a b W ha ha'
  have g2 := fun W => refRight_any a b W ha ha'
  have g3 := fun W => has_any a b x W ha ha' hx hx'
  have g4 := fun W => refHas_any a b x W ha ha' hx hx'
  have g5 := fun W => within_any a b c d W ha ha' hc hc'
  have g6 := fun W => refWithin_any a b c d W ha ha' hc hc'
  have g7 := fun W => Of_full x b W hx hx'
  have g8 := fun W => refOf_full x b W hx hx'
  have g9 := fun W => Compare_any a b c d W
  generalize rightB a b = r1 at *
  generalize hasB a b x = r2 at *
  generalize withinB a b c d = r3 at *
  generalize x - x % sizeN (clampN b) = ox at *
  generalize clampN b = ob at *
  have H1 := Lib.hid g1
  have H2 := Lib.hid g2
  have H3 := Lib.hid g3
  have H4 := Lib.hid g4
  have H5 := Lib.hid g5
  have H6 := Lib.hid g6
  have H7 := Lib.hid g7
  have H8 := Lib.hid g8
  clear g1 g2 g3 g4 g5 g6 g7 g8
  rcases cmpP_cases a b c d with ⟨q1, e⟩ | ⟨rfl, q1, e⟩ | ⟨rfl, rfl, e⟩ | ⟨rfl, q1, e⟩ | ⟨q1, e⟩
  ·
    rw [e] at g9
    have H9 := Lib.hid g9
    have q2 : decide (a < c) = true := by simpa using q1
    clear g9 e
    go_enter Try.func10, Try.ntmps10
    go_wp2_with fail
    refine wp_region_calm _ (boxes2 w #[.int .u32 a, .int .i64 b] #[.int .u32 c, .int .i64 d] 32 32) (by kernel_rfl) (by kernel_rfl) (fun hS => ?_)
    simp only [elemL, List.cons_append, List.nil_append, Holds.cons, Holds.nil, and_true, Nat.add_zero] at hS
    repeat (go_big_quiet_step ((first | (go_at_call 51; exact calm_of (H1.out _)) | (go_at_call 52; exact calm_of (H2.out _)) | (go_at_call 53; exact calm_of (H3.out _)) | (go_at_call 54; exact calm_of (H4.out _)) | (go_at_call 55; exact calm_of (H5.out _)) | (go_at_call 47; exact calm_of (H6.out _)) | (go_at_call 56; exact calm_of (H7.out _)) | (go_at_call 57; exact calm_of (H8.out _)))))
    refine wpQuiet_nil ?_
    clear hS
    intro w1 hb1 hS1
    simp only [elemL, List.cons_append, List.nil_append, Holds.cons, Holds.nil, and_true, Nat.add_zero] at hS1
    go_wp2_with fail
    refine (H9.out _).mono ?_
    rintro e w2 ⟨rfl, hb2⟩
    go_wp2_with fail
    refine (cidrAlive_walk _).mono ?_
    rintro e w3 ⟨rfl, hb3⟩
    go_wp2_with fail
    go_ret
    exact ⟨rfl, below_on (below_on (below_new (below_new hb1)) hb2) hb3⟩
  ·
    rw [e] at g9
    have H9 := Lib.hid g9
    have q2 : decide (b < d) = true := by simpa using q1
    clear g9 e
    go_enter Try.func10, Try.ntmps10
    go_wp2_with fail
    refine wp_region_calm _ (boxes2 w #[.int .u32 a, .int .i64 b] #[.int .u32 a, .int .i64 d] 32 32) (by kernel_rfl) (by kernel_rfl) (fun hS => ?_)
    simp only [elemL, List.cons_append, List.nil_append, Holds.cons, Holds.nil, and_true, Nat.add_zero] at hS
    repeat (go_big_quiet_step ((first | (go_at_call 51; exact calm_of (H1.out _)) | (go_at_call 52; exact calm_of (H2.out _)) | (go_at_call 53; exact calm_of (H3.out _)) | (go_at_call 54; exact calm_of (H4.out _)) | (go_at_call 55; exact calm_of (H5.out _)) | (go_at_call 47; exact calm_of (H6.out _)) | (go_at_call 56; exact calm_of (H7.out _)) | (go_at_call 57; exact calm_of (H8.out _)))))
    refine wpQuiet_nil ?_
    clear hS
    intro w1 hb1 hS1
    simp only [elemL, List.cons_append, List.nil_append, Holds.cons, Holds.nil, and_true, Nat.add_zero] at hS1
    go_wp2_with fail
    refine (H9.out _).mono ?_
    rintro e w2 ⟨rfl, hb2⟩
    go_wp2_with fail
    refine (cidrAlive_walk _).mono ?_
    rintro e w3 ⟨rfl, hb3⟩
    go_wp2_with fail
    go_ret
    exact ⟨rfl, below_on (below_on (below_new (below_new hb1)) hb2) hb3⟩
  ·
    rw [e] at g9
    have H9 := Lib.hid g9
    clear g9 e
    go_enter Try.func10, Try.ntmps10
    go_wp2_with fail
    refine wp_region_calm _ (boxes2 w #[.int .u32 a, .int .i64 b] #[.int .u32 a, .int .i64 b] 32 32) (by kernel_rfl) (by kernel_rfl) (fun hS => ?_)
    simp only [elemL, List.cons_append, List.nil_append, Holds.cons, Holds.nil, and_true, Nat.add_zero] at hS
    repeat (go_big_quiet_step ((first | (go_at_call 51; exact calm_of (H1.out _)) | (go_at_call 52; exact calm_of (H2.out _)) | (go_at_call 53; exact calm_of (H3.out _)) | (go_at_call 54; exact calm_of (H4.out _)) | (go_at_call 55; exact calm_of (H5.out _)) | (go_at_call 47; exact calm_of (H6.out _)) | (go_at_call 56; exact calm_of (H7.out _)) | (go_at_call 57; exact calm_of (H8.out _)))))
    refine wpQuiet_nil ?_
    clear hS
    intro w1 hb1 hS1
    simp only [elemL, List.cons_append, List.nil_append, Holds.cons, Holds.nil, and_true, Nat.add_zero] at hS1
    go_wp2_with fail
    refine (H9.out _).mono ?_
    rintro e w2 ⟨rfl, hb2⟩
    go_wp2_with fail
    refine (cidrAlive_walk _).mono ?_
    rintro e w3 ⟨rfl, hb3⟩
    go_wp2_with fail
    go_ret
    exact ⟨rfl, below_on (below_on (below_new (below_new hb1)) hb2) hb3⟩
  ·
    rw [e] at g9
    have H9 := Lib.hid g9
    have q2 : decide (b < d) = false := by simp; omega
    have q3 : ¬ b = d := by omega
    clear g9 e
    go_enter Try.func10, Try.ntmps10
    go_wp2_with fail
    refine wp_region_calm _ (boxes2 w #[.int .u32 a, .int .i64 b] #[.int .u32 a, .int .i64 d] 32 32) (by kernel_rfl) (by kernel_rfl) (fun hS => ?_)
    simp only [elemL, List.cons_append, List.nil_append, Holds.cons, Holds.nil, and_true, Nat.add_zero] at hS
    repeat (go_big_quiet_step ((first | (go_at_call 51; exact calm_of (H1.out _)) | (go_at_call 52; exact calm_of (H2.out _)) | (go_at_call 53; exact calm_of (H3.out _)) | (go_at_call 54; exact calm_of (H4.out _)) | (go_at_call 55; exact calm_of (H5.out _)) | (go_at_call 47; exact calm_of (H6.out _)) | (go_at_call 56; exact calm_of (H7.out _)) | (go_at_call 57; exact calm_of (H8.out _)))))
    refine wpQuiet_nil ?_
    clear hS
    intro w1 hb1 hS1
    simp only [elemL, List.cons_append, List.nil_append, Holds.cons, Holds.nil, and_true, Nat.add_zero] at hS1
    go_wp2_with fail
    refine (H9.out _).mono ?_
    rintro e w2 ⟨rfl, hb2⟩
    go_wp2_with fail
    refine (cidrAlive_walk _).mono ?_
    rintro e w3 ⟨rfl, hb3⟩
    go_wp2_with fail
    go_ret
    exact ⟨rfl, below_on (below_on (below_new (below_new hb1)) hb2) hb3⟩
  ·
    rw [e] at g9
    have H9 := Lib.hid g9
    have q2 : decide (a < c) = false := by simp; omega
    have q3 : ¬ a = c := by omega
    have q4 : (a == c) = false := by simp; omega
    clear g9 e
    go_enter Try.func10, Try.ntmps10
    go_wp2_with fail
    refine wp_region_calm _ (boxes2 w #[.int .u32 a, .int .i64 b] #[.int .u32 c, .int .i64 d] 32 32) (by kernel_rfl) (by kernel_rfl) (fun hS => ?_)
    simp only [elemL, List.cons_append, List.nil_append, Holds.cons, Holds.nil, and_true, Nat.add_zero] at hS
    repeat (go_big_quiet_step ((first | (go_at_call 51; exact calm_of (H1.out _)) | (go_at_call 52; exact calm_of (H2.out _)) | (go_at_call 53; exact calm_of (H3.out _)) | (go_at_call 54; exact calm_of (H4.out _)) | (go_at_call 55; exact calm_of (H5.out _)) | (go_at_call 47; exact calm_of (H6.out _)) | (go_at_call 56; exact calm_of (H7.out _)) | (go_at_call 57; exact calm_of (H8.out _)))))
    refine wpQuiet_nil ?_
    clear hS
    intro w1 hb1 hS1
    simp only [elemL, List.cons_append, List.nil_append, Holds.cons, Holds.nil, and_true, Nat.add_zero] at hS1
    go_wp2_with fail
    refine (H9.out _).mono ?_
    rintro e w2 ⟨rfl, hb2⟩
    go_wp2_with fail
    refine (cidrAlive_walk _).mono ?_
    rintro e w3 ⟨rfl, hb3⟩
    go_wp2_with fail
    go_ret
    exact ⟨rfl, below_on (below_on (below_new (below_new hb1)) hb2) hb3⟩

theorem CidrTells_open {H : Type} {enc : TypeId × Value → H} {W : World} {base : Nat} {v0 v1 v2 : Value} {d0 d1 d2 : DataW H} {p0 p1 p2 : List MemPlace}
    (a0 : ArgIn enc Try.prog W base 32 v0 d0 p0) (a1 : ArgIn enc Try.prog W base 32 v1 d1 p1) (a2 : ArgIn enc Try.prog W base 26 v2 d2 p2) :
    Calls Try.prog 10 #[v0, v1, v2] W (Pure W (.bool true)) := by
  obtain ⟨cs, f0, e0, t0⟩ := a0.struct Try.underlying32
  obtain ⟨a, b, e0', q1, q2, _, _⟩ := open_prefix t0
  obtain ⟨ds, f1, e1, t1⟩ := a1.struct Try.underlying32
  obtain ⟨c, d, e1', q3, q4, _, _⟩ := open_prefix t1
  obtain ⟨x, e2, wx⟩ := a2.int Try.underlying26
  have := bounds_u32 wx
  exact calls_args (CidrTells_walk a b c d x W q1 q2 q3 q4 (by omega) (by omega)) (by rw [e0, e1, e2, e0', e1'])

set_option maxRecDepth 100000 in
theorem CidrTells_lifted (os : Os) (started : os.Started) (H : Type) (enc : TypeId × Value → H) :
    ReturnsInHanded {} Try.checked os 10 .any (Rows.cidrTellsSpec.pre6 enc Try.prog Try.f10 Rows.cidrTellsRow.domain false) (Rows.cidrTellsSpec.post enc Try.prog Try.f10 false true false false) := by
  refine returnsInHanded_of_change (C := Try.checked) own started (by kernel_rfl) Try.func10
    (ChangeSpec.witness6 (enc := enc) (C := Try.checked) false ⟨#[], #[.agg #[.int .u32 0, .int .i64 0], .agg #[.int .u32 0, .int .i64 0], .int .u32 0], []⟩ 8 (by kernel_rfl) (by kernel_rfl) (by kernel_rfl) (by kernel_rfl)) ?_
  intro W base args ds gs before hval0 hW hcnd _
  have hval : ∀ (j : Nat) t v, Try.f10.params[j]? = some t → args[j]? = some v → Value.okWide Try.prog W .any base t v := hval0
  have hW' := hW
  obtain ⟨p, q, hA0, hV, rfl, hfz, hnd⟩ := hW
  have hA : DataW.TrodAll enc Try.prog W 0 (fun _ => true) true Try.f10.params.toList args.toList ds p := hA0
  rw [Try.params10] at hA hval
  obtain ⟨v0, vs0, d0, ds0, p0, q0, hargs, rfl, rfl, h0, r0⟩ := trodAll_cons hA
  obtain ⟨v1, vs1, d1, ds1, p1, q1, rfl, rfl, rfl, h1, r1⟩ := trodAll_cons r0
  obtain ⟨v2, vs2, d2, ds2, p2, q2, rfl, rfl, rfl, h2, r2⟩ := trodAll_cons r1
  obtain ⟨rfl, rfl, rfl⟩ := trodAll_nil r2
  obtain rfl : args = #[v0, v1, v2] := by cases args; simp_all
  obtain ⟨rfl, rfl⟩ := trodVars_none hV
  have lt0 : ∀ x ∈ p0, x.block < W.heap.size := by obtain ⟨m, hm⟩ := h0; exact DataW.trod_lt m _ _ _ hm
  have lt1 : ∀ x ∈ p1, x.block < W.heap.size := by obtain ⟨m, hm⟩ := h1; exact DataW.trod_lt m _ _ _ hm
  have lt2 : ∀ x ∈ p2, x.block < W.heap.size := by obtain ⟨m, hm⟩ := h2; exact DataW.trod_lt m _ _ _ hm
  clear hA0 hval0
  refine (CidrTells_open ⟨hval 0 32 v0 rfl rfl, h0⟩ ⟨hval 1 32 v1 rfl rfl, h1⟩ ⟨hval 2 26 v2 rfl rfl, h2⟩).mono fun e W' ⟨he, bel⟩ => ?_
  subst he
  exact ⟨_, rfl, _, _, _, [], _, [], hW', trodAll_mk1 (shut_bool Try.underlying4 _), (trodAll_cons_mk (Below.trod laidOut (by kernel_rfl) (of_decide_eq_true (by kernel_rfl)) h0 bel lt0) (trodAll_cons_mk (Below.trod laidOut (by kernel_rfl) (of_decide_eq_true (by kernel_rfl)) h1 bel lt1) (trodAll_cons_mk (Below.trod laidOut (by kernel_rfl) (of_decide_eq_true (by kernel_rfl)) h2 bel lt2) trodAll_mk0))), rfl, bel.frame _, fun h => by cases h⟩

theorem CidrTells_holds : Rows.CidrTellsSaid :=
  OpenClaim.holds_of_wide 10 Try.f10 rfl rfl rfl rfl rfl rfl rfl ⟨rfl, rfl, rfl, rfl, rfl⟩ rfl rfl rfl rfl rfl (by kernel_rfl) Try.func10 (by kernel_rfl)
    (of_decide_eq_true (by kernel_rfl)) (by unfold Func.isWrapper; rw [if_neg (of_decide_eq_false (by kernel_rfl))]; exact ⟨rfl, rfl⟩)
    (fun os started H enc _ => CidrTells_lifted os started H enc)
#print axioms CidrTells_holds
end Go.Proofs.Ytnbokpfkcfhgbaa
