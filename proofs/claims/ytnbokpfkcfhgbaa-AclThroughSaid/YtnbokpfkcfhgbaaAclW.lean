/- Walks of acl: Hits, hits, find, Find, May: each hands back what the plain function of the rules says. -/
import Derived.Test.YtnbokpfkcfhgbaaCidr
import Derived.Test.YtnbokpfkcfhgbaaCidrRef
namespace Go.Proofs.Ytnbokpfkcfhgbaa
open Go Go.RowKit
attribute [local go_sem ↓] Go.wp_at_zero Go.wp_at_succ

structure Rule where
  p : Int
  fa : Int
  fb : Int
  ta : Int
  tb : Int
  may : Bool
def Rule.cells (r : Rule) : List Value := [.int .u8 r.p, .int .u32 r.fa, .int .i64 r.fb, .int .u32 r.ta, .int .i64 r.tb, .bool r.may]
def Rule.ok (r : Rule) : Prop := 0 ≤ r.fa ∧ r.fa < 4294967296 ∧ 0 ≤ r.ta ∧ r.ta < 4294967296
def hitB (p fa fb ta tb pp src dst : Int) : Bool := (p == 0 || p == pp) && hasB fa fb src && hasB ta tb dst
def Rule.hit (r : Rule) (pp src dst : Int) : Bool := hitB r.p r.fa r.fb r.ta r.tb pp src dst

set_option maxHeartbeats 1000000 in
theorem Hits_walk (p fa fb ta tb : Int) (may : Bool) (pp src dst : Int) (v0 v1 v3 v4 v7 v8 : Value) (w : World) (h1 : 0 ≤ fa) (h2 : fa < 4294967296) (h3 : 0 ≤ ta) (h4 : ta < 4294967296)
    (h5 : 0 ≤ src) (h6 : src < 4294967296) (h7 : 0 ≤ dst) (h8 : dst < 4294967296) :
    Calls Try.prog 16 #[.agg #[.int .u8 p, .int .u32 fa, .int .i64 fb, .int .u32 ta, .int .i64 tb, .bool may], .agg #[v0, v1, .int .u8 pp, v3, v4, .int .u32 src, .int .u32 dst, v7, v8]] w
      (Pure w (.bool (hitB p fa fb ta tb pp src dst))) := by
  cases c1 : (p == 0 || p == pp)
  · have e : hitB p fa fb ta tb pp src dst = false := by simp [hitB, c1]
    have c2 : (p == 0) = false := by revert c1; cases (p == 0) <;> simp
    have c3 : (p == pp) = false := by revert c1; cases (p == pp) <;> simp
    rw [e]
    clear c1 e
    go_enter Try.func16, Try.ntmps16
    go_wp2_with fail
    go_ret
    exact ⟨rfl, below_new (below_new (Below.refl _ _))⟩
  · have hor : (p == 0) = true ∨ ((p == 0) = false ∧ (p == pp) = true) := by
      revert c1; cases (p == 0) <;> simp
    cases g1 : hasB fa fb src
    · have e : hitB p fa fb ta tb pp src dst = false := by simp [hitB, g1]
      rw [e]
      clear c1 e
      rcases hor with c2 | ⟨c2, c3⟩
      ·
        go_enter Try.func16, Try.ntmps16
        go_wp2_with fail
        refine (has_any _ _ _ _ (by omega) (by omega) (by omega) (by omega)).mono ?_
        rintro e w1 ⟨rfl, hb1⟩
        obtain ⟨hc1, hf1⟩ := bcell hb1
        go_wp2_with fail
        go_ret
        exact ⟨rfl, below_new (below_new hb1)⟩
      ·
        go_enter Try.func16, Try.ntmps16
        go_wp2_with fail
        refine (has_any _ _ _ _ (by omega) (by omega) (by omega) (by omega)).mono ?_
        rintro e w1 ⟨rfl, hb1⟩
        obtain ⟨hc1, hf1⟩ := bcell hb1
        go_wp2_with fail
        go_ret
        exact ⟨rfl, below_new (below_new hb1)⟩
    · have e : hitB p fa fb ta tb pp src dst = hasB ta tb dst := by simp [hitB, g1, c1]
      rw [e]
      clear c1 e
      rcases hor with c2 | ⟨c2, c3⟩
      ·
        go_enter Try.func16, Try.ntmps16
        go_wp2_with fail
        refine (has_any _ _ _ _ (by omega) (by omega) (by omega) (by omega)).mono ?_
        rintro e w1 ⟨rfl, hb1⟩
        obtain ⟨hc1, hf1⟩ := bcell hb1
        go_wp2_with fail
        refine (has_any _ _ _ _ (by omega) (by omega) (by omega) (by omega)).mono ?_
        rintro e w2 ⟨rfl, hb2⟩
        obtain ⟨hc2, hf2⟩ := bcell hb2
        go_wp2_with fail
        go_ret
        exact ⟨rfl, below_on (below_new (below_new hb1)) hb2⟩
      ·
        go_enter Try.func16, Try.ntmps16
        go_wp2_with fail
        refine (has_any _ _ _ _ (by omega) (by omega) (by omega) (by omega)).mono ?_
        rintro e w1 ⟨rfl, hb1⟩
        obtain ⟨hc1, hf1⟩ := bcell hb1
        go_wp2_with fail
        refine (has_any _ _ _ _ (by omega) (by omega) (by omega) (by omega)).mono ?_
        rintro e w2 ⟨rfl, hb2⟩
        obtain ⟨hc2, hf2⟩ := bcell hb2
        go_wp2_with fail
        go_ret
        exact ⟨rfl, below_on (below_new (below_new hb1)) hb2⟩

set_option maxHeartbeats 1000000 in
theorem hits_walk (p fa fb ta tb : Int) (may : Bool) (pp src dst : Int) (v0 v1 v3 v4 v7 v8 : Value) (w : World) (h1 : 0 ≤ fa) (h2 : fa < 4294967296) (h3 : 0 ≤ ta) (h4 : ta < 4294967296)
    (h5 : 0 ≤ src) (h6 : src < 4294967296) (h7 : 0 ≤ dst) (h8 : dst < 4294967296) :
    Calls Try.prog 17 #[.agg #[.int .u8 p, .int .u32 fa, .int .i64 fb, .int .u32 ta, .int .i64 tb, .bool may], .agg #[v0, v1, .int .u8 pp, v3, v4, .int .u32 src, .int .u32 dst, v7, v8]] w
      (Pure w (.bool (hitB p fa fb ta tb pp src dst))) := by
  cases c1 : (p == 0 || p == pp)
  · have e : hitB p fa fb ta tb pp src dst = false := by simp [hitB, c1]
    have c2 : (p == 0) = false := by revert c1; cases (p == 0) <;> simp
    have c3 : (p == pp) = false := by revert c1; cases (p == pp) <;> simp
    rw [e]
    clear c1 e
    go_enter Try.func17, Try.ntmps17
    go_wp2_with fail
    go_ret
    exact ⟨rfl, below_new (below_new (Below.refl _ _))⟩
  · have hor : (p == 0) = true ∨ ((p == 0) = false ∧ (p == pp) = true) := by
      revert c1; cases (p == 0) <;> simp
    cases g1 : hasB fa fb src
    · have e : hitB p fa fb ta tb pp src dst = false := by simp [hitB, g1]
      rw [e]
      clear c1 e
      rcases hor with c2 | ⟨c2, c3⟩
      ·
        go_enter Try.func17, Try.ntmps17
        go_wp2_with fail
        refine (refHas_any _ _ _ _ (by omega) (by omega) (by omega) (by omega)).mono ?_
        rintro e w1 ⟨rfl, hb1⟩
        obtain ⟨hc1, hf1⟩ := bcell hb1
        go_wp2_with fail
        go_ret
        exact ⟨rfl, below_new (below_new hb1)⟩
      ·
        go_enter Try.func17, Try.ntmps17
        go_wp2_with fail
        refine (refHas_any _ _ _ _ (by omega) (by omega) (by omega) (by omega)).mono ?_
        rintro e w1 ⟨rfl, hb1⟩
        obtain ⟨hc1, hf1⟩ := bcell hb1
        go_wp2_with fail
        go_ret
        exact ⟨rfl, below_new (below_new hb1)⟩
    · have e : hitB p fa fb ta tb pp src dst = hasB ta tb dst := by simp [hitB, g1, c1]
      rw [e]
      clear c1 e
      rcases hor with c2 | ⟨c2, c3⟩
      ·
        go_enter Try.func17, Try.ntmps17
        go_wp2_with fail
        refine (refHas_any _ _ _ _ (by omega) (by omega) (by omega) (by omega)).mono ?_
        rintro e w1 ⟨rfl, hb1⟩
        obtain ⟨hc1, hf1⟩ := bcell hb1
        go_wp2_with fail
        refine (refHas_any _ _ _ _ (by omega) (by omega) (by omega) (by omega)).mono ?_
        rintro e w2 ⟨rfl, hb2⟩
        obtain ⟨hc2, hf2⟩ := bcell hb2
        go_wp2_with fail
        go_ret
        exact ⟨rfl, below_on (below_new (below_new hb1)) hb2⟩
      ·
        go_enter Try.func17, Try.ntmps17
        go_wp2_with fail
        refine (refHas_any _ _ _ _ (by omega) (by omega) (by omega) (by omega)).mono ?_
        rintro e w1 ⟨rfl, hb1⟩
        obtain ⟨hc1, hf1⟩ := bcell hb1
        go_wp2_with fail
        refine (refHas_any _ _ _ _ (by omega) (by omega) (by omega) (by omega)).mono ?_
        rintro e w2 ⟨rfl, hb2⟩
        obtain ⟨hc2, hf2⟩ := bcell hb2
        go_wp2_with fail
        go_ret
        exact ⟨rfl, below_on (below_new (below_new hb1)) hb2⟩
end Go.Proofs.Ytnbokpfkcfhgbaa
