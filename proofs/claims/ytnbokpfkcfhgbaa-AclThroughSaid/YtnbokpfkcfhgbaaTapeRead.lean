/- A walk of tape.Read. -/
import Derived.Test.YtnbokpfkcfhgbaaTapeOne
namespace Go.Proofs.Ytnbokpfkcfhgbaa
open Go Go.RowKit
attribute [local go_sem ↓] Go.wp_at_zero Go.wp_at_succ

/-- The records that bytes begin with, and how many bytes they take. -/
def pAll : Nat → List Int → List TR × Nat
  | 0, _ => ([], 0)
  | f + 1, L => match pOne L with
    | none => ([], 0)
    | some (t, k) => let r := pAll f (L.drop k); (t :: r.1, k + r.2)
theorem pOne_pos {L : List Int} {t : TR} {k : Nat} (h : pOne L = some (t, k)) : 9 ≤ k ∧ k ≤ L.length := by
  unfold pOne at h
  split at h
  · cases h
  · split at h
    · split at h
      · cases h
      · simp only [Option.some.injEq, Prod.mk.injEq] at h
        omega
    · split at h
      · split at h
        · cases h
        · split at h
          · cases h
          · simp only [Option.some.injEq, Prod.mk.injEq] at h
            omega
      · cases h
theorem pOne_nil {L : List Int} (h : L.length < 9) : pOne L = none := by
  unfold pOne
  rw [if_pos h]

/-- Records, one behind the other, from the front of these bytes: so many bytes they take. -/
inductive Run : List Int → List TR → Nat → Prop
  | nil (L : List Int) : Run L [] 0
  | snoc {L : List Int} {rs : List TR} {n : Nat} {t : TR} {k : Nat} : Run L rs n → pOne (L.drop n) = some (t, k) → Run L (rs ++ [t]) (n + k)
theorem Run.le {L : List Int} {rs : List TR} {n : Nat} (h : Run L rs n) : n ≤ L.length ∧ 9 * rs.length ≤ n := by
  induction h with
  | nil => simp
  | snoc _ hp ih =>
    have := pOne_pos hp
    simp only [List.length_drop] at this
    simp
    omega

theorem ei_rec : ElemInfo Try.prog 54 64 (.agg zeroR) 10 112 := elemInfo_mk Try.underlying54 (by kernel_rfl) rfl (by omega)

theorem ro_keep {w w' : World} {B : Nat} {r : RD} {row : Option Nat} (h : RO w B r) (hg : w.grownBy w' row) (h1 : (Value.slice r.eA r.eL r.eC).ownBlock = none ∨ (Value.slice r.eA r.eL r.eC).ownBlock ≠ row) (h2 : (Value.slice r.oA r.oL r.oC).ownBlock = none ∨ (Value.slice r.oA r.oL r.oC).ownBlock ≠ row) : RO w' B r :=
  ⟨World.ownsRow.kept h.1 hg h1, World.ownsRow.kept h.2 hg h2⟩
theorem ro_rd {w w' : World} {B g n c at_ : Nat} {bad : Bool} {A : Option Addr} {r : RD} (h : RO w B r) (hr : Rd w g A n c (at_ : Nat) bad) (hg : w.grownBy w' (some g)) : RO w' B r :=
  ro_keep h hg (.inr (own_blk_ne h.1 hr (by decide))) (.inr (own_blk_ne h.2 hr (by decide)))
theorem ro_below {w w' : World} {B : Nat} {r : RD} (h : RO w B r) (hb : Below w.heap.size w w') : RO w' B r := ⟨own_below h.1 hb, own_below h.2 hb⟩
/-- Rows of two types lie in two blocks. -/
theorem own_own_ne {w : World} {B B' : Nat} {e e' : TypeId} {size size' n n' : Nat} {v v' : Value} {xs xs' : List Value} (h : w.ownsRow B e size v n xs) (h' : w.ownsRow B' e' size' v' n' xs') (hne : e ≠ e') : v.ownBlock = none ∨ v.ownBlock ≠ v'.ownBlock := by
  rcases h'.2 with ⟨rfl, _⟩ | ⟨g', cap, cur, rfl, _, hh, _⟩
  · rcases hv : v.ownBlock with _ | k
    · exact .inl rfl
    · exact .inr (by simp [Value.ownBlock])
  · refine .inr ?_
    have := own_blk_ne (t := e') (cs := cur) (g := g') h hh hne
    simpa [Value.ownBlock] using this
theorem ro_own {w w' : World} {B B' size n : Nat} {e : TypeId} {v : Value} {xs : List Value} {r : RD} (h : RO w B r) (ho : w.ownsRow B' e size v n xs) (hne : 5 ≠ e) (hg : w.grownBy w' v.ownBlock) : RO w' B r :=
  ro_keep h hg (own_own_ne h.1 ho hne) (own_own_ne h.2 ho hne)

theorem St.grew {W W' : World} {g B B' m c at_ size n : Nat} {A : Option Addr} {L : List Int} {bad : Bool} {e : TypeId} {v v' : Value} {xs : List Value} (h : St W g B A m c L at_ bad) (ho : W.ownsRow B' e size v n xs) (hne : e ≠ 119) (hg : Grew W W' v v') (hB : B ≤ B') : St W' g B A m c L at_ bad :=
  ⟨h.rd.grown hg.grown (fun e => own_blk_ne ho h.rd hne e.symm), h.le, h.sl.keep ((Below.refl B W).grown hg.grown (Nat.le_trans h.bg (Nat.le_of_lt h.lt)) (fun k hk => Nat.le_trans hB (ho.lt k hk).1)), h.bg⟩
theorem rc_one (r : RD) : ∀ u ∈ (r.cells.toArray).toList, u.oneCell' = true := by
  intro u hu
  simp [RD.cells] at hu
  rcases hu with h | h | h | h | h | h | h | h | h | h <;> subst h <;> rfl

/-- What Read answers. -/
def ReadPost (w : World) (L : List Int) (e : Ending) (w' : World) : Prop :=
  ∃ (rs : List RD) (v : Value) (k : Nat), e = .returned (.tuple #[v, .int .i64 k]) ∧ Run L (rs.map RD.tr) k ∧ pOne (L.drop k) = none ∧
    w'.ownsRow w.heap.size 64 10 v rs.length (rs.map RD.cells).flatten ∧ (∀ r ∈ rs, RO w' w.heap.size r) ∧ Below w.heap.size w w'

set_option maxRecDepth 100000 in
set_option maxHeartbeats 8000000 in
theorem tRead_any (B : Nat) (A : Option Addr) (n c : Nat) (L : List Int) (w : World) (hs : BSl w B A n c L) (hB : B ≤ w.heap.size) :
    Calls Try.prog 59 #[.slice A n c] w (ReadPost w L) := by
  have hsm := hs.small
  have hcn := hs.cap
  have HL := Lib.hid hs.len
  have HS0 : St (w.alloc (.cells #[.slice A n c, .int .i64 0, .bool false] 119)) w.heap.size B A n c L 0 false :=
    ⟨Blk.new w _ _, by omega, hs.keep ((Below.refl _ _).alloc hB _), hB⟩
  go_enter Try.func59, Try.ntmps59
  go_wp2_with fail
  refine (New_any A n c w).mono ?_
  rintro e w1 ⟨rfl, rfl⟩
  have hb0 : Below w.heap.size w (w.alloc (.cells #[.slice A n c, .int .i64 0, .bool false] 119)) := (Below.refl _ _).alloc (Nat.le_refl _) _
  generalize w.alloc (.cells #[.slice A n c, .int .i64 0, .bool false] 119) = w0 at *
  go_wp2_with fail
  go_loopw [4, 6] (fun vo vn wr => ∃ (rs : List RD) (k : Nat), vn = .int .i64 k ∧ Run L (rs.map RD.tr) k ∧ St wr w.heap.size B A n c L k false ∧
      wr.ownsRow w.heap.size 64 10 vo rs.length (rs.map RD.cells).flatten ∧ (∀ r ∈ rs, RO wr w.heap.size r) ∧ Below w.heap.size w wr) (fun _ vn _ => n - (intOf vn).toNat)
  case atStart => exact ⟨[], 0, rfl, Run.nil L, HS0, World.ownsRow_nil _ _ _ _, by simp, hb0⟩
  case round =>
    obtain ⟨rs, k, rfl, hrun, hst, hown, hro, hb⟩ := hrel
    have hk := hst.le
    have HLf := Lib.hid (Left_any w.heap.size A n c k false wr hst.rd (by omega) (by omega) hsm)
    by_cases hkn : k < n
    · have d : decide ((0 : Int) < (n : Int) - (k : Int)) = true := by simp; omega
      go_wp2_with fail
      refine HLf.out.mono ?_
      rintro e w1 ⟨rfl, hb1⟩
      have hst1 := hst.keep hb1
      have hown1 := own_below hown hb1
      go_wp2_with fail
      refine (tone_any w.heap.size B A n c k L w1 hst1 hkn).mono ?_
      rintro e w2 ⟨r, ok, at', bad', rfl, hone, hrx, hst2, hg2⟩
      have hown2 := World.ownsRow.kept hown1 hg2 (.inr (own_blk_ne hown1 hst1.rd (by decide)))
      have hro2 : ∀ r ∈ rs, RO w2 w.heap.size r := fun r hr => ro_rd (ro_below (hro r hr) hb1) hst1.rd hg2
      have hbw2 : Below w.heap.size w w2 := (hb.trans (hb1.mono hb.size)).trans (below_of_only' hg2 (Nat.le_refl _) (Nat.le_trans hb.size hb1.size))
      have hrw : RO w2 w.heap.size r := ⟨World.ownsRow.mono hrx.1 (Nat.le_trans hb.size hb1.size), World.ownsRow.mono hrx.2 (Nat.le_trans hb.size hb1.size)⟩
      have HON := Lib.hid hone
      clear hone hrx
      simp only [Rc.val]
      cases ok with
      | false =>
        have hnone : pOne (L.drop k) = none := by
          have := HON.out
          unfold OneIs at this
          split at this
          · assumption
          · cases this.1
        have HNO := Lib.hid hnone
        clear hnone
        go_wp2_with fail
        refine bodyPost_ret (results_tmp2 rfl _ _ _) rfl ?_
        exact ⟨rs, _, k, rfl, hrun, HNO.out, hown2.alloc _, fun r hr => ro_below (hro2 r hr) ((Below.refl _ _).alloc (Nat.le_refl _) _), hbw2.alloc (Nat.le_trans hb.size (Nat.le_trans hb1.size hg2.size)) _⟩
      | true =>
        have hsome : ∃ s, pOne (L.drop k) = some (r.tr, s) ∧ at' = k + s ∧ bad' = false := by
          have := HON.out
          unfold OneIs at this
          split at this
          · cases this
          · rename_i t s hp
            exact ⟨s, by rw [hp, this.2.1], this.2.2.1, this.2.2.2⟩
        obtain ⟨s, hp, rfl, rfl⟩ := hsome
        have hrun' := hrun.snoc hp
        have hle := hrun'.le
        simp only [List.length_append, List.length_map, List.length_cons, List.length_nil, HL.out] at hle
        have HRUN := Lib.hid hrun'
        have hs9 := (pOne_pos hp).1
        clear hp hrun'
        have HC := Lib.hid (rc_one r)
        obtain ⟨⟨rk, rek, rec', ren, reA, reL, reC, rok, roc, ron, roa, roA, roL, roC⟩, rEL, rOL⟩ := r
        simp only
        have hown3 := hown2.alloc (.cells #[.int .i64 rk, .int .i64 rek, .int .i64 rec', .int .i64 ren, .slice reA reL reC, .int .i64 rok, .int .i64 roc, .int .i64 ron, .int .u32 roa, .slice roA roL roC] 64)
        have hx1 : rs.length + 1 ≤ maxLen := by unfold maxLen; omega
        have hx2 : (rs.length + 1) * 112 ≤ 140737488355328 := by omega
        have hbs2 : w.heap.size ≤ (w2.alloc (.cells #[.int .i64 rk, .int .i64 rek, .int .i64 rec', .int .i64 ren, .slice reA reL reC, .int .i64 rok, .int .i64 roc, .int .i64 ron, .int .u32 roa, .slice roA roL roC] 64)).heap.size := by have := hbw2.size; simp; omega
        go_wp2_with (at_builtin; refine wpList_appG rfl _ _ _ rfl w.heap.size 64 _ 10 112 ei_rec _ rs.length _ (by rfl) hown3 1 #[.int .i64 rk, .int .i64 rek, .int .i64 rec', .int .i64 ren, .slice reA reL reC, .int .i64 rok, .int .i64 roc, .int .i64 ron, .int .u32 roa, .slice roA roL roC] rfl (by simp) rfl HC.out hx1 hx2 hbs2 ?_; intro v' wa hown' hga)
        have hst3 := (hst2.alloc (.cells #[.int .i64 rk, .int .i64 rek, .int .i64 rec', .int .i64 ren, .slice reA reL reC, .int .i64 rok, .int .i64 roc, .int .i64 ron, .int .u32 roa, .slice roA roL roC] 64)).grew hown3 (by decide) hga hB
        have hbw3 : Below w.heap.size w wa := hga.below hown3 (hbw2.alloc hbw2.size _) hbs2
        have hro3 : ∀ r ∈ rs ++ [(⟨⟨rk, rek, rec', ren, reA, reL, reC, rok, roc, ron, roa, roA, roL, roC⟩, rEL, rOL⟩ : RD)], RO wa w.heap.size r := by
          intro r hr
          have h2 : RO w2 w.heap.size r := by
            rcases List.mem_append.1 hr with h | h
            · exact hro2 r h
            · rw [List.mem_singleton] at h
              subst h
              exact hrw
          exact ro_own (ro_below h2 ((Below.refl _ _).alloc (Nat.le_refl _) _)) hown3 (by decide) hga.grown
        have hown4 : wa.ownsRow w.heap.size 64 10 v' (rs ++ [(⟨⟨rk, rek, rec', ren, reA, reL, reC, rok, roc, ron, roa, roA, roL, roC⟩, rEL, rOL⟩ : RD)]).length ((rs ++ [(⟨⟨rk, rek, rec', ren, reA, reL, reC, rok, roc, ron, roa, roA, roL, roC⟩, rEL, rOL⟩ : RD)]).map RD.cells).flatten := by
          simpa [RD.cells] using hown'
        have hksn : k + s ≤ n := hle.1
        have hwr : IntKind.i64.wrap ((n : Int) - ((n : Int) - ((k + s : Nat) : Int))) = (k : Int) + (s : Int) := by
          rw [IntWalk.i64_in _ (by omega)]; omega
        clear hown' hown3 hown2 hown1 hown hro hro2 hrw hga hst2 hst1 hst hx1 hx2 hle
        refine (Left_any w.heap.size A n c ((k + s : Nat) : Int) false wa hst3.rd (by omega) (by omega) hsm).mono ?_
        rintro e w3 ⟨rfl, hb3⟩
        have hst4 := hst3.keep hb3
        go_wp2_with fail
        go_round
        case rel => exact ⟨rs ++ [⟨⟨rk, rek, rec', ren, reA, reL, reC, rok, roc, ron, roa, roA, roL, roC⟩, rEL, rOL⟩], k + s, by go_num, by rw [List.map_append]; exact HRUN.out, hst4, own_below hown4 hb3, fun r hr => ro_below (hro3 r hr) hb3, below_on hbw3 hb3⟩
        case measure => simp [intOf]; omega
    · have hkn' : k = n := by omega
      subst hkn'
      have d : decide ((0 : Int) < (k : Int) - (k : Int)) = false := by simp
      have hnone : pOne (L.drop k) = none := pOne_nil (by rw [List.length_drop, HL.out]; omega)
      have HNO := Lib.hid hnone
      clear hnone
      go_wp2_with fail
      refine HLf.out.mono ?_
      rintro e w1 ⟨rfl, hb1⟩
      go_wp2_with fail
      refine bodyPost_ret (results_tmp2 rfl _ _ _) rfl ?_
      exact ⟨rs, _, k, rfl, hrun, HNO.out, own_below hown hb1, fun r hr => ro_below (hro r hr) hb1, below_on hb hb1⟩
end Go.Proofs.Ytnbokpfkcfhgbaa
