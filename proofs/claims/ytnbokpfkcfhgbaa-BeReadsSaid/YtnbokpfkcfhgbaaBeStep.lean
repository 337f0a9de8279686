/- A walk of BeReads's step: both readers stay alike. -/
import Derived.Test.YtnbokpfkcfhgbaaBeBack
import Derived.Test.YtnbokpfkcfhgbaaBe3
namespace Go.Proofs.Ytnbokpfkcfhgbaa
open Go Go.RowKit Go.ChangeShapes Go.WideShapes Go.ChangeAt Go.Deep
attribute [local go_sem ↓] Go.wp_at_zero Go.wp_at_succ

/-- Both readers stand alike. -/
def Alike (w : World) (g h B : Nat) (A : Option Addr) (n c : Nat) (L : List Int) (at_ : Nat) (bad : Bool) : Prop :=
  Rd w g A n c at_ bad ∧ at_ ≤ n ∧ BSl w B A n c L ∧ RefRd w h B (L.drop at_) bad
theorem Alike.keep {w w' : World} {g h B : Nat} {A : Option Addr} {n c : Nat} {L : List Int} {at_ : Nat} {bad : Bool} (ha : Alike w g h B A n c L at_ bad) (hb : Below w.heap.size w w') (hB : B ≤ w.heap.size) : Alike w' g h B A n c L at_ bad :=
  ⟨Blk.keep ha.1 hb, ha.2.1, ha.2.2.1.keep (hb.mono hB), ha.2.2.2.keep hb hB⟩
def StepPost (w : World) (g h B : Nat) (A : Option Addr) (n c : Nat) (L : List Int) (e : Ending) (w' : World) : Prop :=
  e = .returned (.bool true) ∧ (∃ at_ bad, Alike w' g h B A n c L at_ bad) ∧ Below B w w'

set_option maxRecDepth 100000 in
set_option maxHeartbeats 4000000 in
theorem step_any (g h B : Nat) (A : Option Addr) (n c at_ : Nat) (bad : Bool) (L : List Int) (kind N : Int) (w : World) (ha : Alike w g h B A n c L at_ bad) (hg : B ≤ g) (hh : B ≤ h) (hne : g ≠ h) (hk : -9223372036854775808 ≤ kind ∧ kind ≤ 9223372036854775807) :
    Calls Try.prog 46 #[.pointer (some ⟨g, 0, none⟩), .pointer (some ⟨h, 0, none⟩), .agg #[.int .i64 kind, .int .i64 N]] w (StepPost w g h B A n c L) := by
  obtain ⟨hr, hat, hs, hf⟩ := ha
  have hgs := Blk.lt hr
  have hW : Below w.heap.size w (w.alloc (.cells #[.int .i64 kind, .int .i64 N] 82)) := (Below.refl _ _).alloc (Nat.le_refl _) _
  have hbox := Blk.new w 82 #[.int .i64 kind, .int .i64 N]
  have hrW : Rd (w.alloc (.cells #[.int .i64 kind, .int .i64 N] 82)) g A n c at_ bad := Blk.keep hr hW
  have hsW := hs.keep (hW.mono (by omega))
  have hfW := hf.keep hW (by omega)
  have hgb : g < w.heap.size := hgs
  have hhb : h < w.heap.size := by obtain ⟨_, _, _, q, _⟩ := hf; exact q.lt
  have hL := hs.len
  have hBw := hW.mono (show B ≤ w.heap.size by omega)
  obtain ⟨W, hWd⟩ : ∃ W, W = w.alloc (.cells #[.int .i64 kind, .int .i64 N] 82) := ⟨_, rfl⟩
  obtain ⟨bx, hbx⟩ : ∃ bx, bx = w.heap.size := ⟨_, rfl⟩
  have HW := Lib.hid hWd
  have HB := Lib.hid hbx
  rw [← hWd, ← hbx] at hbox
  rw [← hWd] at hrW hsW hfW hBw
  have b0 := hbox.cell 0
  have b1 := hbox.cell 1
  clear hWd hbx hr hs hf hW
  have hgx : some bx ≠ some g := by intro e; injection e with e; have := HB.out; omega
  have hhx : some bx ≠ some h := by intro e; injection e with e; have := HB.out; omega
  have hgW : W.heap.size = bx + 1 := by rw [HW.out, HB.out]; exact World.size_alloc _ _
  have hBW : B ≤ W.heap.size := by have := HB.out; omega
  have haW : Alike W g h B A n c L at_ bad := ⟨hrW, hat, hsW, hfW⟩
  have haD : Alike W.drew g h B A n c L at_ bad := haW.keep ((Below.refl _ _).drew) hBW
  have hboxD : Blk W.drew bx 82 #[.int .i64 kind, .int .i64 N] := hbox
  have P1 := Lib.hid fun (Wx : World) (ha : Alike Wx g h B A n c L at_ bad) size => Num_any g A n c at_ bad L size Wx ha.1 hat hsW.small hsW.cap hL hsW.isb ha.2.2.1.els
  have P2 := Lib.hid fun (Wx w1 : World) (ha : Alike Wx g h B A n c L at_ bad) (hb : B ≤ Wx.heap.size) (hg1 : Wx.grownBy w1 (some g)) size => refRNum_any h B (L.drop at_) bad size w1 (ha.2.2.2.grown hg1 (Ne.symm hne) hg hb) hh
  have P3 := Lib.hid fun (Wx w1 w2 : World) (ha : Alike Wx g h B A n c L at_ bad) (hb : B ≤ Wx.heap.size) (hbw : Below B w Wx) (size : Int) (hr1 : Rd w1 g A n c ((rdNum L at_ bad size).2.1 : Nat) (rdNum L at_ bad size).2.2) (hg1 : Wx.grownBy w1 (some g)) (hp : RefPost w1 h B (refN (L.drop at_) bad size).2.1 (refN (L.drop at_) bad size).2.2 w2) =>
    (show (∃ at_ bad, Alike w2 g h B A n c L at_ bad) ∧ Below B w w2 from by
      rw [rd_num] at hp
      have hb1 : Below B Wx w1 := below_of_only' hg1 hg hb
      have hb2 : Below B w1 w2 := below_of_only' hp.2 hh (Nat.le_trans hb hb1.size)
      exact ⟨⟨_, _, Blk.grown hr1 hp.2 (by intro e; injection e with e; exact hne e), by have := rdNum_le L at_ bad size (by omega); omega, ha.2.2.1.keep (hb1.trans hb2), hp.1⟩, hbw.trans (hb1.trans hb2)⟩)
  by_cases k0 : kind.tmod 6 = 0
  · have Q1 := Lib.hid (P1.out W.drew haD N)
    have Q2 := Lib.hid fun w1 hg1 => P2.out W.drew w1 haD hBW hg1 N
    have Q3 := Lib.hid fun w1 w2 => P3.out W.drew w1 w2 haD hBW hBw.drew N
    clear P1 P2 P3
    have hx : (refN (L.drop at_) bad N).1 = (rdNum L at_ bad N).1 := by rw [rd_num]
    rw [hx] at Q2
    clear hx
    generalize (rdNum L at_ bad N).1 = x at *
    go_enter Try.func46, Try.ntmps46
    go_wp2_with fail
    rw [← HW.out, ← HB.out]
    go_region_held3 (fun w' => w'.cell? ⟨bx, 1, none⟩ = some (.int .i64 N)) (go_keep)
      (first | (go_at_call 27; refine Q1.out.mono ?_; rintro e w1 ⟨rfl, hr1, hg1⟩; have hb1x := (hboxD.grown hg1 hgx).cell 1) | (go_at_call 73; refine (Q2.out w1 hg1).mono ?_; rintro e w2 ⟨rfl, hp2⟩; have hb2x := ((hboxD.grown hg1 hgx).grown hp2.2 hhx).cell 1))
    go_wp2_with fail
    go_ret
    exact ⟨rfl, Q3.out w1 w2 hr1 hg1 hp2⟩
  by_cases k1 : kind.tmod 6 = 1
  · have Q1 := Lib.hid (U8_any g A n c at_ bad L W hrW hat hsW.small hsW.cap hL hsW.isb hsW.els)
    have Q2 := Lib.hid fun w1 hg1 => P2.out W w1 haW hBW hg1 1
    have Q3 := Lib.hid fun w1 w2 => P3.out W w1 w2 haW hBW hBw 1
    have hx : (refN (L.drop at_) bad 1).1 = (rdNum L at_ bad 1).1 := by rw [rd_num]
    have q : 0 ≤ (rdNum L at_ bad 1).1 ∧ (rdNum L at_ bad 1).1 < 256 ^ 1 := rdNum_top L at_ bad 1 (by omega) hsW.isb
    clear P1 P2 P3
    rw [hx] at Q2
    clear hx
    generalize (rdNum L at_ bad 1).1 = x at *
    have hwx : IntKind.u64.wrap x = x := IntWalk.u64_in _ (by omega)
    clear q
    go_enter Try.func46, Try.ntmps46
    go_wp2_with fail
    rw [← HW.out, ← HB.out]
    refine Q1.out.mono ?_
    rintro e w1 ⟨rfl, hr1, hg1⟩
    go_wp2_with fail
    refine (Q2.out w1 hg1).mono ?_
    rintro e w2 ⟨rfl, hp2⟩
    go_wp2_with fail
    go_ret
    exact ⟨rfl, Q3.out w1 w2 hr1 hg1 hp2⟩
  by_cases k2 : kind.tmod 6 = 2
  · have Q1 := Lib.hid (U16_any g A n c at_ bad L W hrW hat hsW.small hsW.cap hL hsW.isb hsW.els)
    have Q2 := Lib.hid fun w1 hg1 => P2.out W w1 haW hBW hg1 2
    have Q3 := Lib.hid fun w1 w2 => P3.out W w1 w2 haW hBW hBw 2
    have hx : (refN (L.drop at_) bad 2).1 = (rdNum L at_ bad 2).1 := by rw [rd_num]
    have q : 0 ≤ (rdNum L at_ bad 2).1 ∧ (rdNum L at_ bad 2).1 < 256 ^ 2 := rdNum_top L at_ bad 2 (by omega) hsW.isb
    clear P1 P2 P3
    rw [hx] at Q2
    clear hx
    generalize (rdNum L at_ bad 2).1 = x at *
    have hwx : IntKind.u64.wrap x = x := IntWalk.u64_in _ (by omega)
    clear q
    go_enter Try.func46, Try.ntmps46
    go_wp2_with fail
    rw [← HW.out, ← HB.out]
    refine Q1.out.mono ?_
    rintro e w1 ⟨rfl, hr1, hg1⟩
    go_wp2_with fail
    refine (Q2.out w1 hg1).mono ?_
    rintro e w2 ⟨rfl, hp2⟩
    go_wp2_with fail
    go_ret
    exact ⟨rfl, Q3.out w1 w2 hr1 hg1 hp2⟩
  by_cases k3 : kind.tmod 6 = 3
  · have Q1 := Lib.hid (U32_any g A n c at_ bad L W hrW hat hsW.small hsW.cap hL hsW.isb hsW.els)
    have Q2 := Lib.hid fun w1 hg1 => P2.out W w1 haW hBW hg1 4
    have Q3 := Lib.hid fun w1 w2 => P3.out W w1 w2 haW hBW hBw 4
    have hx : (refN (L.drop at_) bad 4).1 = (rdNum L at_ bad 4).1 := by rw [rd_num]
    have q : 0 ≤ (rdNum L at_ bad 4).1 ∧ (rdNum L at_ bad 4).1 < 256 ^ 4 := rdNum_top L at_ bad 4 (by omega) hsW.isb
    clear P1 P2 P3
    rw [hx] at Q2
    clear hx
    generalize (rdNum L at_ bad 4).1 = x at *
    have hwx : IntKind.u64.wrap x = x := IntWalk.u64_in _ (by omega)
    clear q
    go_enter Try.func46, Try.ntmps46
    go_wp2_with fail
    rw [← HW.out, ← HB.out]
    refine Q1.out.mono ?_
    rintro e w1 ⟨rfl, hr1, hg1⟩
    go_wp2_with fail
    refine (Q2.out w1 hg1).mono ?_
    rintro e w2 ⟨rfl, hp2⟩
    go_wp2_with fail
    go_ret
    exact ⟨rfl, Q3.out w1 w2 hr1 hg1 hp2⟩
  have P4 := Lib.hid fun (w1 w2 w3 : World) (size : Int) (hr2 : Rd w2 g A n c ((rdTake L at_ bad size).2.1 : Nat) (rdTake L at_ bad size).2.2) (hg2 : w1.grownBy w2 (some g)) (hp : RefPost W h B (refT (L.drop at_) bad size).2.1 (refT (L.drop at_) bad size).2.2 w1) (hb3 : Below w2.heap.size w2 w3) =>
    (show (∃ at_ bad, Alike w3 g h B A n c L at_ bad) ∧ Below B w w3 from by
      rw [rd_take L at_ bad size (by omega)] at hp
      have hb1 : Below B W w1 := below_of_only' hp.2 hh hBW
      have hB1 := Nat.le_trans hBW hb1.size
      have hb2 : Below B w1 w2 := below_of_only' hg2 hg hB1
      have hB2 := Nat.le_trans hB1 hb2.size
      refine ⟨⟨_, _, Alike.keep ⟨hr2, by have := rdTake_le L at_ bad size (by omega); omega, hsW.keep (hb1.trans hb2), RefRd.grown hp.1 hg2 (Ne.symm hne) hg hB1⟩ hb3 hB2⟩, hBw.trans (hb1.trans (hb2.trans (hb3.mono hB2)))⟩)
  have P5 := Lib.hid fun (w1 : World) (hg1 : W.grownBy w1 (some h)) (size : Int) => Take_any g B A n c at_ bad L size w1 (Blk.grown hrW hg1 (by intro e; injection e with e; exact hne e)) hat (hsW.keep (below_of_only' hg1 hh hBW)) hg
  clear P1 P2 P3
  by_cases k4 : kind.tmod 6 = 4
  · have Q1 := Lib.hid (refTake_any h B (L.drop at_) bad N W hfW hh)
    have Q4 := Lib.hid fun w1 w2 w3 => P4.out w1 w2 w3 N
    have Q5 := Lib.hid fun w1 hg1 => P5.out w1 hg1 N
    have hx : (refT (L.drop at_) bad N).1 = (rdTake L at_ bad N).1 := by rw [rd_take L at_ bad N (by omega)]
    rw [hx] at Q1
    clear hx P4 P5
    have hsml : (rdTake L at_ bad N).1.length ≤ n := by rw [rdTake]; split <;> simp; omega
    have hnm := hsW.small
    generalize (rdTake L at_ bad N).1 = M at *
    go_enter Try.func46, Try.ntmps46
    go_wp2_with fail
    rw [← HW.out, ← HB.out]
    refine Q1.out.mono ?_
    rintro e w1 ⟨A1, n1, c1, rfl, hb1, hp1⟩
    have hboxX := (hbox.grown hp1.2 hhx).cell 1
    go_wp2_with fail
    refine (Q5.out w1 hp1.2).mono ?_
    rintro e w2 ⟨v', rfl, ho, hr2, hg2⟩
    obtain ⟨A2, c2, e2, _, _, hE2⟩ := own_read ho
    subst e2
    have hb2 := hb1.keep (below_of_only' hg2 hg (by have := hp1.2.size; omega))
    clear ho
    go_wp2_with fail
    refine (eqByte_any _ _ _ _ _ _ M M _ rfl hb1.len (by unfold maxLen; omega) hE2 hb2.els).mono ?_
    rintro e w3 ⟨rfl, hb3⟩
    go_wp2_with fail
    go_ret
    exact ⟨by simp, Q4.out w1 w2 w3 hr2 hg2 hp1 hb3⟩
  · obtain ⟨A3, n3, c3, hblk3, hs3⟩ := hfW
    have hn3 : (n3 : Int) = (n : Int) - at_ := by have := hs3.len; rw [List.length_drop, hL] at this; omega
    have hr0 : RefRd W h B (L.drop at_) bad := ⟨A3, n3, c3, hblk3, hs3⟩
    have d0 := hblk3.cell 0
    rw [HW.out] at d0
    have Q1 := Lib.hid (refTake_any h B (L.drop at_) bad (n3 : Int) W hr0 hh)
    have Q4 := Lib.hid fun w1 w2 w3 => P4.out w1 w2 w3 ((n : Int) - at_)
    have Q5 := Lib.hid fun (w1 : World) (hg1 : W.grownBy w1 (some h)) => Rest_any g B A n c at_ bad L w1 (Blk.grown hrW hg1 (by intro e; injection e with e; exact hne e)) hat (hsW.keep (below_of_only' hg1 hh hBW)) hg
    have hx : (refT (L.drop at_) bad (n3 : Int)).1 = (rdTake L at_ bad ((n : Int) - at_)).1 := by rw [hn3, rd_take L at_ bad _ (by omega)]
    rw [hx] at Q1
    rw [← hn3] at Q4 Q5 Q1
    clear hx P4 P5 hs3 hr0 hn3
    have hsml : (rdTake L at_ bad (n3 : Int)).1.length ≤ n := by rw [rdTake]; split <;> simp; omega
    have hnm := hsW.small
    generalize (rdTake L at_ bad (n3 : Int)).1 = M at *
    go_enter Try.func46, Try.ntmps46
    go_wp2_with fail
    rw [← HW.out, ← HB.out]
    refine Q1.out.mono ?_
    rintro e w1 ⟨A1, n1, c1, rfl, hb1, hp1⟩
    go_wp2_with fail
    refine (Q5.out w1 hp1.2).mono ?_
    rintro e w2 ⟨v', rfl, ho, hr2, hg2⟩
    obtain ⟨A2, c2, e2, _, _, hE2⟩ := own_read ho
    subst e2
    have hb2 := hb1.keep (below_of_only' hg2 hg (by have := hp1.2.size; omega))
    clear ho
    go_wp2_with fail
    refine (eqByte_any _ _ _ _ _ _ M M _ rfl hb1.len (by unfold maxLen; omega) hE2 hb2.els).mono ?_
    rintro e w3 ⟨rfl, hb3⟩
    go_wp2_with fail
    go_ret
    exact ⟨by simp, Q4.out w1 w2 w3 hr2 hg2 hp1 hb3⟩

end Go.Proofs.Ytnbokpfkcfhgbaa
