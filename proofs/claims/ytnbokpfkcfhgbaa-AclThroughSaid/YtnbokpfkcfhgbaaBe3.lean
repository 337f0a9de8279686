/- Walks of be's Reader.Take, Rest, U8, U16, U32 and of the reference's Reader: Take, Num. -/
import Derived.Test.YtnbokpfkcfhgbaaBe2
import Derived.StillTailTactics
import Derived.Deep.Onto
namespace Go.Proofs.Ytnbokpfkcfhgbaa
open Go Go.RowKit
attribute [local go_sem ↓] Go.wp_at_zero Go.wp_at_succ

/-- A slice of these bytes, below block B. -/
structure BSl (w : World) (B : Nat) (A : Option Addr) (n c : Nat) (L : List Int) : Prop where
  len : L.length = n
  cap : n ≤ c
  capm : c ≤ maxLen
  els : Elems w A 1 (nums .u8 L)
  inb : L = [] ∨ InB A B
  isb : IsB L
  small : n ≤ 1000000000000
theorem BSl.keep {w w' : World} {B n c : Nat} {A : Option Addr} {L : List Int} (h : BSl w B A n c L) (hb : Below B w w') : BSl w' B A n c L :=
  ⟨h.len, h.cap, h.capm, by rcases h.inb with e | e; rw [e]; exact Elems.nil _ _ _; exact h.els.keepB e hb, h.inb, h.isb, h.small⟩
theorem BSl.mono {w : World} {B B' n c : Nat} {A : Option Addr} {L : List Int} (h : BSl w B A n c L) (hB : B ≤ B') : BSl w B' A n c L := ⟨h.len, h.cap, h.capm, h.els, h.inb.imp id fun q a ha => Nat.lt_of_lt_of_le (q a ha) hB, h.isb, h.small⟩
theorem BSl.take {w : World} {B n c k : Nat} {A : Option Addr} {L : List Int} (h : BSl w B A n c L) (hk : k ≤ n) : BSl w B A k c (L.take k) :=
  ⟨by simp [h.len]; omega, by have := h.cap; omega, h.capm, by have := h.els.take k; simpa [nums, List.map_take] using this, h.inb.imp (fun e => by simp [e]) id, h.isb.take k, by have := h.small; omega⟩
theorem BSl.cut {w : World} {B n c k : Nat} {A : Option Addr} {L : List Int} (h : BSl w B A n c L) (hk : k ≤ n) : BSl w B (if c = k then A else A.map (·.add k)) (n - k) (c - k) (L.drop k) :=
  ⟨by simp [h.len], by have := h.cap; omega, by have := h.capm; omega, by
    have := h.els.cut (cap := c) (k := k) (by rw [nums_length, h.len]; exact h.cap)
    simpa [nums, List.map_drop] using this, h.inb.imp (fun e => by simp [e]) fun q => by
    have := q.cut (cap := c) (k := k) (size := 1)
    simpa using this, h.isb.drop k, by have := h.small; omega⟩
theorem BSl.nil (w : World) (B : Nat) : BSl w B none 0 0 [] := ⟨rfl, Nat.le_refl _, by unfold maxLen; omega, Elems.nil _ _ _, .inl rfl, fun x hx => by simp at hx, by omega⟩
/-- A slice that came in. -/
theorem BSl.arg {w : World} {n c : Nat} {A : Option Addr} {L : List Int} (hl : L.length = n) (hc : n ≤ c) (hm : c ≤ maxLen) (hs : n ≤ 1000000000000) (hA : Elems w A 1 (nums .u8 L)) (hB : IsB L) : BSl w w.heap.size A n c L :=
  ⟨hl, hc, hm, hA, by
    cases L with
    | nil => exact .inl rfl
    | cons x M =>
      obtain ⟨b, o, e, hh⟩ := hA 0 _ (nums_get (x := x) rfl)
      subst e
      refine .inr (InB.some ?_)
      simp only [elemL, Holds.cons] at hh
      exact lt_of_cell hh.1, hB, hs⟩

/-- What the reference's Take answers: the bytes, the rest, and whether it is bad. -/
def refT (L : List Int) (bad : Bool) (k : Int) : List Int × List Int × Bool :=
  if bad = true ∨ k < 0 ∨ (L.length : Int) < k then ([], L, true) else (L.take k.toNat, L.drop k.toNat, false)
def RefRd (w : World) (g B : Nat) (L : List Int) (bad : Bool) : Prop := ∃ A n c, Blk w g 79 #[.slice A n c, .bool bad] ∧ BSl w B A n c L
theorem RefRd.keep {w w' : World} {g B : Nat} {L : List Int} {bad : Bool} (h : RefRd w g B L bad) (hb : Below w.heap.size w w') (hB : B ≤ w.heap.size) : RefRd w' g B L bad := by
  obtain ⟨A, n, c, h1, h2⟩ := h
  exact ⟨A, n, c, h1.keep hb, h2.keep (hb.mono hB)⟩
theorem below_of_only' {a w : World} {g B : Nat} (h : a.grownBy w (some g)) (hg : B ≤ g) (hs : B ≤ a.heap.size) : Below B a w :=
  ⟨h.os, h.tape, h.output, h.size, fun k hk => h.block k (by omega) (by intro e; injection e with e; omega)⟩
theorem RefRd.grown {w w' : World} {g h B : Nat} {L : List Int} {bad : Bool} (hr : RefRd w g B L bad) (hg : w.grownBy w' (some h)) (hne : g ≠ h) (hB : B ≤ h) (hs : B ≤ w.heap.size) : RefRd w' g B L bad := by
  obtain ⟨A, n, c, h1, h2⟩ := hr
  exact ⟨A, n, c, h1.grown hg (by intro e; injection e with e; exact hne e), h2.keep (below_of_only' hg hB hs)⟩
/-- What a call of the reference's Reader leaves. -/
def RefPost (w : World) (g B : Nat) (L : List Int) (bad : Bool) (w' : World) : Prop := RefRd w' g B L bad ∧ w.grownBy w' (some g)

set_option maxHeartbeats 2000000 in
theorem refTake_any (g B : Nat) (L : List Int) (bad : Bool) (k : Int) (w : World) (h : RefRd w g B L bad) (hB : B ≤ g) :
    Calls Try.prog 77 #[.pointer (some ⟨g, 0, none⟩), .int .i64 k] w fun e w' =>
      ∃ A n c, e = .returned (.tuple #[.slice A n c, .bool (!(refT L bad k).2.2)]) ∧ BSl w' B A n c (refT L bad k).1 ∧ RefPost w g B (refT L bad k).2.1 (refT L bad k).2.2 w' := by
  obtain ⟨A, n, c, hblk, hs⟩ := h
  have hgs := hblk.lt
  have hBs : B ≤ w.heap.size := by omega
  have hl := hs.len
  have hcap := hs.cap
  have hsm := hs.small
  have c0 : w.cell? ⟨g, 0, none⟩ = some (.slice A n c) := hblk.cell 0
  have c1 : w.cell? ⟨g, 1, none⟩ = some (.bool bad) := hblk.cell 1
  have m0 := hblk.frozen 0
  have m1 := hblk.frozen 1
  have hbad : Blk (w.setCell ⟨g, 1, none⟩ (.bool true)) g 79 #[.slice A n c, .bool true] := hblk.set_ 1 _
  have hgr := only_set (World.grownBy.refl w (some g)) 1 (.bool true)
  have HBAD := Lib.hid (show RefPost w g B L true (w.setCell ⟨g, 1, none⟩ (.bool true)) from ⟨⟨A, n, c, hbad, hs.keep (below_of_only' hgr hB hBs)⟩, hgr⟩)
  clear hbad hgr
  have HLL := Lib.hid hl
  cases bad with
  | true =>
    have e : refT L true k = ([], L, true) := if_pos (.inl rfl)
    rw [e]
    clear e hl
    go_enter Try.func77, Try.ntmps77
    go_wp2_with fail
    go_ret2
    exact ⟨none, 0, 0, rfl, BSl.nil _ _, HBAD.out⟩
  | false =>
    by_cases hk0 : k < 0
    · have e : refT L false k = ([], L, true) := if_pos (.inr (.inl hk0))
      rw [e]
      clear e hl
      go_enter Try.func77, Try.ntmps77
      go_wp2_with fail
      go_ret2
      exact ⟨none, 0, 0, rfl, BSl.nil _ _, HBAD.out⟩
    have d0 : decide (k < 0) = false := by simpa using hk0
    by_cases hkn : (n : Int) < k
    · have e : refT L false k = ([], L, true) := if_pos (.inr (.inr (by rw [hl]; exact hkn)))
      rw [e]
      clear e hl
      go_enter Try.func77, Try.ntmps77
      go_wp2_with fail
      go_ret2
      exact ⟨none, 0, 0, rfl, BSl.nil _ _, HBAD.out⟩
    have dn : decide ((n : Int) < k) = false := by simpa using hkn
    have e : refT L false k = (L.take k.toNat, L.drop k.toNat, false) := if_neg (by rw [hl]; simp; omega)
    rw [e]
    clear e hl
    obtain ⟨s, rfl⟩ : ∃ s : Nat, k = s := ⟨k.toNat, by omega⟩
    rw [show (s : Int).toNat = s from rfl]
    have hsn : s ≤ n := by omega
    have hsc : s ≤ c := by omega
    have hblk2 : Blk (w.setCell ⟨g, 0, none⟩ (.slice (if c = s then A else A.map (·.add s)) (n - s) (c - s))) g 79 #[.slice (if c = s then A else A.map (·.add s)) (n - s) (c - s), .bool false] := hblk.set_ 0 _
    have hgr := only_set (World.grownBy.refl w (some g)) 0 (.slice (if c = s then A else A.map (·.add s)) (n - s) (c - s))
    have HOK := Lib.hid (show BSl (w.setCell ⟨g, 0, none⟩ (.slice (if c = s then A else A.map (·.add s)) (n - s) (c - s))) B A s c (L.take s) ∧ RefPost w g B (L.drop s) false (w.setCell ⟨g, 0, none⟩ (.slice (if c = s then A else A.map (·.add s)) (n - s) (c - s))) from
      ⟨(hs.take hsn).keep (below_of_only' hgr hB hBs), ⟨_, _, _, hblk2, (hs.cut hsn).keep (below_of_only' hgr hB hBs)⟩, hgr⟩)
    clear hblk2 hgr HBAD
    by_cases hcs : c = s
    · subst hcs
      obtain rfl : n = c := by omega
      simp only [if_true, Nat.sub_self] at HOK
      go_enter Try.func77, Try.ntmps77
      go_wp2_with fail
      go_ret2
      exact ⟨A, _, _, rfl, HOK.out.1, HOK.out.2⟩
    · simp only [if_neg hcs] at HOK
      go_enter Try.func77, Try.ntmps77
      go_wp2_with fail
      go_ret2
      exact ⟨A, s, c, rfl, HOK.out.1, HOK.out.2⟩

/-- What the reference's Num answers. -/
def refN (L : List Int) (bad : Bool) (k : Int) : Int × List Int × Bool :=
  if bad = true ∨ k < 1 ∨ 8 < k ∨ (L.length : Int) < k then (0, if bad = true ∨ k < 1 ∨ 8 < k ∨ (L.length : Int) < k then L else L, true) else (numL (L.take k.toNat), L.drop k.toNat, false)

set_option maxHeartbeats 2000000 in
theorem refRNum_any (g B : Nat) (L : List Int) (bad : Bool) (k : Int) (w : World) (h : RefRd w g B L bad) (hB : B ≤ g) :
    Calls Try.prog 73 #[.pointer (some ⟨g, 0, none⟩), .int .i64 k] w fun e w' => e = .returned (.int .u64 (refN L bad k).1) ∧ RefPost w g B (refN L bad k).2.1 (refN L bad k).2.2 w' := by
  have h' := h
  obtain ⟨A, n, c, hblk, hs⟩ := h'
  have hgs := hblk.lt
  have hBs : B ≤ w.heap.size := by omega
  have m1 := hblk.frozen 1
  have c1 : w.cell? ⟨g, 1, none⟩ = some (.bool bad) := hblk.cell 1
  have hl := hs.len
  have hbadR : RefRd (w.setCell ⟨g, 1, none⟩ (.bool true)) g B L true := ⟨A, n, c, hblk.set_ 1 _, hs.keep (below_of_only' (only_set (World.grownBy.refl w (some g)) 1 (.bool true)) hB hBs)⟩
  have hgr := only_set (World.grownBy.refl w (some g)) 1 (.bool true)
  by_cases hx : k < 1 ∨ 8 < k
  · have e : refN L bad k = (0, L, true) := by
      unfold refN
      rw [if_pos (.inr (by omega))]
      simp
    rw [e]
    clear e
    have ht : refT L true k = ([], L, true) := if_pos (.inl rfl)
    have HT := Lib.hid (refTake_any g B L true k _ hbadR hB)
    rw [ht] at HT
    rcases hx with hx | hx
    · go_enter Try.func73, Try.ntmps73
      go_wp2_with fail
      refine HT.out.mono ?_
      rintro e w1 ⟨A1, n1, c1, rfl, -, hp⟩
      go_wp2_with fail
      go_ret
      exact ⟨rfl, hp.1, only_trans hgr hp.2⟩
    · have d1 : decide (k < 1) = false := by simp; omega
      go_enter Try.func73, Try.ntmps73
      go_wp2_with fail
      refine HT.out.mono ?_
      rintro e w1 ⟨A1, n1, c1, rfl, -, hp⟩
      go_wp2_with fail
      go_ret
      exact ⟨rfl, hp.1, only_trans hgr hp.2⟩
  · have d1 : decide (k < 1) = false := by simp; omega
    have d8 : decide (8 < k) = false := by simp; omega
    have d0' : ¬ k < 0 := by omega
    have d1' : ¬ k < 1 := by omega
    have d8' : ¬ 8 < k := by omega
    have HT := Lib.hid (refTake_any g B L bad k _ h hB)
    by_cases hy : bad = true ∨ (L.length : Int) < k
    · have e : refN L bad k = (0, L, true) := by
        unfold refN
        rw [if_pos (hy.elim .inl (fun h => .inr (.inr (.inr h))))]
        simp
      rw [e]
      clear e
      have ht : refT L bad k = ([], L, true) := if_pos (hy.elim .inl (fun h => .inr (.inr h)))
      rw [ht] at HT
      clear hblk hs m1 c1 hbadR hgr d0' d1' d8'
      go_enter Try.func73, Try.ntmps73
      go_wp2_with fail
      refine HT.out.mono ?_
      rintro e w1 ⟨A1, n1, c1, rfl, -, hp⟩
      go_wp2_with fail
      go_ret
      exact ⟨rfl, hp⟩
    · have e : refN L bad k = (numL (L.take k.toNat), L.drop k.toNat, false) := if_neg (by
        rintro (h | h | h | h)
        · exact hy (.inl h)
        · exact d1' h
        · exact d8' h
        · exact hy (.inr h))
      rw [e]
      clear e
      have ht : refT L bad k = (L.take k.toNat, L.drop k.toNat, false) := if_neg (by
        rintro (h | h | h)
        · exact hy (.inl h)
        · exact d0' h
        · exact hy (.inr h))
      rw [ht] at HT
      clear hblk hs m1 c1 hbadR hgr d0' d1' d8'
      go_enter Try.func73, Try.ntmps73
      go_wp2_with fail
      refine HT.out.mono ?_
      rintro e w1 ⟨A1, n1, c1, rfl, hb1, hp⟩
      go_wp2_with fail
      refine (refNum_any A1 n1 c1 (L.take k.toNat) w1 hb1.len (by have := hb1.len; simp at this; omega) hb1.isb hb1.els).mono ?_
      rintro e w2 ⟨rfl, rfl⟩
      go_wp2_with fail
      go_ret
      exact ⟨rfl, hp⟩

/-- What be's Take answers. -/
def rdTake (L : List Int) (at_ : Nat) (bad : Bool) (k : Int) : List Int × Nat × Bool :=
  if k < 0 ∨ bad = true ∨ (L.length : Int) - at_ < k then ([], at_, true) else ((L.drop at_).take k.toNat, at_ + k.toNat, false)

set_option maxRecDepth 100000 in
set_option maxHeartbeats 2000000 in
theorem Take_any (g B : Nat) (A : Option Addr) (n c at_ : Nat) (bad : Bool) (L : List Int) (k : Int) (w : World) (h : Rd w g A n c at_ bad) (h1 : at_ ≤ n) (hs : BSl w B A n c L) (hB : B ≤ g) :
    Calls Try.prog 78 #[.pointer (some ⟨g, 0, none⟩), .int .i64 k] w fun e w' => ∃ v', e = .returned v' ∧ OwnB w' w.heap.size v' (rdTake L at_ bad k).1 ∧
      Rd w' g A n c (rdTake L at_ bad k).2.1 (rdTake L at_ bad k).2.2 ∧ w.grownBy w' (some g) := by
  obtain ⟨c0, c1, c2⟩ := h.cells
  obtain ⟨m0, m1, m2⟩ := h.marks
  have hgs := Blk.lt h
  have hL := hs.len
  by_cases hs1 : k < 0
  · have e : rdTake L at_ bad k = ([], at_, true) := if_pos (.inl hs1)
    rw [e]
    clear e hL
    go_enter Try.func78, Try.ntmps78
    go_wp2_with fail
    go_ret
    exact ⟨_, rfl, World.ownsRow_nil _ _ _ _, h.setBad true, only_set (World.grownBy.refl _ _) 2 _⟩
  have d1 : decide (k < 0) = false := by simpa using hs1
  cases bad with
  | true =>
    have e : rdTake L at_ true k = ([], at_, true) := if_pos (.inr (.inl rfl))
    rw [e]
    clear e hL
    go_enter Try.func78, Try.ntmps78
    go_wp2_with fail
    go_ret
    exact ⟨_, rfl, World.ownsRow_nil _ _ _ _, h.setBad true, only_set (World.grownBy.refl _ _) 2 _⟩
  | false =>
    have hn := hs.small
    have hcn := hs.cap
    have HLF := Lib.hid fun W (hW : Rd W g A n c at_ false) => Left_any g A n c at_ false W hW (by omega) (by omega) hn
    by_cases hlt : (n : Int) - at_ < k
    · have e : rdTake L at_ false k = ([], at_, true) := if_pos (.inr (.inr (by rw [hL]; exact hlt)))
      rw [e]
      clear e hL
      have dl : decide ((n : Int) - at_ < k) = true := by simpa using hlt
      go_enter Try.func78, Try.ntmps78
      go_wp2_with fail
      refine (HLF.out _ h).mono ?_
      rintro e w1 ⟨rfl, hb1⟩
      have hr1 : Rd w1 g A n c at_ false := Blk.keep h hb1
      obtain ⟨k0, k1, k2⟩ := hr1.cells
      obtain ⟨n0, n1, n2⟩ := hr1.marks
      clear c0 c1 c2 m0 m1 m2
      go_wp2_with fail
      go_ret
      exact ⟨_, rfl, World.ownsRow_nil _ _ _ _, hr1.setBad true, only_set (below_only hb1 _) 2 _⟩
    · have e : rdTake L at_ false k = ((L.drop at_).take k.toNat, at_ + k.toNat, false) := if_neg (by rw [hL]; simp; omega)
      rw [e]
      clear e
      have HL := Lib.hid hL
      clear hL
      have dl : decide ((n : Int) - at_ < k) = false := by simpa using hlt
      obtain ⟨s, rfl⟩ : ∃ s : Nat, k = s := ⟨k.toNat, by omega⟩
      rw [show (s : Int).toNat = s from rfl]
      have hats : at_ + s ≤ n := by omega
      have hatc : at_ + s ≤ c := by omega
      have hw1 : IntKind.i64.wrap ((at_ : Int) + s) = ((at_ + s : Nat) : Int) := by rw [IntWalk.i64_in _ (by omega)]; omega
      have hw2 : IntKind.i64.wrap (((at_ + s : Nat) : Int) - s) = (at_ : Int) := by rw [IntWalk.i64_in _ (by omega)]; omega
      go_enter Try.func78, Try.ntmps78
      go_wp2_with fail
      refine (HLF.out _ h).mono ?_
      rintro e w1 ⟨rfl, hb1⟩
      have hr1 : Rd w1 g A n c at_ false := Blk.keep h hb1
      have hs1 : BSl w1 B A n c L := hs.keep (hb1.mono (by omega))
      obtain ⟨k0, k1, k2⟩ := hr1.cells
      obtain ⟨n0, n1, n2⟩ := hr1.marks
      clear c0 c1 c2 m0 m1 m2
      go_wp2_with fail
      have hr2 : Rd (w1.setCell ⟨g, 1, none⟩ (.int .i64 ((at_ : Int) + s))) g A n c ((at_ : Int) + s) false := hr1.setAt _
      have hon : w.grownBy (w1.setCell ⟨g, 1, none⟩ (.int .i64 ((at_ : Int) + s))) (some g) := only_set (below_only hb1 _) 1 _
      have hsz : w.heap.size ≤ (w1.setCell ⟨g, 1, none⟩ (.int .i64 ((at_ : Int) + s))).heap.size := hon.size
      have hs2 : BSl (w1.setCell ⟨g, 1, none⟩ (.int .i64 ((at_ : Int) + s))) B A n c L := hs.keep (below_of_only' hon hB (by omega))
      have hs3 := ((hs2.cut (k := at_) (by omega)).take (k := s) (by omega))
      obtain ⟨q0, q1, q2⟩ := hr2.cells
      obtain ⟨p0, p1, p2⟩ := hr2.marks
      clear k0 k1 k2 n0 n1 n2 hr1 hs1 hb1 hs2
      generalize w1.setCell ⟨g, 1, none⟩ (.int .i64 ((at_ : Int) + s)) = W at *
      have hy1 : 0 + s ≤ maxLen := by unfold maxLen; omega
      have hy2 : (0 + s) * 1 ≤ 140737488355328 := by omega
      have HE3 := Lib.hid hs3.els
      have HN3 := Lib.hid (show (nums .u8 ((L.drop at_).take s)).length = s by rw [nums_length]; exact hs3.len)
      have hw3 : IntKind.i64.wrap (at_ : Int) = (at_ : Int) := IntWalk.i64_in _ (by omega)
      have hi1 : (at_ : Int) ≤ (at_ : Int) + (s : Int) := by omega
      have hi2 : (at_ : Int) + (s : Int) ≤ (c : Int) := by omega
      have hi0 : (0 : Int) ≤ (at_ : Int) := by omega
      go_still_tail 15, (by kernel_rfl)
      have htn : ((at_ : Int) + (s : Int)).toNat - at_ = s := by omega
      rw [htn]
      obtain ⟨A2, hA2⟩ : ∃ A2, A2 = (if c = at_ then A else A.map (·.add at_)) := ⟨_, rfl⟩
      rw [← hA2] at HE3
      rw [← hA2]
      clear hA2 hs3
      change wpList _ _ _ _ _ W.drew
      refine wpList_appS rfl _ _ _ rfl w.heap.size 5 _ 1 1 ei_byte _ 0 _ (by rfl) (World.ownsRow_nil _ _ _ _) A2 s (c - at_) (nums .u8 ((L.drop at_).take s)) (by rfl) HE3.out HN3.out (nums_one _ _) (nums_cells_one _ _) hy1 hy2 hsz ?_
      intro v' wa hown' hga
      go_wp2
      have hbW : Below W.heap.size W wa := ((Below.refl W.heap.size W).drew).trans (Grew.nil hga)
      go_ret
      exact ⟨v', rfl, own_appS (L := []) hown' rfl (by have := HN3.out; rwa [nums_length] at this), Blk.keep hr2 hbW, only_below hon hbW⟩

theorem rdTake_le (L : List Int) (at_ : Nat) (bad : Bool) (k : Int) (h : at_ ≤ L.length) : (rdTake L at_ bad k).2.1 ≤ L.length := by
  unfold rdTake
  split
  · exact h
  · simp only; omega
theorem rdNum_le (L : List Int) (at_ : Nat) (bad : Bool) (k : Int) (h : at_ ≤ L.length) : (rdNum L at_ bad k).2.1 ≤ L.length := by
  unfold rdNum
  split
  · exact h
  · simp only; omega
/-- Both readers answer alike. -/
theorem rd_num (L : List Int) (at_ : Nat) (bad : Bool) (k : Int) : refN (L.drop at_) bad k = ((rdNum L at_ bad k).1, L.drop (rdNum L at_ bad k).2.1, (rdNum L at_ bad k).2.2) := by
  unfold refN rdNum
  by_cases h : k < 1 ∨ 8 < k ∨ bad = true ∨ (L.length : Int) - at_ < k
  · rw [if_pos h, if_pos]
    · simp
    · simp only [List.length_drop]
      rcases h with h | h | h | h
      · exact .inr (.inl h)
      · exact .inr (.inr (.inl h))
      · exact .inl h
      · by_cases hk : k < 1
        · exact .inr (.inl hk)
        · exact .inr (.inr (.inr (by omega)))
  · rw [if_neg h, if_neg]
    · simp [List.drop_drop]
    · simp only [List.length_drop]
      rintro (g | g | g | g)
      · exact h (.inr (.inr (.inl g)))
      · exact h (.inl g)
      · exact h (.inr (.inl g))
      · exact h (.inr (.inr (.inr (by omega))))
theorem rd_take (L : List Int) (at_ : Nat) (bad : Bool) (k : Int) (hat : at_ ≤ L.length) : refT (L.drop at_) bad k = ((rdTake L at_ bad k).1, L.drop (rdTake L at_ bad k).2.1, (rdTake L at_ bad k).2.2) := by
  unfold refT rdTake
  by_cases h : k < 0 ∨ bad = true ∨ (L.length : Int) - at_ < k
  · rw [if_pos h, if_pos]
    simp only [List.length_drop]
    rcases h with h | h | h
    · exact .inr (.inl h)
    · exact .inl h
    · exact .inr (.inr (by omega))
  · rw [if_neg h, if_neg]
    · simp [List.drop_drop]
    · simp only [List.length_drop]
      rintro (g | g | g)
      · exact h (.inr (.inl g))
      · exact h (.inl g)
      · exact h (.inr (.inr (by omega)))

theorem numL_top (s : Nat) (hs : s ≤ 8) (M : List Int) (hl : M.length ≤ s) (hB : IsB M) : 0 ≤ numL M ∧ numL M < 256 ^ s := by
  obtain ⟨q0, q1⟩ := numL_range M.length M rfl hB
  refine ⟨q0, Int.lt_of_lt_of_le q1 ?_⟩
  have h2 : (256 : Nat) ^ M.length ≤ 256 ^ s := Nat.pow_le_pow_right (by omega) hl
  have h3 : ((256 ^ M.length : Nat) : Int) ≤ ((256 ^ s : Nat) : Int) := by exact_mod_cast h2
  simpa [Int.natCast_pow] using h3
theorem rdNum_top (L : List Int) (at_ : Nat) (bad : Bool) (k : Nat) (hk : k ≤ 8) (hB : IsB L) : 0 ≤ (rdNum L at_ bad k).1 ∧ (rdNum L at_ bad k).1 < 256 ^ k := by
  unfold rdNum
  split
  · exact ⟨Int.le_refl _, by
      have : (0 : Int) < 256 ^ k := Int.pow_pos (by omega)
      exact this⟩
  · exact numL_top k hk _ (by simp; omega) ((hB.drop _).take _)

set_option maxHeartbeats 1000000 in
theorem U8_any (g : Nat) (A : Option Addr) (n c at_ : Nat) (bad : Bool) (L : List Int) (w : World) (h : Rd w g A n c at_ bad) (h1 : at_ ≤ n) (hn : n ≤ 1000000000000) (hc : n ≤ c)
    (hL : L.length = n) (hB : IsB L) (hA : Elems w A 1 (nums .u8 L)) :
    Calls Try.prog 74 #[.pointer (some ⟨g, 0, none⟩)] w (RdPost w g A n c (rdNum L at_ bad 1).2.1 (rdNum L at_ bad 1).2.2 (.int .u8 (rdNum L at_ bad 1).1)) := by
  have HN := Lib.hid (Num_any g A n c at_ bad L 1 w h h1 hn hc hL hB hA)
  have q : 0 ≤ (rdNum L at_ bad 1).1 ∧ (rdNum L at_ bad 1).1 < 256 ^ 1 := rdNum_top L at_ bad 1 (by omega) hB
  clear hL hA h1
  generalize (rdNum L at_ bad 1).1 = x at *
  generalize (rdNum L at_ bad 1).2.1 = y at *
  generalize (rdNum L at_ bad 1).2.2 = z at *
  have hx : 0 ≤ x ∧ x ≤ 255 := by omega
  have hw : IntKind.u8.wrap x = x := IntWalk.u8_in _ hx
  clear q
  go_enter Try.func74, Try.ntmps74
  go_wp2_with fail
  refine HN.out.mono ?_
  rintro e w1 ⟨rfl, hr, hg⟩
  go_wp2_with fail
  go_ret
  exact ⟨rfl, hr, hg⟩

set_option maxHeartbeats 1000000 in
theorem U16_any (g : Nat) (A : Option Addr) (n c at_ : Nat) (bad : Bool) (L : List Int) (w : World) (h : Rd w g A n c at_ bad) (h1 : at_ ≤ n) (hn : n ≤ 1000000000000) (hc : n ≤ c)
    (hL : L.length = n) (hB : IsB L) (hA : Elems w A 1 (nums .u8 L)) :
    Calls Try.prog 75 #[.pointer (some ⟨g, 0, none⟩)] w (RdPost w g A n c (rdNum L at_ bad 2).2.1 (rdNum L at_ bad 2).2.2 (.int .u16 (rdNum L at_ bad 2).1)) := by
  have HN := Lib.hid (Num_any g A n c at_ bad L 2 w h h1 hn hc hL hB hA)
  have q : 0 ≤ (rdNum L at_ bad 2).1 ∧ (rdNum L at_ bad 2).1 < 256 ^ 2 := rdNum_top L at_ bad 2 (by omega) hB
  clear hL hA h1
  generalize (rdNum L at_ bad 2).1 = x at *
  generalize (rdNum L at_ bad 2).2.1 = y at *
  generalize (rdNum L at_ bad 2).2.2 = z at *
  have hx : 0 ≤ x ∧ x ≤ 65535 := by omega
  have hw : IntKind.u16.wrap x = x := IntWalk.u16_in _ hx
  clear q
  go_enter Try.func75, Try.ntmps75
  go_wp2_with fail
  refine HN.out.mono ?_
  rintro e w1 ⟨rfl, hr, hg⟩
  go_wp2_with fail
  go_ret
  exact ⟨rfl, hr, hg⟩

set_option maxHeartbeats 1000000 in
theorem U32_any (g : Nat) (A : Option Addr) (n c at_ : Nat) (bad : Bool) (L : List Int) (w : World) (h : Rd w g A n c at_ bad) (h1 : at_ ≤ n) (hn : n ≤ 1000000000000) (hc : n ≤ c)
    (hL : L.length = n) (hB : IsB L) (hA : Elems w A 1 (nums .u8 L)) :
    Calls Try.prog 76 #[.pointer (some ⟨g, 0, none⟩)] w (RdPost w g A n c (rdNum L at_ bad 4).2.1 (rdNum L at_ bad 4).2.2 (.int .u32 (rdNum L at_ bad 4).1)) := by
  have HN := Lib.hid (Num_any g A n c at_ bad L 4 w h h1 hn hc hL hB hA)
  have q : 0 ≤ (rdNum L at_ bad 4).1 ∧ (rdNum L at_ bad 4).1 < 256 ^ 4 := rdNum_top L at_ bad 4 (by omega) hB
  clear hL hA h1
  generalize (rdNum L at_ bad 4).1 = x at *
  generalize (rdNum L at_ bad 4).2.1 = y at *
  generalize (rdNum L at_ bad 4).2.2 = z at *
  have hx : 0 ≤ x ∧ x ≤ 4294967295 := by omega
  have hw : IntKind.u32.wrap x = x := IntWalk.u32_in _ hx
  clear q
  go_enter Try.func76, Try.ntmps76
  go_wp2_with fail
  refine HN.out.mono ?_
  rintro e w1 ⟨rfl, hr, hg⟩
  go_wp2_with fail
  go_ret
  exact ⟨rfl, hr, hg⟩

set_option maxHeartbeats 1000000 in
theorem Rest_any (g B : Nat) (A : Option Addr) (n c at_ : Nat) (bad : Bool) (L : List Int) (w : World) (h : Rd w g A n c at_ bad) (h1 : at_ ≤ n) (hs : BSl w B A n c L) (hB : B ≤ g) :
    Calls Try.prog 79 #[.pointer (some ⟨g, 0, none⟩)] w fun e w' => ∃ v', e = .returned v' ∧ OwnB w' w.heap.size v' (rdTake L at_ bad ((n : Int) - at_)).1 ∧
      Rd w' g A n c (rdTake L at_ bad ((n : Int) - at_)).2.1 (rdTake L at_ bad ((n : Int) - at_)).2.2 ∧ w.grownBy w' (some g) := by
  have hgs := Blk.lt h
  have hsm := hs.small
  have HL := Lib.hid (Left_any g A n c at_ bad w h (by omega) (by omega) hsm)
  have HT := Lib.hid fun W (hb : Below w.heap.size w W) => Take_any g B A n c at_ bad L ((n : Int) - at_) W (Blk.keep h hb) h1 (hs.keep (hb.mono (by omega))) hB
  clear h1
  go_enter Try.func79, Try.ntmps79
  go_wp2_with fail
  refine HL.out.mono ?_
  rintro e w1 ⟨rfl, hb1⟩
  go_wp2_with fail
  refine (HT.out w1 hb1).mono ?_
  rintro e w2 ⟨v', rfl, ho, hr, hg⟩
  go_wp2_with fail
  go_ret
  exact ⟨v', rfl, World.ownsRow.mono ho hb1.size, hr, only_trans (below_only hb1 _) hg⟩
end Go.Proofs.Ytnbokpfkcfhgbaa
