/- A walk of tape.one. -/
import Derived.Test.YtnbokpfkcfhgbaaTapeOneLaw
namespace Go.Proofs.Ytnbokpfkcfhgbaa
open Go Go.RowKit
attribute [local go_sem ↓] Go.wp_at_zero Go.wp_at_succ

theorem only_new {a w : World} {row : Option Nat} (h : a.grownBy w row) {b : Nat} (hb : a.heap.size ≤ b) (i : Nat) (u : Value) : a.grownBy (w.setCell ⟨b, i, none⟩ u) row :=
  ⟨h.os, h.tape, h.output, by simpa [World.setCell] using h.size, fun k hk hne => (Below.heap_setCell w ⟨b, i, none⟩ u k (fun e => by simp only at e; omega)).trans (h.block k hk hne)⟩
theorem Blk.setOther {w : World} {g : Nat} {t : TypeId} {cs : Array Value} (h : Blk w g t cs) {b : Nat} (hb : g ≠ b) (i : Nat) (u : Value) : Blk (w.setCell ⟨b, i, none⟩ u) g t cs :=
  (Below.heap_setCell w ⟨b, i, none⟩ u g (fun e => hb (by simp only at e; omega))).trans h

section
variable {w : World} {b : Nat} {t : TypeId} {a0 a1 a2 a3 a4 a5 a6 a7 a8 a9 : Value}
theorem Blk.cells10 (h : Blk w b t #[a0, a1, a2, a3, a4, a5, a6, a7, a8, a9]) : (w.cell? ⟨b, 0, none⟩ = some a0 ∧ w.cell? ⟨b, 1, none⟩ = some a1 ∧ w.cell? ⟨b, 2, none⟩ = some a2 ∧ w.cell? ⟨b, 3, none⟩ = some a3 ∧ w.cell? ⟨b, 4, none⟩ = some a4) ∧
    (w.cell? ⟨b, 5, none⟩ = some a5 ∧ w.cell? ⟨b, 6, none⟩ = some a6 ∧ w.cell? ⟨b, 7, none⟩ = some a7 ∧ w.cell? ⟨b, 8, none⟩ = some a8 ∧ w.cell? ⟨b, 9, none⟩ = some a9) :=
  ⟨⟨h.cell 0, h.cell 1, h.cell 2, h.cell 3, h.cell 4⟩, h.cell 5, h.cell 6, h.cell 7, h.cell 8, h.cell 9⟩
theorem Blk.marks10 {cs : Array Value} (h : Blk w b t cs) : (w.frozen? ⟨b, 0, none⟩ = false ∧ w.frozen? ⟨b, 1, none⟩ = false ∧ w.frozen? ⟨b, 2, none⟩ = false ∧ w.frozen? ⟨b, 3, none⟩ = false ∧ w.frozen? ⟨b, 4, none⟩ = false) ∧
    (w.frozen? ⟨b, 5, none⟩ = false ∧ w.frozen? ⟨b, 6, none⟩ = false ∧ w.frozen? ⟨b, 7, none⟩ = false ∧ w.frozen? ⟨b, 8, none⟩ = false ∧ w.frozen? ⟨b, 9, none⟩ = false) :=
  ⟨⟨h.frozen 0, h.frozen 1, h.frozen 2, h.frozen 3, h.frozen 4⟩, h.frozen 5, h.frozen 6, h.frozen 7, h.frozen 8, h.frozen 9⟩
end
/-- An empty record's cells. -/
def zeroR : Array Value := #[.int .i64 0, .int .i64 0, .int .i64 0, .int .i64 0, .slice none 0 0, .int .i64 0, .int .i64 0, .int .i64 0, .int .u32 0, .slice none 0 0]
/-- The reader and what it reads of. -/
structure St (W : World) (g B : Nat) (A : Option Addr) (n c : Nat) (L : List Int) (at_ : Nat) (bad : Bool) : Prop where
  rd : Rd W g A n c (at_ : Nat) bad
  le : at_ ≤ n
  sl : BSl W B A n c L
  bg : B ≤ g
section
variable {W W' : World} {g B n c at_ at' : Nat} {A : Option Addr} {L : List Int} {bad bad' : Bool}
theorem St.lt (h : St W g B A n c L at_ bad) : g < W.heap.size := Blk.lt h.rd
theorem St.keep (h : St W g B A n c L at_ bad) (hb : Below W.heap.size W W') : St W' g B A n c L at_ bad := ⟨Blk.keep h.rd hb, h.le, h.sl.keep (hb.mono (Nat.le_trans h.bg (Nat.le_of_lt h.lt))), h.bg⟩
theorem St.alloc (h : St W g B A n c L at_ bad) (o : Obj) : St (W.alloc o) g B A n c L at_ bad := h.keep ((Below.refl _ _).alloc (Nat.le_refl _) _)
theorem St.set_ (h : St W g B A n c L at_ bad) {b : Nat} (hb : g < b) (i : Nat) (u : Value) : St (W.setCell ⟨b, i, none⟩ u) g B A n c L at_ bad :=
  ⟨Blk.setOther h.rd (by omega) i u, h.le, h.sl.keep ((Below.refl B W).setCell (p := ⟨b, i, none⟩) (by have := h.bg; show B ≤ b; omega) u), h.bg⟩
theorem St.to (h : St W g B A n c L at_ bad) (hr : Rd W' g A n c (at' : Nat) bad') (hg : W.grownBy W' (some g)) (hl : at' ≤ n) : St W' g B A n c L at' bad' :=
  ⟨hr, hl, h.sl.keep (below_of_only' hg h.bg (Nat.le_trans h.bg (Nat.le_of_lt h.lt))), h.bg⟩
theorem St.u8 (h : St W g B A n c L at_ bad) {x : Int} (hq : rdNum L at_ bad 1 = (x, at', bad')) :
    Calls Try.prog 74 #[.pointer (some ⟨g, 0, none⟩)] W fun e W' => e = .returned (.int .u8 x) ∧ St W' g B A n c L at' bad' ∧ W.grownBy W' (some g) := by
  have hle : (rdNum L at_ bad 1).2.1 ≤ n := by have := rdNum_le L at_ bad 1 (by rw [h.sl.len]; exact h.le); rw [h.sl.len] at this; exact this
  refine (U8_any g A n c at_ bad L W h.rd h.le h.sl.small h.sl.cap h.sl.len h.sl.isb h.sl.els).mono ?_
  rintro e w1 ⟨rfl, hr, hg⟩
  rw [hq] at hr hle ⊢
  exact ⟨rfl, h.to hr hg hle, hg⟩
theorem St.u16 (h : St W g B A n c L at_ bad) {x : Int} (hq : rdNum L at_ bad 2 = (x, at', bad')) :
    Calls Try.prog 75 #[.pointer (some ⟨g, 0, none⟩)] W fun e W' => e = .returned (.int .u16 x) ∧ St W' g B A n c L at' bad' ∧ W.grownBy W' (some g) := by
  have hle : (rdNum L at_ bad 2).2.1 ≤ n := by have := rdNum_le L at_ bad 2 (by rw [h.sl.len]; exact h.le); rw [h.sl.len] at this; exact this
  refine (U16_any g A n c at_ bad L W h.rd h.le h.sl.small h.sl.cap h.sl.len h.sl.isb h.sl.els).mono ?_
  rintro e w1 ⟨rfl, hr, hg⟩
  rw [hq] at hr hle ⊢
  exact ⟨rfl, h.to hr hg hle, hg⟩
theorem St.u32 (h : St W g B A n c L at_ bad) {x : Int} (hq : rdNum L at_ bad 4 = (x, at', bad')) :
    Calls Try.prog 76 #[.pointer (some ⟨g, 0, none⟩)] W fun e W' => e = .returned (.int .u32 x) ∧ St W' g B A n c L at' bad' ∧ W.grownBy W' (some g) := by
  have hle : (rdNum L at_ bad 4).2.1 ≤ n := by have := rdNum_le L at_ bad 4 (by rw [h.sl.len]; exact h.le); rw [h.sl.len] at this; exact this
  refine (U32_any g A n c at_ bad L W h.rd h.le h.sl.small h.sl.cap h.sl.len h.sl.isb h.sl.els).mono ?_
  rintro e w1 ⟨rfl, hr, hg⟩
  rw [hq] at hr hle ⊢
  exact ⟨rfl, h.to hr hg hle, hg⟩
theorem St.take (h : St W g B A n c L at_ bad) {k : Int} {M : List Int} (hq : rdTake L at_ bad k = (M, at', bad')) :
    Calls Try.prog 78 #[.pointer (some ⟨g, 0, none⟩), .int .i64 k] W fun e W' => ∃ A' c', e = .returned (.slice A' M.length c') ∧ OwnB W' W.heap.size (.slice A' M.length c') M ∧ St W' g B A n c L at' bad' ∧ W.grownBy W' (some g) := by
  have hle : (rdTake L at_ bad k).2.1 ≤ n := by have := rdTake_le L at_ bad k (by rw [h.sl.len]; exact h.le); rw [h.sl.len] at this; exact this
  refine (Take_any g B A n c at_ bad L k W h.rd h.le h.sl h.bg).mono ?_
  rintro e w1 ⟨v', rfl, hown, hr, hg⟩
  rw [hq] at hr hle hown
  obtain ⟨A', c', e, _⟩ := own_read hown
  subst e
  exact ⟨A', c', rfl, hown, h.to hr hg hle, hg⟩
end

theorem only_sets {a : World} {row : Option Nat} {b : Nat} (hb : a.heap.size ≤ b) : ∀ (vs : List Value) (o : Nat) {w : World}, a.grownBy w row → a.grownBy (w.setCells b o vs) row
  | [], _, _, h => h
  | v :: vs, o, _, h => only_sets hb vs (o + 1) (only_new h hb o v)
theorem own_sets (w : World) (b : Nat) : ∀ (vs : List Value) (o : Nat) {w' : World}, w.grownBy w' (some b) → w.grownBy (w'.setCells b o vs) (some b)
  | [], _, _, h => h
  | v :: vs, o, _, h => own_sets w b vs (o + 1) (only_set h o v)
theorem St.sets {g B n c at_ : Nat} {A : Option Addr} {L : List Int} {bad : Bool} {b : Nat} (hb : g < b) : ∀ (vs : List Value) (o : Nat) {W : World}, St W g B A n c L at_ bad → St (W.setCells b o vs) g B A n c L at_ bad
  | [], _, _, h => h
  | v :: vs, o, _, h => St.sets hb vs (o + 1) (h.set_ hb o v)
theorem Blk.setsFrom {b : Nat} {t : TypeId} : ∀ (vs suf pre : List Value) {w : World}, vs.length = suf.length → Blk w b t (pre ++ suf).toArray → Blk (w.setCells b pre.length vs) b t (pre ++ vs).toArray
  | [], suf, pre, _, hl, h => by
    have : suf = [] := List.eq_nil_of_length_eq_zero hl.symm
    subst this
    exact h
  | v :: vs, [], _, _, hl, _ => by simp at hl
  | v :: vs, s :: suf, pre, w, hl, h => by
    have h1 := h.set_ pre.length v
    have e : (pre ++ s :: suf).toArray.setIfInBounds pre.length v = ((pre ++ [v]) ++ suf).toArray := by simp
    rw [e] at h1
    have := Blk.setsFrom vs suf (pre ++ [v]) (by simpa using hl) h1
    rw [List.length_append] at this
    simpa [World.setCells] using this
theorem Blk.sets {w : World} {b : Nat} {t : TypeId} {cs vs : List Value} (h : Blk w b t cs.toArray) (hl : vs.length = cs.length) : Blk (w.setCells b 0 vs) b t vs.toArray :=
  Blk.setsFrom vs cs [] hl h

set_option maxRecDepth 100000 in
set_option maxHeartbeats 4000000 in
theorem tone_event (g B : Nat) (A : Option Addr) (n c at_ : Nat) (L : List Int) (w : World) (h : St w g B A n c L at_ false) (h1 : at_ < n) (hk : L.getD at_ 0 = 1) :
    Calls Try.prog 85 #[.pointer (some ⟨g, 0, none⟩)] w fun e w' => ∃ (r : RD) (ok : Bool) (at' : Nat) (bad' : Bool), e = .returned (.tuple #[Rc.val ⟨r.k, r.ek, r.ec, r.en, r.eA, r.eL, r.eC, r.ok, r.oc, r.on, r.oa, r.oA, r.oL, r.oC⟩, .bool ok]) ∧
      OneIs L at_ r ok at' bad' ∧ RO w' w.heap.size r ∧ St w' g B A n c L at' bad' ∧ w.grownBy w' (some g) := by
  have hgs := h.lt
  have hL := h.sl.len
  have isb := h.sl.isb
  have e1 : rdNum L at_ false 1 = (1, at_ + 1, false) := by
    have := rdNum_good (L := L) (at_ := at_) (k := 1) (by omega) (by omega) (by omega)
    rw [take_one_num (by omega), hk] at this
    exact this
  obtain ⟨⟨x1, a1, d1⟩, q1⟩ : ∃ p, rdNum L (at_ + 1) false 1 = p := ⟨_, rfl⟩
  obtain ⟨⟨x2, a2, d2⟩, q2⟩ : ∃ p, rdNum L a1 d1 1 = p := ⟨_, rfl⟩
  obtain ⟨⟨x3, a3, d3⟩, q3⟩ : ∃ p, rdNum L a2 d2 4 = p := ⟨_, rfl⟩
  obtain ⟨⟨x4, a4, d4⟩, q4⟩ : ∃ p, rdNum L a3 d3 2 = p := ⟨_, rfl⟩
  obtain ⟨⟨M, a5, d5⟩, q5⟩ : ∃ p, rdTake L a4 d4 x4 = p := ⟨_, rfl⟩
  have hseq : seqE L at_ = ((x1, a1, d1), (x2, a2, d2), (x3, a3, d3), (x4, a4, d4), (M, a5, d5)) := by simp only [seqE, q1, q2, q3, q4, q5]
  have HO := Lib.hid fun (eA : Option Addr) (eC : Nat) => show OneIs L at_ ⟨⟨1, x1, x2, x3, eA, M.length, eC, 0, 0, 0, 0, none, 0, 0⟩, M, []⟩ (!d5) a5 d5 by
    have := one_event (r := ⟨⟨1, x1, x2, x3, eA, M.length, eC, 0, 0, 0, 0, none, 0, 0⟩, M, []⟩) isb (by omega) hk (by rw [hseq]; rfl)
    rw [hseq] at this
    exact this
  have b1 : 0 ≤ x1 ∧ x1 < 256 := by have := rdNum_top L (at_ + 1) false 1 (by omega) isb; rw [show ((1 : Nat) : Int) = 1 from rfl, q1] at this; simpa using this
  have b2 : 0 ≤ x2 ∧ x2 < 256 := by have := rdNum_top L a1 d1 1 (by omega) isb; rw [show ((1 : Nat) : Int) = 1 from rfl, q2] at this; simpa using this
  have b3 : 0 ≤ x3 ∧ x3 < 4294967296 := by have := rdNum_top L a2 d2 4 (by omega) isb; rw [show ((4 : Nat) : Int) = 4 from rfl, q3] at this; simpa using this
  have b4 : 0 ≤ x4 ∧ x4 < 65536 := by have := rdNum_top L a3 d3 2 (by omega) isb; rw [show ((2 : Nat) : Int) = 2 from rfl, q4] at this; simpa using this
  have hw1 : IntKind.i64.wrap x1 = x1 := IntWalk.i64_in _ (by omega)
  have hw2 : IntKind.i64.wrap x2 = x2 := IntWalk.i64_in _ (by omega)
  have hw3 : IntKind.i64.wrap x3 = x3 := IntWalk.i64_in _ (by omega)
  have hw4 : IntKind.i64.wrap x4 = x4 := IntWalk.i64_in _ (by omega)
  have Q1 := Lib.hid q1
  have Q2 := Lib.hid q2
  have Q3 := Lib.hid q3
  have Q4 := Lib.hid q4
  have Q5 := Lib.hid q5
  have E1 := Lib.hid e1
  have hb0 := Blk.new w 64 zeroR
  have hs0 := h.alloc (.cells zeroR 64)
  have hg0 := below_only ((Below.refl w.heap.size w).alloc (Nat.le_refl _) (.cells zeroR 64)) (some g)
  clear e1 q1 q2 q3 q4 q5 hseq b1 b2 b3 b4 hk hL
  go_enter Try.func85, Try.ntmps85
  go_wp2_with fail
  refine (hs0.u8 E1.out).mono ?_
  rintro e w1 ⟨rfl, hs1, hg1⟩
  have hb1 := hb0.grown hg1 (by simp; omega)
  have hz1 : w.heap.size < w1.heap.size := hb1.lt
  go_wp2_with fail
  have hs1' := hs1.alloc (.cells (#[.int .i64 1, .int .i64 0, .int .i64 0, .int .i64 0, .slice none 0 0, .int .i64 0, .int .i64 0, .int .i64 0, .int .u32 0, .slice none 0 0]) 64)
  have hx1 := Blk.new w1 64 #[.int .i64 1, .int .i64 0, .int .i64 0, .int .i64 0, .slice none 0 0, .int .i64 0, .int .i64 0, .int .i64 0, .int .u32 0, .slice none 0 0]
  have hb1' := hb1.keep ((Below.refl w1.heap.size w1).alloc (Nat.le_refl _) (.cells (#[.int .i64 1, .int .i64 0, .int .i64 0, .int .i64 0, .slice none 0 0, .int .i64 0, .int .i64 0, .int .i64 0, .int .u32 0, .slice none 0 0]) 64))
  have hg1' := only_below (only_trans hg0 hg1) ((Below.refl w1.heap.size w1).alloc (Nat.le_refl _) (.cells (#[.int .i64 1, .int .i64 0, .int .i64 0, .int .i64 0, .slice none 0 0, .int .i64 0, .int .i64 0, .int .i64 0, .int .u32 0, .slice none 0 0]) 64))
  clear hb1 hb0 hg0 hs0
  refine (hs1'.u8 Q1.out).mono ?_
  rintro e w2 ⟨rfl, hs2, hg2⟩
  have hx2 := hx1.grown hg2 (by simp; omega)
  have hb2 := hb1'.grown hg2 (by simp; omega)
  go_wp2_with fail
  refine (hs2.u8 Q2.out).mono ?_
  rintro e w3 ⟨rfl, hs3, hg3⟩
  have hx3 := hx2.grown hg3 (by simp; omega)
  have hb3 := hb2.grown hg3 (by simp; omega)
  go_wp2_with fail
  refine (hs3.u32 Q3.out).mono ?_
  rintro e w4 ⟨rfl, hs4, hg4⟩
  have hx4 := hx3.grown hg4 (by simp; omega)
  have hb4 := hb3.grown hg4 (by simp; omega)
  have hg14 := only_trans (only_trans (only_trans hg1' hg2) hg3) hg4
  obtain ⟨⟨c0, c1, c2, c3, c4⟩, c5, c6, c7, c8, c9⟩ := hx4.cells10
  obtain ⟨⟨m0, m1, m2, m3, m4⟩, m5, m6, m7, m8, m9⟩ := hx4.marks10
  clear hx1 hx2 hx3 hb1' hb2 hb3 hg1 hg2 hg3 hg4 hs1 hs1' hs2 hs3
  go_wp2_with fail
  have hgw : g < w1.heap.size := by omega
  have hs5 := (((hs4.set_ hgw 1 (.int .i64 x1)).set_ hgw 2 (.int .i64 x2)).set_ hgw 3 (.int .i64 x3)).set_ hgw 4 (.slice none 0 0)
  have hx5 : Blk ((((w4.setCell ⟨w1.heap.size, 1, none⟩ (.int .i64 x1)).setCell ⟨w1.heap.size, 2, none⟩ (.int .i64 x2)).setCell ⟨w1.heap.size, 3, none⟩ (.int .i64 x3)).setCell ⟨w1.heap.size, 4, none⟩ (.slice none 0 0)) w1.heap.size 64 #[.int .i64 1, .int .i64 x1, .int .i64 x2, .int .i64 x3, .slice none 0 0, .int .i64 0, .int .i64 0, .int .i64 0, .int .u32 0, .slice none 0 0] :=
    (((hx4.set_ 1 (.int .i64 x1)).set_ 2 (.int .i64 x2)).set_ 3 (.int .i64 x3)).set_ 4 (.slice none 0 0)
  have hb5 := (((hb4.setOther (show w.heap.size ≠ w1.heap.size by omega) 1 (.int .i64 x1)).setOther (show w.heap.size ≠ w1.heap.size by omega) 2 (.int .i64 x2)).setOther (show w.heap.size ≠ w1.heap.size by omega) 3 (.int .i64 x3)).setOther (show w.heap.size ≠ w1.heap.size by omega) 4 (.slice none 0 0)
  have hg5 := only_new (only_new (only_new (only_new hg14 (show w.heap.size ≤ w1.heap.size by omega) 1 (.int .i64 x1)) (show w.heap.size ≤ w1.heap.size by omega) 2 (.int .i64 x2)) (show w.heap.size ≤ w1.heap.size by omega) 3 (.int .i64 x3)) (show w.heap.size ≤ w1.heap.size by omega) 4 (.slice none 0 0)
  have hz5 := hs5.lt
  generalize ((((w4.setCell ⟨w1.heap.size, 1, none⟩ (.int .i64 x1)).setCell ⟨w1.heap.size, 2, none⟩ (.int .i64 x2)).setCell ⟨w1.heap.size, 3, none⟩ (.int .i64 x3)).setCell ⟨w1.heap.size, 4, none⟩ (.slice none 0 0)) = w5 at *
  clear hx4 hb4 hs4 hg14 c0 c1 c2 c3 c4 c5 c6 c7 c8 c9 m0 m1 m2 m3 m4 m5 m6 m7 m8 m9
  refine (hs5.u16 Q4.out).mono ?_
  rintro e w6 ⟨rfl, hs6, hg6⟩
  have hx6 := hx5.grown hg6 (by simp; omega)
  have hb6 := hb5.grown hg6 (by simp; omega)
  go_wp2_with fail
  refine (hs6.take Q5.out).mono ?_
  rintro e w7 ⟨A', c', rfl, hown, hs7, hg7⟩
  have hx7 := hx6.grown hg7 (by simp; omega)
  have hb7 := hb6.grown hg7 (by simp; omega)
  have hg57 := only_trans (only_trans hg5 hg6) hg7
  have n4 := hx7.cell 4
  have k4 := hx7.frozen 4
  go_wp2_with fail
  have hs8 := hs7.set_ hgw 4 (.slice A' M.length c')
  have hx8 : Blk (w7.setCell ⟨w1.heap.size, 4, none⟩ (.slice A' M.length c')) w1.heap.size 64 #[.int .i64 1, .int .i64 x1, .int .i64 x2, .int .i64 x3, .slice A' M.length c', .int .i64 0, .int .i64 0, .int .i64 0, .int .u32 0, .slice none 0 0] := hx7.set_ 4 _
  have hb8 := hb7.setOther (show w.heap.size ≠ w1.heap.size by omega) 4 (.slice A' M.length c')
  have hg8 := only_new hg57 (show w.heap.size ≤ w1.heap.size by omega) 4 (.slice A' M.length c')
  have hz6 := hs5.lt
  have hown8 : OwnB (w7.setCell ⟨w1.heap.size, 4, none⟩ (.slice A' M.length c')) w.heap.size (.slice A' M.length c') M :=
    World.ownsRow.mono (World.ownsRow.kept hown (only_set (World.grownBy.refl w7 (some w1.heap.size)) 4 (.slice A' M.length c')) (.inr (own_blk_ne hown hx7 (by decide)))) (by have := hg5.size; have := hg6.size; omega)
  generalize (w7.setCell ⟨w1.heap.size, 4, none⟩ (.slice A' M.length c')) = w8 at *
  obtain ⟨⟨c0, c1, c2, c3, c4⟩, c5, c6, c7, c8, c9⟩ := hx8.cells10
  obtain ⟨⟨p0, p1, p2, p3, p4⟩, p5, p6, p7, p8, p9⟩ := hb8.cells10
  obtain ⟨⟨m0, m1, m2, m3, m4⟩, m5, m6, m7, m8, m9⟩ := hb8.marks10
  have hs8D : St w8.drew g B A n c L a5 d5 := hs8.keep ((Below.refl _ _).drew)
  clear hs5 hs6 hs7 hx5 hx6 hx7 hb5 hb6 hb7 hg5 hg6 hg7 hg57 hown n4 k4
  have hneb : w.heap.size ≠ w1.heap.size := by omega
  go_region_held3 (fun W => W.cell? ⟨w1.heap.size, 0, none⟩ = some (.int .i64 1) ∧ W.cell? ⟨w1.heap.size, 1, none⟩ = some (.int .i64 x1) ∧ W.cell? ⟨w1.heap.size, 2, none⟩ = some (.int .i64 x2) ∧ W.cell? ⟨w1.heap.size, 3, none⟩ = some (.int .i64 x3) ∧ W.cell? ⟨w1.heap.size, 4, none⟩ = some (.slice A' M.length c') ∧ W.cell? ⟨w1.heap.size, 5, none⟩ = some (.int .i64 0) ∧ W.cell? ⟨w1.heap.size, 6, none⟩ = some (.int .i64 0) ∧ W.cell? ⟨w1.heap.size, 7, none⟩ = some (.int .i64 0) ∧ W.cell? ⟨w1.heap.size, 8, none⟩ = some (.int .u32 0) ∧ W.cell? ⟨w1.heap.size, 9, none⟩ = some (.slice none 0 0)) (go_keep)
    (first | (go_at_call 29; refine (Bad_any g A n c a5 d5 _ hs8D.rd).mono ?_; rintro e w9 ⟨rfl, rfl⟩))
  obtain ⟨vs, hvs⟩ : ∃ vs : List Value, vs = [.int .i64 1, .int .i64 x1, .int .i64 x2, .int .i64 x3, .slice A' M.length c', .int .i64 0, .int .i64 0, .int .i64 0, .int .u32 0, .slice none 0 0] := ⟨_, rfl⟩
  have hb9 := Blk.sets (vs := vs) hb8 (by rw [hvs]; rfl)
  have hs9 : St (w8.setCells w.heap.size 0 vs).drew g B A n c L a5 d5 := (St.sets hgs vs 0 hs8).keep ((Below.refl _ _).drew)
  have hg9 : w.grownBy (w8.setCells w.heap.size 0 vs).drew (some g) := only_below (only_sets (Nat.le_refl _) vs 0 hg8) ((Below.refl _ _).drew)
  have hown9 : OwnB (w8.setCells w.heap.size 0 vs).drew w.heap.size (.slice A' M.length c') M := World.ownsRow.kept hown8 (only_below (own_sets w8 w.heap.size vs 0 (World.grownBy.refl w8 (some w.heap.size))) ((Below.refl _ _).drew)) (.inr (own_blk_ne hown8 hb8 (by decide)))
  have hb9D : Blk (w8.setCells w.heap.size 0 vs).drew w.heap.size 64 vs.toArray := hb9
  rw [hvs] at hb9D hs9 hg9 hown9
  simp only [World.setCells, Nat.zero_add, Nat.reduceAdd] at hb9D hs9 hg9 hown9
  clear hs8 hs8D hx8 hb8 hg8 hown8 hb9 hvs c0 c1 c2 c3 c4 c5 c6 c7 c8 c9 p0 p1 p2 p3 p4 p5 p6 p7 p8 p9 m0 m1 m2 m3 m4 m5 m6 m7 m8 m9
  generalize ((((((((((w8.setCell { block := w.heap.size, off := 0 } (Value.int IntKind.i64 1)).setCell { block := w.heap.size, off := 1 } (Value.int IntKind.i64 x1)).setCell { block := w.heap.size, off := 2 } (Value.int IntKind.i64 x2)).setCell { block := w.heap.size, off := 3 } (Value.int IntKind.i64 x3)).setCell { block := w.heap.size, off := 4 } (Value.slice A' M.length c')).setCell { block := w.heap.size, off := 5 } (Value.int IntKind.i64 0)).setCell { block := w.heap.size, off := 6 } (Value.int IntKind.i64 0)).setCell { block := w.heap.size, off := 7 } (Value.int IntKind.i64 0)).setCell { block := w.heap.size, off := 8 } (Value.int IntKind.u32 0)).setCell { block := w.heap.size, off := 9 } (Value.slice none 0 0)).drew = w9 at *
  obtain ⟨⟨p0, p1, p2, p3, p4⟩, p5, p6, p7, p8, p9⟩ := hb9D.cells10
  go_wp2_with fail
  refine bodyPost_ret (v := .tuple #[Rc.val ⟨1, x1, x2, x3, A', M.length, c', 0, 0, 0, 0, none, 0, 0⟩, .bool (!d5)]) (by simp [results, Try.results85, go_sem, Rc.val, *]) rfl ?_
  exact ⟨⟨⟨1, x1, x2, x3, A', M.length, c', 0, 0, 0, 0, none, 0, 0⟩, M, []⟩, !d5, a5, d5, rfl, HO.out A' c', ⟨hown9, World.ownsRow_nil _ _ _ _⟩, hs9, hg9⟩
set_option maxRecDepth 100000 in
set_option maxHeartbeats 4000000 in
theorem tone_out (g B : Nat) (A : Option Addr) (n c at_ : Nat) (L : List Int) (w : World) (h : St w g B A n c L at_ false) (h1 : at_ < n) (hk : L.getD at_ 0 = 2) :
    Calls Try.prog 85 #[.pointer (some ⟨g, 0, none⟩)] w fun e w' => ∃ (r : RD) (ok : Bool) (at' : Nat) (bad' : Bool), e = .returned (.tuple #[Rc.val ⟨r.k, r.ek, r.ec, r.en, r.eA, r.eL, r.eC, r.ok, r.oc, r.on, r.oa, r.oA, r.oL, r.oC⟩, .bool ok]) ∧
      OneIs L at_ r ok at' bad' ∧ RO w' w.heap.size r ∧ St w' g B A n c L at' bad' ∧ w.grownBy w' (some g) := by
  have hgs := h.lt
  have hL := h.sl.len
  have isb := h.sl.isb
  have e1 : rdNum L at_ false 1 = (2, at_ + 1, false) := by
    have := rdNum_good (L := L) (at_ := at_) (k := 1) (by omega) (by omega) (by omega)
    rw [take_one_num (by omega), hk] at this
    exact this
  obtain ⟨⟨x1, a1, d1⟩, q1⟩ : ∃ p, rdNum L (at_ + 1) false 1 = p := ⟨_, rfl⟩
  obtain ⟨⟨x2, a2, d2⟩, q2⟩ : ∃ p, rdNum L a1 d1 1 = p := ⟨_, rfl⟩
  obtain ⟨⟨x3, a3, d3⟩, q3⟩ : ∃ p, rdNum L a2 d2 4 = p := ⟨_, rfl⟩
  obtain ⟨⟨y3, e3, f3⟩, r3⟩ : ∃ p, rdNum L a3 d3 4 = p := ⟨_, rfl⟩
  obtain ⟨⟨x4, a4, d4⟩, q4⟩ : ∃ p, rdNum L e3 f3 2 = p := ⟨_, rfl⟩
  obtain ⟨⟨M, a5, d5⟩, q5⟩ : ∃ p, rdTake L a4 d4 x4 = p := ⟨_, rfl⟩
  have hseq : seqO L at_ = ((x1, a1, d1), (x2, a2, d2), (x3, a3, d3), (y3, e3, f3), (x4, a4, d4), (M, a5, d5)) := by simp only [seqO, q1, q2, q3, r3, q4, q5]
  have HO := Lib.hid fun (eA : Option Addr) (eC : Nat) => show OneIs L at_ ⟨⟨2, 0, 0, 0, none, 0, 0, x1, x2, x3, y3, eA, M.length, eC⟩, [], M⟩ (!d5) a5 d5 by
    have := one_out (r := ⟨⟨2, 0, 0, 0, none, 0, 0, x1, x2, x3, y3, eA, M.length, eC⟩, [], M⟩) isb (by omega) hk (by rw [hseq]; rfl)
    rw [hseq] at this
    exact this
  have b1 : 0 ≤ x1 ∧ x1 < 256 := by have := rdNum_top L (at_ + 1) false 1 (by omega) isb; rw [show ((1 : Nat) : Int) = 1 from rfl, q1] at this; simpa using this
  have b2 : 0 ≤ x2 ∧ x2 < 256 := by have := rdNum_top L a1 d1 1 (by omega) isb; rw [show ((1 : Nat) : Int) = 1 from rfl, q2] at this; simpa using this
  have b3 : 0 ≤ x3 ∧ x3 < 4294967296 := by have := rdNum_top L a2 d2 4 (by omega) isb; rw [show ((4 : Nat) : Int) = 4 from rfl, q3] at this; simpa using this
  have bo : 0 ≤ y3 ∧ y3 < 4294967296 := by have := rdNum_top L a3 d3 4 (by omega) isb; rw [show ((4 : Nat) : Int) = 4 from rfl, r3] at this; simpa using this
  have b4 : 0 ≤ x4 ∧ x4 < 65536 := by have := rdNum_top L e3 f3 2 (by omega) isb; rw [show ((2 : Nat) : Int) = 2 from rfl, q4] at this; simpa using this
  have hw1 : IntKind.i64.wrap x1 = x1 := IntWalk.i64_in _ (by omega)
  have hw2 : IntKind.i64.wrap x2 = x2 := IntWalk.i64_in _ (by omega)
  have hw3 : IntKind.i64.wrap x3 = x3 := IntWalk.i64_in _ (by omega)
  have hw5 : IntKind.u32.wrap y3 = y3 := IntWalk.u32_in _ (by omega)
  have hw4 : IntKind.i64.wrap x4 = x4 := IntWalk.i64_in _ (by omega)
  have Q1 := Lib.hid q1
  have Q2 := Lib.hid q2
  have Q3 := Lib.hid q3
  have R3 := Lib.hid r3
  have Q4 := Lib.hid q4
  have Q5 := Lib.hid q5
  have E1 := Lib.hid e1
  have hb0 := Blk.new w 64 zeroR
  have hs0 := h.alloc (.cells zeroR 64)
  have hg0 := below_only ((Below.refl w.heap.size w).alloc (Nat.le_refl _) (.cells zeroR 64)) (some g)
  clear e1 q1 q2 q3 r3 q4 q5 hseq b1 b2 b3 bo b4 hk hL
  go_enter Try.func85, Try.ntmps85
  go_wp2_with fail
  refine (hs0.u8 E1.out).mono ?_
  rintro e w1 ⟨rfl, hs1, hg1⟩
  have hb1 := hb0.grown hg1 (by simp; omega)
  have hz1 : w.heap.size < w1.heap.size := hb1.lt
  go_wp2_with fail
  have hs1' := hs1.alloc (.cells (#[.int .i64 2, .int .i64 0, .int .i64 0, .int .i64 0, .slice none 0 0, .int .i64 0, .int .i64 0, .int .i64 0, .int .u32 0, .slice none 0 0]) 64)
  have hx1 := Blk.new w1 64 #[.int .i64 2, .int .i64 0, .int .i64 0, .int .i64 0, .slice none 0 0, .int .i64 0, .int .i64 0, .int .i64 0, .int .u32 0, .slice none 0 0]
  have hb1' := hb1.keep ((Below.refl w1.heap.size w1).alloc (Nat.le_refl _) (.cells (#[.int .i64 2, .int .i64 0, .int .i64 0, .int .i64 0, .slice none 0 0, .int .i64 0, .int .i64 0, .int .i64 0, .int .u32 0, .slice none 0 0]) 64))
  have hg1' := only_below (only_trans hg0 hg1) ((Below.refl w1.heap.size w1).alloc (Nat.le_refl _) (.cells (#[.int .i64 2, .int .i64 0, .int .i64 0, .int .i64 0, .slice none 0 0, .int .i64 0, .int .i64 0, .int .i64 0, .int .u32 0, .slice none 0 0]) 64))
  clear hb1 hb0 hg0 hs0
  refine (hs1'.u8 Q1.out).mono ?_
  rintro e w2 ⟨rfl, hs2, hg2⟩
  have hx2 := hx1.grown hg2 (by simp; omega)
  have hb2 := hb1'.grown hg2 (by simp; omega)
  go_wp2_with fail
  refine (hs2.u8 Q2.out).mono ?_
  rintro e w3 ⟨rfl, hs3, hg3⟩
  have hx3 := hx2.grown hg3 (by simp; omega)
  have hb3 := hb2.grown hg3 (by simp; omega)
  go_wp2_with fail
  refine (hs3.u32 Q3.out).mono ?_
  rintro e w4a ⟨rfl, hs4a, hg4a⟩
  have hx4a := hx3.grown hg4a (by simp; omega)
  have hb4a := hb3.grown hg4a (by simp; omega)
  have hg13 := only_trans (only_trans (only_trans hg1' hg2) hg3) hg4a
  go_wp2_with fail
  refine (hs4a.u32 R3.out).mono ?_
  rintro e w4 ⟨rfl, hs4, hg4⟩
  have hx4 := hx4a.grown hg4 (by simp; omega)
  have hb4 := hb4a.grown hg4 (by simp; omega)
  have hg14 := only_trans hg13 hg4
  clear hx1 hx2 hx3 hx4a hb1' hb2 hb3 hb4a hg1 hg2 hg3 hg4a hg4 hs1 hs1' hs2 hs3 hs4a hg13
  obtain ⟨⟨c0, c1, c2, c3, c4⟩, c5, c6, c7, c8, c9⟩ := hx4.cells10
  obtain ⟨⟨m0, m1, m2, m3, m4⟩, m5, m6, m7, m8, m9⟩ := hx4.marks10
  go_wp2_with fail
  have hgw : g < w1.heap.size := by omega
  have hs5 := (((((hs4.set_ hgw 5 (.int .i64 x1)).set_ hgw 6 (.int .i64 x2)).set_ hgw 7 (.int .i64 x3)).set_ hgw 8 (.int .u32 y3)).set_ hgw 9 (.slice none 0 0))
  have hx5 : Blk (((((w4.setCell ⟨w1.heap.size, 5, none⟩ (.int .i64 x1)).setCell ⟨w1.heap.size, 6, none⟩ (.int .i64 x2)).setCell ⟨w1.heap.size, 7, none⟩ (.int .i64 x3)).setCell ⟨w1.heap.size, 8, none⟩ (.int .u32 y3)).setCell ⟨w1.heap.size, 9, none⟩ (.slice none 0 0)) w1.heap.size 64 #[.int .i64 2, .int .i64 0, .int .i64 0, .int .i64 0, .slice none 0 0, .int .i64 x1, .int .i64 x2, .int .i64 x3, .int .u32 y3, .slice none 0 0] := (((((hx4.set_ 5 (.int .i64 x1)).set_ 6 (.int .i64 x2)).set_ 7 (.int .i64 x3)).set_ 8 (.int .u32 y3)).set_ 9 (.slice none 0 0))
  have hb5 := (((((hb4.setOther (show w.heap.size ≠ w1.heap.size by omega) 5 (.int .i64 x1)).setOther (show w.heap.size ≠ w1.heap.size by omega) 6 (.int .i64 x2)).setOther (show w.heap.size ≠ w1.heap.size by omega) 7 (.int .i64 x3)).setOther (show w.heap.size ≠ w1.heap.size by omega) 8 (.int .u32 y3)).setOther (show w.heap.size ≠ w1.heap.size by omega) 9 (.slice none 0 0))
  have hg5 := (only_new (only_new (only_new (only_new (only_new hg14 (show w.heap.size ≤ w1.heap.size by omega) 5 (.int .i64 x1)) (show w.heap.size ≤ w1.heap.size by omega) 6 (.int .i64 x2)) (show w.heap.size ≤ w1.heap.size by omega) 7 (.int .i64 x3)) (show w.heap.size ≤ w1.heap.size by omega) 8 (.int .u32 y3)) (show w.heap.size ≤ w1.heap.size by omega) 9 (.slice none 0 0))
  have hz5 := hs5.lt
  generalize (((((w4.setCell ⟨w1.heap.size, 5, none⟩ (.int .i64 x1)).setCell ⟨w1.heap.size, 6, none⟩ (.int .i64 x2)).setCell ⟨w1.heap.size, 7, none⟩ (.int .i64 x3)).setCell ⟨w1.heap.size, 8, none⟩ (.int .u32 y3)).setCell ⟨w1.heap.size, 9, none⟩ (.slice none 0 0)) = w5 at *
  clear hx4 hb4 hs4 hg14 c0 c1 c2 c3 c4 c5 c6 c7 c8 c9 m0 m1 m2 m3 m4 m5 m6 m7 m8 m9
  refine (hs5.u16 Q4.out).mono ?_
  rintro e w6 ⟨rfl, hs6, hg6⟩
  have hx6 := hx5.grown hg6 (by simp; omega)
  have hb6 := hb5.grown hg6 (by simp; omega)
  go_wp2_with fail
  refine (hs6.take Q5.out).mono ?_
  rintro e w7 ⟨A', c', rfl, hown, hs7, hg7⟩
  have hx7 := hx6.grown hg7 (by simp; omega)
  have hb7 := hb6.grown hg7 (by simp; omega)
  have hg57 := only_trans (only_trans hg5 hg6) hg7
  have n4 := hx7.cell 9
  have k4 := hx7.frozen 9
  go_wp2_with fail
  have hs8 := hs7.set_ hgw 9 (.slice A' M.length c')
  have hx8 : Blk (w7.setCell ⟨w1.heap.size, 9, none⟩ (.slice A' M.length c')) w1.heap.size 64 #[.int .i64 2, .int .i64 0, .int .i64 0, .int .i64 0, .slice none 0 0, .int .i64 x1, .int .i64 x2, .int .i64 x3, .int .u32 y3, .slice A' M.length c'] := hx7.set_ 9 _
  have hb8 := hb7.setOther (show w.heap.size ≠ w1.heap.size by omega) 9 (.slice A' M.length c')
  have hg8 := only_new hg57 (show w.heap.size ≤ w1.heap.size by omega) 9 (.slice A' M.length c')
  have hz6 := hs5.lt
  have hown8 : OwnB (w7.setCell ⟨w1.heap.size, 9, none⟩ (.slice A' M.length c')) w.heap.size (.slice A' M.length c') M :=
    World.ownsRow.mono (World.ownsRow.kept hown (only_set (World.grownBy.refl w7 (some w1.heap.size)) 9 (.slice A' M.length c')) (.inr (own_blk_ne hown hx7 (by decide)))) (by have := hg5.size; have := hg6.size; omega)
  generalize (w7.setCell ⟨w1.heap.size, 9, none⟩ (.slice A' M.length c')) = w8 at *
  obtain ⟨⟨c0, c1, c2, c3, c4⟩, c5, c6, c7, c8, c9⟩ := hx8.cells10
  obtain ⟨⟨p0, p1, p2, p3, p4⟩, p5, p6, p7, p8, p9⟩ := hb8.cells10
  obtain ⟨⟨m0, m1, m2, m3, m4⟩, m5, m6, m7, m8, m9⟩ := hb8.marks10
  have hs8D : St w8.drew g B A n c L a5 d5 := hs8.keep ((Below.refl _ _).drew)
  clear hs5 hs6 hs7 hx5 hx6 hx7 hb5 hb6 hb7 hg5 hg6 hg7 hg57 hown n4 k4
  have hneb : w.heap.size ≠ w1.heap.size := by omega
  go_region_held3 (fun W => W.cell? ⟨w1.heap.size, 0, none⟩ = some (.int .i64 2) ∧ W.cell? ⟨w1.heap.size, 1, none⟩ = some (.int .i64 0) ∧ W.cell? ⟨w1.heap.size, 2, none⟩ = some (.int .i64 0) ∧ W.cell? ⟨w1.heap.size, 3, none⟩ = some (.int .i64 0) ∧ W.cell? ⟨w1.heap.size, 4, none⟩ = some (.slice none 0 0) ∧ W.cell? ⟨w1.heap.size, 5, none⟩ = some (.int .i64 x1) ∧ W.cell? ⟨w1.heap.size, 6, none⟩ = some (.int .i64 x2) ∧ W.cell? ⟨w1.heap.size, 7, none⟩ = some (.int .i64 x3) ∧ W.cell? ⟨w1.heap.size, 8, none⟩ = some (.int .u32 y3) ∧ W.cell? ⟨w1.heap.size, 9, none⟩ = some (.slice A' M.length c')) (go_keep)
    (first | (go_at_call 29; refine (Bad_any g A n c a5 d5 _ hs8D.rd).mono ?_; rintro e w9 ⟨rfl, rfl⟩))
  obtain ⟨vs, hvs⟩ : ∃ vs : List Value, vs = [.int .i64 2, .int .i64 0, .int .i64 0, .int .i64 0, .slice none 0 0, .int .i64 x1, .int .i64 x2, .int .i64 x3, .int .u32 y3, .slice A' M.length c'] := ⟨_, rfl⟩
  have hb9 := Blk.sets (vs := vs) hb8 (by rw [hvs]; rfl)
  have hs9 : St (w8.setCells w.heap.size 0 vs).drew g B A n c L a5 d5 := (St.sets hgs vs 0 hs8).keep ((Below.refl _ _).drew)
  have hg9 : w.grownBy (w8.setCells w.heap.size 0 vs).drew (some g) := only_below (only_sets (Nat.le_refl _) vs 0 hg8) ((Below.refl _ _).drew)
  have hown9 : OwnB (w8.setCells w.heap.size 0 vs).drew w.heap.size (.slice A' M.length c') M := World.ownsRow.kept hown8 (only_below (own_sets w8 w.heap.size vs 0 (World.grownBy.refl w8 (some w.heap.size))) ((Below.refl _ _).drew)) (.inr (own_blk_ne hown8 hb8 (by decide)))
  have hb9D : Blk (w8.setCells w.heap.size 0 vs).drew w.heap.size 64 vs.toArray := hb9
  rw [hvs] at hb9D hs9 hg9 hown9
  simp only [World.setCells, Nat.zero_add, Nat.reduceAdd] at hb9D hs9 hg9 hown9
  clear hs8 hs8D hx8 hb8 hg8 hown8 hb9 hvs c0 c1 c2 c3 c4 c5 c6 c7 c8 c9 p0 p1 p2 p3 p4 p5 p6 p7 p8 p9 m0 m1 m2 m3 m4 m5 m6 m7 m8 m9
  generalize ((((((((((w8.setCell { block := w.heap.size, off := 0 } (Value.int IntKind.i64 2)).setCell { block := w.heap.size, off := 1 } (Value.int IntKind.i64 0)).setCell { block := w.heap.size, off := 2 } (Value.int IntKind.i64 0)).setCell { block := w.heap.size, off := 3 } (Value.int IntKind.i64 0)).setCell { block := w.heap.size, off := 4 } (Value.slice none 0 0)).setCell { block := w.heap.size, off := 5 } (Value.int IntKind.i64 x1)).setCell { block := w.heap.size, off := 6 } (Value.int IntKind.i64 x2)).setCell { block := w.heap.size, off := 7 } (Value.int IntKind.i64 x3)).setCell { block := w.heap.size, off := 8 } (Value.int IntKind.u32 y3)).setCell { block := w.heap.size, off := 9 } (Value.slice A' M.length c')).drew = w9 at *
  obtain ⟨⟨p0, p1, p2, p3, p4⟩, p5, p6, p7, p8, p9⟩ := hb9D.cells10
  go_wp2_with fail
  refine bodyPost_ret (v := .tuple #[Rc.val ⟨2, 0, 0, 0, none, 0, 0, x1, x2, x3, y3, A', M.length, c'⟩, .bool (!d5)]) (by simp [results, Try.results85, go_sem, Rc.val, *]) rfl ?_
  exact ⟨⟨⟨2, 0, 0, 0, none, 0, 0, x1, x2, x3, y3, A', M.length, c'⟩, [], M⟩, !d5, a5, d5, rfl, HO.out A' c', ⟨World.ownsRow_nil _ _ _ _, hown9⟩, hs9, hg9⟩
set_option maxRecDepth 100000 in
set_option maxHeartbeats 4000000 in
theorem tone_else (g B : Nat) (A : Option Addr) (n c at_ : Nat) (L : List Int) (w : World) (h : St w g B A n c L at_ false) (h1 : at_ < n) (k1 : L.getD at_ 0 ≠ 1) (k2 : L.getD at_ 0 ≠ 2) :
    Calls Try.prog 85 #[.pointer (some ⟨g, 0, none⟩)] w fun e w' => ∃ (r : RD) (ok : Bool) (at' : Nat) (bad' : Bool), e = .returned (.tuple #[Rc.val ⟨r.k, r.ek, r.ec, r.en, r.eA, r.eL, r.eC, r.ok, r.oc, r.on, r.oa, r.oA, r.oL, r.oC⟩, .bool ok]) ∧
      OneIs L at_ r ok at' bad' ∧ RO w' w.heap.size r ∧ St w' g B A n c L at' bad' ∧ w.grownBy w' (some g) := by
  have hgs := h.lt
  have hL := h.sl.len
  have isb := h.sl.isb
  have HO := Lib.hid fun (r : RD) at' bad' => one_else (r := r) (at' := at') (bad' := bad') k1 k2
  have e1 : rdNum L at_ false 1 = (L.getD at_ 0, at_ + 1, false) := by
    have := rdNum_good (L := L) (at_ := at_) (k := 1) (by omega) (by omega) (by omega)
    rw [take_one_num (by omega)] at this
    exact this
  have hx0 : 0 ≤ L.getD at_ 0 ∧ L.getD at_ 0 ≤ 255 := by
    have h3 : L[at_] ∈ L := List.getElem_mem (by omega)
    have := isb _ h3
    rw [List.getD_eq_getElem?_getD, List.getElem?_eq_getElem (by omega)]
    simp only [Option.getD_some]
    omega
  generalize L.getD at_ 0 = x at *
  have hw1 : IntKind.i64.wrap x = x := IntWalk.i64_in _ (by omega)
  have f1 : (x == 1) = false := by simpa using k1
  have f2 : (x == 2) = false := by simpa using k2
  have E1 := Lib.hid e1
  have hb0 := Blk.new w 64 zeroR
  have hs0 := h.alloc (.cells zeroR 64)
  have hg0 := below_only ((Below.refl w.heap.size w).alloc (Nat.le_refl _) (.cells zeroR 64)) (some g)
  clear e1 hL hx0 k1 k2
  go_enter Try.func85, Try.ntmps85
  go_wp2_with fail
  refine (hs0.u8 E1.out).mono ?_
  rintro e w1 ⟨rfl, hs1, hg1⟩
  have hb1 := hb0.grown hg1 (by simp; omega)
  have hz1 : w.heap.size < w1.heap.size := hb1.lt
  obtain ⟨⟨p0, p1, p2, p3, p4⟩, p5, p6, p7, p8, p9⟩ := Blk.cells10 hb1
  obtain ⟨⟨m0, m1, m2, m3, m4⟩, m5, m6, m7, m8, m9⟩ := hb1.marks10
  clear hb1 hb0 hs0
  go_wp2_with fail
  refine bodyPost_ret (v := .tuple #[Rc.val ⟨0, 0, 0, 0, none, 0, 0, 0, 0, 0, 0, none, 0, 0⟩, .bool false]) (by simp [results, Try.results85, go_sem, Rc.val, *]) rfl ?_
  refine ⟨⟨⟨0, 0, 0, 0, none, 0, 0, 0, 0, 0, 0, none, 0, 0⟩, [], []⟩, false, at_ + 1, false, rfl, HO.out _ _ _, ⟨World.ownsRow_nil _ _ _ _, World.ownsRow_nil _ _ _ _⟩, ?_, ?_⟩
  · exact (St.sets hgs zeroR.toList 0 hs1).alloc _
  · exact only_below (only_sets (Nat.le_refl _) zeroR.toList 0 (only_trans hg0 hg1)) ((Below.refl _ _).alloc (Nat.le_refl _) _)
theorem tone_any (g B : Nat) (A : Option Addr) (n c at_ : Nat) (L : List Int) (w : World) (h : St w g B A n c L at_ false) (h1 : at_ < n) :
    Calls Try.prog 85 #[.pointer (some ⟨g, 0, none⟩)] w fun e w' => ∃ (r : RD) (ok : Bool) (at' : Nat) (bad' : Bool), e = .returned (.tuple #[Rc.val ⟨r.k, r.ek, r.ec, r.en, r.eA, r.eL, r.eC, r.ok, r.oc, r.on, r.oa, r.oA, r.oL, r.oC⟩, .bool ok]) ∧
      OneIs L at_ r ok at' bad' ∧ RO w' w.heap.size r ∧ St w' g B A n c L at' bad' ∧ w.grownBy w' (some g) := by
  by_cases k1 : L.getD at_ 0 = 1
  · exact tone_event g B A n c at_ L w h h1 k1
  · by_cases k2 : L.getD at_ 0 = 2
    · exact tone_out g B A n c at_ L w h h1 k2
    · exact tone_else g B A n c at_ L w h h1 k1 k2
end Go.Proofs.Ytnbokpfkcfhgbaa
