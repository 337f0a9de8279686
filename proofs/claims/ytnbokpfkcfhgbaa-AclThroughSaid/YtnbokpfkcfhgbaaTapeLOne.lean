/- A walk of the law's one. -/
import Derived.Test.YtnbokpfkcfhgbaaTapeOne
namespace Go.Proofs.Ytnbokpfkcfhgbaa
open Go Go.RowKit
attribute [local go_sem ↓] Go.wp_at_zero Go.wp_at_succ

def LOne (L : List Int) (r : RD) (s : Nat) : Prop :=
  match pOne L with
  | none => s = 0
  | some (t, k) => r.tr = t ∧ s = k
def LonePost (w : World) (B : Nat) (L : List Int) (e : Ending) (w' : World) : Prop :=
  ∃ (r : RD) (s : Nat), e = .returned (.tuple #[Rc.val ⟨r.k, r.ek, r.ec, r.en, r.eA, r.eL, r.eC, r.ok, r.oc, r.on, r.oa, r.oA, r.oL, r.oC⟩, .int .i64 s]) ∧ LOne L r s ∧ BSl w' B r.eA r.eL r.eC r.EL ∧ BSl w' B r.oA r.oL r.oC r.OL ∧ Below w.heap.size w w'
def rZero : RD := ⟨⟨0, 0, 0, 0, none, 0, 0, 0, 0, 0, 0, none, 0, 0⟩, [], []⟩
theorem lone_none {L : List Int} (h : pOne L = none) (r : RD) : LOne L r 0 := by
  unfold LOne
  rw [h]

theorem below_zz (w : World) : Below w.heap.size w ((w.alloc (.cells zeroR 64)).alloc (.cells zeroR 64)) := ((Below.refl _ _).alloc (Nat.le_refl _) _).alloc (by simp) _

set_option maxRecDepth 100000 in
set_option maxHeartbeats 2000000 in
theorem lone_short (B : Nat) (A : Option Addr) (n c : Nat) (L : List Int) (w : World) (hs : BSl w B A n c L) (h9 : n < 9) :
    Calls Try.prog 60 #[.slice A n c] w (LonePost w B L) := by
  have HO := Lib.hid (lone_none (show pOne L = none by unfold pOne; rw [if_pos (by rw [hs.len]; exact h9)]) rZero)
  have d : decide ((n : Int) < 9) = true := by simp; omega
  go_enter Try.func60, Try.ntmps60
  go_wp2_with fail
  refine bodyPost_ret (v := .tuple #[Rc.val ⟨0, 0, 0, 0, none, 0, 0, 0, 0, 0, 0, none, 0, 0⟩, .int .i64 0]) (by simp [results, Try.results60, go_sem, Rc.val, *]) rfl ?_
  exact ⟨rZero, 0, rfl, HO.out, BSl.nil _ _, BSl.nil _ _, below_zz w⟩

set_option maxRecDepth 100000 in
set_option maxHeartbeats 2000000 in
theorem lone_else (B b o : Nat) (n c : Nat) (L : List Int) (w : World) (hs : BSl w B (some ⟨b, o, none⟩) n c L) (h9 : ¬ n < 9) (k1 : L.getD 0 0 ≠ 1) (k2 : L.getD 0 0 ≠ 2) (h0 : w.cell? ⟨b, o, none⟩ = some (.int .u8 (L.getD 0 0))) :
    Calls Try.prog 60 #[.slice (some ⟨b, o, none⟩) n c] w (LonePost w B L) := by
  have HO := Lib.hid (lone_none (show pOne L = none by unfold pOne; rw [if_neg (by rw [hs.len]; exact h9), if_neg k1, if_neg k2]) rZero)
  have d : decide ((n : Int) < 9) = false := by simp; omega
  generalize L.getD 0 0 = x at *
  have f1 : (x != 1) = true := by simpa using k1
  have f2 : (x != 2) = true := by simpa using k2
  have h0' := keep_cell h0 (below_zz w)
  simp only [zeroR] at h0'
  clear k1 k2
  go_enter Try.func60, Try.ntmps60
  go_wp2_with fail
  refine bodyPost_ret (v := .tuple #[Rc.val ⟨0, 0, 0, 0, none, 0, 0, 0, 0, 0, 0, none, 0, 0⟩, .int .i64 0]) (by simp [results, Try.results60, go_sem, Rc.val, *]) rfl ?_
  exact ⟨rZero, 0, rfl, HO.out, BSl.nil _ _, BSl.nil _ _, below_zz w⟩

/-- The bytes of a slice from one place up to another. -/
theorem BSl.mid {w : World} {B n c : Nat} {b o : Nat} {L : List Int} (h : BSl w B (some ⟨b, o, none⟩) n c L) {i k : Nat} (hk : i + k ≤ n) (hi : i < n) : BSl w B (some ⟨b, o + i, none⟩) k (c - i) ((L.drop i).take k) := by
  have h1 := h.cut (k := i) (by omega)
  rw [if_neg (by have := h.cap; omega)] at h1
  have e : (some (⟨b, o, none⟩ : Addr)).map (·.add i) = some ⟨b, o + i, none⟩ := by
    unfold Addr.add
    by_cases hz : i = 0
    · simp [hz]
    · simp [hz]
  rw [e] at h1
  exact h1.take (by omega)
theorem BSl.at_ {w : World} {B n c : Nat} {b o : Nat} {L : List Int} (h : BSl w B (some ⟨b, o, none⟩) n c L) {i : Nat} (hi : i < n) : w.cell? ⟨b, o + i, none⟩ = some (.int .u8 (L.getD i 0)) := by
  have hl : i < L.length := by rw [h.len]; exact hi
  obtain ⟨b', o', e, hh⟩ := h.els i _ (nums_get (x := L[i]) (List.getElem?_eq_getElem hl))
  injection e with e
  injection e with e1 e2 e3
  subst e1 e2
  simp only [elemL, Holds.cons, Nat.mul_one] at hh
  rw [hh.1, List.getD_eq_getElem?_getD, List.getElem?_eq_getElem hl]
  rfl

theorem BSl.num {w : World} {B n c : Nat} {A : Option Addr} {L : List Int} (h : BSl w B A n c L) (h8 : n ≤ 8) :
    Calls Try.prog 43 #[.slice A n c] w fun e w' => e = .returned (.int .u64 (numL L)) ∧ w = w' := refNum_any A n c L w h.len h8 h.isb h.els

theorem IsB.at_ {L : List Int} (h : IsB L) (i : Nat) : 0 ≤ L.getD i 0 ∧ L.getD i 0 < 256 := by
  rw [List.getD_eq_getElem?_getD]
  rcases hx : L[i]? with _ | x
  · exact ⟨Int.le_refl _, by decide⟩
  · have := h x (List.mem_of_getElem? hx)
    simp only [Option.getD_some]
    omega
set_option maxRecDepth 100000 in
set_option maxHeartbeats 2000000 in
theorem lone_event_short (B b o : Nat) (n c : Nat) (L : List Int) (w : World) (hs : BSl w B (some ⟨b, o, none⟩) n c L) (hB : B ≤ w.heap.size) (h9 : ¬ n < 9) (k1 : L.getD 0 0 = 1) (hz : n < 9 + (numL ((L.drop 7).take 2)).toNat) :
    Calls Try.prog 60 #[.slice (some ⟨b, o, none⟩) n c] w (LonePost w B L) := by
  have HO := Lib.hid (lone_none (show pOne L = none by unfold pOne; rw [if_neg (by rw [hs.len]; exact h9), if_pos k1, if_pos (by rw [hs.len]; exact hz)]) rZero)
  have d : decide ((n : Int) < 9) = false := by simp; omega
  have hcap := hs.cap
  have h0' := keep_cell (hs.at_ (i := 0) (by omega)) (below_zz w)
  rw [k1] at h0'
  have hsz := hs.keep ((below_zz w).mono hB)
  have hb2 := num_bound hs.isb 7
  have hm1 := hsz.mid (i := 3) (k := 4) (by omega) (by omega)
  have hm2 := hsz.mid (i := 7) (k := 2) (by omega) (by omega)
  have N1 := Lib.hid (hm1.num (by omega))
  have N2 := Lib.hid (hm2.num (by omega))
  have b3 : 0 ≤ numL ((L.drop 3).take 4) ∧ numL ((L.drop 3).take 4) < 256 ^ 4 := numL_top 4 (by omega) _ (by simp; omega) ((hs.isb.drop _).take _)
  have b4 : 0 ≤ numL ((L.drop 7).take 2) ∧ numL ((L.drop 7).take 2) < 256 ^ 2 := numL_top 2 (by omega) _ (by simp; omega) ((hs.isb.drop _).take _)
  generalize numL ((L.drop 3).take 4) = x3 at *
  generalize numL ((L.drop 7).take 2) = x4 at *
  have hw3 : IntKind.i64.wrap x3 = x3 := IntWalk.i64_in _ (by omega)
  have hw4 : IntKind.i64.wrap x4 = x4 := IntWalk.i64_in _ (by omega)
  have hw5 : IntKind.i64.wrap (9 + x4) = 9 + x4 := IntWalk.i64_in _ (by omega)
  have d2 : decide ((n : Int) < 9 + x4) = true := by simp; omega
  simp only [zeroR, Nat.add_zero] at h0' N1 N2
  clear k1 hm1 hm2 b3 b4 hb2 hz
  go_enter Try.func60, Try.ntmps60
  go_wp2_with fail
  refine N1.out.mono ?_
  rintro e w1 ⟨rfl, rfl⟩
  go_wp2_with fail
  refine N2.out.mono ?_
  rintro e w1 ⟨rfl, rfl⟩
  go_wp2_with fail
  refine bodyPost_ret (v := .tuple #[Rc.val ⟨0, 0, 0, 0, none, 0, 0, 0, 0, 0, 0, none, 0, 0⟩, .int .i64 0]) (by simp [results, Try.results60, go_sem, Rc.val, *]) rfl ?_
  exact ⟨rZero, 0, rfl, HO.out, BSl.nil _ _, BSl.nil _ _, below_zz w⟩

set_option maxRecDepth 100000 in
set_option maxHeartbeats 2000000 in
theorem lone_event_ok (B b o : Nat) (n c : Nat) (L : List Int) (w : World) (hs : BSl w B (some ⟨b, o, none⟩) n c L) (hB : B ≤ w.heap.size) (h9 : ¬ n < 9) (k1 : L.getD 0 0 = 1) (hz : ¬ n < 9 + (numL ((L.drop 7).take 2)).toNat) :
    Calls Try.prog 60 #[.slice (some ⟨b, o, none⟩) n c] w (LonePost w B L) := by
  have hone : pOne L = some (⟨1, L.getD 1 0, L.getD 2 0, numL ((L.drop 3).take 4), (L.drop 9).take (numL ((L.drop 7).take 2)).toNat, 0, 0, 0, 0, []⟩, 9 + (numL ((L.drop 7).take 2)).toNat) := by unfold pOne; rw [if_neg (by rw [hs.len]; exact h9), if_pos k1, if_neg (by rw [hs.len]; exact hz)]
  have d : decide ((n : Int) < 9) = false := by simp; omega
  have hcap := hs.cap
  have hsm := hs.small
  have hbw : b < w.heap.size := lt_of_cell (hs.at_ (i := 0) (by omega))
  have h0' := keep_cell (hs.at_ (i := 0) (by omega)) (below_zz w)
  have h1' := keep_cell (hs.at_ (i := 1) (by omega)) (below_zz w)
  have h2' := keep_cell (hs.at_ (i := 2) (by omega)) (below_zz w)
  have g1 := hs.at_ (i := 1) (by omega)
  have g2 := hs.at_ (i := 2) (by omega)
  have r1 := hs.isb.at_ 1
  have r2 := hs.isb.at_ 2
  generalize L.getD 1 0 = x1 at *
  generalize L.getD 2 0 = x2 at *
  rw [k1] at h0'
  have hsz := hs.keep ((below_zz w).mono hB)
  have hm1 := hsz.mid (i := 3) (k := 4) (by omega) (by omega)
  have hm2 := hsz.mid (i := 7) (k := 2) (by omega) (by omega)
  have N1 := Lib.hid (hm1.num (by omega))
  have N2 := Lib.hid (hm2.num (by omega))
  have b3 : 0 ≤ numL ((L.drop 3).take 4) ∧ numL ((L.drop 3).take 4) < 256 ^ 4 := numL_top 4 (by omega) _ (by simp; omega) ((hs.isb.drop _).take _)
  have b4 : 0 ≤ numL ((L.drop 7).take 2) ∧ numL ((L.drop 7).take 2) < 256 ^ 2 := numL_top 2 (by omega) _ (by simp; omega) ((hs.isb.drop _).take _)
  have hsM : BSl w B (if c = 9 then some ⟨b, o, none⟩ else (some (⟨b, o, none⟩ : Addr)).map (·.add 9)) (numL ((L.drop 7).take 2)).toNat (c - 9) ((L.drop 9).take (numL ((L.drop 7).take 2)).toNat) := (hs.cut (k := 9) (by omega)).take (by omega)
  generalize numL ((L.drop 3).take 4) = x3 at *
  generalize numL ((L.drop 7).take 2) = x4 at *
  obtain ⟨s, rfl⟩ : ∃ s : Nat, x4 = s := ⟨x4.toNat, by omega⟩
  simp only [Int.toNat_natCast] at hone hz hsM
  generalize (L.drop 9).take s = M at *
  have hw1 : IntKind.i64.wrap x1 = x1 := IntWalk.i64_in _ (by omega)
  have hw2 : IntKind.i64.wrap x2 = x2 := IntWalk.i64_in _ (by omega)
  have hw3 : IntKind.i64.wrap x3 = x3 := IntWalk.i64_in _ (by omega)
  have hw4 : IntKind.i64.wrap (s : Int) = s := IntWalk.i64_in _ (by omega)
  have hw5 : IntKind.i64.wrap (9 + (s : Int)) = 9 + s := IntWalk.i64_in _ (by omega)
  have d2 : decide ((n : Int) < 9 + s) = false := by simp; omega
  have hne : w.heap.size ≠ b := by omega
  have i1 : (1 : Int) < (n : Int) := by omega
  have i2 : (2 : Int) < (n : Int) := by omega
  have i3 : (0 : Int) ≤ 9 + (s : Int) := by omega
  have i4 : (9 : Int) ≤ 9 + (s : Int) := by omega
  have i5 : 9 + (s : Int) ≤ (c : Int) := by omega
  have i6 : (9 + (s : Int)).toNat - 9 = s := by omega
  simp only [zeroR, Nat.add_zero] at h0' h1' h2' N1 N2
  have HO := Lib.hid fun (eA : Option Addr) (eC : Nat) => show LOne L ⟨⟨1, x1, x2, x3, eA, s, eC, 0, 0, 0, 0, none, 0, 0⟩, M, []⟩ (9 + s) by unfold LOne; rw [hone]; exact ⟨rfl, rfl⟩
  clear k1 hm1 hm2 b3 b4 r1 r2 hone
  by_cases hc : c = 9
  · rw [if_pos hc] at hsM
    obtain rfl : s = 0 := by omega
    obtain rfl : n = 9 := by omega
    subst hc
    clear i1 i2 i3 i4 i5 i6 hw4 hw5 d d2
    simp only [Int.natCast_zero, Nat.add_zero, Nat.sub_self] at N2 HO hsM
    go_enter Try.func60, Try.ntmps60
    go_wp2_with fail
    refine N1.out.mono ?_
    rintro e w1 ⟨rfl, rfl⟩
    go_wp2_with fail
    refine N2.out.mono ?_
    rintro e w1 ⟨rfl, rfl⟩
    go_wp2_with fail
    go_region
    all_goals go_wp2_with fail
    all_goals refine bodyPost_ret (v := .tuple #[Rc.val ⟨1, x1, x2, x3, some ⟨b, o, none⟩, 0, 0, 0, 0, 0, 0, none, 0, 0⟩, .int .i64 9]) (by simp [results, Try.results60, go_sem, Rc.val, *]) rfl ?_
    all_goals exact ⟨⟨⟨1, x1, x2, x3, some ⟨b, o, none⟩, 0, 0, 0, 0, 0, 0, none, 0, 0⟩, M, []⟩, 9, rfl, HO.out _ _, hsM.keep (((((Below.refl _ _).alloc (Nat.le_refl _) _).alloc (by simp) _).drew).mono hB), BSl.nil _ _, (((Below.refl _ _).alloc (Nat.le_refl _) _).alloc (by simp) _).drew⟩
  · rw [if_neg hc, show (some (⟨b, o, none⟩ : Addr)).map (·.add 9) = some ⟨b, o + 9, none⟩ from by simp [Addr.add]] at hsM
    go_enter Try.func60, Try.ntmps60
    go_wp2_with fail
    refine N1.out.mono ?_
    rintro e w1 ⟨rfl, rfl⟩
    go_wp2_with fail
    refine N2.out.mono ?_
    rintro e w1 ⟨rfl, rfl⟩
    go_wp2_with fail
    go_region_held3 (fun W => W.cell? ⟨b, o + 1, none⟩ = some (.int .u8 x1) ∧ W.cell? ⟨b, o + 2, none⟩ = some (.int .u8 x2)) (go_keep) (fail)
    go_wp2_with fail
    refine bodyPost_ret (v := .tuple #[Rc.val ⟨1, x1, x2, x3, some ⟨b, o + 9, none⟩, s, c - 9, 0, 0, 0, 0, none, 0, 0⟩, .int .i64 (9 + s)]) (by simp [results, Try.results60, go_sem, Rc.val, *]) rfl ?_
    exact ⟨⟨⟨1, x1, x2, x3, some ⟨b, o + 9, none⟩, s, c - 9, 0, 0, 0, 0, none, 0, 0⟩, M, []⟩, 9 + s, rfl, HO.out _ _, hsM.keep (((((Below.refl _ _).alloc (Nat.le_refl _) _).alloc (by simp) _).drew).mono hB), BSl.nil _ _, (((Below.refl _ _).alloc (Nat.le_refl _) _).alloc (by simp) _).drew⟩

set_option maxRecDepth 100000 in
set_option maxHeartbeats 2000000 in
theorem lone_out_13 (B b o : Nat) (n c : Nat) (L : List Int) (w : World) (hs : BSl w B (some ⟨b, o, none⟩) n c L) (hB : B ≤ w.heap.size) (h9 : ¬ n < 9) (k2 : L.getD 0 0 = 2) (h13 : n < 13) :
    Calls Try.prog 60 #[.slice (some ⟨b, o, none⟩) n c] w (LonePost w B L) := by
  have HO := Lib.hid (lone_none (show pOne L = none by unfold pOne; rw [if_neg (by rw [hs.len]; exact h9), if_neg (by rw [k2]; omega), if_pos k2, if_pos (by rw [hs.len]; exact h13)]) rZero)
  have d : decide ((n : Int) < 9) = false := by simp; omega
  have d' : decide ((n : Int) < 13) = true := by simp; omega
  have hcap := hs.cap
  have h0' := keep_cell (hs.at_ (i := 0) (by omega)) (below_zz w)
  rw [k2] at h0'
  have hsz := hs.keep ((below_zz w).mono hB)
  have hm1 := hsz.mid (i := 3) (k := 4) (by omega) (by omega)
  have N1 := Lib.hid (hm1.num (by omega))
  have b3 : 0 ≤ numL ((L.drop 3).take 4) ∧ numL ((L.drop 3).take 4) < 256 ^ 4 := numL_top 4 (by omega) _ (by simp; omega) ((hs.isb.drop _).take _)
  generalize numL ((L.drop 3).take 4) = x3 at *
  have hw3 : IntKind.i64.wrap x3 = x3 := IntWalk.i64_in _ (by omega)
  simp only [zeroR, Nat.add_zero] at h0' N1
  clear k2 hm1 b3
  go_enter Try.func60, Try.ntmps60
  go_wp2_with fail
  refine N1.out.mono ?_
  rintro e w1 ⟨rfl, rfl⟩
  go_wp2_with fail
  refine bodyPost_ret (v := .tuple #[Rc.val ⟨0, 0, 0, 0, none, 0, 0, 0, 0, 0, 0, none, 0, 0⟩, .int .i64 0]) (by simp [results, Try.results60, go_sem, Rc.val, *]) rfl ?_
  exact ⟨rZero, 0, rfl, HO.out, BSl.nil _ _, BSl.nil _ _, below_zz w⟩

set_option maxRecDepth 100000 in
set_option maxHeartbeats 2000000 in
theorem lone_out_short (B b o : Nat) (n c : Nat) (L : List Int) (w : World) (hs : BSl w B (some ⟨b, o, none⟩) n c L) (hB : B ≤ w.heap.size) (h13 : ¬ n < 13) (k2 : L.getD 0 0 = 2) (hz : n < 13 + (numL ((L.drop 11).take 2)).toNat) :
    Calls Try.prog 60 #[.slice (some ⟨b, o, none⟩) n c] w (LonePost w B L) := by
  have HO := Lib.hid (lone_none (show pOne L = none by unfold pOne; rw [if_neg (by rw [hs.len]; omega), if_neg (by rw [k2]; omega), if_pos k2, if_neg (by rw [hs.len]; exact h13), if_pos (by rw [hs.len]; exact hz)]) rZero)
  have d : decide ((n : Int) < 9) = false := by simp; omega
  have d' : decide ((n : Int) < 13) = false := by simp; omega
  have hcap := hs.cap
  have h0' := keep_cell (hs.at_ (i := 0) (by omega)) (below_zz w)
  rw [k2] at h0'
  have hsz := hs.keep ((below_zz w).mono hB)
  have hb2 := num_bound hs.isb 11
  have hm1 := hsz.mid (i := 3) (k := 4) (by omega) (by omega)
  have hm2 := hsz.mid (i := 11) (k := 2) (by omega) (by omega)
  have N1 := Lib.hid (hm1.num (by omega))
  have N2 := Lib.hid (hm2.num (by omega))
  have b3 : 0 ≤ numL ((L.drop 3).take 4) ∧ numL ((L.drop 3).take 4) < 256 ^ 4 := numL_top 4 (by omega) _ (by simp; omega) ((hs.isb.drop _).take _)
  have b4 : 0 ≤ numL ((L.drop 11).take 2) ∧ numL ((L.drop 11).take 2) < 256 ^ 2 := numL_top 2 (by omega) _ (by simp; omega) ((hs.isb.drop _).take _)
  generalize numL ((L.drop 3).take 4) = x3 at *
  generalize numL ((L.drop 11).take 2) = x4 at *
  have hw3 : IntKind.i64.wrap x3 = x3 := IntWalk.i64_in _ (by omega)
  have hw4 : IntKind.i64.wrap x4 = x4 := IntWalk.i64_in _ (by omega)
  have hw5 : IntKind.i64.wrap (13 + x4) = 13 + x4 := IntWalk.i64_in _ (by omega)
  have d2 : decide ((n : Int) < 13 + x4) = true := by simp; omega
  simp only [zeroR, Nat.add_zero] at h0' N1 N2
  clear k2 hm1 hm2 b3 b4 hb2 hz
  go_enter Try.func60, Try.ntmps60
  go_wp2_with fail
  refine N1.out.mono ?_
  rintro e w1 ⟨rfl, rfl⟩
  go_wp2_with fail
  refine N2.out.mono ?_
  rintro e w1 ⟨rfl, rfl⟩
  go_wp2_with fail
  refine bodyPost_ret (v := .tuple #[Rc.val ⟨0, 0, 0, 0, none, 0, 0, 0, 0, 0, 0, none, 0, 0⟩, .int .i64 0]) (by simp [results, Try.results60, go_sem, Rc.val, *]) rfl ?_
  exact ⟨rZero, 0, rfl, HO.out, BSl.nil _ _, BSl.nil _ _, below_zz w⟩

end Go.Proofs.Ytnbokpfkcfhgbaa
