/- A walk of the law's one: the last way; all ways. -/
import Derived.Test.YtnbokpfkcfhgbaaTapeLOne
namespace Go.Proofs.Ytnbokpfkcfhgbaa
open Go Go.RowKit
attribute [local go_sem ↓] Go.wp_at_zero Go.wp_at_succ

set_option maxRecDepth 100000 in
set_option maxHeartbeats 2000000 in
theorem lone_out_ok (B b o : Nat) (n c : Nat) (L : List Int) (w : World) (hs : BSl w B (some ⟨b, o, none⟩) n c L) (hB : B ≤ w.heap.size) (h13 : ¬ n < 13) (k2 : L.getD 0 0 = 2) (hz : ¬ n < 13 + (numL ((L.drop 11).take 2)).toNat) :
    Calls Try.prog 60 #[.slice (some ⟨b, o, none⟩) n c] w (LonePost w B L) := by
  have hone : pOne L = some (⟨2, 0, 0, 0, [], L.getD 1 0, L.getD 2 0, numL ((L.drop 3).take 4), numL ((L.drop 7).take 4), (L.drop 13).take (numL ((L.drop 11).take 2)).toNat⟩, 13 + (numL ((L.drop 11).take 2)).toNat) := by unfold pOne; rw [if_neg (by rw [hs.len]; omega), if_neg (by rw [k2]; omega), if_pos k2, if_neg (by rw [hs.len]; exact h13), if_neg (by rw [hs.len]; exact hz)]
  have d : decide ((n : Int) < 9) = false := by simp; omega
  have d' : decide ((n : Int) < 13) = false := by simp; omega
  have hcap := hs.cap
  have hsm := hs.small
  have hbw : b < w.heap.size := lt_of_cell (hs.at_ (i := 0) (by omega))
  have h0' := keep_cell (hs.at_ (i := 0) (by omega)) (below_zz w)
  have h1' := keep_cell (hs.at_ (i := 1) (by omega)) (below_zz w)
  have h2' := keep_cell (hs.at_ (i := 2) (by omega)) (below_zz w)
  have g1 := hs.at_ (i := 1) (by omega)
  have g2 := hs.at_ (i := 2) (by omega)
  have r1 := hs.isb.at_ 1
  have r2 := hs.isb.at_ 2
  generalize L.getD 1 0 = x1 at *
  generalize L.getD 2 0 = x2 at *
  rw [k2] at h0'
  have hsz := hs.keep ((below_zz w).mono hB)
  have hm1 := hsz.mid (i := 3) (k := 4) (by omega) (by omega)
  have hm2 := hsz.mid (i := 11) (k := 2) (by omega) (by omega)
  have N1 := Lib.hid (hm1.num (by omega))
  have N2 := Lib.hid (hm2.num (by omega))
  have hm3 := hs.mid (i := 7) (k := 4) (by omega) (by omega)
  have N3 := Lib.hid ((hm3.keep (((below_zz w).drew).mono hB)).num (by omega))
  have b5 : 0 ≤ numL ((L.drop 7).take 4) ∧ numL ((L.drop 7).take 4) < 256 ^ 4 := numL_top 4 (by omega) _ (by simp; omega) ((hs.isb.drop _).take _)
  have b3 : 0 ≤ numL ((L.drop 3).take 4) ∧ numL ((L.drop 3).take 4) < 256 ^ 4 := numL_top 4 (by omega) _ (by simp; omega) ((hs.isb.drop _).take _)
  have b4 : 0 ≤ numL ((L.drop 11).take 2) ∧ numL ((L.drop 11).take 2) < 256 ^ 2 := numL_top 2 (by omega) _ (by simp; omega) ((hs.isb.drop _).take _)
  have hsM : BSl w B (if c = 13 then some ⟨b, o, none⟩ else (some (⟨b, o, none⟩ : Addr)).map (·.add 13)) (numL ((L.drop 11).take 2)).toNat (c - 13) ((L.drop 13).take (numL ((L.drop 11).take 2)).toNat) := (hs.cut (k := 13) (by omega)).take (by omega)
  generalize numL ((L.drop 3).take 4) = x3 at *
  generalize numL ((L.drop 11).take 2) = x4 at *
  generalize numL ((L.drop 7).take 4) = y3 at *
  obtain ⟨s, rfl⟩ : ∃ s : Nat, x4 = s := ⟨x4.toNat, by omega⟩
  simp only [Int.toNat_natCast] at hone hz hsM
  generalize (L.drop 13).take s = M at *
  have hw1 : IntKind.i64.wrap x1 = x1 := IntWalk.i64_in _ (by omega)
  have hw2 : IntKind.i64.wrap x2 = x2 := IntWalk.i64_in _ (by omega)
  have hw3 : IntKind.i64.wrap x3 = x3 := IntWalk.i64_in _ (by omega)
  have hw6 : IntKind.u32.wrap y3 = y3 := IntWalk.u32_in _ (by omega)
  have hw4 : IntKind.i64.wrap (s : Int) = s := IntWalk.i64_in _ (by omega)
  have hw5 : IntKind.i64.wrap (13 + (s : Int)) = 13 + s := IntWalk.i64_in _ (by omega)
  have d2 : decide ((n : Int) < 13 + s) = false := by simp; omega
  have hne : w.heap.size ≠ b := by omega
  have i1 : (1 : Int) < (n : Int) := by omega
  have i2 : (2 : Int) < (n : Int) := by omega
  have i3 : (0 : Int) ≤ 13 + (s : Int) := by omega
  have i4 : (13 : Int) ≤ 13 + (s : Int) := by omega
  have i5 : 13 + (s : Int) ≤ (c : Int) := by omega
  have i7 : (11 : Int) ≤ (c : Int) := by omega
  have i6 : (13 + (s : Int)).toNat - 13 = s := by omega
  simp only [zeroR, Nat.add_zero] at h0' h1' h2' N1 N2 N3
  have HO := Lib.hid fun (eA : Option Addr) (eC : Nat) => show LOne L ⟨⟨2, 0, 0, 0, none, 0, 0, x1, x2, x3, y3, eA, s, eC⟩, [], M⟩ (13 + s) by unfold LOne; rw [hone]; exact ⟨rfl, rfl⟩
  clear k2 hm1 hm2 hm3 b3 b4 b5 r1 r2 hone
  have hc7 : ¬ c = 7 := by omega
  obtain ⟨X, hX⟩ : ∃ X, (if c = 13 then some (⟨b, o, none⟩ : Addr) else some ⟨b, o + 13, none⟩) = X := ⟨_, rfl⟩
  rw [show (some (⟨b, o, none⟩ : Addr)).map (·.add 13) = some ⟨b, o + 13, none⟩ from by simp [Addr.add], hX] at hsM
  go_enter Try.func60, Try.ntmps60
  go_wp2_with fail
  refine N1.out.mono ?_
  rintro e w1 ⟨rfl, rfl⟩
  go_wp2_with fail
  refine N2.out.mono ?_
  rintro e w1 ⟨rfl, rfl⟩
  go_wp2_with fail
  go_region_held3 (fun W => W.cell? ⟨b, o + 1, none⟩ = some (.int .u8 x1) ∧ W.cell? ⟨b, o + 2, none⟩ = some (.int .u8 x2)) (go_keep) (first | (go_at_call 43; refine N3.out.mono ?_; rintro e w9 ⟨rfl, rfl⟩))
  go_wp2_with fail
  refine bodyPost_ret (v := .tuple #[Rc.val ⟨2, 0, 0, 0, none, 0, 0, x1, x2, x3, y3, X, s, c - 13⟩, .int .i64 (13 + s)]) (by simp [results, Try.results60, go_sem, Rc.val, *]) rfl ?_
  exact ⟨⟨⟨2, 0, 0, 0, none, 0, 0, x1, x2, x3, y3, X, s, c - 13⟩, [], M⟩, 13 + s, rfl, HO.out _ _, BSl.nil _ _, hsM.keep (((((Below.refl _ _).alloc (Nat.le_refl _) _).alloc (by simp) _).drew).mono hB), (((Below.refl _ _).alloc (Nat.le_refl _) _).alloc (by simp) _).drew⟩

theorem lone_any (B : Nat) (A : Option Addr) (n c : Nat) (L : List Int) (w : World) (hs : BSl w B A n c L) (hB : B ≤ w.heap.size) :
    Calls Try.prog 60 #[.slice A n c] w (LonePost w B L) := by
  by_cases h9 : n < 9
  · exact lone_short B A n c L w hs h9
  have hA : ∃ b o, A = some ⟨b, o, none⟩ := by
    obtain ⟨b, o, e, _⟩ := hs.els 0 _ (nums_get (x := L[0]'(by rw [hs.len]; omega)) (List.getElem?_eq_getElem _))
    exact ⟨b, o, e⟩
  obtain ⟨b, o, rfl⟩ := hA
  by_cases k1 : L.getD 0 0 = 1
  · by_cases hz : n < 9 + (numL ((L.drop 7).take 2)).toNat
    · exact lone_event_short B b o n c L w hs hB h9 k1 hz
    · exact lone_event_ok B b o n c L w hs hB h9 k1 hz
  by_cases k2 : L.getD 0 0 = 2
  · by_cases h13 : n < 13
    · exact lone_out_13 B b o n c L w hs hB h9 k2 h13
    by_cases hz : n < 13 + (numL ((L.drop 11).take 2)).toNat
    · exact lone_out_short B b o n c L w hs hB h13 k2 hz
    · exact lone_out_ok B b o n c L w hs hB h13 k2 hz
  · exact lone_else B b o n c L w hs h9 k1 k2 (hs.at_ (i := 0) (by omega))
end Go.Proofs.Ytnbokpfkcfhgbaa
