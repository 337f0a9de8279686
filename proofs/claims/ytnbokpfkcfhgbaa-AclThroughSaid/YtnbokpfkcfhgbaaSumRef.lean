/- Walks of the reference's Words and Of. -/
import Derived.Test.YtnbokpfkcfhgbaaSum
namespace Go.Proofs.Ytnbokpfkcfhgbaa
open Go Go.RowKit
attribute [local go_sem ↓] Go.wp_at_zero Go.wp_at_succ

def wordsP (L : List Int) (k : Nat) : List Int := (List.range k).map fun j => 256 * L.getD (2 * j) 0 + L.getD (2 * j + 1) 0
theorem wordsP_len (L : List Int) (k : Nat) : (wordsP L k).length = k := by simp [wordsP]
theorem wordsP_succ (L : List Int) (k : Nat) : wordsP L (k + 1) = wordsP L k ++ [256 * L.getD (2 * k) 0 + L.getD (2 * k + 1) 0] := by
  simp [wordsP, List.range_succ]
theorem wordsP_get (L : List Int) {k i : Nat} (h : i < k) : (wordsP L k)[i]? = some (256 * L.getD (2 * i) 0 + L.getD (2 * i + 1) 0) := by
  simp [wordsP, List.getElem?_map, List.getElem?_range h]
theorem sumP_two (L : List Int) (i : Nat) : sumP L (2 * (i + 1)) = sumP L (2 * i) + (256 * L.getD (2 * i) 0 + L.getD (2 * i + 1) 0) := by
  have e : 2 * (i + 1) = 2 * i + 1 + 1 := by omega
  rw [e]
  simp only [sumP]
  rw [if_neg (by omega), if_pos (by omega)]
  omega
theorem sumP_end (L : List Int) : sumP L (2 * ((L.length + 1) / 2)) = sumP L L.length := by
  by_cases h : L.length % 2 = 0
  · rw [show 2 * ((L.length + 1) / 2) = L.length by omega]
  · rw [show 2 * ((L.length + 1) / 2) = L.length + 1 by omega]
    simp only [sumP]
    have e : L.getD L.length 0 = 0 := by simp [List.getD_eq_getElem?_getD]
    rw [e]
    simp

theorem int_one1 (x : Int) : ∀ u ∈ (#[Value.int .i64 x] : Array Value).toList, u.oneCell' = true := by
  intro u hu
  simp at hu
  subst hu
  rfl

set_option maxRecDepth 100000 in
set_option maxHeartbeats 2000000 in
theorem refWords_any (A : Option Addr) (n c : Nat) (L : List Int) (w : World) (hs : BSl w w.heap.size A n c L) :
    Calls Try.prog 99 #[.slice A n c] w fun e w' => ∃ v, e = .returned v ∧ w'.ownsRow w.heap.size 3 1 v ((n + 1) / 2) ((wordsP L ((n + 1) / 2)).map (Value.int .i64)) ∧ Below w.heap.size w w' := by
  have hn := hs.len
  have isb := hs.isb
  have hA := hs.els
  have hsm := hs.small
  clear hs
  have HN := Lib.hid hn
  clear hn
  go_enter Try.func99, Try.ntmps99
  go_wp2_with fail
  go_loopw [3, 4] (fun v iv wr => ∃ k : Nat, iv = .int .i64 ((2 * k : Nat) : Int) ∧ k ≤ (n + 1) / 2 ∧ wr.ownsRow w.heap.size 3 1 v k ((wordsP L k).map (Value.int .i64)) ∧ Below w.heap.size w wr) (fun _ iv _ => n + 1 - (intOf iv).toNat)
  case atStart => exact ⟨0, rfl, by omega, World.ownsRow_nil _ _ _ _, Below.refl _ _⟩
  case round =>
    obtain ⟨k, rfl, hk, hown, hb⟩ := hrel
    by_cases him : 2 * k < n
    · have hx : L[2 * k]? = some (L.getD (2 * k) 0) := by rw [List.getD_eq_getElem?_getD, List.getElem?_eq_getElem (by rw [HN.out]; exact him)]; rfl
      have hxr := isB_at isb (2 * k)
      obtain ⟨b, o, eA, hh⟩ := hA (2 * k) _ (nums_get hx)
      have hhr := hh.keep hb
      simp only [elemL, Holds.cons, Holds.nil, and_true, Nat.mul_one] at hhr
      have hsucc := wordsP_succ L k
      have hx1 : k + 1 ≤ maxLen := by unfold maxLen; omega
      have hx2 : (k + 1) * 8 ≤ 140737488355328 := by omega
      generalize L.getD (2 * k) 0 = x at *
      by_cases h2 : 2 * k + 1 < n
      · have hy : L[2 * k + 1]? = some (L.getD (2 * k + 1) 0) := by rw [List.getD_eq_getElem?_getD, List.getElem?_eq_getElem (by rw [HN.out]; exact h2)]; rfl
        have hyr := isB_at isb (2 * k + 1)
        obtain ⟨b', o', eA', hh'⟩ := hA (2 * k + 1) _ (nums_get hy)
        rw [eA] at eA'
        injection eA' with eA'
        injection eA' with e1 e2
        subst e1 e2 eA
        have hhy := hh'.keep hb
        simp only [elemL, Holds.cons, Holds.nil, and_true, Nat.mul_one] at hhy
        generalize L.getD (2 * k + 1) 0 = y at *
        have HS := Lib.hid hsucc
        clear hsucc hx hy hh hh'
        go_wp2_with (at_builtin; refine wpList_app rfl _ _ _ rfl w.heap.size 3 _ 1 8 ei_int _ k _ (by rfl) hown 1 #[.int .i64 (256 * x + y)] rfl (by simp) rfl (int_one1 _) hx1 hx2 hb.size ?_; intro v' wa hown' hga)
        go_roundw
        case rel => exact ⟨k + 1, by go_num, by omega, by rw [HS.out, List.map_append]; exact hown', below_app hb hown hga hb.size⟩
        case measure => simp [intOf]; omega
      · have hy0 : L.getD (2 * k + 1) 0 = 0 := by rw [List.getD_eq_getElem?_getD, List.getElem?_eq_none (by rw [HN.out]; omega)]; rfl
        rw [hy0, Int.add_zero] at hsucc
        have HS := Lib.hid hsucc
        subst eA
        clear hsucc hx hh hy0
        go_wp2_with (at_builtin; refine wpList_app rfl _ _ _ rfl w.heap.size 3 _ 1 8 ei_int _ k _ (by rfl) hown 1 #[.int .i64 (256 * x)] rfl (by simp) rfl (int_one1 _) hx1 hx2 hb.size ?_; intro v' wa hown' hga)
        go_roundw
        case rel => exact ⟨k + 1, by go_num, by omega, by rw [HS.out, List.map_append]; exact hown', below_app hb hown hga hb.size⟩
        case measure => simp [intOf]; omega
    · have hkk : k = (n + 1) / 2 := by omega
      have hown' := hown
      rw [hkk] at hown'
      clear hkk hown
      go_wp2_with fail
      go_ret
      exact ⟨_, rfl, hown', hb⟩

set_option maxRecDepth 100000 in
set_option maxHeartbeats 2000000 in
theorem refCk_any (A : Option Addr) (n c : Nat) (L : List Int) (w : World) (hs : BSl w w.heap.size A n c L) :
    Calls Try.prog 86 #[.slice A n c] w (Pure w (.int .i64 (ckS L))) := by
  have hsm := hs.small
  have isb := hs.isb
  have HW := Lib.hid (refWords_any A n c L w hs)
  have hend := sumP_end L
  rw [hs.len] at hend
  have hck : ckS L = 65535 - norm (sumP L n) := by unfold ckS; rw [hs.len]
  rw [hck, ← hend]
  clear hs hend hck
  generalize hm : (n + 1) / 2 = m at *
  go_enter Try.func86, Try.ntmps86
  go_wp2_with fail
  refine HW.out.mono ?_
  rintro e w1 ⟨v, rfl, hown, hb1⟩
  rw [← nums_flat] at hown
  obtain ⟨A', c', e2, h1, h2, hE⟩ := own_elems hown (nums_one _ _) (by rw [nums_length, wordsP_len])
  subst e2
  clear HW hown
  go_wp2_with fail
  go_loopw [3, 5] (fun sv iv wr => ∃ i : Nat, iv = .int .i64 i ∧ sv = .int .i64 (sumP L (2 * i)) ∧ i ≤ m ∧ w1 = wr) (fun _ iv _ => m - (intOf iv).toNat)
  case atStart => exact ⟨0, rfl, rfl, by omega, rfl⟩
  case round =>
    obtain ⟨i, rfl, rfl, hi, rfl⟩ := hrel
    have hr := sumP_range isb (2 * i)
    by_cases him : i < m
    · obtain ⟨b, o, eA, hh⟩ := hE i _ (nums_get (wordsP_get L him))
      subst eA
      simp only [elemL, Holds.cons, Holds.nil, and_true, Nat.mul_one] at hh
      have h2' := sumP_two L i
      have hx := isB_at isb (2 * i)
      have hy := isB_at isb (2 * i + 1)
      generalize L.getD (2 * i) 0 = x at *
      generalize L.getD (2 * i + 1) 0 = y at *
      generalize sumP L (2 * i) = s at *
      go_wp2_with fail
      go_roundw
      case rel => exact ⟨i + 1, by go_num, by rw [h2'], by omega, trivial⟩
      case measure => simp [intOf]; omega
    · obtain rfl : i = m := by omega
      generalize sumP L (2 * i) = s at *
      clear hE
      go_wp2_with fail
      go_loopw [3] (fun sv wr => ∃ t : Int, sv = .int .i64 t ∧ 0 ≤ t ∧ t ≤ s ∧ Hid (norm t = norm s) ∧ w1 = wr) (fun sv _ => (intOf sv).toNat)
      case atStart => exact ⟨s, rfl, hr.1, Int.le_refl _, rfl, rfl⟩
      case round =>
        obtain ⟨t, rfl, h0, hts, hN, rfl⟩ := hrel
        by_cases hbig : 65535 < t
        · have hf := norm_fold h0
          have hlt : t / 65536 + t % 65536 < t := by omega
          have hge : 0 ≤ t / 65536 + t % 65536 := by omega
          have HF := Lib.hid (hf.trans hN.out)
          have q1 : Int.tdiv t 65536 = t / 65536 := Int.tdiv_eq_ediv_of_nonneg h0
          have q2 : Int.tmod t 65536 = t % 65536 := Int.tmod_eq_emod_of_nonneg h0
          clear hf
          go_wp2_with fail
          go_roundw
          case rel => exact ⟨t / 65536 + t % 65536, rfl, hge, by omega, HF.out, trivial⟩
          case measure => simp [intOf]; omega
        · have hs : norm t = t := norm_small h0 (by omega)
          have HS := Lib.hid (hs.symm.trans hN.out)
          clear hs
          go_wp2_with fail
          go_ret
          exact ⟨ret_int (by rw [← HS.out]), hb1⟩
end Go.Proofs.Ytnbokpfkcfhgbaa
