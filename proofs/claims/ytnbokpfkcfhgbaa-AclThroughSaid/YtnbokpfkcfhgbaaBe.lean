/- Walks of package be: what is put behind a row of the caller's own. -/
import Derived.Test.YtnbokpfkcfhgbaaOwn
import Derived.Test.YtnbokpfkcfhgbaaBeLaw
namespace Go.Proofs.Ytnbokpfkcfhgbaa
open Go Go.RowKit
attribute [local go_sem ↓] Go.wp_at_zero Go.wp_at_succ

theorem ei_byte : ElemInfo Try.prog 27 5 (.int .u8 0) 1 1 := elemInfo_mk Try.underlying27 (by kernel_rfl) rfl (by omega)
/-- The row v of the caller's own, grown to just these bytes. -/
def AppTo (w : World) (B : Nat) (v : Value) (L : List Int) (e : Ending) (w' : World) : Prop :=
  ∃ v', e = .returned v' ∧ w'.ownsRow B 5 1 v' L.length (L.map (Value.int .u8)) ∧ Grew w w' v v'
/-- What the caller hands in. -/
def OwnB (w : World) (B : Nat) (v : Value) (L : List Int) : Prop := w.ownsRow B 5 1 v L.length (L.map (Value.int .u8))
theorem bytes_one (L : List Int) : ∀ u ∈ (L.map (Value.int .u8)).toArray.toList, u.oneCell' = true := by
  intro u hu
  simp only [List.mem_map] at hu
  obtain ⟨x, _, rfl⟩ := hu
  rfl
theorem own_len {w : World} {B n : Nat} {v : Value} {L M : List Int} (h : w.ownsRow B 5 1 v n (L.map (Value.int .u8) ++ M.map (Value.int .u8))) (hn : n = L.length + M.length) : OwnB w B v (L ++ M) := by
  unfold OwnB
  rw [List.length_append, List.map_append]
  subst hn
  exact h

set_option maxHeartbeats 1000000 in
theorem Put8_any (v : Value) (L : List Int) (x : Int) (B : Nat) (w : World) (hown : OwnB w B v L) (hB : B ≤ w.heap.size) (hl : L.length ≤ 1000000000000) :
    Calls Try.prog 38 #[v, .int .u8 x] w (AppTo w B v (L ++ [x])) := by
  have hx1 : L.length + 1 ≤ maxLen := by unfold maxLen; omega
  have hx2 : (L.length + 1) * 1 ≤ 140737488355328 := by omega
  have HO := Lib.hid hown
  clear hown
  go_enter Try.func38, Try.ntmps38
  go_wp2_with (at_builtin; refine wpList_appG rfl _ _ _ rfl B 5 _ 1 1 ei_byte _ L.length _ (by rfl) HO.out 1 #[.int .u8 x] rfl (by simp) rfl (bytes_one [x]) hx1 hx2 hB ?_; intro v' wa hown' hga)
  go_ret
  exact ⟨v', rfl, own_len (M := [x]) hown' rfl, hga⟩

set_option maxHeartbeats 1000000 in
theorem Put16_any (v : Value) (L : List Int) (n : Int) (B : Nat) (w : World) (hown : OwnB w B v L) (hB : B ≤ w.heap.size) (hl : L.length ≤ 1000000000000) (h0 : 0 ≤ n) (h1 : n < 65536) :
    Calls Try.prog 41 #[v, .int .u16 n] w (AppTo w B v (L ++ beL n 2)) := by
  have hx1 : L.length + 2 ≤ maxLen := by unfold maxLen; omega
  have hx2 : (L.length + 2) * 1 ≤ 140737488355328 := by omega
  have HO := Lib.hid hown
  clear hown
  go_enter Try.func41, Try.ntmps41
  have hbe : Hid (([n / 256, n % 256] : List Int) = beL n 2) := by
    simp only [Hid, beL, Int.pow_one, Int.pow_zero, Int.ediv_one, Nat.reduceAdd]
    rw [show n / 256 % 256 = n / 256 from by omega]
  rw [← hbe.out]
  go_wp2_with (at_builtin; refine wpList_appG rfl _ _ _ rfl B 5 _ 1 1 ei_byte _ L.length _ (by rfl) HO.out 2 #[.int .u8 (n / 256), .int .u8 (n % 256)] rfl (by simp) rfl (bytes_one [n / 256, n % 256]) hx1 hx2 hB ?_; intro v' wa hown' hga)
  go_ret
  exact ⟨v', rfl, own_len (M := [n / 256, n % 256]) hown' rfl, hga⟩

set_option maxHeartbeats 1000000 in
theorem Put32_any (v : Value) (L : List Int) (n : Int) (B : Nat) (w : World) (hown : OwnB w B v L) (hB : B ≤ w.heap.size) (hl : L.length ≤ 1000000000000) (h0 : 0 ≤ n) (h1 : n < 4294967296) :
    Calls Try.prog 42 #[v, .int .u32 n] w (AppTo w B v (L ++ beL n 4)) := by
  have hx1 : L.length + 4 ≤ maxLen := by unfold maxLen; omega
  have hx2 : (L.length + 4) * 1 ≤ 140737488355328 := by omega
  have HO := Lib.hid hown
  clear hown
  go_enter Try.func42, Try.ntmps42
  have hbe : Hid (([n / 16777216, n / 65536 % 256, n / 256 % 256, n % 256] : List Int) = beL n 4) := by
    simp only [Hid, beL, Int.pow_zero, Int.ediv_one, Nat.reduceAdd]
    rw [show n / 256 ^ 3 % 256 = n / 16777216 from by omega, show n / 256 ^ 2 % 256 = n / 65536 % 256 from by omega, show n / 256 ^ 1 % 256 = n / 256 % 256 from by omega]
  rw [← hbe.out]
  go_wp2_with (at_builtin; refine wpList_appG rfl _ _ _ rfl B 5 _ 1 1 ei_byte _ L.length _ (by rfl) HO.out 4 #[.int .u8 (n / 16777216), .int .u8 (n / 65536 % 256), .int .u8 (n / 256 % 256), .int .u8 (n % 256)] rfl (by simp) rfl (bytes_one [n / 16777216, n / 65536 % 256, n / 256 % 256, n % 256]) hx1 hx2 hB ?_; intro v' wa hown' hga)
  go_ret
  exact ⟨v', rfl, own_len (M := [n / 16777216, n / 65536 % 256, n / 256 % 256, n % 256]) hown' rfl, hga⟩

set_option maxHeartbeats 2000000 in
theorem Put_any (v : Value) (L : List Int) (n size : Int) (B : Nat) (w : World) (hown : OwnB w B v L) (hB : B ≤ w.heap.size) (hl : L.length ≤ 1000000000000) (h0 : 0 ≤ n) (h1 : n < 18446744073709551616) :
    Calls Try.prog 25 #[v, .int .u64 n, .int .i64 size] w (AppTo w B v (L ++ if size < 1 ∨ 8 < size then [] else beL n size.toNat)) := by
  have HO := Lib.hid hown
  clear hown
  by_cases hs1 : size < 1
  · have e : Hid ((if size < 1 ∨ 8 < size then [] else beL n size.toNat) = []) := if_pos (.inl hs1)
    rw [e.out, List.append_nil]
    go_enter Try.func25, Try.ntmps25
    go_wp2
    go_ret
    exact ⟨v, rfl, HO.out, Grew.refl _ _⟩
  · have hd1 : decide (size < 1) = false := by simpa using hs1
    by_cases hs8 : 8 < size
    · have e : Hid ((if size < 1 ∨ 8 < size then [] else beL n size.toNat) = []) := if_pos (.inr hs8)
      rw [e.out, List.append_nil]
      go_enter Try.func25, Try.ntmps25
      go_wp2
      go_ret
      exact ⟨v, rfl, HO.out, Grew.refl _ _⟩
    · have hd8 : decide (8 < size) = false := by simpa using hs8
      have e : Hid ((if size < 1 ∨ 8 < size then [] else beL n size.toNat) = beL n size.toNat) := if_neg (by omega)
      rw [e.out]
      go_enter Try.func25, Try.ntmps25
      go_wp2
      go_loopw [0, 7] (fun vb iv wr => ∃ (k : Int) (F : List Int), iv = .int .i64 k ∧ -1 ≤ k ∧ k ≤ size - 1 ∧ (F.length : Int) = size - 1 - k ∧ OwnB wr B vb (L ++ F) ∧ Grew w wr v vb ∧ Hid (F ++ beL n (k + 1).toNat = beL n size.toNat)) (fun _ iv _ => (intOf iv + 1).toNat)
      case atStart => exact ⟨size - 1, [], rfl, by omega, by omega, by simp, by simpa using HO.out, Grew.refl _ _, by simp [Hid]⟩
      case round =>
        obtain ⟨k, F, rfl, hk0, hk1, hF, hown, hg, HE⟩ := hrel
        by_cases hk : 0 ≤ k
        · have hsh : n / 2 ^ (8 * k).toNat = n / 256 ^ k.toNat := by
            rw [show (8 * k).toNat = 8 * k.toNat from by omega, Int.pow_mul]
            rfl
          have hlF : (L ++ F).length ≤ 1000000000008 := by simp; omega
          have hx1 : (L ++ F).length + 1 ≤ maxLen := by unfold maxLen; omega
          have hx2 : ((L ++ F).length + 1) * 1 ≤ 140737488355328 := by omega
          have hBr : B ≤ wr.heap.size := Nat.le_trans hB hg.size
          have HE' : Hid ((F ++ [n / 2 ^ (8 * k).toNat % 256]) ++ beL n (k - 1 + 1).toNat = beL n size.toNat) := by
            have := HE.out
            rw [show (k + 1).toNat = k.toNat + 1 from by omega] at this
            rw [show (k - 1 + 1).toNat = k.toNat from by omega]
            rw [hsh]
            simpa [beL, Hid] using this
          clear hsh
          have HLF := Lib.hid hF
          clear hF
          go_wp2_with (at_builtin; refine wpList_appG rfl _ _ _ rfl B 5 _ 1 1 ei_byte _ (L ++ F).length _ (by rfl) hown 1 #[.int .u8 (n / 2 ^ (8 * k).toNat % 256)] rfl (by simp) rfl (bytes_one [n / 2 ^ (8 * k).toNat % 256]) hx1 hx2 hBr ?_; intro v' wa hown' hga)
          go_roundw
          case rel => exact ⟨k - 1, F ++ [n / 2 ^ (8 * k).toNat % 256], by go_num, by omega, by omega, by simp; have := HLF.out; omega, by rw [← List.append_assoc]; exact own_len (M := [n / 2 ^ (8 * k).toNat % 256]) hown' rfl, hg.trans hga, HE'⟩
          case measure => simp [intOf]; omega
        · obtain rfl : k = -1 := by omega
          have e2 : Hid (F = beL n size.toNat) := by simpa [beL, Hid] using HE.out
          go_wp2
          go_ret
          exact ⟨_, rfl, by rw [← e2.out]; exact hown, hg⟩
end Go.Proofs.Ytnbokpfkcfhgbaa
