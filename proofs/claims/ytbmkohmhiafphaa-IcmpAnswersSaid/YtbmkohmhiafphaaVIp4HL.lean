/- One hop on the datagram is the same with one TTL less: plain. -/
import Derived.Test.YtbmkohmhiafphaaVIp4H
namespace Go.Proofs.Ytbmkohmhiafphaa
open Go

theorem ipE_iff {L : List Int} : ipE L = 0 ↔ 20 ≤ L.length ∧ ipN L 0 1 / 16 = 4 ∧ 20 ≤ ipH L ∧ ipH L ≤ ipT L ∧ ipT L ≤ L.length ∧ ckS (L.take (ipH L).toNat) = 0 := by
  unfold ipE
  by_cases c1 : L.length < 20
  · rw [if_pos c1]; omega
  rw [if_neg c1]
  by_cases c2 : ipN L 0 1 / 16 ≠ 4 ∨ ipH L < 20 ∨ ipT L < ipH L
  · rw [if_pos c2]; omega
  rw [if_neg c2]
  by_cases c3 : (L.length : Int) < ipT L
  · rw [if_pos c3]; omega
  rw [if_neg c3]
  by_cases c4 : ckS (L.take (ipH L).toNat) = 0
  · rw [if_neg (by rw [c4]; simp)]
    exact ⟨fun _ => ⟨by omega, by omega, by omega, by omega, by omega, c4⟩, fun _ => rfl⟩
  · rw [if_pos c4]
    exact ⟨fun h => absurd h (by decide), fun h => absurd h.2.2.2.2.2 c4⟩
theorem win_set {L : List Int} {i k n : Nat} {z : Int} (h : i < k ∨ k + n ≤ i) : ((L.set i z).drop k).take n = (L.drop k).take n := by
  rw [List.drop_set]
  rcases h with h | h
  · rw [if_pos h]
  · rw [if_neg (by omega), List.take_set, List.set_eq_of_length_le (by simp; omega)]
theorem hop_win {L : List Int} {k n : Nat} (h : k + n ≤ 8 ∨ 12 ≤ k ∨ (k = 9 ∧ n = 1)) : ((hopB L).drop k).take n = (L.drop k).take n := by
  unfold hopB hop1
  rw [win_set (by omega), win_set (by omega), win_set (by omega)]
theorem sumP_mono {L : List Int} (hB : IsB L) : ∀ n, 1 ≤ n → 256 * L.getD 0 0 ≤ sumP L n
  | 0, h => by omega
  | 1, _ => by simp [sumP]
  | n + 2, _ => by
    have := sumP_mono hB (n + 1) (by omega)
    have := isB_at hB (n + 1)
    rw [sumP]
    split <;> omega
theorem numL2 {L : List Int} {k : Nat} (h : k + 2 ≤ L.length) : numL ((L.drop k).take 2) = 256 * L.getD k 0 + L.getD (k + 1) 0 := by
  have e : (L.drop k).take 2 = [L.getD k 0, L.getD (k + 1) 0] := by
    rw [List.drop_eq_getElem_cons (i := k) (by omega), List.take_succ_cons, List.drop_eq_getElem_cons (i := k + 1) (by omega), List.take_succ_cons, List.take_zero, List.getD_eq_getElem?_getD, List.getD_eq_getElem?_getD, List.getElem?_eq_getElem (show k < L.length by omega), List.getElem?_eq_getElem (show k + 1 < L.length by omega)]
    rfl
  rw [e]; simp [numL]
theorem getD_take {L : List Int} {i n : Nat} (h : i < n) : (L.take n).getD i 0 = L.getD i 0 := by
  rw [List.getD_eq_getElem?_getD, List.getElem?_take, if_pos h, List.getD_eq_getElem?_getD]
theorem hopB_len (L : List Int) : (hopB L).length = L.length := by simp [hopB, hop1]
theorem hop_back {L : List Int} (hB : IsB L) (h : hops L) : IsB (hopB L) ∧ ipE (hopB L) = 0 ∧ ipD (hopB L) = { ipD L with ttl := (ipD L).ttl - 1 } := by
  obtain ⟨hE, ht⟩ := h
  rw [ipD_ttl hE] at ht
  obtain ⟨h1, h2, h3, h4, h5, h6⟩ := ipE_iff.1 hE
  have b8 := isB_at hB 8
  have b9 := isB_at hB 9
  have b10 := isB_at hB 10
  have b11 := isB_at hB 11
  -- the new checksum
  have e10 := numL2 (L := L) (k := 10) (by omega)
  have e8 := numL2 (L := L) (k := 8) (by omega)
  have e8' : numL (((hop1 L).drop 8).take 2) = 256 * (L.getD 8 0 - 1) + L.getD 9 0 := by
    rw [numL2 (by simp [hop1]; omega)]
    have g8 : (hop1 L).getD 8 0 = L.getD 8 0 - 1 := by simp [hop1, List.getD, show 8 < L.length by omega]
    have g9 : (hop1 L).getD (8 + 1) 0 = L.getD 9 0 := by simp [hop1, List.getD]
    rw [g8, g9]
  have hc : hopC L = 65535 - nrm (131070 - (256 * L.getD 10 0 + L.getD 11 0) - 256) := by
    unfold hopC turned
    rw [e10, e8, e8']
    rw [show 65535 - (256 * L.getD 10 0 + L.getD (10 + 1) 0) + (65535 - (256 * L.getD 8 0 + L.getD (8 + 1) 0)) + (256 * (L.getD 8 0 - 1) + L.getD 9 0) = 131070 - (256 * L.getD 10 0 + L.getD 11 0) - 256 by simp only [Nat.reduceAdd]; omega]
  obtain ⟨q0, q1⟩ := nrm_range (n := 131070 - (256 * L.getD 10 0 + L.getD 11 0) - 256) (by omega)
  have hB1 : IsB (hop1 L) := fun z hz => by
    rcases List.mem_or_eq_of_mem_set hz with h | h
    · exact hB z h
    · omega
  have hBh : IsB (hopB L) := fun z hz => by
    rcases List.mem_or_eq_of_mem_set hz with h | h
    · rcases List.mem_or_eq_of_mem_set h with h | h
      · exact hB1 z h
      · omega
    · omega
  have n0 : ipN (hopB L) 0 1 = ipN L 0 1 := by unfold ipN; rw [hop_win (by omega)]
  have n2 : ipN (hopB L) 2 2 = ipN L 2 2 := by unfold ipN; rw [hop_win (by omega)]
  have hH : ipH (hopB L) = ipH L := by unfold ipH; rw [n0]
  have hT : ipT (hopB L) = ipT L := n2
  -- the sum
  have hck : ckS ((hopB L).take (ipH L).toNat) = 0 := by
    generalize hh : (ipH L).toNat = H at *
    have hH20 : 20 ≤ H := by omega
    have hHL : H ≤ L.length := by omega
    have hA : (hopB L).take H = (((L.take H).set 8 (L.getD 8 0 - 1)).set 10 (hopC L / 256)).set 11 (hopC L % 256) := by
      unfold hopB hop1
      rw [List.take_set, List.take_set, List.take_set]
    have hBA : IsB (L.take H) := hB.take H
    have hlA : (L.take H).length = H := by simp; omega
    have gA0 : (L.take H).getD 0 0 = L.getD 0 0 := getD_take (by omega)
    have gA8 : (L.take H).getD 8 0 = L.getD 8 0 := getD_take (by omega)
    have gA10 : (L.take H).getD 10 0 = L.getD 10 0 := getD_take (by omega)
    have gA11 : (L.take H).getD 11 0 = L.getD 11 0 := getD_take (by omega)
    have hS' := (hBh.take H)
    have hlh : ((hopB L).take H).length = H := by simp [hopB_len]; omega
    have hm := sumP_mono hS' H (by omega)
    have g0 : ((hopB L).take H).getD 0 0 = L.getD 0 0 := by
      rw [getD_take (by omega)]; simp [hopB, hop1, List.getD]
    rw [g0] at hm
    have hL0 : ipN L 0 1 = L.getD 0 0 := by
      obtain ⟨x, hx⟩ := get_ex (L := L) (i := 0) (by omega)
      rw [ipN_byte hx]; simp [List.getD, hx]
    have k1 := sumP_set2 (L := (L.take H).set 8 (L.getD 8 0 - 1)) (i := 10) (c := hopC L) (by simp; omega) (by omega)
    have k2 := sumP_set (L := L.take H) (i := 8) (by omega) (L.getD 8 0 - 1) H
    have g10 : ((L.take H).set 8 (L.getD 8 0 - 1)).getD 10 0 = L.getD 10 0 := by rw [← gA10]; simp [List.getD]
    have g11 : ((L.take H).set 8 (L.getD 8 0 - 1)).getD (10 + 1) 0 = L.getD 11 0 := by rw [← gA11]; simp [List.getD]
    rw [g10, g11, List.length_set, hlA, k2, if_pos (by omega), if_neg (by omega), gA8, ← hA] at k1
    have hS0 := (sumP_range hBA H).1
    unfold ckS at h6 ⊢
    rw [hlA] at h6
    rw [hlh]
    rw [hL0] at h2
    rw [k1] at hm ⊢
    rw [hc] at hm ⊢
    generalize sumP (L.take H) H = S at *
    unfold nrm at *
    clear k1 k2 hA g10 g11 gA0 gA8 gA10 gA11 hc e10 e8 e8' hBh hB1 hB hBA hS' n0 n2 hH hT hE
    split at h6 <;> split at hm <;> split <;> split <;> omega
  have hE' : ipE (hopB L) = 0 := ipE_iff.2 ⟨by rw [hopB_len]; exact h1, by rw [n0]; exact h2, by rw [hH]; exact h3, by rw [hH, hT]; exact h4, by rw [hT, hopB_len]; exact h5, by rw [hH]; exact hck⟩
  refine ⟨hBh, hE', ?_⟩
  unfold ipD
  rw [if_pos hE', if_pos hE]
  unfold ipX
  rw [hH, hT, show ipN (hopB L) 1 1 = ipN L 1 1 by unfold ipN; rw [hop_win (by omega)], show ipN (hopB L) 9 1 = ipN L 9 1 by unfold ipN; rw [hop_win (by omega)], show ipN (hopB L) 4 2 = ipN L 4 2 by unfold ipN; rw [hop_win (by omega)],
    show ipN (hopB L) 6 2 = ipN L 6 2 by unfold ipN; rw [hop_win (by omega)], show ipN (hopB L) 12 4 = ipN L 12 4 by unfold ipN; rw [hop_win (by omega)], show ipN (hopB L) 16 4 = ipN L 16 4 by unfold ipN; rw [hop_win (by omega)], hop_win (by omega), hop_win (by omega)]
  have n8 : ipN L 8 1 = L.getD 8 0 := by
    obtain ⟨x, hx⟩ := get_ex (L := L) (i := 8) (by omega)
    rw [ipN_byte hx]; simp [List.getD, hx]
  have n8' : ipN (hopB L) 8 1 = L.getD 8 0 - 1 := by
    have hx : (hopB L)[8]? = some (L.getD 8 0 - 1) := by simp [hopB, hop1, show 8 < L.length by omega]
    exact ipN_byte hx
  rw [n8, n8']
end Go.Proofs.Ytbmkohmhiafphaa
