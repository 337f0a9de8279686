/- A datagram's bytes are parsed as it was; one hop on: plain. -/
import Derived.Test.YtbmkohmhiafphaaVIp4B
namespace Go.Proofs.Ytbmkohmhiafphaa
open Go

theorem nrm_back {S : Int} (h : 0 ≤ S) : nrm (S + (65535 - nrm S)) = 65535 := by
  unfold nrm
  split <;> split <;> omega
theorem sumP_set {L : List Int} {i : Nat} (hi : i < L.length) (z : Int) : ∀ n, sumP (L.set i z) n = sumP L n + (if i < n then (if i % 2 = 1 then z - L.getD i 0 else 256 * (z - L.getD i 0)) else 0)
  | 0 => by simp [sumP]
  | n + 1 => by
    have ih := sumP_set hi z n
    have hg : (L.set i z).getD n 0 = if i = n then z else L.getD n 0 := by
      rw [List.getD_eq_getElem?_getD, List.getElem?_set]
      split
      · rename_i e; subst e; simp []
      · rw [List.getD_eq_getElem?_getD]
    unfold sumP
    rw [ih, hg]
    by_cases e : i = n
    · subst e
      rw [if_pos rfl]
      repeat' split
      all_goals omega
    · rw [if_neg e]
      repeat' split
      all_goals omega
/-- Where two bytes are set that make a word. -/
theorem sumP_set2 {L : List Int} {i : Nat} (hi : i + 1 < L.length) (he : i % 2 = 0) {c : Int} : sumP ((L.set i (c / 256)).set (i + 1) (c % 256)) L.length = sumP L L.length + c - (256 * L.getD i 0 + L.getD (i + 1) 0) := by
  have : (L.set i (c / 256)).getD (i + 1) 0 = L.getD (i + 1) 0 := by
    rw [List.getD_eq_getElem?_getD, List.getElem?_set, if_neg (by omega), List.getD_eq_getElem?_getD]
  rw [sumP_set (by simpa using hi), sumP_set (by omega), this]
  repeat' split
  all_goals omega
theorem ckS_pre {d : DG} (hd : d.Ok) (hf : ipFits d) : ckS (ipPre d (ckS (ipPre d 0))) = 0 := by
  have hB := ipPre_isB hd (c := 0) (by omega) (by omega) hf
  have h0 := (sumP_range hB (ipPre d 0).length).1
  have hc : ckS (ipPre d 0) = 65535 - nrm (sumP (ipPre d 0) (ipPre d 0).length) := rfl
  have hl := ipPre_len d 0
  have hs := sumP_set2 (L := ipPre d 0) (i := 10) (c := ckS (ipPre d 0)) (by omega) (by omega)
  have g10 : (ipPre d 0).getD 10 0 = 0 := by simp [ipPre, beL2, beL4]
  have g11 : (ipPre d 0).getD 11 0 = 0 := by simp [ipPre, beL2, beL4]
  rw [g10, g11, ipPre_set] at hs
  generalize ckS (ipPre d 0) = c at *
  unfold ckS
  rw [ipPre_len, ← hl, hs, hc, show sumP (ipPre d 0) (ipPre d 0).length + (65535 - nrm (sumP (ipPre d 0) (ipPre d 0).length)) - (256 * 0 + 0) = sumP (ipPre d 0) (ipPre d 0).length + (65535 - nrm (sumP (ipPre d 0) (ipPre d 0).length)) by omega, nrm_back h0]
  rfl
theorem ip_back {d : DG} (hd : d.Ok) (hf : ipFits d) (E : List Int) : ipE (ipB d ++ E) = 0 ∧ ipD (ipB d ++ E) = d := by
  have hck := ckS_pre hd hf
  have hcr := ckS_range (ipPre_isB hd (c := 0) (by omega) (by omega) hf)
  obtain ⟨f1, f2, f3⟩ := hf
  have hL : ipB d ++ E = ipPre d (ckS (ipPre d 0)) ++ (d.D ++ E) := by simp [ipB]
  have hlen : (ipB d ++ E).length = 20 + d.O.length + (d.D.length + E.length) := by rw [hL, List.length_append, ipPre_len, List.length_append]
  rw [hL] at hlen ⊢
  generalize ckS (ipPre d 0) = c at *
  have htk : (ipPre d c ++ (d.D ++ E)).take (20 + d.O.length) = ipPre d c := by
    rw [List.take_append_of_le_length (by rw [ipPre_len]; omega), List.take_of_length_le (by rw [ipPre_len]; omega)]
  have hdr : (ipPre d c ++ (d.D ++ E)).drop (20 + d.O.length) = d.D ++ E := by
    have := ipPre_len d c
    rw [← this, List.drop_left]
  have hO : (ipPre d c ++ (d.D ++ E)).drop 20 = d.O ++ (d.D ++ E) := by simp [ipPre, beL2, beL4]
  have n0 : ipN (ipPre d c ++ (d.D ++ E)) 0 1 = 64 + (5 + (d.O.length : Int) / 4) := by simp [ipN, ipPre, numL]
  have n1 : ipN (ipPre d c ++ (d.D ++ E)) 1 1 = d.tos := by simp [ipN, ipPre, numL]
  have n8 : ipN (ipPre d c ++ (d.D ++ E)) 8 1 = d.ttl := by simp [ipN, ipPre, beL2, numL]
  have n9 : ipN (ipPre d c ++ (d.D ++ E)) 9 1 = d.proto := by simp [ipN, ipPre, beL2, numL]
  have k1 := hd.id; have k2 := hd.frag; have k3 := hd.src; have k4 := hd.dst
  have n2 : ipN (ipPre d c ++ (d.D ++ E)) 2 2 = 20 + d.O.length + d.D.length := by
    simp [ipN, ipPre, beL2, numL]; omega
  have n4 : ipN (ipPre d c ++ (d.D ++ E)) 4 2 = d.id := by simp [ipN, ipPre, beL2, numL]; omega
  have n6 : ipN (ipPre d c ++ (d.D ++ E)) 6 2 = d.frag := by simp [ipN, ipPre, beL2, numL]; omega
  have n12 : ipN (ipPre d c ++ (d.D ++ E)) 12 4 = d.src := by simp [ipN, ipPre, beL2, beL4, numL]; omega
  have n16 : ipN (ipPre d c ++ (d.D ++ E)) 16 4 = d.dst := by simp [ipN, ipPre, beL2, beL4, numL]; omega
  have hH : ipH (ipPre d c ++ (d.D ++ E)) = 20 + d.O.length := by unfold ipH; rw [n0]; omega
  have hT : ipT (ipPre d c ++ (d.D ++ E)) = 20 + d.O.length + d.D.length := n2
  have hHn : (ipH (ipPre d c ++ (d.D ++ E))).toNat = 20 + d.O.length := by rw [hH]; omega
  have hE : ipE (ipPre d c ++ (d.D ++ E)) = 0 := by
    unfold ipE
    rw [if_neg (by omega), if_neg (by rw [n0, hH, hT]; omega), if_neg (by rw [hT, hlen]; omega), hHn, htk, if_neg (by rw [hck]; simp)]
  refine ⟨hE, ?_⟩
  unfold ipD
  rw [if_pos hE]
  unfold ipX
  rw [n1, n8, n9, n4, n6, n12, n16, hHn, hT, hO, hdr]
  obtain ⟨tos, ttl, proto, id, frag, src, dst, O, D⟩ := d
  simp only [DG.mk.injEq, true_and]
  constructor
  · rw [show 20 + O.length - 20 = O.length by omega, List.take_left]
  · rw [show (20 + (O.length : Int) + D.length).toNat - (20 + O.length) = D.length by omega, List.take_left]
end Go.Proofs.Ytbmkohmhiafphaa
