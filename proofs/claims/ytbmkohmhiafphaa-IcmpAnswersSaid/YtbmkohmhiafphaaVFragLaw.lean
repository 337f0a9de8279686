/- Datagrams in pieces, plainly. -/
import Derived.Test.YtbmkohmhiafphaaVIp4P
import Derived.Test.YtbmkohmhiafphaaVIp4L
namespace Go.Proofs.Ytbmkohmhiafphaa
open Go

/-- Rows of bytes. -/
def rws (R : List (List Int)) : List V := R.map fun L => .sl .no (bs L)
theorem rws_len (R : List (List Int)) : (rws R).length = R.length := by simp [rws]
theorem rws_get (R : List (List Int)) (i : Nat) : (rws R)[i]? = (R[i]?).map fun L => .sl .no (bs L) := by simp [rws]
theorem rws_append (R Q : List (List Int)) : rws R ++ rws Q = rws (R ++ Q) := by simp [rws]
theorem allSz_rws (R : List (List Int)) : allSz 1 (rws R) := fun d hd => by
  obtain ⟨x, _, rfl⟩ := List.mem_map.1 hd; rfl
/-- The piece that begins at a place. -/
def pieceD (d : DG) (step at_ : Nat) : DG := { d with frag := d.frag + at_ / 8 + (if at_ + step < d.D.length then 8192 else 0), D := (d.D.drop at_).take step }
def stepOf (d : DG) (most : Int) : Nat := ((most - 20 - d.O.length) / 8 * 8).toNat
def piecesTo (d : DG) (step n : Nat) : List (List Int) := (List.range n).map fun j => ipB (pieceD d step (j * step))
def nPieces (d : DG) (step : Nat) : Nat := (d.D.length + step - 1) / step
def fragE (L : List Int) (most : Int) : Int :=
  if ipE L ≠ 0 ∨ (ipD L).frag % 16384 ≠ 0 then 11
  else if 20 + ((ipD L).O.length : Int) + (ipD L).D.length ≤ most then 0
  else if 16384 ≤ (ipD L).frag % 32768 then 73
  else if most < 28 + ((ipD L).O.length : Int) then 12
  else 0
def fragR (L : List Int) (most : Int) : List (List Int) :=
  if ipE L ≠ 0 ∨ (ipD L).frag % 16384 ≠ 0 then []
  else if 20 + ((ipD L).O.length : Int) + (ipD L).D.length ≤ most then [L.take (20 + (ipD L).O.length + (ipD L).D.length)]
  else if 16384 ≤ (ipD L).frag % 32768 then []
  else if most < 28 + ((ipD L).O.length : Int) then []
  else piecesTo (ipD L) (stepOf (ipD L) most) (nPieces (ipD L) (stepOf (ipD L) most))
theorem piecesTo_succ (d : DG) (step n : Nat) : piecesTo d step (n + 1) = piecesTo d step n ++ [ipB (pieceD d step (n * step))] := by
  simp [piecesTo, List.range_succ]
theorem ipX_ok {L : List Int} (hB : IsB L) : (ipX L).Ok := by
  have h1 := fun k => num1 hB k
  have h2 := fun k => num2 hB k
  have h4 := fun k => num4 hB k
  exact ⟨h1 1, h1 8, h1 9, h2 4, h2 6, h4 12, h4 16, (hB.drop _).take _, (hB.drop _).take _⟩
/-- What a datagram that bytes are keeps. -/
structure DG.Lim (d : DG) (n : Nat) : Prop where
  ok : d.Ok
  O40 : d.O.length ≤ 40
  O4 : d.O.length % 4 = 0
  len : 20 + d.O.length + d.D.length ≤ n
theorem ipD_lim {L : List Int} (hB : IsB L) (h : ipE L = 0) : (ipD L).Lim L.length := by
  have hh := h
  unfold ipE at hh
  have hb := num1 hB 0
  split at hh
  · cases hh
  split at hh
  · cases hh
  split at hh
  · cases hh
  rename_i c1 c2 c3
  have hH : ipH L = 4 * (ipN L 0 1 % 16) := rfl
  unfold ipD
  rw [if_pos h]
  refine ⟨ipX_ok hB, ?_, ?_, ?_⟩
  · simp only [ipX, List.length_take, List.length_drop]; omega
  · simp only [ipX, List.length_take, List.length_drop]; omega
  · simp only [ipX, List.length_take, List.length_drop]; omega
theorem piece_ok {d : DG} {n step at_ : Nat} (h : d.Lim n) (hn : n ≤ 2000) (hf : d.frag % 32768 = 0) (ha : at_ < d.D.length) : (pieceD d step at_).Ok ∧ ipFits (pieceD d step at_) := by
  have k := h.ok
  have := h.len
  have := k.frag
  refine ⟨⟨k.tos, k.ttl, k.proto, k.id, ?_, k.src, k.dst, k.O, (k.D.drop _).take _⟩, h.O40, h.O4, ?_⟩
  · simp only [pieceD]; split <;> omega
  · simp only [pieceD, List.length_take, List.length_drop]; omega
theorem nPieces_at {d : DG} {step j : Nat} (hs : 0 < step) : j * step < d.D.length ↔ j < nPieces d step := by
  unfold nPieces
  rw [Nat.lt_div_iff_mul_lt hs]
  omega
end Go.Proofs.Ytbmkohmhiafphaa
