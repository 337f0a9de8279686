/- What datagram bytes begin with: plain. -/
import Derived.Test.YtnbokpfkcfhgbaaSumRef
import Derived.Test.YtnbokpfkcfhgbaaTapeLOne
namespace Go.Proofs.Ytnbokpfkcfhgbaa
open Go Go.RowKit

/-- A datagram as data. -/
structure DG where
  tos : Int
  ttl : Int
  proto : Int
  id : Int
  frag : Int
  src : Int
  dst : Int
  OL : List Int
  DL : List Int
/-- A datagram as it lies. -/
structure DGR extends DG where
  oA : Option Addr
  oC : Nat
  dA : Option Addr
  dC : Nat
def DGR.cells (d : DGR) : List Value := [.int .u8 d.tos, .int .u8 d.ttl, .int .u8 d.proto, .int .u16 d.id, .int .u16 d.frag, .int .u32 d.src, .int .u32 d.dst, .slice d.oA d.OL.length d.oC, .slice d.dA d.DL.length d.dC]
def dgZero : DGR := ⟨⟨0, 0, 0, 0, 0, 0, 0, [], []⟩, none, 0, none, 0⟩
def ipH (L : List Int) : Nat := (4 * (L.getD 0 0 % 16)).toNat
def ipT (L : List Int) : Nat := (numL ((L.drop 2).take 2)).toNat
/-- Which error; 0: none. -/
def ipE (L : List Int) : Int :=
  if L.length < 20 then 10
  else if L.getD 0 0 / 16 ≠ 4 ∨ ipH L < 20 ∨ ipT L < ipH L then 11
  else if L.length < ipT L then 10
  else if ckS (L.take (ipH L)) ≠ 0 then 50
  else 0
def ipD (L : List Int) : DG := ⟨L.getD 1 0, L.getD 8 0, L.getD 9 0, numL ((L.drop 4).take 2), numL ((L.drop 6).take 2), numL ((L.drop 12).take 4), numL ((L.drop 16).take 4), (L.drop 20).take (ipH L - 20), (L.drop (ipH L)).take (ipT L - ipH L)⟩
/-- The datagram and the error are those. -/
def IpIs (L : List Int) (d : DGR) (code : Int) : Prop := code = ipE L ∧ (code = 0 → d.toDG = ipD L) ∧ (code ≠ 0 → d = dgZero)
theorem ip_err {L : List Int} {k : Int} (h : ipE L = k) (hk : k ≠ 0) : IpIs L dgZero k := ⟨h.symm, fun e => absurd e hk, fun _ => rfl⟩

theorem mid_take {L : List Int} {t k s : Nat} (h : k + s ≤ t) : ((L.take t).drop k).take s = (L.drop k).take s := by
  rw [List.drop_take, List.take_take, Nat.min_eq_left (by omega)]
theorem getD_take {L : List Int} {t k : Nat} (h : k < t) : (L.take t).getD k 0 = L.getD k 0 := by
  simp [List.getD_eq_getElem?_getD, List.getElem?_take, h]
theorem take_num1 {L : List Int} {k : Nat} (h : k < L.length) : numL ((L.drop k).take 1) = L.getD k 0 := take_one_num h
theorem u8_low {x : Int} (h₀ : 0 ≤ x) (h₁ : x < 256) : bits .and .u8 x 15 = x % 16 := bits_mask .u8 8 (by decide) wraps_u8 4 (by decide) x h₀ h₁
end Go.Proofs.Ytnbokpfkcfhgbaa
