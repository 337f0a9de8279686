/- What datagram bytes begin with: plain; and datagrams as abstract values. -/
import Derived.Test.YtbmkohmhiafphaaVSum
import Derived.Test.YtbmkohmhiafphaaVGreh2
namespace Go.Proofs.Ytbmkohmhiafphaa
open Go

/-- A datagram. -/
structure DG where
  tos : Int
  ttl : Int
  proto : Int
  id : Int
  frag : Int
  src : Int
  dst : Int
  O : List Int
  D : List Int
def DG.v (d : DG) (tk tk' : Tk) : V := .agg [.sc (.int .u8 d.tos), .sc (.int .u8 d.ttl), .sc (.int .u8 d.proto), .sc (.int .u16 d.id), .sc (.int .u16 d.frag), .sc (.int .u32 d.src), .sc (.int .u32 d.dst), .sl tk (bs d.O), .sl tk' (bs d.D)]
def dg0 : DG := ⟨0, 0, 0, 0, 0, 0, 0, [], []⟩
def ipN (L : List Int) (k n : Nat) : Int := numL ((L.drop k).take n)
def ipH (L : List Int) : Int := 4 * (ipN L 0 1 % 16)
def ipT (L : List Int) : Int := ipN L 2 2
def ipE (L : List Int) : Int :=
  if L.length < 20 then 10
  else if ipN L 0 1 / 16 ≠ 4 ∨ ipH L < 20 ∨ ipT L < ipH L then 11
  else if (L.length : Int) < ipT L then 10
  else if ckS (L.take (ipH L).toNat) ≠ 0 then 50
  else 0
def ipX (L : List Int) : DG := ⟨ipN L 1 1, ipN L 8 1, ipN L 9 1, ipN L 4 2, ipN L 6 2, ipN L 12 4, ipN L 16 4, (L.drop 20).take ((ipH L).toNat - 20), (L.drop (ipH L).toNat).take ((ipT L).toNat - (ipH L).toNat)⟩
def ipD (L : List Int) : DG := if ipE L = 0 then ipX L else dg0

theorem ipN_byte {L : List Int} {k : Nat} {x : Int} (h : L[k]? = some x) : ipN L k 1 = x := by
  have hlt := (List.getElem?_eq_some_iff.1 h).1
  have e : (L.drop k).take 1 = [x] := by
    rw [List.drop_eq_getElem_cons hlt, (List.getElem?_eq_some_iff.1 h).2]
    rfl
  simp [ipN, e, numL]
theorem num1 {L : List Int} (hB : IsB L) (k : Nat) : 0 ≤ ipN L k 1 ∧ ipN L k 1 < 256 := by
  have := numL_range _ ((L.drop k).take 1) rfl ((hB.drop _).take _)
  have hl : ((L.drop k).take 1).length ≤ 1 := by simp; omega
  have : (256 : Int) ^ ((L.drop k).take 1).length ≤ 256 := by
    have h7 : ∀ k : Nat, k ≤ 1 → (256 : Int) ^ k ≤ 256 := by decide
    exact h7 _ hl
  unfold ipN
  omega
theorem ipT_range {L : List Int} (hB : IsB L) : 0 ≤ ipT L ∧ ipT L < 65536 := num2 hB 2
theorem u8_low {x : Int} (h₀ : 0 ≤ x) (h₁ : x < 256) : ibit .and .u8 x 15 = x % 16 := bits_mask .u8 8 (by decide) wraps_u8 4 (by decide) x h₀ h₁
/-- A read that the bytes have, of the first T bytes. -/
theorem rdGood {L : List Int} {T at_ k : Nat} (hT : T ≤ L.length) (hk : 1 ≤ k) (hk2 : k ≤ 8) (h : at_ + k ≤ T) : rdNum (L.take T) at_ false k = (ipN L at_ k, at_ + k, false) := by
  have hl : (L.take T).length = T := by simp; omega
  unfold rdNum
  rw [if_neg (by simp only [hl]; simp; omega), Int.toNat_natCast]
  have e : ((L.take T).drop at_).take k = (L.drop at_).take k := by rw [List.drop_take, List.take_take, Nat.min_eq_left (by omega)]
  rw [e]
  rfl
theorem rdGood1 {L : List Int} {T at_ : Nat} (hT : T ≤ L.length) (h : at_ + 1 ≤ T) : rdNum (L.take T) at_ false 1 = (ipN L at_ 1, at_ + 1, false) := rdGood (k := 1) hT (by omega) (by omega) h
theorem rdGood2 {L : List Int} {T at_ : Nat} (hT : T ≤ L.length) (h : at_ + 2 ≤ T) : rdNum (L.take T) at_ false 2 = (ipN L at_ 2, at_ + 2, false) := rdGood (k := 2) hT (by omega) (by omega) h
theorem rdGood4 {L : List Int} {T at_ : Nat} (hT : T ≤ L.length) (h : at_ + 4 ≤ T) : rdNum (L.take T) at_ false 4 = (ipN L at_ 4, at_ + 4, false) := rdGood (k := 4) hT (by omega) (by omega) h
theorem tkGood {L : List Int} {T at_ : Nat} {k : Int} (hT : T ≤ L.length) (h0 : 0 ≤ k) (h : at_ + k.toNat ≤ T) : rdTake (L.take T) at_ false k = ((L.drop at_).take k.toNat, at_ + k.toNat, false) := by
  have hl : (L.take T).length = T := by simp; omega
  unfold rdTake
  rw [if_neg (by simp only [hl]; simp; omega)]
  have e : ((L.take T).drop at_).take k.toNat = (L.drop at_).take k.toNat := by rw [List.drop_take, List.take_take, Nat.min_eq_left (by omega)]
  rw [e]
end Go.Proofs.Ytbmkohmhiafphaa
