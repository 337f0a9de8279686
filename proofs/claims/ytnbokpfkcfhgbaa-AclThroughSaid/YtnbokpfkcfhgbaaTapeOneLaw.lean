/- What record bytes begin with: plain. -/
import Derived.Test.YtnbokpfkcfhgbaaTapePutsW
namespace Go.Proofs.Ytnbokpfkcfhgbaa
open Go Go.RowKit

/-- A record as data. -/
structure TR where
  k : Int
  ek : Int
  ec : Int
  en : Int
  EL : List Int
  ok : Int
  oc : Int
  on : Int
  oa : Int
  OL : List Int
def RD.tr (r : RD) : TR := ⟨r.k, r.ek, r.ec, r.en, r.EL, r.ok, r.oc, r.on, r.oa, r.OL⟩
def RO (w : World) (B : Nat) (r : RD) : Prop := OwnB w B (.slice r.eA r.eL r.eC) r.EL ∧ OwnB w B (.slice r.oA r.oL r.oC) r.OL

/-- The record that bytes begin with, and how many it takes. -/
def pOne (L : List Int) : Option (TR × Nat) :=
  if L.length < 9 then none else
  if L.getD 0 0 = 1 then
    if L.length < 9 + (numL ((L.drop 7).take 2)).toNat then none
    else some (⟨1, L.getD 1 0, L.getD 2 0, numL ((L.drop 3).take 4), (L.drop 9).take (numL ((L.drop 7).take 2)).toNat, 0, 0, 0, 0, []⟩, 9 + (numL ((L.drop 7).take 2)).toNat)
  else if L.getD 0 0 = 2 then
    if L.length < 13 then none
    else if L.length < 13 + (numL ((L.drop 11).take 2)).toNat then none
    else some (⟨2, 0, 0, 0, [], L.getD 1 0, L.getD 2 0, numL ((L.drop 3).take 4), numL ((L.drop 7).take 4), (L.drop 13).take (numL ((L.drop 11).take 2)).toNat⟩, 13 + (numL ((L.drop 11).take 2)).toNat)
  else none
/-- The record and the reader behind it are those. -/
def OneIs (L : List Int) (at_ : Nat) (r : RD) (ok : Bool) (at' : Nat) (bad' : Bool) : Prop :=
  match pOne (L.drop at_) with
  | none => ok = false
  | some (t, s) => ok = true ∧ r.tr = t ∧ at' = at_ + s ∧ bad' = false

theorem rdNum_good {L : List Int} {at_ k : Nat} (h : at_ + k ≤ L.length) (h1 : 1 ≤ k) (h2 : k ≤ 8) : rdNum L at_ false k = (numL ((L.drop at_).take k), at_ + k, false) := by
  unfold rdNum
  rw [if_neg (by simp; omega)]
  simp
theorem rdNum_short {L : List Int} {at_ k : Nat} (bad : Bool) (h : L.length < at_ + k) : rdNum L at_ bad k = (0, at_, true) := by
  unfold rdNum
  rw [if_pos (by omega)]
theorem rdNum_bad (L : List Int) (at_ : Nat) (k : Int) : rdNum L at_ true k = (0, at_, true) := by
  unfold rdNum
  rw [if_pos (by simp)]
theorem rdTake_good {L : List Int} {at_ k : Nat} (h : at_ + k ≤ L.length) : rdTake L at_ false k = ((L.drop at_).take k, at_ + k, false) := by
  unfold rdTake
  rw [if_neg (by simp; omega)]
  simp
theorem rdTake_short {L : List Int} {at_ k : Nat} (bad : Bool) (h : L.length < at_ + k) : rdTake L at_ bad k = ([], at_, true) := by
  unfold rdTake
  rw [if_pos (by omega)]
theorem rdTake_bad (L : List Int) (at_ : Nat) (k : Int) : rdTake L at_ true k = ([], at_, true) := by
  unfold rdTake
  rw [if_pos (by simp)]
theorem take_one_num {L : List Int} {at_ : Nat} (h : at_ < L.length) : numL ((L.drop at_).take 1) = L.getD at_ 0 := by
  have : (L.drop at_).take 1 = [L[at_]] := by
    rw [List.drop_eq_getElem_cons h]; rfl
  rw [this, List.getD_eq_getElem?_getD, List.getElem?_eq_getElem h]
  simp [numL]
theorem drop_drop' (L : List Int) (a b : Nat) : (L.drop a).drop b = L.drop (a + b) := by rw [List.drop_drop]
theorem getD_drop (L : List Int) (a i : Nat) : (L.drop a).getD i 0 = L.getD (a + i) 0 := by
  simp [List.getD_eq_getElem?_getD, List.getElem?_drop]

/-- What the reader tells of an event. -/
def seqE (L : List Int) (at_ : Nat) : (Int × Nat × Bool) × (Int × Nat × Bool) × (Int × Nat × Bool) × (Int × Nat × Bool) × (List Int × Nat × Bool) :=
  let a := rdNum L (at_ + 1) false 1
  let b := rdNum L a.2.1 a.2.2 1
  let c := rdNum L b.2.1 b.2.2 4
  let d := rdNum L c.2.1 c.2.2 2
  (a, b, c, d, rdTake L d.2.1 d.2.2 d.1)
/-- What the reader tells of what was done. -/
def seqO (L : List Int) (at_ : Nat) : (Int × Nat × Bool) × (Int × Nat × Bool) × (Int × Nat × Bool) × (Int × Nat × Bool) × (Int × Nat × Bool) × (List Int × Nat × Bool) :=
  let a := rdNum L (at_ + 1) false 1
  let b := rdNum L a.2.1 a.2.2 1
  let c := rdNum L b.2.1 b.2.2 4
  let c' := rdNum L c.2.1 c.2.2 4
  let d := rdNum L c'.2.1 c'.2.2 2
  (a, b, c, c', d, rdTake L d.2.1 d.2.2 d.1)
theorem num_bound {L : List Int} (hB : IsB L) (at_ : Nat) : 0 ≤ numL ((L.drop at_).take 2) := (numL_top 2 (by omega) _ (by simp; omega) ((hB.drop _).take _)).1

theorem one_event {L : List Int} {at_ : Nat} {r : RD} (hB : IsB L) (hat : at_ < L.length) (hk : L.getD at_ 0 = 1)
    (hr : r.tr = ⟨1, (seqE L at_).1.1, (seqE L at_).2.1.1, (seqE L at_).2.2.1.1, (seqE L at_).2.2.2.2.1, 0, 0, 0, 0, []⟩) :
    OneIs L at_ r (!(seqE L at_).2.2.2.2.2.2) (seqE L at_).2.2.2.2.2.1 (seqE L at_).2.2.2.2.2.2 := by
  have hx := num_bound hB (at_ + 7)
  unfold OneIs pOne
  simp only [drop_drop', getD_drop, List.length_drop, Nat.add_zero, hk, if_true]
  generalize hs : numL ((L.drop (at_ + 7)).take 2) = s at *
  have hs' : s = (s.toNat : Int) := by omega
  by_cases h1 : at_ + 2 ≤ L.length
  · have ea : rdNum L (at_ + 1) false 1 = (L.getD (at_ + 1) 0, at_ + 2, false) := by
      have := rdNum_good (L := L) (at_ := at_ + 1) (k := 1) (by omega) (by omega) (by omega)
      rw [take_one_num (by omega)] at this
      exact this
    by_cases h2 : at_ + 3 ≤ L.length
    · have eb : rdNum L (at_ + 2) false 1 = (L.getD (at_ + 2) 0, at_ + 3, false) := by
        have := rdNum_good (L := L) (at_ := at_ + 2) (k := 1) (by omega) (by omega) (by omega)
        rw [take_one_num (by omega)] at this
        exact this
      by_cases h3 : at_ + 7 ≤ L.length
      · have ec : rdNum L (at_ + 3) false 4 = (numL ((L.drop (at_ + 3)).take 4), at_ + 7, false) := rdNum_good (L := L) (at_ := at_ + 3) (k := 4) (by omega) (by omega) (by omega)
        by_cases h4 : at_ + 9 ≤ L.length
        · have ed : rdNum L (at_ + 7) false 2 = (s, at_ + 9, false) := by rw [← hs]; exact rdNum_good (L := L) (at_ := at_ + 7) (k := 2) (by omega) (by omega) (by omega)
          by_cases h5 : at_ + 9 + s.toNat ≤ L.length
          · have ee : rdTake L (at_ + 9) false s = ((L.drop (at_ + 9)).take s.toNat, at_ + 9 + s.toNat, false) := by rw [hs']; exact rdTake_good (by omega)
            simp only [seqE, ea, eb, ec, ed, ee] at hr ⊢
            rw [if_neg (by omega), if_neg (by omega)]
            exact ⟨by simp, hr, by omega, by simp⟩
          · have ee : rdTake L (at_ + 9) false s = ([], at_ + 9, true) := by rw [hs']; exact rdTake_short _ (by omega)
            simp only [seqE, ea, eb, ec, ed, ee]
            rw [if_neg (by omega), if_pos (by omega)]
            rfl
        · have ed : rdNum L (at_ + 7) false 2 = (0, at_ + 7, true) := rdNum_short (k := 2) _ (by omega)
          simp only [seqE, ea, eb, ec, ed, rdTake_bad]
          rw [if_pos (by omega)]
          rfl
      · have ec : rdNum L (at_ + 3) false 4 = (0, at_ + 3, true) := rdNum_short (k := 4) _ (by omega)
        simp only [seqE, ea, eb, ec, rdNum_bad, rdTake_bad]
        rw [if_pos (by omega)]
        rfl
    · have eb : rdNum L (at_ + 2) false 1 = (0, at_ + 2, true) := rdNum_short (k := 1) _ (by omega)
      simp only [seqE, ea, eb, rdNum_bad, rdTake_bad]
      rw [if_pos (by omega)]
      rfl
  · have ea : rdNum L (at_ + 1) false 1 = (0, at_ + 1, true) := rdNum_short (k := 1) _ (by omega)
    simp only [seqE, ea, rdNum_bad, rdTake_bad]
    rw [if_pos (by omega)]
    rfl

theorem one_out {L : List Int} {at_ : Nat} {r : RD} (hB : IsB L) (hat : at_ < L.length) (hk : L.getD at_ 0 = 2)
    (hr : r.tr = ⟨2, 0, 0, 0, [], (seqO L at_).1.1, (seqO L at_).2.1.1, (seqO L at_).2.2.1.1, (seqO L at_).2.2.2.1.1, (seqO L at_).2.2.2.2.2.1⟩) :
    OneIs L at_ r (!(seqO L at_).2.2.2.2.2.2.2) (seqO L at_).2.2.2.2.2.2.1 (seqO L at_).2.2.2.2.2.2.2 := by
  have hx := num_bound hB (at_ + 11)
  unfold OneIs pOne
  simp only [drop_drop', getD_drop, List.length_drop, Nat.add_zero, hk, if_true]
  rw [if_neg (show ¬ (2 : Int) = 1 by omega)]
  generalize hs : numL ((L.drop (at_ + 11)).take 2) = s at *
  have hs' : s = (s.toNat : Int) := by omega
  by_cases h1 : at_ + 2 ≤ L.length
  · have ea : rdNum L (at_ + 1) false 1 = (L.getD (at_ + 1) 0, at_ + 2, false) := by
      have := rdNum_good (L := L) (at_ := at_ + 1) (k := 1) (by omega) (by omega) (by omega)
      rw [take_one_num (by omega)] at this
      exact this
    by_cases h2 : at_ + 3 ≤ L.length
    · have eb : rdNum L (at_ + 2) false 1 = (L.getD (at_ + 2) 0, at_ + 3, false) := by
        have := rdNum_good (L := L) (at_ := at_ + 2) (k := 1) (by omega) (by omega) (by omega)
        rw [take_one_num (by omega)] at this
        exact this
      by_cases h3 : at_ + 7 ≤ L.length
      · have ec : rdNum L (at_ + 3) false 4 = (numL ((L.drop (at_ + 3)).take 4), at_ + 7, false) := rdNum_good (L := L) (at_ := at_ + 3) (k := 4) (by omega) (by omega) (by omega)
        by_cases h3' : at_ + 11 ≤ L.length
        · have ec' : rdNum L (at_ + 7) false 4 = (numL ((L.drop (at_ + 7)).take 4), at_ + 11, false) := rdNum_good (L := L) (at_ := at_ + 7) (k := 4) (by omega) (by omega) (by omega)
          by_cases h4 : at_ + 13 ≤ L.length
          · have ed : rdNum L (at_ + 11) false 2 = (s, at_ + 13, false) := by rw [← hs]; exact rdNum_good (L := L) (at_ := at_ + 11) (k := 2) (by omega) (by omega) (by omega)
            by_cases h5 : at_ + 13 + s.toNat ≤ L.length
            · have ee : rdTake L (at_ + 13) false s = ((L.drop (at_ + 13)).take s.toNat, at_ + 13 + s.toNat, false) := by rw [hs']; exact rdTake_good (by omega)
              simp only [seqO, ea, eb, ec, ec', ed, ee] at hr ⊢
              rw [if_neg (by omega), if_neg (by omega), if_neg (by omega)]
              exact ⟨by simp, hr, by omega, by simp⟩
            · have ee : rdTake L (at_ + 13) false s = ([], at_ + 13, true) := by rw [hs']; exact rdTake_short _ (by omega)
              simp only [seqO, ea, eb, ec, ec', ed, ee]
              rw [if_neg (by omega), if_neg (by omega), if_pos (by omega)]
              rfl
          · have ed : rdNum L (at_ + 11) false 2 = (0, at_ + 11, true) := rdNum_short (k := 2) _ (by omega)
            simp only [seqO, ea, eb, ec, ec', ed, rdTake_bad]
            rw [if_neg (by omega), if_pos (by omega)]
            rfl
        · have ec' : rdNum L (at_ + 7) false 4 = (0, at_ + 7, true) := rdNum_short (k := 4) _ (by omega)
          simp only [seqO, ea, eb, ec, ec', rdNum_bad, rdTake_bad]
          by_cases h4 : L.length - at_ < 9
          · rw [if_pos h4]; rfl
          · rw [if_neg h4, if_pos (by omega)]; rfl
      · have ec : rdNum L (at_ + 3) false 4 = (0, at_ + 3, true) := rdNum_short (k := 4) _ (by omega)
        simp only [seqO, ea, eb, ec, rdNum_bad, rdTake_bad]
        rw [if_pos (by omega)]
        rfl
    · have eb : rdNum L (at_ + 2) false 1 = (0, at_ + 2, true) := rdNum_short (k := 1) _ (by omega)
      simp only [seqO, ea, eb, rdNum_bad, rdTake_bad]
      rw [if_pos (by omega)]
      rfl
  · have ea : rdNum L (at_ + 1) false 1 = (0, at_ + 1, true) := rdNum_short (k := 1) _ (by omega)
    simp only [seqO, ea, rdNum_bad, rdTake_bad]
    rw [if_pos (by omega)]
    rfl
theorem one_else {L : List Int} {at_ : Nat} {r : RD} {at' : Nat} {bad' : Bool} (h1 : L.getD at_ 0 ≠ 1) (h2 : L.getD at_ 0 ≠ 2) : OneIs L at_ r false at' bad' := by
  have e : pOne (L.drop at_) = none := by
    unfold pOne
    simp only [getD_drop, Nat.add_zero, h1, h2, if_false]
    split <;> rfl
  unfold OneIs
  rw [e]
end Go.Proofs.Ytnbokpfkcfhgbaa
