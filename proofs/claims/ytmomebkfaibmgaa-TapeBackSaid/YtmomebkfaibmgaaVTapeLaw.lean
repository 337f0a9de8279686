/- Records as bytes, and bytes as records: plain. -/
import Derived.Test.YtmomebkfaibmgaaVRow
namespace Go.Proofs.Ytmomebkfaibmgaa
open Go

def fitsB (k c n : Int) (z : Nat) : Bool := decide (0 ≤ k) && decide (k ≤ 255) && decide (0 ≤ c) && decide (c ≤ 255) && decide (0 ≤ n) && decide (n ≤ 4294967295) && decide ((z : Int) ≤ 65535)
/-- A record as data. -/
structure TR where
  k : Int
  ek : Int
  ec : Int
  en : Int
  EL : List Int
  ok : Int
  oc : Int
  on : Int
  oa : Int
  OL : List Int
def TR.right (r : TR) : Bool :=
  (r.k == 1 && (r.ok == 0 && r.oc == 0 && r.on == 0 && r.oa == 0 && (r.OL.length : Int) == 0) && fitsB r.ek r.ec r.en r.EL.length) || (r.k == 2 && (r.ek == 0 && r.ec == 0 && r.en == 0 && (r.EL.length : Int) == 0) && fitsB r.ok r.oc r.on r.OL.length)
def recL (k ek ec en : Int) (EL : List Int) (ok oc on oa : Int) (OL : List Int) : List Int :=
  if k = 1 then [1, ek, ec] ++ beL en 4 ++ beL EL.length 2 ++ EL else [2, ok, oc] ++ beL on 4 ++ beL oa 4 ++ beL OL.length 2 ++ OL
/-- The bytes of a record that may be. -/
def TR.out (r : TR) : List Int := if r.right then recL r.k r.ek r.ec r.en r.EL r.ok r.oc r.on r.oa r.OL else []
def outR (l : List TR) : List Int := (l.map TR.out).flatten
theorem outR_append (l m : List TR) : outR (l ++ m) = outR l ++ outR m := by simp [outR]
theorem outR_one (r : TR) : outR [r] = r.out := by simp [outR]
theorem numL_top (s : Nat) (hs : s ≤ 8) (M : List Int) (hl : M.length ≤ s) (hB : IsB M) : 0 ≤ numL M ∧ numL M < 256 ^ s := by
  obtain ⟨q0, q1⟩ := numL_range M.length M rfl hB
  refine ⟨q0, Int.lt_of_lt_of_le q1 ?_⟩
  have h2 : (256 : Nat) ^ M.length ≤ 256 ^ s := Nat.pow_le_pow_right (by omega) hl
  have h3 : ((256 ^ M.length : Nat) : Int) ≤ ((256 ^ s : Nat) : Int) := by exact_mod_cast h2
  simpa [Int.natCast_pow] using h3
/-- The record that bytes begin with, and how many it takes. -/
def pOne (L : List Int) : Option (TR × Nat) :=
  if L.length < 9 then none else
  if L.getD 0 0 = 1 then
    if L.length < 9 + (numL ((L.drop 7).take 2)).toNat then none
    else some (⟨1, L.getD 1 0, L.getD 2 0, numL ((L.drop 3).take 4), (L.drop 9).take (numL ((L.drop 7).take 2)).toNat, 0, 0, 0, 0, []⟩, 9 + (numL ((L.drop 7).take 2)).toNat)
  else if L.getD 0 0 = 2 then
    if L.length < 13 then none
    else if L.length < 13 + (numL ((L.drop 11).take 2)).toNat then none
    else some (⟨2, 0, 0, 0, [], L.getD 1 0, L.getD 2 0, numL ((L.drop 3).take 4), numL ((L.drop 7).take 4), (L.drop 13).take (numL ((L.drop 11).take 2)).toNat⟩, 13 + (numL ((L.drop 11).take 2)).toNat)
  else none
/-- The record and the reader behind it are those. -/
def OneIs (L : List Int) (at_ : Nat) (r : TR) (ok : Bool) (at' : Nat) (bad' : Bool) : Prop :=
  match pOne (L.drop at_) with
  | none => ok = false
  | some (t, s) => ok = true ∧ r = t ∧ at' = at_ + s ∧ bad' = false

theorem rdNum_good {L : List Int} {at_ k : Nat} (h : at_ + k ≤ L.length) (h1 : 1 ≤ k) (h2 : k ≤ 8) : rdNum L at_ false k = (numL ((L.drop at_).take k), at_ + k, false) := by
  unfold rdNum
  rw [if_neg (by simp; omega)]
  simp
theorem rdNum_short {L : List Int} {at_ k : Nat} (bad : Bool) (h : L.length < at_ + k) : rdNum L at_ bad k = (0, at_, true) := by
  unfold rdNum
  rw [if_pos (by omega)]
theorem rdNum_bad (L : List Int) (at_ : Nat) (k : Int) : rdNum L at_ true k = (0, at_, true) := by
  unfold rdNum
  rw [if_pos (by simp)]
theorem rdTake_good {L : List Int} {at_ k : Nat} (h : at_ + k ≤ L.length) : rdTake L at_ false k = ((L.drop at_).take k, at_ + k, false) := by
  unfold rdTake
  rw [if_neg (by simp; omega)]
  simp
theorem rdTake_short {L : List Int} {at_ k : Nat} (bad : Bool) (h : L.length < at_ + k) : rdTake L at_ bad k = ([], at_, true) := by
  unfold rdTake
  rw [if_pos (by omega)]
theorem rdTake_bad (L : List Int) (at_ : Nat) (k : Int) : rdTake L at_ true k = ([], at_, true) := by
  unfold rdTake
  rw [if_pos (by simp)]
theorem take_one_num {L : List Int} {at_ : Nat} (h : at_ < L.length) : numL ((L.drop at_).take 1) = L.getD at_ 0 := by
  have : (L.drop at_).take 1 = [L[at_]] := by
    rw [List.drop_eq_getElem_cons h]; rfl
  rw [this, List.getD_eq_getElem?_getD, List.getElem?_eq_getElem h]
  simp [numL]
theorem drop_drop' (L : List Int) (a b : Nat) : (L.drop a).drop b = L.drop (a + b) := by rw [List.drop_drop]
theorem getD_drop (L : List Int) (a i : Nat) : (L.drop a).getD i 0 = L.getD (a + i) 0 := by
  simp [List.getD_eq_getElem?_getD, List.getElem?_drop]

/-- What the reader tells of an event. -/
def seqE (L : List Int) (at_ : Nat) : (Int × Nat × Bool) × (Int × Nat × Bool) × (Int × Nat × Bool) × (Int × Nat × Bool) × (List Int × Nat × Bool) :=
  let a := rdNum L (at_ + 1) false 1
  let b := rdNum L a.2.1 a.2.2 1
  let c := rdNum L b.2.1 b.2.2 4
  let d := rdNum L c.2.1 c.2.2 2
  (a, b, c, d, rdTake L d.2.1 d.2.2 d.1)
/-- What the reader tells of what was done. -/
def seqO (L : List Int) (at_ : Nat) : (Int × Nat × Bool) × (Int × Nat × Bool) × (Int × Nat × Bool) × (Int × Nat × Bool) × (Int × Nat × Bool) × (List Int × Nat × Bool) :=
  let a := rdNum L (at_ + 1) false 1
  let b := rdNum L a.2.1 a.2.2 1
  let c := rdNum L b.2.1 b.2.2 4
  let c' := rdNum L c.2.1 c.2.2 4
  let d := rdNum L c'.2.1 c'.2.2 2
  (a, b, c, c', d, rdTake L d.2.1 d.2.2 d.1)
theorem num_bound {L : List Int} (hB : IsB L) (at_ : Nat) : 0 ≤ numL ((L.drop at_).take 2) := (numL_top 2 (by omega) _ (by simp; omega) ((hB.drop _).take _)).1

theorem one_event {L : List Int} {at_ : Nat} {r : TR} (hB : IsB L) (hat : at_ < L.length) (hk : L.getD at_ 0 = 1)
    (hr : r = ⟨1, (seqE L at_).1.1, (seqE L at_).2.1.1, (seqE L at_).2.2.1.1, (seqE L at_).2.2.2.2.1, 0, 0, 0, 0, []⟩) :
    OneIs L at_ r (!(seqE L at_).2.2.2.2.2.2) (seqE L at_).2.2.2.2.2.1 (seqE L at_).2.2.2.2.2.2 := by
  have hx := num_bound hB (at_ + 7)
  unfold OneIs pOne
  simp only [drop_drop', getD_drop, List.length_drop, Nat.add_zero, hk, ↓reduceIte]
  generalize hs : numL ((L.drop (at_ + 7)).take 2) = s at *
  have hs' : s = (s.toNat : Int) := by omega
  by_cases h1 : at_ + 2 ≤ L.length
  · have ea : rdNum L (at_ + 1) false 1 = (L.getD (at_ + 1) 0, at_ + 2, false) := by
      have := rdNum_good (L := L) (at_ := at_ + 1) (k := 1) (by omega) (by omega) (by omega)
      rw [take_one_num (by omega)] at this
      exact this
    by_cases h2 : at_ + 3 ≤ L.length
    · have eb : rdNum L (at_ + 2) false 1 = (L.getD (at_ + 2) 0, at_ + 3, false) := by
        have := rdNum_good (L := L) (at_ := at_ + 2) (k := 1) (by omega) (by omega) (by omega)
        rw [take_one_num (by omega)] at this
        exact this
      by_cases h3 : at_ + 7 ≤ L.length
      · have ec : rdNum L (at_ + 3) false 4 = (numL ((L.drop (at_ + 3)).take 4), at_ + 7, false) := rdNum_good (L := L) (at_ := at_ + 3) (k := 4) (by omega) (by omega) (by omega)
        by_cases h4 : at_ + 9 ≤ L.length
        · have ed : rdNum L (at_ + 7) false 2 = (s, at_ + 9, false) := by rw [← hs]; exact rdNum_good (L := L) (at_ := at_ + 7) (k := 2) (by omega) (by omega) (by omega)
          by_cases h5 : at_ + 9 + s.toNat ≤ L.length
          · have ee : rdTake L (at_ + 9) false s = ((L.drop (at_ + 9)).take s.toNat, at_ + 9 + s.toNat, false) := by rw [hs']; exact rdTake_good (by omega)
            simp only [seqE, ea, eb, ec, ed, ee] at hr ⊢
            rw [if_neg (by omega), if_neg (by omega)]
            exact ⟨by simp, hr, by omega, by simp⟩
          · have ee : rdTake L (at_ + 9) false s = ([], at_ + 9, true) := by rw [hs']; exact rdTake_short _ (by omega)
            simp only [seqE, ea, eb, ec, ed, ee]
            rw [if_neg (by omega), if_pos (by omega)]
            rfl
        · have ed : rdNum L (at_ + 7) false 2 = (0, at_ + 7, true) := rdNum_short (k := 2) _ (by omega)
          simp only [seqE, ea, eb, ec, ed, rdTake_bad]
          rw [if_pos (by omega)]
          rfl
      · have ec : rdNum L (at_ + 3) false 4 = (0, at_ + 3, true) := rdNum_short (k := 4) _ (by omega)
        simp only [seqE, ea, eb, ec, rdNum_bad, rdTake_bad]
        rw [if_pos (by omega)]
        rfl
    · have eb : rdNum L (at_ + 2) false 1 = (0, at_ + 2, true) := rdNum_short (k := 1) _ (by omega)
      simp only [seqE, ea, eb, rdNum_bad, rdTake_bad]
      rw [if_pos (by omega)]
      rfl
  · have ea : rdNum L (at_ + 1) false 1 = (0, at_ + 1, true) := rdNum_short (k := 1) _ (by omega)
    simp only [seqE, ea, rdNum_bad, rdTake_bad]
    rw [if_pos (by omega)]
    rfl

theorem one_out {L : List Int} {at_ : Nat} {r : TR} (hB : IsB L) (hat : at_ < L.length) (hk : L.getD at_ 0 = 2)
    (hr : r = ⟨2, 0, 0, 0, [], (seqO L at_).1.1, (seqO L at_).2.1.1, (seqO L at_).2.2.1.1, (seqO L at_).2.2.2.1.1, (seqO L at_).2.2.2.2.2.1⟩) :
    OneIs L at_ r (!(seqO L at_).2.2.2.2.2.2.2) (seqO L at_).2.2.2.2.2.2.1 (seqO L at_).2.2.2.2.2.2.2 := by
  have hx := num_bound hB (at_ + 11)
  unfold OneIs pOne
  simp only [drop_drop', getD_drop, List.length_drop, Nat.add_zero, hk, ↓reduceIte]
  rw [if_neg (show ¬ (2 : Int) = 1 by omega)]
  generalize hs : numL ((L.drop (at_ + 11)).take 2) = s at *
  have hs' : s = (s.toNat : Int) := by omega
  by_cases h1 : at_ + 2 ≤ L.length
  · have ea : rdNum L (at_ + 1) false 1 = (L.getD (at_ + 1) 0, at_ + 2, false) := by
      have := rdNum_good (L := L) (at_ := at_ + 1) (k := 1) (by omega) (by omega) (by omega)
      rw [take_one_num (by omega)] at this
      exact this
    by_cases h2 : at_ + 3 ≤ L.length
    · have eb : rdNum L (at_ + 2) false 1 = (L.getD (at_ + 2) 0, at_ + 3, false) := by
        have := rdNum_good (L := L) (at_ := at_ + 2) (k := 1) (by omega) (by omega) (by omega)
        rw [take_one_num (by omega)] at this
        exact this
      by_cases h3 : at_ + 7 ≤ L.length
      · have ec : rdNum L (at_ + 3) false 4 = (numL ((L.drop (at_ + 3)).take 4), at_ + 7, false) := rdNum_good (L := L) (at_ := at_ + 3) (k := 4) (by omega) (by omega) (by omega)
        by_cases h3' : at_ + 11 ≤ L.length
        · have ec' : rdNum L (at_ + 7) false 4 = (numL ((L.drop (at_ + 7)).take 4), at_ + 11, false) := rdNum_good (L := L) (at_ := at_ + 7) (k := 4) (by omega) (by omega) (by omega)
          by_cases h4 : at_ + 13 ≤ L.length
          · have ed : rdNum L (at_ + 11) false 2 = (s, at_ + 13, false) := by rw [← hs]; exact rdNum_good (L := L) (at_ := at_ + 11) (k := 2) (by omega) (by omega) (by omega)
            by_cases h5 : at_ + 13 + s.toNat ≤ L.length
            · have ee : rdTake L (at_ + 13) false s = ((L.drop (at_ + 13)).take s.toNat, at_ + 13 + s.toNat, false) := by rw [hs']; exact rdTake_good (by omega)
              simp only [seqO, ea, eb, ec, ec', ed, ee] at hr ⊢
              rw [if_neg (by omega), if_neg (by omega), if_neg (by omega)]
              exact ⟨by simp, hr, by omega, by simp⟩
            · have ee : rdTake L (at_ + 13) false s = ([], at_ + 13, true) := by rw [hs']; exact rdTake_short _ (by omega)
              simp only [seqO, ea, eb, ec, ec', ed, ee]
              rw [if_neg (by omega), if_neg (by omega), if_pos (by omega)]
              rfl
          · have ed : rdNum L (at_ + 11) false 2 = (0, at_ + 11, true) := rdNum_short (k := 2) _ (by omega)
            simp only [seqO, ea, eb, ec, ec', ed, rdTake_bad]
            rw [if_neg (by omega), if_pos (by omega)]
            rfl
        · have ec' : rdNum L (at_ + 7) false 4 = (0, at_ + 7, true) := rdNum_short (k := 4) _ (by omega)
          simp only [seqO, ea, eb, ec, ec', rdNum_bad, rdTake_bad]
          by_cases h4 : L.length - at_ < 9
          · rw [if_pos h4]; rfl
          · rw [if_neg h4, if_pos (by omega)]; rfl
      · have ec : rdNum L (at_ + 3) false 4 = (0, at_ + 3, true) := rdNum_short (k := 4) _ (by omega)
        simp only [seqO, ea, eb, ec, rdNum_bad, rdTake_bad]
        rw [if_pos (by omega)]
        rfl
    · have eb : rdNum L (at_ + 2) false 1 = (0, at_ + 2, true) := rdNum_short (k := 1) _ (by omega)
      simp only [seqO, ea, eb, rdNum_bad, rdTake_bad]
      rw [if_pos (by omega)]
      rfl
  · have ea : rdNum L (at_ + 1) false 1 = (0, at_ + 1, true) := rdNum_short (k := 1) _ (by omega)
    simp only [seqO, ea, rdNum_bad, rdTake_bad]
    rw [if_pos (by omega)]
    rfl
theorem one_else {L : List Int} {at_ : Nat} {r : TR} {at' : Nat} {bad' : Bool} (h1 : L.getD at_ 0 ≠ 1) (h2 : L.getD at_ 0 ≠ 2) : OneIs L at_ r false at' bad' := by
  have e : pOne (L.drop at_) = none := by
    unfold pOne
    simp only [getD_drop, Nat.add_zero, h1, h2, if_false]
    split <;> rfl
  unfold OneIs
  rw [e]
theorem pOne_pos {L : List Int} {t : TR} {k : Nat} (h : pOne L = some (t, k)) : 9 ≤ k ∧ k ≤ L.length := by
  unfold pOne at h
  split at h
  · cases h
  · split at h
    · split at h
      · cases h
      · simp only [Option.some.injEq, Prod.mk.injEq] at h
        omega
    · split at h
      · split at h
        · cases h
        · split at h
          · cases h
          · simp only [Option.some.injEq, Prod.mk.injEq] at h
            omega
      · cases h
theorem pOne_nil {L : List Int} (h : L.length < 9) : pOne L = none := by
  unfold pOne
  rw [if_pos h]

/-- Records, one behind the other, from the front of these bytes: so many bytes they take. -/
inductive TRun : List Int → List TR → Nat → Prop
  | nil (L : List Int) : TRun L [] 0
  | snoc {L : List Int} {rs : List TR} {n : Nat} {t : TR} {k : Nat} : TRun L rs n → pOne (L.drop n) = some (t, k) → TRun L (rs ++ [t]) (n + k)
theorem TRun.le {L : List Int} {rs : List TR} {n : Nat} (h : TRun L rs n) : n ≤ L.length ∧ 9 * rs.length ≤ n := by
  induction h with
  | nil => simp
  | snoc _ hp ih =>
    have := pOne_pos hp
    simp only [List.length_drop] at this
    simp
    omega

theorem TRun.det {L : List Int} {ts : List TR} {a : Nat} (h : TRun L ts a) : ∀ {b : Nat}, TRun L ts b → a = b := by
  induction h with
  | nil =>
    intro b hb
    generalize he : ([] : List TR) = z at hb
    cases hb with
    | nil => rfl
    | snoc _ _ => simp at he
  | @snoc rs n t k hr hp ih =>
    intro b hb
    generalize he : rs ++ [t] = z at hb
    cases hb with
    | nil => simp at he
    | @snoc rs' n' t' k' hr' hp' =>
      obtain ⟨h1, h2⟩ := List.append_inj' he rfl
      subst h1
      have := ih hr'
      subst this
      rw [hp] at hp'
      simp only [Option.some.injEq, Prod.mk.injEq] at hp'
      rw [hp'.2]
theorem pOne_event {ek ec en : Int} {EL rest : List Int} (h5 : 0 ≤ en) (h6 : en ≤ 4294967295) (h7 : EL.length ≤ 65535) :
    pOne (([1, ek, ec] ++ beL en 4 ++ beL EL.length 2 ++ EL) ++ rest) = some (⟨1, ek, ec, en, EL, 0, 0, 0, 0, []⟩, 9 + EL.length) := by
  have n1 := numL_beL en h5 4
  have n2 := numL_beL (EL.length : Int) (by omega) 2
  have l1 := beL_len en 4
  have l2 := beL_len (EL.length : Int) 2
  have e1 : en % 256 ^ 4 = en := by omega
  have e2 : (EL.length : Int) % 256 ^ 2 = EL.length := by omega
  rw [e1] at n1
  rw [e2] at n2
  generalize beL en 4 = X at *
  generalize beL (EL.length : Int) 2 = Y at *
  match X, l1, Y, l2 with
  | [a, b, c, d], _, [p, q], _ =>
    unfold pOne
    have hlen : (([1, ek, ec] ++ [a, b, c, d] ++ [p, q] ++ EL) ++ rest).length = 9 + EL.length + rest.length := by simp; omega
    rw [hlen, if_neg (by omega)]
    have g0 : (([1, ek, ec] ++ [a, b, c, d] ++ [p, q] ++ EL) ++ rest).getD 0 0 = 1 := rfl
    rw [if_pos g0]
    have t7 : ((([1, ek, ec] ++ [a, b, c, d] ++ [p, q] ++ EL) ++ rest).drop 7).take 2 = [p, q] := rfl
    have t3 : ((([1, ek, ec] ++ [a, b, c, d] ++ [p, q] ++ EL) ++ rest).drop 3).take 4 = [a, b, c, d] := rfl
    have t9 : (([1, ek, ec] ++ [a, b, c, d] ++ [p, q] ++ EL) ++ rest).drop 9 = EL ++ rest := rfl
    rw [t7, t3, t9, n1, n2, Int.toNat_natCast, if_neg (by omega), List.take_left]
    rfl
theorem pOne_done {ok oc on oa : Int} {OL rest : List Int} (h5 : 0 ≤ on) (h6 : on ≤ 4294967295) (h8 : 0 ≤ oa) (h9 : oa ≤ 4294967295) (h7 : OL.length ≤ 65535) :
    pOne (([2, ok, oc] ++ beL on 4 ++ beL oa 4 ++ beL OL.length 2 ++ OL) ++ rest) = some (⟨2, 0, 0, 0, [], ok, oc, on, oa, OL⟩, 13 + OL.length) := by
  have n1 := numL_beL on h5 4
  have n3 := numL_beL oa h8 4
  have n2 := numL_beL (OL.length : Int) (by omega) 2
  have l1 := beL_len on 4
  have l3 := beL_len oa 4
  have l2 := beL_len (OL.length : Int) 2
  have e1 : on % 256 ^ 4 = on := by omega
  have e3 : oa % 256 ^ 4 = oa := by omega
  have e2 : (OL.length : Int) % 256 ^ 2 = OL.length := by omega
  rw [e1] at n1
  rw [e3] at n3
  rw [e2] at n2
  generalize beL on 4 = X at *
  generalize beL oa 4 = Z at *
  generalize beL (OL.length : Int) 2 = Y at *
  match X, l1, Z, l3, Y, l2 with
  | [a, b, c, d], _, [a', b', c', d'], _, [p, q], _ =>
    unfold pOne
    have hlen : (([2, ok, oc] ++ [a, b, c, d] ++ [a', b', c', d'] ++ [p, q] ++ OL) ++ rest).length = 13 + OL.length + rest.length := by simp; omega
    rw [hlen, if_neg (by omega)]
    have g0 : (([2, ok, oc] ++ [a, b, c, d] ++ [a', b', c', d'] ++ [p, q] ++ OL) ++ rest).getD 0 0 = 2 := rfl
    rw [g0, if_neg (by omega), if_pos rfl, if_neg (by omega)]
    have t11 : ((([2, ok, oc] ++ [a, b, c, d] ++ [a', b', c', d'] ++ [p, q] ++ OL) ++ rest).drop 11).take 2 = [p, q] := rfl
    have t3 : ((([2, ok, oc] ++ [a, b, c, d] ++ [a', b', c', d'] ++ [p, q] ++ OL) ++ rest).drop 3).take 4 = [a, b, c, d] := rfl
    have t7 : ((([2, ok, oc] ++ [a, b, c, d] ++ [a', b', c', d'] ++ [p, q] ++ OL) ++ rest).drop 7).take 4 = [a', b', c', d'] := rfl
    have t13 : (([2, ok, oc] ++ [a, b, c, d] ++ [a', b', c', d'] ++ [p, q] ++ OL) ++ rest).drop 13 = OL ++ rest := rfl
    rw [t11, t3, t7, t13, n1, n2, n3, Int.toNat_natCast, if_neg (by omega), List.take_left]
    rfl
/-- A record as its bytes have it. -/
structure TR.Fit (r : TR) : Prop where
  right : r.right = true
  a0 : 0 ≤ r.oa
  a1 : r.oa ≤ 4294967295
theorem pOne_out {r : TR} (h : r.Fit) (rest : List Int) : pOne (r.out ++ rest) = some (r, r.out.length) := by
  have hr := h.right
  obtain ⟨k, ek, ec, en, EL, ok, oc, on, oa, OL⟩ := r
  have a0 := h.a0
  have a1 := h.a1
  simp only at a0 a1 hr
  unfold TR.out
  simp only [hr, ↓reduceIte]
  simp only [TR.right, fitsB, Bool.or_eq_true, Bool.and_eq_true, decide_eq_true_eq, beq_iff_eq] at hr
  rcases hr with ⟨⟨rfl, ⟨⟨⟨⟨rfl, rfl⟩, rfl⟩, rfl⟩, h0⟩⟩, ⟨⟨⟨⟨⟨⟨_, _⟩, _⟩, _⟩, h5⟩, h6⟩, h7⟩⟩ | ⟨⟨rfl, ⟨⟨⟨rfl, rfl⟩, rfl⟩, h0⟩⟩, ⟨⟨⟨⟨⟨⟨_, _⟩, _⟩, _⟩, h5⟩, h6⟩, h7⟩⟩
  · have : OL = [] := List.eq_nil_of_length_eq_zero (by omega)
    subst this
    simp only [recL, ↓reduceIte]
    rw [pOne_event h5 h6 (by omega)]
    simp [beL_len]
    omega
  · have : EL = [] := List.eq_nil_of_length_eq_zero (by omega)
    subst this
    simp only [recL]
    rw [if_neg (by omega), pOne_done h5 h6 a0 a1 (by omega)]
    simp [beL_len]
    omega

theorem mid_app {L M : List Int} {k i s : Nat} (h : i + s ≤ k) (hk : k ≤ L.length) : ((L.take k ++ M).drop i).take s = (L.drop i).take s := by
  rw [List.drop_append_of_le_length (by simp; omega), List.take_append_of_le_length (by simp; omega), List.drop_take, List.take_take, Nat.min_eq_left (by omega)]
theorem getD_app {L M : List Int} {k i : Nat} (h : i < k) (hk : k ≤ L.length) : (L.take k ++ M).getD i 0 = L.getD i 0 := by
  rw [List.getD_eq_getElem?_getD, List.getD_eq_getElem?_getD, List.getElem?_append_left (by simp; omega), List.getElem?_take, if_pos h]
/-- Only the bytes of the record decide. -/
theorem pOne_loc {L : List Int} {t : TR} {k : Nat} (h : pOne L = some (t, k)) (M : List Int) : pOne (L.take k ++ M) = some (t, k) := by
  have hp := pOne_pos h
  have hlen : (L.take k ++ M).length = k + M.length := by simp; omega
  unfold pOne at h ⊢
  rw [hlen]
  by_cases h9 : L.length < 9
  · rw [if_pos h9] at h; cases h
  rw [if_neg h9] at h
  rw [if_neg (by omega), getD_app (by omega) hp.2]
  by_cases k1 : L.getD 0 0 = 1
  · rw [if_pos k1] at h ⊢
    by_cases hs : L.length < 9 + (numL ((L.drop 7).take 2)).toNat
    · rw [if_pos hs] at h; cases h
    rw [if_neg hs] at h
    simp only [Option.some.injEq, Prod.mk.injEq] at h
    obtain ⟨ht, hk⟩ := h
    rw [mid_app (by omega) hp.2, mid_app (by omega) hp.2, mid_app (by omega) hp.2, getD_app (by omega) hp.2, getD_app (by omega) hp.2, if_neg (by omega), ht, hk]
  · rw [if_neg k1] at h ⊢
    by_cases k2 : L.getD 0 0 = 2
    · rw [if_pos k2] at h ⊢
      by_cases h13 : L.length < 13
      · rw [if_pos h13] at h; cases h
      rw [if_neg h13] at h
      by_cases hs : L.length < 13 + (numL ((L.drop 11).take 2)).toNat
      · rw [if_pos hs] at h; cases h
      rw [if_neg hs] at h
      simp only [Option.some.injEq, Prod.mk.injEq] at h
      obtain ⟨ht, hk⟩ := h
      rw [if_neg (by omega), mid_app (by omega) hp.2, mid_app (by omega) hp.2, mid_app (by omega) hp.2, mid_app (by omega) hp.2, getD_app (by omega) hp.2, getD_app (by omega) hp.2, if_neg (by omega), ht, hk]
    · rw [if_neg k2] at h; cases h
theorem pOne_ext {L : List Int} {t : TR} {k : Nat} (h : pOne L = some (t, k)) (M : List Int) : pOne (L ++ M) = some (t, k) := by
  have := pOne_loc h (L.drop k ++ M)
  rwa [← List.append_assoc, List.take_append_drop] at this
theorem pOne_cut {L : List Int} {t : TR} {k j : Nat} (h : pOne L = some (t, k)) (hj : k ≤ j) : pOne (L.take j) = some (t, k) := by
  have := pOne_loc h ((L.take j).drop k)
  have e : L.take k = (L.take j).take k := by rw [List.take_take, Nat.min_eq_left hj]
  rwa [e, List.take_append_drop] at this
theorem TRun.ext {L : List Int} {ts : List TR} {n : Nat} (h : TRun L ts n) (M : List Int) : TRun (L ++ M) ts n := by
  induction h with
  | nil => exact TRun.nil _
  | @snoc rs n t k hr hp ih =>
    refine TRun.snoc ih ?_
    rw [List.drop_append_of_le_length (hr.le.1)]
    exact pOne_ext hp M
theorem run_out_n : ∀ (n : Nat) (l : List TR), l.length = n → (∀ r ∈ l, r.Fit) → TRun (outR l) (l) (outR l).length
  | 0, l, hl, _ => by
    have : l = [] := List.eq_nil_of_length_eq_zero hl
    subst this
    exact TRun.nil _
  | n + 1, l, hl, h => by
    have hne : l ≠ [] := fun e => by subst e; simp at hl
    obtain ⟨l', r, rfl⟩ : ∃ l' r, l = l' ++ [r] := ⟨l.dropLast, l.getLast hne, (List.dropLast_concat_getLast hne).symm⟩
    have ih := run_out_n n l' (by simpa using hl) (fun x hx => h x (List.mem_append_left _ hx))
    have h1 := ih.ext r.out
    have hp : pOne ((outR l' ++ r.out).drop (outR l').length) = some (r, r.out.length) := by
      rw [List.drop_left]
      have := pOne_out (h r (by simp)) []
      rwa [List.append_nil] at this
    have := TRun.snoc h1 hp
    rw [outR_append, outR_one, List.length_append]
    exact this
theorem run_out (l : List TR) (h : ∀ r ∈ l, r.Fit) : TRun (outR l) (l) (outR l).length := run_out_n l.length l rfl h
/-- Of bytes that are cut off just the whole records are read. -/
theorem TRun.uncut {L : List Int} {ts : List TR} {n j : Nat} (h : TRun (L.take j) ts n) : TRun L ts n := by
  have := h.ext (L.drop j)
  rwa [List.take_append_drop] at this
end Go.Proofs.Ytmomebkfaibmgaa
