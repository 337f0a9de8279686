/- A stream of bytes as messages: the plain law. No program here. -/
import Derived.Test.YtogkdcbcmhhhcaaVMsgB
namespace Go.Proofs.Ytogkdcbcmhhhcaa
open Go

def earlyL (P : List Int) : Int :=
  if 2 ≤ P.length ∧ (numL (P.take 2) < 12 ∨ 220 < numL (P.take 2)) then 12 else
  if 4 ≤ P.length ∧ numL ((P.drop 2).take 2) ≠ 1 then 141 else
  if 8 ≤ P.length ∧ numL ((P.drop 4).take 4) ≠ 439041101 then 140 else 0
def sizeP (P : List Int) : Nat := (numL (P.take 2)).toNat
/-- The messages, what is left, and why it ends. -/
def scanF : Nat → List Int → List MB × List Int × Int
  | 0, P => ([], P, 0)
  | f + 1, P => if earlyL P ≠ 0 then ([], P, earlyL P) else
    if P.length < 12 ∨ (P.length : Int) < numL (P.take 2) then ([], P, 0) else
    if (parseM (P.take (sizeP P))).2 ≠ 0 then ([], P, (parseM (P.take (sizeP P))).2) else
    ((parseM (P.take (sizeP P))).1 :: (scanF f (P.drop (sizeP P))).1, (scanF f (P.drop (sizeP P))).2)
def scan (P : List Int) : List MB × List Int × Int := scanF (P.length + 1) P
theorem early_size {P : List Int} (h : earlyL P = 0) (h2 : 2 ≤ P.length) : 12 ≤ numL (P.take 2) ∧ numL (P.take 2) ≤ 220 := by
  unfold earlyL at h
  split at h
  · cases h
  · omega
theorem scanF_eq : ∀ (f g : Nat) (P : List Int), P.length < f → P.length < g → scanF f P = scanF g P
  | 0, _, P, h, _ => by omega
  | _, 0, P, _, h => by omega
  | f + 1, g + 1, P, h1, h2 => by
    unfold scanF
    by_cases c1 : earlyL P ≠ 0
    · rw [if_pos c1, if_pos c1]
    rw [if_neg c1, if_neg c1]
    by_cases c2 : P.length < 12 ∨ (P.length : Int) < numL (P.take 2)
    · rw [if_pos c2, if_pos c2]
    rw [if_neg c2, if_neg c2]
    by_cases c3 : (parseM (P.take (sizeP P))).2 ≠ 0
    · rw [if_pos c3, if_pos c3]
    rw [if_neg c3, if_neg c3]
    have hs := early_size (P := P) (by omega) (by omega)
    have : (P.drop (sizeP P)).length < P.length := by rw [List.length_drop]; unfold sizeP; omega
    rw [scanF_eq f g (P.drop (sizeP P)) (by omega) (by omega)]
theorem scan_err {P : List Int} (h : earlyL P ≠ 0) : scan P = ([], P, earlyL P) := if_pos h
theorem scan_short {P : List Int} (h : earlyL P = 0) (h2 : P.length < 12 ∨ (P.length : Int) < numL (P.take 2)) : scan P = ([], P, 0) := by
  unfold scan scanF
  rw [if_neg (fun k => k h), if_pos h2]
theorem scan_bad {P : List Int} (h : earlyL P = 0) (h2 : ¬ (P.length < 12 ∨ (P.length : Int) < numL (P.take 2))) (h3 : (parseM (P.take (sizeP P))).2 ≠ 0) : scan P = ([], P, (parseM (P.take (sizeP P))).2) := by
  unfold scan scanF
  rw [if_neg (fun k => k h), if_neg h2, if_pos h3]
theorem scan_cons {P : List Int} (h : earlyL P = 0) (h2 : ¬ (P.length < 12 ∨ (P.length : Int) < numL (P.take 2))) (h3 : (parseM (P.take (sizeP P))).2 = 0) :
    scan P = ((parseM (P.take (sizeP P))).1 :: (scan (P.drop (sizeP P))).1, (scan (P.drop (sizeP P))).2) := by
  have hs := early_size h (by omega)
  have hd : (P.drop (sizeP P)).length < P.length := by rw [List.length_drop]; unfold sizeP; omega
  unfold scan
  rw [scanF_eq ((P.drop (sizeP P)).length + 1) P.length _ (by omega) hd]
  rw [scanF, if_neg (fun k => k h), if_neg h2, if_neg (fun k => k h3)]
theorem size_bound {P : List Int} (h : earlyL P = 0) (h2 : ¬ (P.length < 12 ∨ (P.length : Int) < numL (P.take 2))) : 12 ≤ sizeP P ∧ sizeP P ≤ P.length ∧ sizeP P ≤ 220 := by
  have hs := early_size h (by omega)
  unfold sizeP
  omega
theorem early_app {A : List Int} (c : List Int) (h : 8 ≤ A.length) : earlyL (A ++ c) = earlyL A := by
  unfold earlyL
  rw [List.take_append_of_le_length (by omega), List.drop_append_of_le_length (by omega), List.take_append_of_le_length (by simp; omega), List.drop_append_of_le_length (by omega), List.take_append_of_le_length (by simp; omega), List.length_append]
  have e : ∀ k, k ≤ 8 → (k ≤ A.length + c.length ↔ k ≤ A.length) := fun k hk => by omega
  simp only [e 2 (by omega), e 4 (by omega), e 8 (by omega)]
theorem early_mono {F : List Int} (G : List Int) (h : earlyL F ≠ 0) : earlyL (F ++ G) ≠ 0 := by
  unfold earlyL at h ⊢
  split at h
  · rename_i h1
    rw [if_pos ⟨by rw [List.length_append]; omega, by rw [List.take_append_of_le_length (by omega)]; exact h1.2⟩]
    decide
  · split at h
    · rename_i h1
      split
      · decide
      · rw [if_pos ⟨by rw [List.length_append]; omega, by rw [List.drop_append_of_le_length (by omega), List.take_append_of_le_length (by simp; omega)]; exact h1.2⟩]
        decide
    · split at h
      · rename_i h1
        split
        · decide
        · split
          · decide
          · rw [if_pos ⟨by rw [List.length_append]; omega, by rw [List.drop_append_of_le_length (by omega), List.take_append_of_le_length (by simp; omega)]; exact h1.2⟩]
            decide
      · exact absurd rfl h
theorem size_app {A c : List Int} (h : 2 ≤ A.length) : sizeP (A ++ c) = sizeP A := by unfold sizeP; rw [List.take_append_of_le_length h]
/-- More bytes. -/
theorem scan_app : ∀ (n : Nat) (A c : List Int), A.length ≤ n → ∀ ms R, scan A = (ms, R, 0) → scan (A ++ c) = (ms ++ (scan (R ++ c)).1, (scan (R ++ c)).2)
  | n, A, c, hn, ms, R, h => by
    by_cases c1 : earlyL A ≠ 0
    · rw [scan_err c1] at h
      simp only [Prod.mk.injEq] at h
      exact absurd h.2.2 c1
    have c1 : earlyL A = 0 := by omega
    by_cases c2 : A.length < 12 ∨ (A.length : Int) < numL (A.take 2)
    · rw [scan_short c1 c2] at h
      simp only [Prod.mk.injEq, and_true] at h
      obtain ⟨rfl, rfl⟩ := h
      rfl
    by_cases c3 : (parseM (A.take (sizeP A))).2 ≠ 0
    · rw [scan_bad c1 c2 c3] at h
      simp only [Prod.mk.injEq] at h
      exact absurd h.2.2 c3
    have c3 : (parseM (A.take (sizeP A))).2 = 0 := by omega
    obtain ⟨b1, b2, b3⟩ := size_bound c1 c2
    rw [scan_cons c1 c2 c3] at h
    simp only [Prod.mk.injEq] at h
    obtain ⟨rfl, h2⟩ := h
    have hsz := size_app (A := A) (c := c) (by omega)
    have ht : (A ++ c).take (sizeP A) = A.take (sizeP A) := List.take_append_of_le_length b2
    have hd : (A ++ c).drop (sizeP A) = A.drop (sizeP A) ++ c := List.drop_append_of_le_length b2
    have e1 : earlyL (A ++ c) = 0 := by rw [early_app c (by omega)]; exact c1
    have e2 : ¬ ((A ++ c).length < 12 ∨ ((A ++ c).length : Int) < numL ((A ++ c).take 2)) := by
      rw [List.take_append_of_le_length (by omega), List.length_append]; omega
    rw [scan_cons e1 e2 (by rw [hsz, ht]; exact c3), hsz, ht, hd]
    cases n with
    | zero => omega
    | succ n =>
      have ih := scan_app n (A.drop (sizeP A)) c (by rw [List.length_drop]; omega) (scan (A.drop (sizeP A))).1 R (by rw [← h2])
      rw [ih]
      rfl
/-- No part of what is whole ends it. -/
theorem scan_part : ∀ (n : Nat) (F G : List Int) (l : List MB) (R : List Int), F.length ≤ n → scan (F ++ G) = (l, R, 0) → (scan F).2.2 = 0
  | n, F, G, l, R, hn, h => by
    by_cases c1 : earlyL F ≠ 0
    · have := early_mono G c1
      rw [scan_err this] at h
      simp only [Prod.mk.injEq] at h
      exact absurd h.2.2 this
    have c1 : earlyL F = 0 := by omega
    by_cases c2 : F.length < 12 ∨ (F.length : Int) < numL (F.take 2)
    · rw [scan_short c1 c2]
    obtain ⟨b1, b2, b3⟩ := size_bound c1 c2
    have hsz := size_app (A := F) (c := G) (by omega)
    have ht : (F ++ G).take (sizeP F) = F.take (sizeP F) := List.take_append_of_le_length b2
    have hd : (F ++ G).drop (sizeP F) = F.drop (sizeP F) ++ G := List.drop_append_of_le_length b2
    have e1 : earlyL (F ++ G) = 0 := by rw [early_app G (by omega)]; exact c1
    have e2 : ¬ ((F ++ G).length < 12 ∨ ((F ++ G).length : Int) < numL ((F ++ G).take 2)) := by
      rw [List.take_append_of_le_length (by omega), List.length_append]; omega
    by_cases c3 : (parseM (F.take (sizeP F))).2 ≠ 0
    · rw [scan_bad e1 e2 (by rw [hsz, ht]; exact c3), hsz, ht] at h
      simp only [Prod.mk.injEq] at h
      exact absurd h.2.2 c3
    have c3 : (parseM (F.take (sizeP F))).2 = 0 := by omega
    rw [scan_cons e1 e2 (by rw [hsz, ht]; exact c3), hsz, ht, hd] at h
    rw [scan_cons c1 c2 c3]
    simp only [Prod.mk.injEq] at h
    cases n with
    | zero => omega
    | succ n => exact scan_part n (F.drop (sizeP F)) G _ R (by rw [List.length_drop]; omega) (Prod.ext rfl h.2)
theorem layout_208 (t : Int) : sumN (layoutL t) ≤ 208 := (by decide : ∀ K ∈ layouts, sumN K ≤ 208) _ (layout_mem t)
/-- Messages that are built are told. -/
def catM : List MB → List Int
  | [] => []
  | m :: l => bytesM m ++ catM l
theorem scan_nil : scan [] = ([], [], 0) := rfl
theorem scan_built : ∀ (l : List MB), (∀ m ∈ l, m.N.length = 9 ∧ m.T.length = 3 ∧ (∀ x ∈ m.N, 0 ≤ x) ∧ okM m = true) → scan (catM l) = (l, [], 0)
  | [], _ => rfl
  | m :: l, h => by
    obtain ⟨h9, h3, h0, hok⟩ := h m (by simp)
    have ih := scan_built l (fun x hx => h x (by simp [hx]))
    have hp := parseM_bytes h9 h3 h0 hok
    have hlen := bytesM_len hok
    have ht := okM_ty hok
    have h208 := layout_208 m.ty
    have hZ : sizeT m.ty = 12 + (sumN (layoutL m.ty) : Int) := by
      unfold okM at hok
      rw [Bool.and_eq_true, decide_eq_true_eq] at hok
      exact if_neg (sizeT_pos.1 hok.2)
    have hW : bytesM m = [sizeT m.ty / 256 % 256, sizeT m.ty % 256, 0, 1, 26, 43, 60, 77, 0, m.ty, 0, 0] ++ bK (layoutL m.ty) m.N m.T := by unfold bytesM; rw [hdr_list ht]
    show scan (bytesM m ++ catM l) = _
    have t2 : numL ((bytesM m).take 2) = sizeT m.ty := by rw [hW]; simp [numL]; omega
    have d2 : numL (((bytesM m).drop 2).take 2) = 1 := by rw [hW]; simp [numL]
    have d4 : numL (((bytesM m).drop 4).take 4) = 439041101 := by rw [hW]; simp [numL]
    have e0 : earlyL (bytesM m) = 0 := by
      unfold earlyL
      rw [t2, d2, d4, if_neg (by omega), if_neg (by omega), if_neg (by omega)]
    have hsz : sizeP (bytesM m) = (bytesM m).length := by unfold sizeP; rw [t2]; omega
    have hsa := size_app (A := bytesM m) (c := catM l) (by omega)
    have e1 : earlyL (bytesM m ++ catM l) = 0 := by rw [early_app _ (by omega)]; exact e0
    have e2 : ¬ ((bytesM m ++ catM l).length < 12 ∨ ((bytesM m ++ catM l).length : Int) < numL ((bytesM m ++ catM l).take 2)) := by
      rw [List.take_append_of_le_length (by omega), t2, List.length_append]; omega
    have ht1 : (bytesM m ++ catM l).take (sizeP (bytesM m)) = bytesM m := by rw [hsz, List.take_append_of_le_length (Nat.le_refl _), List.take_of_length_le (Nat.le_refl _)]
    have hd1 : (bytesM m ++ catM l).drop (sizeP (bytesM m)) = catM l := by rw [hsz, List.drop_append_of_le_length (Nat.le_refl _), List.drop_of_length_le (Nat.le_refl _), List.nil_append]
    rw [scan_cons e1 e2 (by rw [hsa, ht1, hp]), hsa, ht1, hd1, hp, ih]
theorem scan_left : ∀ (n : Nat) (P : List Int), P.length ≤ n → (scan P).2.1.length + 12 * (scan P).1.length ≤ P.length
  | n, P, hn => by
    by_cases c1 : earlyL P ≠ 0
    · rw [scan_err c1]; simp
    have c1 : earlyL P = 0 := by omega
    by_cases c2 : P.length < 12 ∨ (P.length : Int) < numL (P.take 2)
    · rw [scan_short c1 c2]; simp
    by_cases c3 : (parseM (P.take (sizeP P))).2 ≠ 0
    · rw [scan_bad c1 c2 c3]; simp
    have c3 : (parseM (P.take (sizeP P))).2 = 0 := by omega
    obtain ⟨b1, b2, b3⟩ := size_bound c1 c2
    rw [scan_cons c1 c2 c3]
    cases n with
    | zero => omega
    | succ n =>
      have ih := scan_left n (P.drop (sizeP P)) (by rw [List.length_drop]; omega)
      rw [List.length_drop] at ih
      simp only [List.length_cons]
      omega
theorem scan_isB : ∀ (n : Nat) (P : List Int), P.length ≤ n → IsB P → IsB (scan P).2.1
  | n, P, hn, hB => by
    by_cases c1 : earlyL P ≠ 0
    · rw [scan_err c1]; exact hB
    have c1 : earlyL P = 0 := by omega
    by_cases c2 : P.length < 12 ∨ (P.length : Int) < numL (P.take 2)
    · rw [scan_short c1 c2]; exact hB
    by_cases c3 : (parseM (P.take (sizeP P))).2 ≠ 0
    · rw [scan_bad c1 c2 c3]; exact hB
    have c3 : (parseM (P.take (sizeP P))).2 = 0 := by omega
    obtain ⟨b1, b2, b3⟩ := size_bound c1 c2
    rw [scan_cons c1 c2 c3]
    cases n with
    | zero => omega
    | succ n => exact scan_isB n (P.drop (sizeP P)) (by rw [List.length_drop]; omega) (hB.drop _)
end Go.Proofs.Ytogkdcbcmhhhcaa
