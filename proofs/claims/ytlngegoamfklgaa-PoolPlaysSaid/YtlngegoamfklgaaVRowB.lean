/- Rows in boxes, by elements of one cell. No program here. -/
import Derived.Test.YtlngegoamfklgaaVRows
import Derived.Test.YtlngegoamfklgaaVSortO1
namespace Go.Proofs.Ytlngegoamfklgaa
open Go

theorem put_selfR {st : St} {b : Nat} {cs : List V} (hb : st.box b = some cs) (h : b < st.sz) : st.put b cs = st := by
  cases st with
  | mk box own sz =>
    simp only [St.put, St.mk.injEq, true_and]
    simp only at hb h
    refine ⟨?_, by omega⟩
    funext i
    by_cases e : i = b
    · subst e; simp [hb]
    · simp [e]
section
variable {α : Type} {val : α → Value} {L : List α} {sp : List V} {P : Program} {st : St} {A : Nat → V} {k : Kt} {d : Option Nat} {obs : List (Option Nat × X × Nat)} {rest : List VO}
theorem row_push {x : α} {sp' : List V} : (row val L sp).take (L.length * 1) ++ [V.sc (val x)].flatMap V.cells ++ sp' = row val (L ++ [x]) sp' := by
  unfold row
  rw [Nat.mul_one, List.take_left' (by simp)]
  simp [V.cells]
/-- An append of one element to a row in a box. -/
theorem App.push {bytes b cap : Nat} {tk : Tk} {x : α} (hb : st.box b = some (row val L sp)) (hl : L.length + sp.length = cap) (hmo : mono (row val L sp)) (hc : cap ≤ maxLen) (h1 : L.length + 1 ≤ maxLen) (h2 : (L.length + 1) * bytes ≤ 140737488355328)
    (hk : ∀ b' cap' sp', (b' = b ∨ st.sz ≤ b') → (L.length < cap → b' = b ∧ cap' = cap) → L.length + 1 + sp'.length = cap' → cap' ≤ maxLen → mono (row val (L ++ [x]) sp') → obsOk (st.put b' (row val (L ++ [x]) sp')) A obs ∧
      Ops P rest k (putV A d (dataV b' (L ++ [x]).length cap')) (st.put b' (row val (L ++ [x]) sp'))) : App P 1 bytes (dataV b L.length cap) (.sl tk [.sc (val x)]) d obs rest k A st := by
  refine App.mut hb (by rw [row_len]; omega) hmo (by omega) hc (by intro d hd; simp only [List.mem_singleton] at hd; subst hd; rfl) (by simpa using h1) (by simpa using h2) fun b' cap' spare k1 k2 k3 k4 k5 k6 => ?_
  rw [row_push] at k6 ⊢
  have hlen : L.length + [V.sc (val x)].length = (L ++ [x]).length := by simp
  rw [hlen]
  simp only [List.length_cons, List.length_nil] at k2 k4 k5
  exact hk b' cap' spare k1 (fun h => ⟨(k5 (by omega)).1, (k5 (by omega)).2.1⟩) (by omega) k3 k6
theorem App.push0 {bytes : Nat} {tk : Tk} {x : α} (h2 : bytes ≤ 140737488355328)
    (hk : ∀ b' cap' sp', st.sz ≤ b' → 1 + sp'.length = cap' → cap' ≤ maxLen → mono (row val [x] sp') → obsOk (st.put b' (row val [x] sp')) A obs ∧
      Ops P rest k (putV A d (dataV b' [x].length cap')) (st.put b' (row val [x] sp'))) : App P 1 bytes (.sl .nil []) (.sl tk [.sc (val x)]) d obs rest k A st := by
  refine App.new (by intro d hd; simp only [List.mem_singleton] at hd; subst hd; rfl) (by simp) (by simp [maxLen]) (by simpa using h2) fun b' cap' spare k1 k2 k3 k4 k5 => ?_
  have e : [V.sc (val x)].flatMap V.cells ++ spare = row val [x] spare := by simp [row, V.cells]
  rw [e] at k5 ⊢
  simp only [List.length_cons, List.length_nil] at k4
  exact hk b' cap' spare k1 (by omega) k3 k5
/-- A row in a box that the caller's state does not know. -/
structure RB (val : α → Value) (base s : St) (b cap : Nat) (L : List α) (sp : List V) : Prop where
  box : s.box b = some (row val L sp)
  len : L.length + sp.length = cap
  mono : mono (row val L sp)
  max : cap ≤ maxLen
  weak : base.weak s
  lt : s.Lt
  fresh : base.sz ≤ b
theorem RB.self {base s : St} {b cap : Nat} (h : RB val base s b cap L sp) : s.put b (row val L sp) = s := put_selfR h.box (h.lt.box b _ h.box)
theorem RB.mk0 {base s : St} {b cap : Nat} {x : α} (hw : base.weak s) (hl : s.Lt) (k1 : s.sz ≤ b) (k2 : 1 + sp.length = cap) (k3 : cap ≤ maxLen) (k4 : _root_.Go.Proofs.Ytlngegoamfklgaa.mono (row val [x] sp)) : RB val base (s.put b (row val [x] sp)) b cap [x] sp :=
  ⟨put_box_same, by simpa using k2, k4, k3, weak_put hw (by have := hw.sz; omega), hl.put, by have := hw.sz; omega⟩
theorem RB.push {base s : St} {b cap b' cap' : Nat} {x : α} {sp' : List V} (h : RB val base s b cap L sp) (k1 : b' = b ∨ s.sz ≤ b') (k2 : L.length + 1 + sp'.length = cap') (k3 : cap' ≤ maxLen) (k4 : _root_.Go.Proofs.Ytlngegoamfklgaa.mono (row val (L ++ [x]) sp')) :
    RB val base (s.put b' (row val (L ++ [x]) sp')) b' cap' (L ++ [x]) sp' := by
  have hf : base.sz ≤ b' := by
    have := h.fresh; have := h.weak.sz
    rcases k1 with rfl | k1 <;> omega
  exact ⟨put_box_same, by simpa using k2, k4, k3, weak_put h.weak hf, h.lt.put, hf⟩
/-- Another box beside it. -/
theorem RB.put {base s : St} {b cap c : Nat} {cs : List V} (h : RB val base s b cap L sp) (hb : b ≠ c) (hc : base.sz ≤ c) : RB val base (s.put c cs) b cap L sp :=
  ⟨by rw [put_box_ne hb]; exact h.box, h.len, h.mono, h.max, weak_put h.weak hc, h.lt.put, h.fresh⟩
/-- The row turned. -/
theorem RB.mix {base s : St} {b cap : Nat} {M : List α} (h : RB val base s b cap L sp) (hM : M.length = L.length) : RB val base (s.put b (row val M sp)) b cap M sp :=
  ⟨put_box_same, by rw [hM]; exact h.len, row_mono h.mono hM, h.max, weak_put h.weak h.fresh, h.lt.put, h.fresh⟩
end
end Go.Proofs.Ytlngegoamfklgaa
