/- Rows in boxes, by elements of two cells. No program here. -/
import Derived.Test.YtlngegoamfklgaaVRows
import Derived.Test.YtlngegoamfklgaaVSortC1
namespace Go.Proofs.Ytlngegoamfklgaa
open Go

section
variable {α : Type} {val : α → V × V} {L : List α} {sp : List V} {P : Program} {st : St} {A : Nat → V} {k : Kt} {d : Option Nat} {obs : List (Option Nat × X × Nat)} {rest : List VO}
theorem rowc_push {x : α} {sp' : List V} : (rowc val L sp).take (L.length * 2) ++ [V.agg [(val x).1, (val x).2]].flatMap V.cells ++ sp' = rowc val (L ++ [x]) sp' := by
  have hl : (L.flatMap fun x => two (val x)).length = L.length * 2 := by
    have := rowc_len (val := val) (L := L) (sp := [])
    simpa [rowc] using this
  unfold rowc
  rw [List.take_left' hl]
  simp [V.cells, two]
/-- An append of one element to a row in a box. -/
theorem App.pushC {bytes b cap : Nat} {tk : Tk} {x : α} (hb : st.box b = some (rowc val L sp)) (hl : L.length * 2 + sp.length = cap * 2) (hmo : mono (rowc val L sp)) (hc : cap ≤ maxLen) (h1 : L.length + 1 ≤ maxLen) (h2 : (L.length + 1) * bytes ≤ 140737488355328)
    (hk : ∀ b' cap' sp', (b' = b ∨ st.sz ≤ b') → (L.length < cap → b' = b ∧ cap' = cap) → (L.length + 1) * 2 + sp'.length = cap' * 2 → cap' ≤ maxLen → mono (rowc val (L ++ [x]) sp') → obsOk (st.put b' (rowc val (L ++ [x]) sp')) A obs ∧
      Ops P rest k (putV A d (dataV b' (L ++ [x]).length cap')) (st.put b' (rowc val (L ++ [x]) sp'))) : App P 2 bytes (dataV b L.length cap) (.sl tk [.agg [(val x).1, (val x).2]]) d obs rest k A st := by
  refine App.mut hb (by rw [rowc_len]; omega) hmo (by omega) hc (by intro d hd; simp only [List.mem_singleton] at hd; subst hd; rfl) (by simpa using h1) (by simpa using h2) fun b' cap' spare k1 k2 k3 k4 k5 k6 => ?_
  rw [rowc_push] at k6 ⊢
  have hlen : L.length + [V.agg [(val x).1, (val x).2]].length = (L ++ [x]).length := by simp
  rw [hlen]
  simp only [List.length_cons, List.length_nil] at k2 k4 k5
  exact hk b' cap' spare k1 (fun h => ⟨(k5 (by omega)).1, (k5 (by omega)).2.1⟩) (by omega) k3 k6
theorem App.pushC0 {bytes : Nat} {tk : Tk} {x : α} (h2 : bytes ≤ 140737488355328)
    (hk : ∀ b' cap' sp', st.sz ≤ b' → 2 + sp'.length = cap' * 2 → cap' ≤ maxLen → mono (rowc val [x] sp') → obsOk (st.put b' (rowc val [x] sp')) A obs ∧
      Ops P rest k (putV A d (dataV b' [x].length cap')) (st.put b' (rowc val [x] sp'))) : App P 2 bytes (.sl .nil []) (.sl tk [.agg [(val x).1, (val x).2]]) d obs rest k A st := by
  refine App.new (by intro d hd; simp only [List.mem_singleton] at hd; subst hd; rfl) (by simp) (by simp [maxLen]) (by simpa using h2) fun b' cap' spare k1 k2 k3 k4 k5 => ?_
  have e : [V.agg [(val x).1, (val x).2]].flatMap V.cells ++ spare = rowc val [x] spare := by simp [rowc, two, V.cells]
  rw [e] at k5 ⊢
  simp only [List.length_cons, List.length_nil] at k4
  exact hk b' cap' spare k1 (by omega) k3 k5
/-- A row in a box that the caller's state does not know. -/
structure RBC (val : α → V × V) (base s : St) (b cap : Nat) (L : List α) (sp : List V) : Prop where
  box : s.box b = some (rowc val L sp)
  len : L.length * 2 + sp.length = cap * 2
  mono : mono (rowc val L sp)
  max : cap ≤ maxLen
  weak : base.weak s
  lt : s.Lt
  fresh : base.sz ≤ b
theorem RBC.self {base s : St} {b cap : Nat} (h : RBC val base s b cap L sp) : s.put b (rowc val L sp) = s := put_selfR h.box (h.lt.box b _ h.box)
theorem RBC.mk0 {base s : St} {b cap : Nat} {x : α} (hw : base.weak s) (hl : s.Lt) (k1 : s.sz ≤ b) (k2 : 2 + sp.length = cap * 2) (k3 : cap ≤ maxLen) (k4 : _root_.Go.Proofs.Ytlngegoamfklgaa.mono (rowc val [x] sp)) : RBC val base (s.put b (rowc val [x] sp)) b cap [x] sp :=
  ⟨put_box_same, by simpa using k2, k4, k3, weak_put hw (by have := hw.sz; omega), hl.put, by have := hw.sz; omega⟩
theorem RBC.push {base s : St} {b cap b' cap' : Nat} {x : α} {sp' : List V} (h : RBC val base s b cap L sp) (k1 : b' = b ∨ s.sz ≤ b') (k2 : (L.length + 1) * 2 + sp'.length = cap' * 2) (k3 : cap' ≤ maxLen) (k4 : _root_.Go.Proofs.Ytlngegoamfklgaa.mono (rowc val (L ++ [x]) sp')) :
    RBC val base (s.put b' (rowc val (L ++ [x]) sp')) b' cap' (L ++ [x]) sp' := by
  have hf : base.sz ≤ b' := by
    have := h.fresh; have := h.weak.sz
    rcases k1 with rfl | k1 <;> omega
  exact ⟨put_box_same, by simpa using k2, k4, k3, weak_put h.weak hf, h.lt.put, hf⟩
/-- Another box beside it. -/
theorem RBC.put {base s : St} {b cap c : Nat} {cs : List V} (h : RBC val base s b cap L sp) (hb : b ≠ c) (hc : base.sz ≤ c) : RBC val base (s.put c cs) b cap L sp :=
  ⟨by rw [put_box_ne hb]; exact h.box, h.len, h.mono, h.max, weak_put h.weak hc, h.lt.put, h.fresh⟩
/-- The row turned. -/
theorem RBC.mix {base s : St} {b cap : Nat} {M : List α} (h : RBC val base s b cap L sp) (hM : M.length = L.length) : RBC val base (s.put b (rowc val M sp)) b cap M sp :=
  ⟨put_box_same, by rw [hM]; exact h.len, rowc_mono h.mono hM, h.max, weak_put h.weak h.fresh, h.lt.put, h.fresh⟩
end
end Go.Proofs.Ytlngegoamfklgaa
