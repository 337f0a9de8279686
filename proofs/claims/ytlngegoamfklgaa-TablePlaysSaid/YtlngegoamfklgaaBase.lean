/- Words and small facts that all walks of this family share. -/
import Derived.Test.YtlngegoamfklgaaProg
import Derived.WalkKit
import Derived.WalkSpells
import Derived.WalkLawsBesides
import Derived.Deep.RegionHeld3
import Derived.Deep.DrawnRows
import Derived.BigQuiet
import Derived.Lib.Hide
namespace Go.Proofs.Ytlngegoamfklgaa
open Go Go.RowKit

/-- The call hands back v, and nothing that was there has turned. -/
def Pure (w : World) (v : Value) (e : Ending) (w' : World) : Prop := e = .returned v ∧ Below w.heap.size w w'

theorem ret_int {k : IntKind} {a b : Int} (h : a = b) : Ending.returned (.int k a) = .returned (.int k b) := by rw [h]
theorem ret_bool {a b : Bool} (h : a = b) : Ending.returned (.bool a) = .returned (.bool b) := by rw [h]
theorem bcell {W w1 : World} (hb : Below W.heap.size W w1) : (∀ b o, b < W.heap.size → w1.cell? ⟨b, o, none⟩ = W.cell? ⟨b, o, none⟩) ∧ (∀ b o, b < W.heap.size → w1.frozen? ⟨b, o, none⟩ = W.frozen? ⟨b, o, none⟩) :=
  ⟨fun b o h => hb.cell (p := ⟨b, o, none⟩) h, fun b o h => hb.frozen (p := ⟨b, o, none⟩) h⟩
theorem lt_of_cell {w : World} {a : Addr} {v : Value} (h : w.cell? a = some v) : a.block < w.heap.size := by
  rcases Nat.lt_or_ge a.block w.heap.size with hlt | hge
  · exact hlt
  · simp [World.cell?, Array.getElem?_eq_none hge] at h
theorem keep_cell {w w1 : World} {a : Addr} {v : Value} (h : w.cell? a = some v) (hb : Below w.heap.size w w1) : w1.cell? a = some v := (hb.cell (lt_of_cell h)).trans h
theorem below_on {a w w1 : World} (h : Below a.heap.size a w) (h1 : Below w.heap.size w w1) : Below a.heap.size a w1 := h.trans (h1.mono h.size)
theorem below_new {w w1 : World} {o : Obj} (h1 : Below (w.alloc o).heap.size (w.alloc o) w1) : Below w.heap.size w w1 := below_on ((Below.refl _ _).alloc (Nat.le_refl _) _) h1

/-! ### A region that draws its order, whose operations read and whose callees at most make new memory: one walk, in the order of the text -/

structure More where
  blocks : List Obj
  count : Nat
instance : Nonempty More := ⟨⟨[], 0⟩⟩

/-- The world w with new blocks behind, at another count of draws. -/
def ext (w : World) (e : More) : World := { w with heap := w.heap ++ e.blocks.toArray, drawn := e.count }
theorem below_ext (w : World) (e : More) : Below w.heap.size w (ext w e) :=
  ⟨rfl, rfl, rfl, by simp [ext], fun k hk => by simp [ext, Array.getElem?_append, hk]⟩
theorem ext_of_below {w w' : World} (h : Below w.heap.size w w') : ∃ e, w' = ext w e := by
  refine ⟨⟨(w'.heap.toList.drop w.heap.size), w'.drawn⟩, ?_⟩
  obtain ⟨h1, h2, h3, h4, h5⟩ := h
  cases w with | mk hp tp dr os out =>
  cases w' with | mk hp' tp' dr' os' out' =>
  simp only at h1 h2 h3 h4 h5
  subst h1 h2 h3
  simp only [ext, World.mk.injEq, true_and, and_true]
  apply Array.ext_getElem?
  intro i
  rw [Array.getElem?_append]
  split
  · rename_i hi; exact h5 i hi
  · rename_i hi
    simp only [List.getElem?_toArray, List.getElem?_drop, Array.getElem?_toList]
    congr 1
    omega
theorem calm_of {P : Program} {f : FuncId} {args : Array Value} {w : World} {e : More} {v : Value} (h : Calls P f args (ext w e) (Pure (ext w e) v)) :
    Calls P f args (ext w e) fun en w'' => en = .returned v ∧ ∃ e2, w'' = ext w e2 :=
  h.mono fun _ _ ⟨he, hb⟩ => ⟨he, ext_of_below (below_on (below_ext w e) hb)⟩
theorem calm_same {P : Program} {f : FuncId} {args : Array Value} {w : World} {e : More} {v : Value} (h : Calls P f args (ext w e) fun en w' => en = .returned v ∧ ext w e = w') :
    Calls P f args (ext w e) fun en w'' => en = .returned v ∧ ∃ e2, w'' = ext w e2 :=
  h.mono fun _ _ ⟨he, hb⟩ => ⟨he, e, hb.symm⟩

/-- The cells of a list are there. -/
def Holds (w : World) (L : List (Addr × Value)) : Prop := ∀ p ∈ L, w.cell? p.1 = some p.2
theorem Holds.keep {w w1 : World} {L : List (Addr × Value)} (h : Holds w L) (hb : Below w.heap.size w w1) : Holds w1 L := fun p hp => keep_cell (h p hp) hb
theorem Holds.cons {w : World} {a : Addr} {v : Value} {L : List (Addr × Value)} : Holds w ((a, v) :: L) ↔ w.cell? a = some v ∧ Holds w L := by
  simp [Holds]
theorem Holds.nil {w : World} : Holds w [] ↔ True := by simp [Holds]

theorem Holds.append {w : World} {L M : List (Addr × Value)} (h : Holds w L) (h' : Holds w M) : Holds w (L ++ M) := by
  intro p hp
  rcases List.mem_append.1 hp with hp | hp
  · exact h p hp
  · exact h' p hp

/-- The cells cs, one behind the other, from place o of block b on. -/
def elemL (b o : Nat) : List Value → List (Addr × Value)
  | [] => []
  | v :: cs => (⟨b, o, none⟩, v) :: elemL b (o + 1) cs
theorem elemL_holds {w : World} {b : Nat} : ∀ (cs : List Value) (o : Nat), (∀ j v, cs[j]? = some v → w.cell? ⟨b, o + j, none⟩ = some v) → Holds w (elemL b o cs)
  | [], _, _ => by simp [elemL, Holds]
  | v :: cs, o, h => by
    rw [elemL, Holds.cons]
    refine ⟨by simpa using h 0 v rfl, elemL_holds cs (o + 1) fun j u hu => ?_⟩
    rw [show o + 1 + j = o + (j + 1) from by omega]
    exact h (j + 1) u (by simpa using hu)
/-- A new block holds what it was made of. -/
theorem elemL_new (w : World) (cs : Array Value) (t : TypeId) : Holds (w.alloc (.cells cs t)) (elemL w.heap.size 0 cs.toList) :=
  elemL_holds _ _ fun j v hv => by
    simp only [World.cell?, World.alloc, Nat.zero_add, Array.getElem?_push_size]
    simpa using hv

/-- A slice whose elements (each of 'size' cells) are these. -/
def Elems (w : World) (A : Option Addr) (size : Nat) (xs : List (List Value)) : Prop :=
  ∀ i cs, xs[i]? = some cs → ∃ b o, A = some ⟨b, o, none⟩ ∧ Holds w (elemL b (o + i * size) cs)
theorem Elems.keep {w w1 : World} {A : Option Addr} {size : Nat} {xs : List (List Value)} (h : Elems w A size xs) (hb : Below w.heap.size w w1) : Elems w1 A size xs := fun i cs hi => by
  obtain ⟨b, o, hA, hh⟩ := h i cs hi
  exact ⟨b, o, hA, hh.keep hb⟩

/-- The place of the first that is so; below 0: there is none. -/
def firstI {α : Type} (h : α → Bool) (l : List α) : Int := match l.findIdx? h with | some i => (i : Int) | none => -1
theorem firstI_at {α : Type} {h : α → Bool} {l : List α} {k : Nat} (hk : k < l.length) (hf : ∀ j, j < k → ∀ x, l[j]? = some x → h x = false) (ht : h l[k] = true) : firstI h l = k := by
  have : l.findIdx? h = some k := by
    rw [List.findIdx?_eq_some_iff_getElem]
    refine ⟨hk, ht, fun j hj => ?_⟩
    have := hf j hj l[j] (List.getElem?_eq_getElem (by omega))
    simp [this]
  rw [firstI, this]
theorem firstI_none {α : Type} {h : α → Bool} {l : List α} (hf : ∀ (j : Nat) (x : α), l[j]? = some x → h x = false) : firstI h l = -1 := by
  have : l.findIdx? h = none := by
    rw [List.findIdx?_eq_none_iff]
    intro x hx
    obtain ⟨j, hj, rfl⟩ := List.mem_iff_getElem.1 hx
    exact hf j _ (List.getElem?_eq_getElem hj)
  rw [firstI, this]
theorem firstI_cases {α : Type} (h : α → Bool) (l : List α) : firstI h l = -1 ∨ ∃ k : Nat, ∃ hk : k < l.length, firstI h l = k ∧ h l[k] = true := by
  unfold firstI
  cases e : l.findIdx? h with
  | none => exact .inl rfl
  | some i =>
    rw [List.findIdx?_eq_some_iff_getElem] at e
    obtain ⟨hi, ht, _⟩ := e
    exact .inr ⟨i, hi, rfl, ht⟩

theorem wp_region_calm {P : Program} {id : Nat} {Q : Exit → Act → World → Prop} {a : Act} {w : World} {l : List Oper} (L : List (Addr × Value)) (hS : Holds w L) (hm : P.follows .mixedOrders = true) (hB : Region.lexB .any l.toArray = true)
    (h : (∀ e, Holds (ext w e) L) → wpQuiet P l.toArray (fun w' => ∃ e, w' = ext w e) (fun a' => ∀ w', Below w.heap.size w w' → Holds w' L → Q .normal a' w') l a) : (Code.region id l.toArray true).wp P Q a w := by
  refine wp_region_quiet (C := fun w' => ∃ e, w' = ext w e) hm hB ⟨⟨[], w.drawn + 1⟩, by simp [ext]⟩ ?_
  have h1 := h fun e => hS.keep (below_ext w e)
  have h2 : ∀ (l : List Oper) (ops : Array Oper) (Q1 Q2 : Act → Prop) (a : Act), (∀ a, Q1 a → Q2 a) → wpQuiet P ops (fun w' => ∃ e, w' = ext w e) Q1 l a → wpQuiet P ops (fun w' => ∃ e, w' = ext w e) Q2 l a := by
    intro l
    induction l with
    | nil => intro _ _ _ a hq h; exact hq _ h
    | cons o l ih =>
      intro ops Q1 Q2 a hq h
      simp only [wpQuiet] at h ⊢
      split at h
      · rename_i hw; rw [if_pos hw]; exact Oper.quiet_mono (fun a ha => ih ops Q1 Q2 a hq ha) h
      · rename_i hw; rw [if_neg hw]; exact ih ops Q1 Q2 _ hq h
  have h3 := h2 l l.toArray _ (fun a' => ∀ w', (∃ e, w' = ext w e) → Q .normal a' w') a (fun a ha w' ⟨e, he⟩ => by subst he; exact ha _ (below_ext w e) (hS.keep (below_ext w e))) h1
  simpa using h3
end Go.Proofs.Ytlngegoamfklgaa
