/- Data beside memory: abstract values, what they stand for in a world, and how worlds grow. No program here. -/
import Derived.WalkKit
import Derived.Lib.Hide
namespace Go.Proofs.Ytlngegoamfklgaa
open Go Go.RowKit

/-- May one append to it? no: not known; nil: it is the nil slice; own g k: its row is the call's own block g, k cells an element, and it ends where the row's used part ends (if the state says so). -/
inductive Tk where
  | no | nil | own (g k : Nat)
  deriving DecidableEq

/-- The cells of a type whose values are compared cell by cell. -/
inductive Lf where
  | int (k : IntKind)
  | bool
  | str
/-- Abstract values. any: whatever; und: a slot that an operation has been passed over for; sc: the very value (of one cell); agg, tup: parts; sl: a slice that reads as these, and nobody turns it; ep: the address of a cell of an element of such a slice; mp, it: no values, but what a block holds that is a map (entries: key, value, when born) or goes through one. -/
inductive V where
  | any
  | und
  | sc (v : Value)
  | agg (cs : List V)
  | tup (cs : List V)
  | sl (own : Tk) (l : List V)
  | ep (cs : List V) (off : Nat)
  | mp (ag : Bool) (lf : List Lf) (es : List (V × V × Nat)) (clock : Nat)
  | it (m : Option Nat) (since : Nat) (seen : List Nat) (last : Nat)
instance : Inhabited V := ⟨.any⟩

def V.cells : V → List V
  | .agg cs => cs
  | .any | .und | .tup _ | .mp _ _ _ _ | .it _ _ _ _ => []
  | v => [v]
/-- What a block holds that is no row of cells. -/
def V.ob : V → Bool
  | .mp _ _ _ _ | .it _ _ _ _ => true
  | _ => false
/-- A block of cells. -/
def mono (cs : List V) : Prop := match cs with
  | [c] => c.ob = false
  | _ => True
/-- Cells are of these kinds. -/
def fitsV : List Lf → List V → Prop
  | [], [] => True
  | .int k :: l, .sc (.int k' _) :: m => k = k' ∧ fitsV l m
  | .bool :: l, .sc (.bool _) :: m => fitsV l m
  | .str :: l, .sc (.string _) :: m => fitsV l m
  | _, _ => False
/-- A key: of one cell, or of more (ag). -/
def kOk (ag : Bool) (lf : List Lf) : V → Prop
  | .sc v => ag = false ∧ fitsV lf [.sc v]
  | .agg cs => ag = true ∧ fitsV lf cs
  | _ => False

/-- What is known for good: F: cells that never turn; O: rows of the call's own (element's type, its size, the capacity). -/
structure Gh where
  F : Nat → Nat → Option Value
  O : Nat → Option (TypeId × Nat × Nat)
structure Gh.le (G H : Gh) : Prop where
  F : ∀ b o v, G.F b o = some v → H.F b o = some v
  O : ∀ g x, G.O g = some x → H.O g = some x
theorem Gh.le.refl (G : Gh) : G.le G := ⟨fun _ _ _ h => h, fun _ _ h => h⟩
theorem Gh.le.trans {A B C : Gh} (h : A.le B) (k : B.le C) : A.le C := ⟨fun b o v x => k.F b o v (h.F b o v x), fun g x y => k.O g x (h.O g x y)⟩

/-- An abstract value stands for a value. -/
inductive Rep1 (G : Gh) : V → Value → Prop where
  | any (v : Value) : Rep1 G .any v
  | und : Rep1 G .und undef
  | sc (v : Value) (h1 : v.oneCell' = true) : Rep1 G (.sc v) v
  | agg (cs : List V) (vs : Array Value) (hl : vs.size = cs.length) (h1 : ∀ (i : Nat) (v : Value), vs[i]? = some v → v.oneCell' = true) (h : ∀ (i : Nat) (c : V) (v : Value), cs[i]? = some c → vs[i]? = some v → Rep1 G c v) : Rep1 G (.agg cs) (.agg vs)
  | tup (cs : List V) (vs : Array Value) (hl : vs.size = cs.length) (h : ∀ (i : Nat) (c : V) (v : Value), cs[i]? = some c → vs[i]? = some v → Rep1 G c v) : Rep1 G (.tup cs) (.tuple vs)
  | nil (own : Tk) (ho : ∀ g k, own ≠ .own g k) : Rep1 G (.sl own []) (.slice none 0 0)
  | emp (a : Addr) (cap : Nat) (hm : cap ≤ maxLen) : Rep1 G (.sl .no []) (.slice (some a) 0 cap)
  | sl (own : Tk) (l : List V) (b o k cap : Nat) (u : Nat → Nat → Value) (hk : ∀ (i : Nat) (d : V), l[i]? = some d → d.cells.length = k)
      (hF : ∀ i j, i < l.length → j < k → G.F b (o + i * k + j) = some (u i j)) (h1 : ∀ i j, i < l.length → j < k → (u i j).oneCell' = true)
      (h : ∀ (i : Nat) (d : V) (j : Nat) (c : V), l[i]? = some d → d.cells[j]? = some c → Rep1 G c (u i j)) (hcap : l.length ≤ cap) (hm : cap ≤ maxLen)
      (ho : own ≠ .nil) (hown : ∀ g k', own = .own g k' → b = g ∧ o = 0 ∧ k' = k ∧ ∃ e, G.O g = some (e, k, cap)) : Rep1 G (.sl own l) (.slice (some ⟨b, o, none⟩) l.length cap)
  | ep (cs : List V) (off b o : Nat) (u : Nat → Value) (hF : ∀ j, j < cs.length → G.F b (o + j) = some (u j)) (h1 : ∀ j, j < cs.length → (u j).oneCell' = true)
      (h : ∀ (j : Nat) (c : V), cs[j]? = some c → Rep1 G c (u j)) : Rep1 G (.ep cs off) (.pointer (some ⟨b, o + off, none⟩))

theorem Rep1.mono {G H : Gh} (hle : G.le H) {d : V} {v : Value} (h : Rep1 G d v) : Rep1 H d v := by
  induction h with
  | any v => exact .any v
  | und => exact .und
  | sc v h1 => exact .sc v h1
  | agg cs vs hl h1 _ ih => exact .agg cs vs hl h1 ih
  | tup cs vs hl _ ih => exact .tup cs vs hl ih
  | nil own ho => exact .nil own ho
  | emp a cap hm => exact .emp a cap hm
  | sl own l b o k cap u hk hF h1 _ hcap hm ho hown ih => exact .sl own l b o k cap u hk (fun i j hi hj => hle.F _ _ _ (hF i j hi hj)) h1 ih hcap hm ho (fun g k' hg => let ⟨h1, h2, h3, e, h4⟩ := hown g k' hg; ⟨h1, h2, h3, e, hle.O _ _ h4⟩)
  | ep cs off b o u hF h1 _ ih => exact .ep cs off b o u (fun j hj => hle.F _ _ _ (hF j hj)) h1 ih

/-- The entries of a map. -/
structure RepM (G : Gh) (ag : Bool) (lf : List Lf) (es : List (V × V × Nat)) (ms : Array MapEntry) : Prop where
  len : ms.size = es.length
  rep : ∀ (i : Nat) (e : V × V × Nat) (m : MapEntry), es[i]? = some e → ms[i]? = some m → kOk ag lf e.1 ∧ Rep1 G e.1 m.key ∧ Rep1 G e.2.1 m.val ∧ m.born = e.2.2
theorem RepM.mono {G H : Gh} (hle : G.le H) {ag : Bool} {lf : List Lf} {es : List (V × V × Nat)} {ms : Array MapEntry} (h : RepM G ag lf es ms) : RepM H ag lf es ms :=
  ⟨h.len, fun i e m he hm => let ⟨h1, h2, h3, h4⟩ := h.rep i e m he hm; ⟨h1, h2.mono hle, h3.mono hle, h4⟩⟩
/-- What a block that may turn holds: cells, a map, or where one is in going through a map. -/
inductive RepB (G : Gh) : Option Obj → List V → Prop where
  | cells (vs : Array Value) (e : TypeId) (cs : List V) (hl : vs.size = cs.length) (h1 : ∀ (i : Nat) (v : Value), vs[i]? = some v → v.oneCell' = true) (hr : ∀ (i : Nat) (c : V) (v : Value), cs[i]? = some c → vs[i]? = some v → Rep1 G c v) : RepB G (some (.cells vs e (0, 0))) cs
  | map (ag : Bool) (lf : List Lf) (es : List (V × V × Nat)) (clock : Nat) (ms : Array MapEntry) (h : RepM G ag lf es ms) : RepB G (some (.map ms clock)) [.mp ag lf es clock]
  | iter (m : Option Nat) (since : Nat) (seen : List Nat) (last : Nat) : RepB G (some (.mapIter m since seen.toArray last)) [.it m since seen last]
theorem RepB.mono {G H : Gh} (hle : G.le H) {o : Option Obj} {cs : List V} (h : RepB G o cs) : RepB H o cs := by
  cases h with
  | cells vs e cs hl h1 hr => exact .cells vs e cs hl h1 fun i c v hc hv => (hr i c v hc hv).mono hle
  | map ag lf es clock ms h => exact .map ag lf es clock ms (h.mono hle)
  | iter m since seen last => exact .iter m since seen last
theorem RepB.row {G : Gh} {o : Option Obj} {cs : List V} (h : RepB G o cs) (hm : _root_.Go.Proofs.Ytlngegoamfklgaa.mono cs) :
    ∃ vs e, o = some (.cells vs e (0, 0)) ∧ vs.size = cs.length ∧ (∀ (i : Nat) (v : Value), vs[i]? = some v → v.oneCell' = true) ∧ ∀ (i : Nat) (c : V) (v : Value), cs[i]? = some c → vs[i]? = some v → Rep1 G c v := by
  cases h with
  | cells vs e cs hl h1 hr => exact ⟨vs, e, rfl, hl, h1, hr⟩
  | map ag lf es clock ms h => cases hm
  | iter m since seen last => cases hm

/-- Bounds that every value that stands for something keeps. -/
inductive V.Ok : V → Prop where
  | any : V.Ok .any
  | und : V.Ok .und
  | sc (v : Value) : V.Ok (.sc v)
  | agg (cs : List V) (h : ∀ (i : Nat) (c : V), cs[i]? = some c → V.Ok c) : V.Ok (.agg cs)
  | tup (cs : List V) (h : ∀ (i : Nat) (c : V), cs[i]? = some c → V.Ok c) : V.Ok (.tup cs)
  | sl (own : Tk) (l : List V) (hm : l.length ≤ maxLen) (h : ∀ (i : Nat) (d : V), l[i]? = some d → ∀ (j : Nat) (c : V), d.cells[j]? = some c → V.Ok c) : V.Ok (.sl own l)
  | ep (cs : List V) (off : Nat) (h : ∀ (i : Nat) (c : V), cs[i]? = some c → V.Ok c) : V.Ok (.ep cs off)
  | mp (ag : Bool) (lf : List Lf) (es : List (V × V × Nat)) (clock : Nat) (h1 : ∀ e ∈ es, V.Ok e.1) (h2 : ∀ e ∈ es, V.Ok e.2.1) : V.Ok (.mp ag lf es clock)
  | it (m : Option Nat) (since : Nat) (seen : List Nat) (last : Nat) : V.Ok (.it m since seen last)
theorem Rep1.ok {G : Gh} {d : V} {v : Value} (h : Rep1 G d v) : d.Ok := by
  induction h with
  | any v => exact .any
  | und => exact .und
  | sc v _ => exact .sc v
  | agg cs vs hl _ _ ih => exact .agg cs fun i c hc => ih i c _ hc (Array.getElem?_eq_getElem (by rw [hl]; exact (List.getElem?_eq_some_iff.1 hc).1))
  | tup cs vs hl _ ih => exact .tup cs fun i c hc => ih i c _ hc (Array.getElem?_eq_getElem (by rw [hl]; exact (List.getElem?_eq_some_iff.1 hc).1))
  | nil own _ => exact .sl own [] (by simp) (fun i d hd => by simp at hd)
  | emp a cap hm => exact .sl .no [] (by simp) (fun i d hd => by simp at hd)
  | sl own l b o k cap u hk hF h1 _ hcap hm ho hown ih => exact .sl own l (Nat.le_trans hcap hm) fun i d hd j c hc => ih i d j c hd hc
  | ep cs off b o u hF h1 _ ih => exact .ep cs off fun j c hc => ih j c hc
theorem RepB.ok {G : Gh} {o : Option Obj} {cs : List V} (h : RepB G o cs) : ∀ c ∈ cs, c.Ok := by
  intro c hc
  cases h with
  | cells vs e cs hl h1 hr =>
    obtain ⟨i, hi, rfl⟩ := List.mem_iff_getElem.1 hc
    exact (hr i _ _ (List.getElem?_eq_getElem hi) (Array.getElem?_eq_getElem (by omega))).ok
  | map ag lf es clock ms h =>
    simp only [List.mem_singleton] at hc
    subst hc
    have hall : ∀ e ∈ es, e.1.Ok ∧ e.2.1.Ok := fun e he => by
      obtain ⟨i, hi, rfl⟩ := List.mem_iff_getElem.1 he
      have := h.rep i _ _ (List.getElem?_eq_getElem hi) (Array.getElem?_eq_getElem (by rw [h.len]; exact hi))
      exact ⟨this.2.1.ok, this.2.2.1.ok⟩
    exact .mp ag lf es clock (fun e he => (hall e he).1) (fun e he => (hall e he).2)
  | iter m since seen last =>
    simp only [List.mem_singleton] at hc
    subst hc
    exact .it m since seen last
theorem V.Ok.len {own : Tk} {l : List V} (h : V.Ok (.sl own l)) : l.length ≤ maxLen := by cases h; assumption
theorem V.Ok.part {cs : List V} (h : V.Ok (.agg cs)) {i : Nat} {c : V} (hc : cs[i]? = some c) : c.Ok := by cases h with | agg _ h => exact h i c hc
theorem V.Ok.tpart {cs : List V} (h : V.Ok (.tup cs)) {i : Nat} {c : V} (hc : cs[i]? = some c) : c.Ok := by cases h with | tup _ h => exact h i c hc
theorem V.Ok.elem {own : Tk} {l : List V} (h : V.Ok (.sl own l)) {i : Nat} {d : V} (hd : l[i]? = some d) (ht : ∀ cs, d ≠ .tup cs) (ho : d.ob = true → False := by simp [V.ob]) : d.Ok := by
  cases h with
  | sl _ _ _ h =>
    have := h i d hd
    cases d with
    | agg cs => exact .agg cs fun j c hc => this j c hc
    | any => exact .any
    | und => exact .und
    | sc v => exact .sc v
    | tup cs => exact absurd rfl (ht cs)
    | sl o l => exact this 0 _ rfl
    | ep cs o => exact this 0 _ rfl
    | mp ag lf es clock => exact (ho rfl).elim
    | it m since seen last => exact .it m since seen last

/-- The state: boxes (blocks that the call may turn), rows of the call's own that may be appended to (how many elements are in use), a bound below which all these lie. -/
structure St where
  box : Nat → Option (List V)
  own : Nat → Option Nat
  sz : Nat
def St.put (s : St) (b : Nat) (cs : List V) : St := { s with box := fun x => if x = b then some cs else s.box x, sz := max s.sz (b + 1) }
def St.use (s : St) (g m : Nat) : St := { s with own := fun x => if x = g then some m else s.own x, sz := max s.sz (g + 1) }

/-- What nobody turns: the world that the law began in, and blocks that are set aside. -/
structure Fr where
  w : World
  x : Nat → Option Obj
def Fr.of (w : World) : Fr := ⟨w, fun _ => none⟩
def Fr.free (F : Fr) (b : Nat) : Prop := F.w.heap.size ≤ b ∧ F.x b = none
/-- A world is as the state says. w0: what nobody turns. -/
structure RepW (w0 : Fr) (G : Gh) (s : St) (w : World) : Prop where
  F : ∀ b o v, G.F b o = some v → w.cell? ⟨b, o, none⟩ = some v
  O : ∀ g x, G.O g = some x → g < w.heap.size
  box : ∀ b cs, s.box b = some cs → b < s.sz ∧ w0.free b ∧ (∀ o, G.F b o = none) ∧ G.O b = none ∧ RepB G w.heap[b]? cs
  own : ∀ g m, s.own g = some m → g < s.sz ∧ w0.free g ∧ ∃ e size cap cur, G.O g = some (e, size, cap) ∧ w.heap[g]? = some (.cells cur e (0, 0)) ∧ cur.size = cap * size ∧ m ≤ cap ∧ cap ≤ maxLen ∧ ∀ o, m * size ≤ o → G.F g o = none
  sz : s.sz ≤ w.heap.size
  bel : Below w0.w.heap.size w0.w w
  fr : ∀ b o, w0.x b = some o → w.heap[b]? = some o ∧ (∀ i, G.F b i = none) ∧ G.O b = none

theorem RepW.frLt {w0 : Fr} {G : Gh} {s : St} {w : World} (h : RepW w0 G s w) {b : Nat} {o : Obj} (hx : w0.x b = some o) : b < w.heap.size := (Array.getElem?_eq_some_iff.1 (h.fr b o hx).1).1
theorem RepW.newFree {w0 : Fr} {G : Gh} {s : St} {w : World} (h : RepW w0 G s w) : w0.free w.heap.size :=
  ⟨h.bel.size, by
    cases hx : w0.x w.heap.size with
    | none => rfl
    | some o => exact absurd (h.frLt hx) (by omega)⟩
theorem RepW.newF {w0 : Fr} {G : Gh} {s : St} {w : World} (h : RepW w0 G s w) {b : Nat} (hb : w.heap.size ≤ b) (o : Nat) : G.F b o = none := by
  cases hf : G.F b o with
  | none => rfl
  | some v => exact absurd (World.block_lt_of_cell? _ _ (h.F b o v hf)) (by simpa using hb)
theorem RepW.newO {w0 : Fr} {G : Gh} {s : St} {w : World} (h : RepW w0 G s w) {b : Nat} (hb : w.heap.size ≤ b) : G.O b = none := by
  cases ho : G.O b with
  | none => rfl
  | some x => exact absurd (h.O b x ho) (by omega)

/-- A state that says less. -/
structure St.weak (s t : St) : Prop where
  box : ∀ b cs, s.box b = some cs → t.box b = some cs ∧ b < s.sz
  own : ∀ g m, s.own g = some m → t.own g = some m ∧ g < s.sz
  sz : s.sz ≤ t.sz
theorem RepW.weak {w0 : Fr} {G : Gh} {s t : St} {w : World} (h : RepW w0 G t w) (hw : s.weak t) : RepW w0 G s w :=
  ⟨h.F, h.O, fun b cs hb => ⟨(hw.box b cs hb).2, (h.box b cs (hw.box b cs hb).1).2⟩, fun g m hg => ⟨(hw.own g m hg).2, (h.own g m (hw.own g m hg).1).2⟩, Nat.le_trans hw.sz h.sz, h.bel, h.fr⟩

/-- New memory that nobody speaks of (or of which only the ghost speaks). -/
theorem RepW.alloc {w0 : Fr} {G : Gh} {s : St} {w : World} (h : RepW w0 G s w) (o : Obj) : RepW w0 G s (w.alloc o) where
  F b off v hf := by
    have := h.F b off v hf
    rw [World.cell?_alloc_lt _ _ _ (World.block_lt_of_cell? _ _ this)]; exact this
  O g x hx := by have := h.O g x hx; simp; omega
  box b cs hb := by
    obtain ⟨h1, h2, h3, h4, h5⟩ := h.box b cs hb
    exact ⟨h1, h2, h3, h4, by rw [Go.heap_alloc_old _ _ (by have := h.sz; omega)]; exact h5⟩
  own g m hg := by
    obtain ⟨h1, h2, e, size, cap, cur, h3, h4, h5⟩ := h.own g m hg
    exact ⟨h1, h2, e, size, cap, cur, h3, by rw [Go.heap_alloc_old _ _ (by have := h.sz; omega)]; exact h4, h5⟩
  sz := by have := h.sz; simp; omega
  bel := h.bel.alloc h.bel.size o
  fr b x hx := ⟨by rw [Go.heap_alloc_old _ _ (h.frLt hx)]; exact (h.fr b x hx).1, (h.fr b x hx).2⟩
theorem RepW.drew {w0 : Fr} {G : Gh} {s : St} {w : World} (h : RepW w0 G s w) : RepW w0 G s w.drew where
  F b off v hf := by simpa using h.F b off v hf
  O g x hx := by simpa using h.O g x hx
  box b cs hb := by simpa [heap_drew] using h.box b cs hb
  own g m hg := by simpa [heap_drew] using h.own g m hg
  sz := by simpa using h.sz
  bel := ⟨h.bel.os, h.bel.tape, h.bel.output, h.bel.size, h.bel.block⟩
  fr b x hx := by simpa [heap_drew] using h.fr b x hx

/-- The ghost learns of the cells of the newest block. -/
def Gh.addF (G : Gh) (b : Nat) (cs : Array Value) : Gh := { G with F := fun b' o => if b' = b then cs[o]? else G.F b' o }
theorem RepW.le_addF {w0 : Fr} {G : Gh} {s : St} {w : World} (h : RepW w0 G s w) (cs : Array Value) : G.le (G.addF w.heap.size cs) where
  F b o v hf := by
    have := h.newF (Nat.le_refl _) o
    simp only [Gh.addF]
    split
    · rename_i e; subst e; rw [this] at hf; cases hf
    · exact hf
  O g x hx := hx
theorem RepW.addF {w0 : Fr} {G : Gh} {s : St} {w : World} (h : RepW w0 G s w) (cs : Array Value) (t : TypeId) : RepW w0 (G.addF w.heap.size cs) s (w.alloc (.cells cs t)) := by
  have ha := h.alloc (.cells cs t)
  have hle := h.le_addF cs
  refine ⟨fun b o v hf => ?_, ha.O, fun b cs' hb => ?_, fun g m hg => ?_, ha.sz, ha.bel, fun b x hx => ⟨(ha.fr b x hx).1, fun o => ?_, (h.fr b x hx).2.2⟩⟩
  · simp only [Gh.addF] at hf
    split at hf
    · rename_i e; subst e; rw [World.cell?_alloc_new]; exact hf
    · exact ha.F b o v hf
  · obtain ⟨h1, h2, h3, h4, h5⟩ := ha.box b cs' hb
    refine ⟨h1, h2, fun o => ?_, h4, h5.mono hle⟩
    simp only [Gh.addF]
    rw [if_neg (by have := h.sz; omega)]
    exact h3 o
  · obtain ⟨h1, h2, e, size, cap, cur, h3, h4, h5, h6, h7, h8⟩ := ha.own g m hg
    refine ⟨h1, h2, e, size, cap, cur, h3, h4, h5, h6, h7, fun o ho => ?_⟩
    simp only [Gh.addF]
    rw [if_neg (by have := h.sz; omega)]
    exact h8 o ho
  · simp only [Gh.addF]
    rw [if_neg (by have := h.frLt hx; omega)]
    exact (h.fr b x hx).2.1 o

/-- A new box. -/
theorem RepW.newObj {w0 : Fr} {G : Gh} {s : St} {w : World} (h : RepW w0 G s w) (o : Obj) (cs : List V) (hr : RepB G (some o) cs) : RepW w0 G (s.put w.heap.size cs) (w.alloc o) := by
  have ha := h.alloc o
  have hs := h.sz
  refine ⟨ha.F, ha.O, fun b cs' hb => ?_, fun g m hg => ?_, ?_, ha.bel, ha.fr⟩
  · simp only [St.put] at hb ⊢
    split at hb
    · rename_i e
      subst e
      injection hb with hb; subst hb
      exact ⟨by omega, h.newFree, fun o => h.newF (Nat.le_refl _) o, h.newO (Nat.le_refl _), by rw [heap_alloc_new]; exact hr⟩
    · obtain ⟨k1, k2⟩ := ha.box b cs' hb
      exact ⟨by omega, k2⟩
  · obtain ⟨k1, k2⟩ := ha.own g m hg
    exact ⟨by simp only [St.put]; omega, k2⟩
  · simp only [St.put, World.size_alloc]; omega
theorem RepW.newBox {w0 : Fr} {G : Gh} {s : St} {w : World} (h : RepW w0 G s w) (vs : Array Value) (t : TypeId) (cs : List V) (hl : vs.size = cs.length) (h1 : ∀ (i : Nat) (v : Value), vs[i]? = some v → v.oneCell' = true)
    (hr : ∀ (i : Nat) (c : V) (v : Value), cs[i]? = some c → vs[i]? = some v → Rep1 G c v) : RepW w0 G (s.put w.heap.size cs) (w.alloc (.cells vs t)) := h.newObj _ _ (.cells vs t cs hl h1 hr)

/-- A box is turned. -/
theorem RepW.setObj {w0 : Fr} {G : Gh} {s : St} {w : World} (h : RepW w0 G s w) {b : Nat} {cs : List V} (hb : s.box b = some cs) (w' : World) (cs' : List V)
    (hrest : ∀ k, k ≠ b → w'.heap[k]? = w.heap[k]?) (hsz : w'.heap.size = w.heap.size) (hos : w'.os = w.os) (htape : w'.tape = w.tape) (hout : w'.output = w.output) (hr : RepB G w'.heap[b]? cs') : RepW w0 G (s.put b cs') w' := by
  obtain ⟨hlt, hge, hF, hO, _⟩ := h.box b cs hb
  have hs := h.sz
  refine ⟨fun b' o v hf => ?_, fun g x hx => by rw [hsz]; exact h.O g x hx, fun b' cs2 hb' => ?_, fun g m hg => ?_, ?_, ?_, fun c x hx => ⟨by rw [hrest c (fun e => by subst e; rw [hge.2] at hx; cases hx)]; exact (h.fr c x hx).1, (h.fr c x hx).2⟩⟩
  · have hne : b' ≠ b := fun e => by subst e; rw [hF o] at hf; cases hf
    have := h.F b' o v hf
    rwa [World.cell?_of_block (w := w) (w' := w') (a := ⟨b', o, none⟩) (hrest b' hne)]
  · simp only [St.put] at hb' ⊢
    split at hb'
    · rename_i e
      subst e
      injection hb' with hb'; subst hb'
      exact ⟨by omega, hge, hF, hO, hr⟩
    · rename_i e
      obtain ⟨k1, k2, k3, k4, k5⟩ := h.box b' cs2 hb'
      exact ⟨by omega, k2, k3, k4, by rw [hrest b' e]; exact k5⟩
  · obtain ⟨k1, k2, e, size, cap, cur, k3, k4, k5⟩ := h.own g m hg
    have hne : g ≠ b := fun e => by subst e; rw [hO] at k3; cases k3
    exact ⟨by simp only [St.put]; omega, k2, e, size, cap, cur, k3, by rw [hrest g hne]; exact k4, k5⟩
  · simp only [St.put]; omega
  · refine ⟨hos.trans h.bel.os, htape.trans h.bel.tape, hout.trans h.bel.output, by rw [hsz]; exact h.bel.size, fun i hi => ?_⟩
    rw [hrest i (by have := hge.1; omega)]
    exact h.bel.block i hi
theorem RepW.setBox {w0 : Fr} {G : Gh} {s : St} {w : World} (h : RepW w0 G s w) {b : Nat} {cs : List V} (hb : s.box b = some cs) (w' : World) (vs : Array Value) (t : TypeId) (cs' : List V) (hw : w'.heap[b]? = some (.cells vs t (0, 0)))
    (hrest : ∀ k, k ≠ b → w'.heap[k]? = w.heap[k]?) (hsz : w'.heap.size = w.heap.size) (hos : w'.os = w.os) (htape : w'.tape = w.tape) (hout : w'.output = w.output) (hl : vs.size = cs'.length) (h1 : ∀ (i : Nat) (v : Value), vs[i]? = some v → v.oneCell' = true)
    (hr : ∀ (i : Nat) (c : V) (v : Value), cs'[i]? = some c → vs[i]? = some v → Rep1 G c v) : RepW w0 G (s.put b cs') w' :=
  h.setObj hb w' cs' hrest hsz hos htape hout (by rw [hw]; exact .cells vs t cs' hl h1 hr)
end Go.Proofs.Ytlngegoamfklgaa
