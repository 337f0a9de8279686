/- The operations that make or turn memory. -/
import Derived.Test.YtlngegoamfklgaaV3
import Derived.Laws.AppendOwn
import Derived.Laws.BytesString
import Derived.Laws.MakeOwn
namespace Go.Proofs.Ytlngegoamfklgaa
open Go Go.RowKit

section
variable {P : Program} {w0 : Fr} {G : Gh} {st : St} {w : World} {A : Nat → V} {a : Act}

theorem RepL.mono {H : Gh} (hle : G.le H) {cs : List V} {vs : Array Value} (h : RepL G cs vs) : RepL H cs vs := ⟨h.len, h.one, fun i c v hc hv => (h.rep i c v hc hv).mono hle⟩
theorem RepL.agg {cs : List V} {vs : Array Value} (h : RepL G cs vs) : Rep1 G (.agg cs) (.agg vs) := .agg cs vs h.len h.one h.rep
theorem fill_sound (place : Nat → Option (Nat × Nat)) : ∀ (ps : List (Nat × Nat × V)) (parts : List (Nat × Value)) (cs : List V) (vs : Array Value),
    ps.length = parts.length → (∀ (i : Nat) (p : Nat × Nat × V) (q : Nat × Value), ps[i]? = some p → parts[i]? = some q → place q.1 = some (p.1, p.2.1) ∧ Rep1 G p.2.2 q.2) → (fillV cs ps).1 → RepL G cs vs →
    ∃ us, Instr.fill place vs parts = some us ∧ RepL G (fillV cs ps).2 us
  | [], [], cs, vs, _, _, _, h => ⟨vs, rfl, h⟩
  | [], q :: parts, _, _, hl, _, _, _ => by simp at hl
  | p :: ps, [], _, _, hl, _, _, _ => by simp at hl
  | (off, size, d) :: ps, (i, v) :: parts, cs, vs, hl, hp, hf, h => by
    obtain ⟨hpl, hr⟩ := hp 0 _ _ rfl rfl
    simp only at hpl hr
    simp only [fillV] at hf ⊢
    obtain ⟨h1, h2, h3, h4⟩ := hf
    have hc := hr.cells (by omega)
    have hs := h.splice hc (off := off) (by omega)
    obtain ⟨us, hu, hus⟩ := fill_sound place ps parts _ _ (by simpa using hl) (fun j p q hp1 hq => hp (j + 1) p q (by simpa using hp1) (by simpa using hq)) h4 hs
    refine ⟨us, ?_, hus⟩
    have e1 : v.cells.size = size := by rw [hc.len, h1]
    have e2 := h.len
    simp only [Instr.fill, hpl]
    rw [if_neg (by simp; omega)]
    exact hu
theorem zero_sound {t : TypeId} {z : List V} (h : zeroCells' P t = some z) (w : World) : ∃ v, (zeroValue t).run P w = .ok v w ∧ RepL G z v.cells ∧ v.cells.size = z.length := by
  unfold zeroCells' at h
  split at h
  · rename_i i hi
    split at h
    · rename_i v hv
      split at h
      · rename_i hc
        simp only [Option.some.injEq] at h
        subst h
        refine ⟨v, by simp [zeroValue, typeInfo, hi, hv], ⟨by simp, fun j u hu => ?_, fun j c u hcc hu => ?_⟩, by simp⟩
        · simp only [Bool.and_eq_true, Array.all_eq_true_iff_forall_mem] at hc
          exact hc.2 u (Array.mem_of_getElem? hu)
        · simp only [Bool.and_eq_true, Array.all_eq_true_iff_forall_mem] at hc
          simp only [List.getElem?_map, Array.getElem?_toList, hu, Option.map_some, Option.some.injEq] at hcc
          subst hcc
          exact cellV_rep G (hc.2 u (Array.mem_of_getElem? hu))
      · cases h
    · cases h
  · cases h
theorem mapM_run {α β : Type} (f : α → Option β) (g : α → Sem β) (hfg : ∀ x y, f x = some y → ∀ w, (g x).run P w = .ok y w) : ∀ (l : List α) (r : List β), l.mapM f = some r → ∀ w, (l.mapM g).run P w = .ok r w
  | [], r, h, w => by simp at h; subst h; simp
  | x :: l, r, h, w => by
    simp only [List.mapM_cons, Option.pure_def, Option.bind_eq_bind, Option.bind_eq_some_iff, Option.some.injEq] at h
    obtain ⟨y, hy, ys, hys, rfl⟩ := h
    simp [List.mapM_cons, hfg x y hy w, mapM_run f g hfg l ys hys w]
theorem places_run {fields : Array Field} {pl : Array (Nat × Nat)} (h : (fields.mapM fun f => (P.info? f.type).map fun i => (f.offset, i.size)) = some pl) (w : World) :
    ((fields.mapM fun f => do pure (f.offset, ← sizeOf f.type) : Sem (Array (Nat × Nat)))).run P w = .ok pl w := by
  rw [Array.mapM_eq_mapM_toList] at h ⊢
  simp only [Option.map_eq_map, Option.map_eq_some_iff] at h
  obtain ⟨l, hl, rfl⟩ := h
  have := mapM_run (P := P) (fun f : Field => (P.info? f.type).map fun i => (f.offset, i.size)) (fun f => do pure (f.offset, ← sizeOf f.type)) (fun x y hxy w => by
    simp only [Option.map_eq_some_iff] at hxy
    obtain ⟨i, hi, rfl⟩ := hxy
    simp [run_sizeOf' hi]) fields.toList l hl w
  rw [Sem.run_map, this]; rfl

theorem build_sound {t : TypeId} {z : List V} {pl : Array (Nat × Nat)} (hz : zeroCells' P t = some z) (hpl : places P t = some pl) {parts : List (Nat × Value)} {ps : List (Nat × Nat × V)} (hlen : ps.length = parts.length)
    (hp : ∀ (i : Nat) (p : Nat × Nat × V) (q : Nat × Value), ps[i]? = some p → parts[i]? = some q → pl[q.1]? = some (p.1, p.2.1) ∧ Rep1 G p.2.2 q.2) (h : (fillV z ps).1) (w : World) :
    ∃ r, (Instr.build t parts.toArray).run P w = .ok r w ∧ Rep1 G (.agg (fillV z ps).2) r := by
  obtain ⟨v, hv, hvr, _⟩ := zero_sound (G := G) hz w
  unfold places at hpl
  split at hpl
  · rename_i fields hu
    obtain ⟨us, hf, hus⟩ := fill_sound (fun i => pl[i]?) ps parts z v.cells hlen hp h hvr
    refine ⟨.agg us, ?_, hus.agg⟩
    simp only [Instr.build, Sem.run_bind, hv, Result.andThen_ok, run_underlying hu, places_run hpl, hf]
    rfl
  · rename_i n elem hu
    simp only [Option.map_eq_some_iff] at hpl
    obtain ⟨i, hi, rfl⟩ := hpl
    obtain ⟨us, hf, hus⟩ := fill_sound (fun j => some (j * i.size, i.size)) ps parts z v.cells hlen (fun j p q h1 h2 => by
      obtain ⟨h3, h4⟩ := hp j p q h1 h2
      refine ⟨?_, h4⟩
      simp only [Array.getElem?_map, Array.getElem?_range, Option.map_eq_some_iff] at h3
      obtain ⟨m, hm, e⟩ := h3
      split at hm
      · simp only [Option.some.injEq] at hm; subst hm; rw [e]
      · cases hm) h hvr
    refine ⟨.agg us, ?_, hus.agg⟩
    simp only [Instr.build, Sem.run_bind, hv, Result.andThen_ok, run_underlying hu, run_sizeOf' hi, hf]
    rfl
  · cases hpl

/-! ### New rows -/
theorem strip_rep {d : V} {v : Value} (h : Rep1 G d v) : Rep1 G (strip d) v := by
  have one : ∀ {d : V} {v : Value}, Rep1 G d v → Rep1 G (strip1 d) v := fun {d v} h => by
    cases h with
    | nil own ho => exact .nil .no (fun g k e => by cases e)
    | emp a cap hm => exact .emp a cap hm
    | sl own l b o k cap u hk hF h1 hr hcap hm ho hown => exact .sl .no l b o k cap u hk hF h1 hr hcap hm (by simp) (fun g k' e => by cases e)
    | any => exact .any _
    | und => exact .und
    | sc _ h1 => exact .sc _ h1
    | agg cs vs hl h1 hr => exact .agg cs vs hl h1 hr
    | tup cs vs hl hr => exact .tup cs vs hl hr
    | ep cs off b o u hF h1 hr => exact .ep cs off b o u hF h1 hr
  cases h with
  | agg cs vs hl h1 hr =>
    refine .agg _ vs (by simpa using hl) h1 (fun i c v hc hv => ?_)
    simp only [List.getElem?_map, Option.map_eq_some_iff] at hc
    obtain ⟨c', hc', rfl⟩ := hc
    exact one (hr i c' v hc' hv)
  | any => exact one (.any _)
  | und => exact one .und
  | sc _ h1 => exact one (.sc _ h1)
  | tup cs vs hl hr => exact one (.tup cs vs hl hr)
  | nil own ho => exact one (.nil own ho)
  | emp a cap hm => exact one (.emp a cap hm)
  | sl own l b o k cap u hk hF h1 hr hcap hm ho hown => exact one (.sl own l b o k cap u hk hF h1 hr hcap hm ho hown)
  | ep cs off b o u hF h1 hr => exact one (.ep cs off b o u hF h1 hr)
theorem allLen_of' {size : Nat} : ∀ {l : List V}, allSz size l → allLen size l
  | [], _ => trivial
  | d :: ds, h => ⟨h d (by simp), allLen_of' fun x hx => h x (by simp [hx])⟩
theorem allLen_get {size : Nat} : ∀ {l : List V} (_ : allLen size l) {i : Nat} {d : V} (_ : l[i]? = some d), d.cells.length = size
  | d :: ds, h, 0, d', hd => by simp at hd; subst hd; exact h.1
  | d :: ds, h, i + 1, d', hd => allLen_get h.2 (by simpa using hd)
theorem allLen_flat {size : Nat} : ∀ {l : List V} (_ : allLen size l), (l.flatMap V.cells).length = l.length * size
  | [], _ => by simp
  | d :: ds, h => by simp only [List.flatMap_cons, List.length_append, h.1, allLen_flat h.2, List.length_cons, Nat.add_mul]; omega
theorem flat_get {size : Nat} : ∀ {l : List V} (_ : allLen size l) (i j : Nat) {d : V} (_ : l[i]? = some d) (_ : j < size), (l.flatMap V.cells)[i * size + j]? = d.cells[j]?
  | d :: ds, h, 0, j, d', hd, hj => by
    simp at hd; subst hd
    rw [List.flatMap_cons, List.getElem?_append_left (by rw [h.1]; omega)]
    congr 1; omega
  | d :: ds, h, i + 1, j, d', hd, hj => by
    rw [List.flatMap_cons, List.getElem?_append_right (by rw [h.1, Nat.add_mul]; omega), h.1]
    rw [show (i + 1) * size + j - size = i * size + j by rw [Nat.add_mul]; omega]
    exact flat_get h.2 i j (by simpa using hd) hj
/-- A whole block's cells stand for the elements of a slice that lies in it from its beginning. -/
theorem row_rep {b size cap : Nat} {l : List V} {us : Array Value} (hl : allLen size l) (hus : RepL G (l.flatMap V.cells) us) (hF : ∀ o v, us[o]? = some v → G.F b o = some v) (hcap : l.length ≤ cap) (hm : cap ≤ maxLen) (own : Tk) (ho : own ≠ .nil)
    (hown : ∀ g k', own = .own g k' → b = g ∧ k' = size ∧ ∃ e, G.O g = some (e, size, cap)) : Rep1 G (.sl own l) (.slice (some ⟨b, 0, none⟩) l.length cap) := by
  have hlen := hus.len
  rw [allLen_flat hl] at hlen
  have hlt : ∀ i j, i < l.length → j < size → i * size + j < us.size := fun i j hi hj => by
    rw [hlen]
    have : (i + 1) * size ≤ l.length * size := Nat.mul_le_mul_right _ hi
    rw [Nat.add_mul] at this; omega
  refine .sl own l b 0 size cap (fun i j => us.getD (i * size + j) undef) (fun i d hd => allLen_get hl hd) (fun i j hi hj => ?_) (fun i j hi hj => ?_) (fun i d j c hd hc => ?_) hcap hm ho (fun g k' e => ⟨(hown g k' e).1, rfl, (hown g k' e).2⟩)
  · have := hlt i j hi hj
    rw [Nat.zero_add]
    exact hF _ _ (by simp [Array.getElem?_eq_getElem this])
  · have := hlt i j hi hj
    exact hus.one _ _ (by rw [Array.getElem?_eq_getElem this]; simp [this])
  · have hj : j < size := by have := (List.getElem?_eq_some_iff.1 hc).1; rw [allLen_get hl hd] at this; exact this
    have := hlt i j (List.getElem?_eq_some_iff.1 hd).1 hj
    refine hus.rep (i * size + j) c _ (by rw [flat_get hl i j hd hj]; exact hc) (by rw [Array.getElem?_eq_getElem this]; simp [this])

/-- The ghost learns of a new row of the call's own: its first m elements are known. -/
def Gh.addRow (G : Gh) (H : Nat) (us : Array Value) (e : TypeId) (size cap m : Nat) : Gh :=
  ⟨fun b o => if b = H then (if o < m * size then us[o]? else none) else G.F b o, fun g => if g = H then some (e, size, cap) else G.O g⟩
theorem RepW.addRow {H : Nat} (h : RepW w0 G st w) (hH : w.heap.size = H) (us : Array Value) (e : TypeId) (size cap m : Nat) (hs : us.size = cap * size) (hmc : m ≤ cap) (hc : cap ≤ maxLen) :
    G.le (G.addRow H us e size cap m) ∧ RepW w0 (G.addRow H us e size cap m) (st.use H m) (w.alloc (.cells us e)) := by
  subst hH
  have hF := fun o => h.newF (b := w.heap.size) (Nat.le_refl _) o
  have hO := h.newO (b := w.heap.size) (Nat.le_refl _)
  have hle : G.le (G.addRow w.heap.size us e size cap m) := by
    refine ⟨fun b o v hf => ?_, fun g x hx => ?_⟩
    · simp only [Gh.addRow]
      split
      · rename_i e; subst e; rw [hF o] at hf; cases hf
      · exact hf
    · simp only [Gh.addRow]
      split
      · rename_i e; subst e; rw [hO] at hx; cases hx
      · exact hx
  have ha := h.alloc (.cells us e)
  have hsz := h.sz
  refine ⟨hle, fun b o v hf => ?_, fun g x hx => ?_, fun b cs hb => ?_, fun g m' hg => ?_, ?_, ha.bel, fun b x hx => ?_⟩
  · simp only [Gh.addRow] at hf
    split at hf
    · rename_i e; subst e
      split at hf
      · rw [World.cell?_alloc_new]; exact hf
      · cases hf
    · exact ha.F b o v hf
  · simp only [Gh.addRow] at hx
    split at hx
    · rename_i e; subst e; simp
    · exact ha.O g x hx
  · obtain ⟨h1, h2, h3, h4, h5⟩ := ha.box b cs hb
    have hne : b ≠ w.heap.size := by omega
    exact ⟨by simp only [St.use]; omega, h2, fun o => by simp only [Gh.addRow, if_neg hne]; exact h3 o, by simp only [Gh.addRow, if_neg hne]; exact h4, h5.mono hle⟩
  · simp only [St.use] at hg ⊢
    split at hg
    · rename_i e'; subst e'
      injection hg with hg; subst hg
      refine ⟨by omega, h.newFree, e, size, cap, us, by simp [Gh.addRow], heap_alloc_new _ _, hs, hmc, hc, fun o ho => ?_⟩
      simp only [Gh.addRow, if_true]
      rw [if_neg (by omega)]
    · obtain ⟨h1, h2, e', size', cap', cur, h3, h4, h5, h6, h7, h8⟩ := ha.own g m' hg
      have hne : g ≠ w.heap.size := by omega
      exact ⟨by omega, h2, e', size', cap', cur, by simp only [Gh.addRow, if_neg hne]; exact h3, h4, h5, h6, h7, fun o ho => by simp only [Gh.addRow, if_neg hne]; exact h8 o ho⟩
  · simp only [St.use, World.size_alloc]; omega
  · have hne : b ≠ w.heap.size := by have := h.frLt hx; omega
    exact ⟨(ha.fr b x hx).1, fun o => by simp only [Gh.addRow, if_neg hne]; exact (h.fr b x hx).2.1 o, by simp only [Gh.addRow, if_neg hne]; exact (h.fr b x hx).2.2⟩
/-- The ghost learns of more elements of a row of the call's own. -/
def Gh.more (G : Gh) (g : Nat) (us : Array Value) (a b : Nat) : Gh := { G with F := fun b' o => if b' = g ∧ a ≤ o ∧ o < b then us[o]? else G.F b' o }
theorem RepW.more (h : RepW w0 G st w) {g m : Nat} (hg : st.own g = some m) {e : TypeId} {size cap : Nat} (hO : G.O g = some (e, size, cap)) {cur : Array Value} {e' : TypeId} (hh : w.heap[g]? = some (.cells cur e' (0, 0))) (us : Array Value) (m' : Nat) (hm : m ≤ m') (hmc : m' ≤ cap) (hus : us.size = cap * size)
    (hsame : ∀ o, o < m * size → us[o]? = cur[o]?) : G.le (G.more g us (m * size) (m' * size)) ∧ RepW w0 (G.more g us (m * size) (m' * size)) (st.use g m') (w.setRow g us) := by
  obtain ⟨k1, k2, e2, size2, cap2, cur2, k3, k4, k5, k6, k7, k8⟩ := h.own g m hg
  rw [hO] at k3; cases k3
  rw [hh] at k4; cases k4
  have hmul : m * size ≤ m' * size := Nat.mul_le_mul_right _ hm
  have hle : G.le (G.more g us (m * size) (m' * size)) := by
    refine ⟨fun b o v hf => ?_, fun g x hx => hx⟩
    simp only [Gh.more]
    split
    · rename_i hc
      rw [hc.1, k8 o hc.2.1] at hf; cases hf
    · exact hf
  have hset := setRow_heap w g cur us _ _ hh
  refine ⟨hle, fun b o v hf => ?_, fun g' x hx => by simp; exact h.O g' x hx, fun b cs hb => ?_, fun g' m2 hg' => ?_, ?_, ?_, fun c x hx => ?_⟩
  · simp only [Gh.more] at hf
    split at hf
    · rename_i hc
      rw [hc.1, cell_of_row _ g o us _ _ hset]; exact hf
    · rename_i hc
      by_cases hb : b = g
      · subst hb
        have hlt : o < m * size := by
          rcases Nat.lt_or_ge o (m * size) with hlt | hge
          · exact hlt
          · rw [k8 o hge] at hf; cases hf
        have := h.F b o v hf
        rw [cell_of_row _ b o cur _ _ hh] at this
        rw [cell_of_row _ b o us _ _ hset, hsame o hlt]; exact this
      · rw [cell_setRow_other w g us _ hb]; exact h.F b o v hf
  · obtain ⟨h1, h2, h3, h4, h5⟩ := h.box b cs hb
    have hne : b ≠ g := fun e => by subst e; rw [hO] at h4; cases h4
    exact ⟨by simp only [St.use]; omega, h2, fun o => by simp only [Gh.more]; rw [if_neg (fun hc => hne hc.1)]; exact h3 o, h4, by rw [setRow_other w g b us hne]; exact h5.mono hle⟩
  · simp only [St.use] at hg' ⊢
    split at hg'
    · rename_i e3; subst e3
      injection hg' with hg'; subst hg'
      refine ⟨by omega, k2, e, size, cap, us, hO, ?_, hus, hmc, k7, fun o ho => ?_⟩
      · obtain ⟨h1, h2, e3, size3, cap3, cur3, j1, j2, _⟩ := h.own g' m hg
        rw [hO] at j1; cases j1
        rw [hh] at j2; cases j2
        exact hset
      · simp only [Gh.more]
        rw [if_neg (by omega)]
        exact k8 o (by omega)
    · rename_i hne
      obtain ⟨h1, h2, e3, size3, cap3, cur3, h3, h4, h5, h6, h7, h8⟩ := h.own g' m2 hg'
      exact ⟨by omega, h2, e3, size3, cap3, cur3, h3, by rw [setRow_other w g g' us hne]; exact h4, h5, h6, h7, fun o ho => by simp only [Gh.more]; rw [if_neg (fun hc => hne hc.1)]; exact h8 o ho⟩
  · have := h.sz; simp only [St.use, size_setRow]; omega
  · refine ⟨h.bel.os, h.bel.tape, h.bel.output, by simp; exact h.bel.size, fun i hi => ?_⟩
    rw [setRow_other w g i us (by have := k2.1; omega)]
    exact h.bel.block i hi
  · have hne : c ≠ g := fun e => by subst e; rw [k2.2] at hx; cases hx
    exact ⟨by rw [setRow_other w g c us hne]; exact (h.fr c x hx).1, fun o => by simp only [Gh.more]; rw [if_neg (fun hc => hne hc.1)]; exact (h.fr c x hx).2.1 o, (h.fr c x hx).2.2⟩

/-- A slice that may be appended to, and what it holds. -/
def Own (size : Nat) (st : St) (v : V) (l : List V) : Prop := (v = .sl .nil [] ∧ l = []) ∨ ∃ g, v = .sl (.own g size) l ∧ st.own g = some l.length ∧ g < st.sz
/-- What an append leaves of the state. -/
structure AppSt (st : St) (x : V) (st' : St) (r : V) : Prop where
  box : st'.box = st.box
  lt : (∀ g m, st.own g = some m → g < st.sz) → ∀ g m, st'.own g = some m → g < st'.sz
  sz : st.sz ≤ st'.sz
  own : ∀ g m, st.own g = some m → (∀ l k, x ≠ .sl (.own g k) l) → st'.own g = some m
  tok : ∀ g k l, r = .sl (.own g k) l → (∃ l', x = .sl (.own g k) l') ∨ st.sz ≤ g

theorem use_lt {st : St} {g0 m0 : Nat} (h : ∀ g m, st.own g = some m → g < st.sz) : ∀ g m, (st.use g0 m0).own g = some m → g < (st.use g0 m0).sz := fun g m hg => by
  simp only [St.use] at hg ⊢
  split at hg
  · omega
  · have := h g m hg; omega
/-- The cells of a slice's elements, in a row. -/
theorem Rep1.flat {own : Tk} {l : List V} {b : Addr} {n c size : Nat} (h : Rep1 G (.sl own l) (.slice (some b) n c)) (hw : RepW w0 G st w) (hs : allSz size l) :
    n = l.length ∧ ∃ us : Array Value, RepL G (l.flatMap V.cells) us ∧ us.size = l.length * size ∧ ∀ (j : Nat) (v : Value), us.toList[j]? = some v → w.cell? (b.add j) = some v := by
  cases h with
  | emp => exact ⟨rfl, #[], ⟨rfl, fun i v hv => by simp at hv, fun i c v hc => by simp at hc⟩, by simp, fun j v hv => by simp at hv⟩
  | sl _ _ b o k cap u hk hF h1 hr hcap hm ho hown =>
    refine ⟨rfl, ?_⟩
    have key : ∀ (l' : List V) (i0 : Nat), (∀ (i : Nat) (d : V), l'[i]? = some d → l[i0 + i]? = some d) → ∃ us : Array Value, RepL G (l'.flatMap V.cells) us ∧ us.size = l'.length * size ∧
        ∀ (j : Nat) (v : Value), us.toList[j]? = some v → w.cell? ((⟨b, o, none⟩ : Addr).add (i0 * size + j)) = some v := by
      intro l'
      induction l' with
      | nil => exact fun i0 _ => ⟨#[], ⟨rfl, fun i v hv => by simp at hv, fun i c v hc => by simp at hc⟩, by simp, fun j v hv => by simp at hv⟩
      | cons d ds ih =>
        intro i0 hget
        obtain ⟨us, h2, h3, h4⟩ := ih (i0 + 1) (fun i d' hd => by rw [show i0 + 1 + i = i0 + (i + 1) by omega]; exact hget (i + 1) d' (by simpa using hd))
        have hd0 := hget 0 d rfl
        rw [Nat.add_zero] at hd0
        have hlt := (List.getElem?_eq_some_iff.1 hd0).1
        have hdl : d.cells.length = size := hs d (List.mem_of_getElem? hd0)
        have hkk := hk _ _ hd0
        have hks : k = size := by omega
        subst hks
        let vs : Array Value := ((List.range k).map fun j => u i0 j).toArray
        have hvs : vs.size = k := by simp [vs]
        have hvg : ∀ (j : Nat) (v : Value), vs[j]? = some v → j < k ∧ v = u i0 j := fun j v hv => by
          simp only [vs, List.getElem?_toArray, List.getElem?_map] at hv
          have hj : j < k := by
            rcases Nat.lt_or_ge j k with h | h
            · exact h
            · rw [List.getElem?_eq_none (by simpa using h)] at hv; simp at hv
          rw [List.getElem?_range hj] at hv
          simp at hv
          exact ⟨hj, hv.symm⟩
        refine ⟨vs ++ us, ⟨?_, fun i v hv => ?_, fun i c v hc hv => ?_⟩, ?_, fun j v hv => ?_⟩
        · simp only [List.flatMap_cons, List.length_append, Array.size_append, hvs, hdl, h2.len]
        · rw [Array.getElem?_append] at hv
          split at hv
          · obtain ⟨hj, rfl⟩ := hvg _ _ hv; exact h1 _ _ hlt hj
          · exact h2.one _ _ hv
        · rw [Array.getElem?_append, hvs] at hv
          rw [List.flatMap_cons, List.getElem?_append, hdl] at hc
          by_cases hi : i < k
          · rw [if_pos hi] at hv hc
            obtain ⟨hj, rfl⟩ := hvg _ _ hv
            exact hr _ _ _ _ hd0 hc
          · rw [if_neg hi] at hv hc
            exact h2.rep _ _ _ hc hv
        · simp only [Array.size_append, hvs, h3, List.length_cons, Nat.add_mul]; omega
        · rw [Array.toList_append, List.getElem?_append, Array.length_toList, hvs] at hv
          by_cases hi : j < k
          · rw [if_pos hi] at hv
            obtain ⟨hj, rfl⟩ := hvg j v (by simpa using hv)
            rw [addr_add, ← Nat.add_assoc]
            exact hw.F _ _ _ (hF _ _ hlt hj)
          · rw [if_neg hi] at hv
            have := h4 (j - k) v hv
            rwa [show (i0 + 1) * k + (j - k) = i0 * k + j by rw [Nat.add_mul]; omega] at this
    obtain ⟨us, h2, h3, h4⟩ := key l 0 (fun i d hd => by rw [Nat.zero_add]; exact hd)
    exact ⟨us, h2, h3, fun j v hv => by have := h4 j v hv; rwa [Nat.zero_mul, Nat.zero_add] at this⟩

/-! ### Bytes as a string; a slice that is made -/
theorem u8sOf_get : ∀ {l : List V} {ns : List Int}, u8sOf l = some ns → l = ns.map fun n => .sc (.int .u8 n)
  | [], ns, h => by simp [u8sOf] at h; subst h; rfl
  | .sc (.int .u8 n) :: l, ns, h => by
    simp only [u8sOf, Option.map_eq_some_iff] at h
    obtain ⟨m, hm, rfl⟩ := h
    rw [u8sOf_get hm]; rfl
  | .any :: l, ns, h => by simp [u8sOf] at h
  | .und :: l, ns, h => by simp [u8sOf] at h
  | .agg _ :: l, ns, h => by simp [u8sOf] at h
  | .tup _ :: l, ns, h => by simp [u8sOf] at h
  | .sl _ _ :: l, ns, h => by simp [u8sOf] at h
  | .ep _ _ :: l, ns, h => by simp [u8sOf] at h
  | .sc v :: l, ns, h => by
    cases v with
    | int k n => cases k <;> first | (simp only [u8sOf, Option.map_eq_some_iff] at h; obtain ⟨m, hm, rfl⟩ := h; rw [u8sOf_get hm]; rfl) | simp [u8sOf] at h
    | _ => simp [u8sOf] at h
theorem vb2s_sound {s d : TypeId} (h2 : b2s? P s d = true) (hw : RepW w0 G st w) {x : V} {u : Value} (hx : Rep1 G x u) (h : (vb2s x).1) : ∃ r, (convert s d u).run P w = .ok r w ∧ Rep1 G (vb2s x).2 r := by
  unfold b2s? at h2
  split at h2
  · rename_i e hs hd
    have he : P.underlying e = some (.int .u8) := by
      split at h2
      · assumption
      · cases h2
    unfold vb2s at h ⊢
    split at h
    · rename_i own l
      split at h
      · rename_i ns hns
        have hl := u8sOf_get hns
        refine ⟨.string (strOf ns), ?_, .sc _ rfl⟩
        have hsz : allSz 1 l := fun d hd' => by
          rw [hl] at hd'
          obtain ⟨n, _, rfl⟩ := List.mem_map.1 hd'
          rfl
        have hsl : ∃ A0 n c, u = .slice A0 n c := by cases hx <;> exact ⟨_, _, _, rfl⟩
        obtain ⟨A0, n, c, rfl⟩ := hsl
        rw [run_convert_bytes_string w s d e A0 n c hs he hd]
        cases A0 with
        | none =>
          cases hx
          simp [u8sOf] at hns
          subst hns
          rfl
        | some b =>
          obtain ⟨hn, us, hus, husz, huc⟩ := hx.flat hw hsz
          have hue : us = (ns.map (Value.int .u8)).toArray := by
            have hlen : l.length = ns.length := by rw [hl]; simp
            refine Array.ext_getElem? fun i => ?_
            by_cases hi : i < us.size
            · have h1 : us[i]? = some us[i] := Array.getElem?_eq_getElem hi
              have hin : i < ns.length := by omega
              have hc : (l.flatMap V.cells)[i]? = some (.sc (.int .u8 ns[i])) := by
                have := flat_get (allLen_of' hsz) i 0 (d := .sc (.int .u8 ns[i])) (by rw [hl]; simp [hin]) (by omega)
                simpa [V.cells] using this
              have := hus.rep i _ _ hc h1
              rw [h1, this.sc_inv]
              simp [hin]
            · rw [Array.getElem?_eq_none (by omega), Array.getElem?_eq_none (by simp; omega)]
          subst hn
          have hload : (loadCells b l.length).run P w = .ok (ns.map (Value.int .u8)).toArray w := by
            have := run_loadCells_list (P := P) w b us.toList (fun j v hv => huc j v hv)
            rw [show us.toList.length = l.length by simp [husz]] at this
            rw [this, ← hue]
          rw [run_bytesToString w b l.length c ns hload]
          rfl
      · exact h.elim
    · exact h.elim
  · cases h2
theorem vb2sB_sound {s d : TypeId} (h2 : b2s? P s d = true) (hw : RepW w0 G st w) {x : V} {u : Value} (hx : Rep1 G x u) (h : (vb2sB st x).1) : ∃ r, (convert s d u).run P w = .ok r w ∧ Rep1 G (vb2sB st x).2 r := by
  unfold b2s? at h2
  split at h2
  · rename_i e hs hd
    have he : P.underlying e = some (.int .u8) := by
      split at h2
      · assumption
      · cases h2
    unfold vb2sB at h ⊢
    split at h
    · rename_i b o n c
      split at h
      · rename_i cs hb
        split at h
        · rename_i ns hns
          simp only [hb, hns] at h ⊢
          refine ⟨.string (strOf ns), ?_, .sc _ rfl⟩
          rw [hx.sc_inv, run_convert_bytes_string w s d e _ n c hs he hd]
          obtain ⟨h, hmo⟩ := h
          obtain ⟨uu, hc, h1, hr⟩ := hw.boxCells hb hmo
          have hl := u8sOf_get hns
          have hlen : ns.length = n := by
            have := congrArg List.length hl
            simp only [List.length_take, List.length_drop, List.length_map] at this
            omega
          have hget : ∀ j, j < n → uu (o + j) = .int .u8 (ns.getD j 0) := fun j hj => by
            have h3 : cs[o + j]? = some (.sc (.int .u8 (ns.getD j 0))) := by
              have h4 : ((cs.drop o).take n)[j]? = some (.sc (.int .u8 (ns.getD j 0))) := by
                rw [hl, List.getElem?_map, List.getD_eq_getElem?_getD, List.getElem?_eq_getElem (by omega)]
                rfl
              rw [List.getElem?_take, if_pos hj, List.getElem?_drop] at h4
              exact h4
            exact (hr _ _ h3).sc_inv
          have hload : (loadCells ⟨b, o, none⟩ n).run P w = .ok (ns.map (Value.int .u8)).toArray w := by
            have := run_loadCells_list (P := P) w ⟨b, o, none⟩ (ns.map (Value.int .u8)) (fun j v hj => by
              have hj' := (List.getElem?_eq_some_iff.1 hj).1
              rw [List.length_map] at hj'
              simp only [List.getElem?_map, Option.map_eq_some_iff] at hj
              obtain ⟨y, hy, rfl⟩ := hj
              have := hc (o + j) (by omega)
              rw [Nat.zero_add] at this
              rw [addr_add, this, hget j (by omega)]
              simp [hy])
            rw [List.length_map, hlen] at this
            exact this
          rw [run_bytesToString w ⟨b, o, none⟩ n c ns hload]
          rfl
        · exact h.elim
      · exact h.elim
    · exact h.elim
  · cases h2
theorem vs2a_sound {arr e : TypeId} {i : TypeInfo} {n : Nat} (hu : P.underlying arr = some (.array n e)) (hi0 : 0 < i.size) {x : V} {u : Value} (hx : Rep1 G x u) (h : (vs2a n i.size x).1) : ∃ r, (Instr.arrayAt arr u).run P w = .ok r w ∧ Rep1 G (vs2a n i.size x).2 r := by
  unfold vs2a at h ⊢
  split at h
  · rename_i own l
    obtain ⟨h1, h2, h3⟩ := h
    cases hx with
    | nil => simp at h3
    | emp => simp at h3
    | sl _ _ b o k cap uu hk hF hone hr hcap =>
      have hkk : k = i.size := by
        have h0 : l[0]? = some l[0] := List.getElem?_eq_getElem h3
        rw [← hk 0 _ h0]
        exact h1 _ (List.getElem_mem h3)
      subst hkk
      have hfl : (l.flatMap V.cells).length = l.length * i.size := allLen_flat (allLen_of' h1)
      have hdm : ∀ j, j < (l.flatMap V.cells).length → j / i.size < l.length ∧ j % i.size < i.size ∧ j / i.size * i.size + j % i.size = j := fun j hj => by
        rw [hfl] at hj
        exact ⟨Nat.div_lt_of_lt_mul (by rw [Nat.mul_comm]; exact hj), Nat.mod_lt _ hi0, Nat.div_add_mod' _ _⟩
      refine ⟨.pointer (some ⟨b, o, none⟩), by simp [Instr.arrayAt, run_underlying hu]; omega, ?_⟩
      have := Rep1.ep (G := G) (l.flatMap V.cells) 0 b o (fun j => uu (j / i.size) (j % i.size)) (fun j hj => by
        obtain ⟨q1, q2, q3⟩ := hdm j hj
        have := hF _ _ q1 q2
        rw [show o + j / i.size * i.size + j % i.size = o + j by omega] at this
        exact this) (fun j hj => by
        obtain ⟨q1, q2, q3⟩ := hdm j hj
        exact hone _ _ q1 q2) (fun j c hc => by
        have hj := (List.getElem?_eq_some_iff.1 hc).1
        obtain ⟨q1, q2, q3⟩ := hdm j hj
        have hd : l[j / i.size]? = some l[j / i.size] := List.getElem?_eq_getElem q1
        have := flat_get (allLen_of' h1) _ _ hd q2
        rw [q3, hc] at this
        exact hr _ _ _ _ hd this.symm)
      simpa using this
  · rename_i b o m c
    rw [hx.sc_inv]
    have h1 : n ≤ m := h
    refine ⟨.pointer (some ⟨b, o, none⟩), by simp [Instr.arrayAt, run_underlying hu]; omega, .sc _ rfl⟩
  · exact h.elim
end
end Go.Proofs.Ytlngegoamfklgaa
