/- New slices, boxes, stores, appends: what they leave. -/
import Derived.Test.YtlngegoamfklgaaV4
import Derived.Lib.ConvBytes
namespace Go.Proofs.Ytlngegoamfklgaa
open Go Go.RowKit

section
variable {P : Program} {w0 : Fr} {G : Gh} {st : St} {w : World} {A : Nat → V} {a : Act}

def rowsP (size : Nat) : Nat → List V → List (Nat × Nat × V)
  | _, [] => []
  | i, d :: ds => (i * size, size, d) :: rowsP size (i + 1) ds
theorem rowsP_len (size : Nat) : ∀ (ds : List V) (i : Nat), (rowsP size i ds).length = ds.length
  | [], _ => rfl
  | d :: ds, i => by simp [rowsP, rowsP_len size ds (i + 1)]
theorem rowsP_get (size : Nat) : ∀ (ds : List V) (i j : Nat) (p : Nat × Nat × V), (rowsP size i ds)[j]? = some p → ∃ d, ds[j]? = some d ∧ p = ((i + j) * size, size, d)
  | [], _, _, p, h => by simp [rowsP] at h
  | d :: ds, i, 0, p, h => by simp [rowsP] at h; exact ⟨d, rfl, h.symm⟩
  | d :: ds, i, j + 1, p, h => by
    obtain ⟨d', h1, h2⟩ := rowsP_get size ds (i + 1) j p (by simpa [rowsP] using h)
    exact ⟨d', by simpa using h1, by rw [h2, show i + 1 + j = i + (j + 1) by omega]⟩
theorem fillV_rows {size : Nat} (hs : 0 < size) : ∀ (ds : List V) (i : Nat) (pre junk : List V), allLen size ds → pre.length = i * size → junk.length = ds.length * size →
    (fillV (pre ++ junk) (rowsP size i ds)).1 ∧ (fillV (pre ++ junk) (rowsP size i ds)).2 = pre ++ ds.flatMap V.cells
  | [], i, pre, junk, _, _, hj => by
    have : junk = [] := List.eq_nil_of_length_eq_zero (by simpa using hj)
    subst this
    simp [rowsP, fillV]
  | d :: ds, i, pre, junk, hl, hp, hj => by
    simp only [List.length_cons, Nat.add_mul] at hj
    have e : splice (pre ++ junk) (i * size) d.cells = (pre ++ d.cells) ++ junk.drop size := by
      unfold splice
      rw [← hp, List.take_left, hl.1, List.drop_append]
      simp
    have ih := fillV_rows hs ds (i + 1) (pre ++ d.cells) (junk.drop size) hl.2 (by simp [hl.1, hp, Nat.add_mul]) (by simp; omega)
    simp only [rowsP, fillV, e]
    refine ⟨⟨hl.1, hs, by simp [hp]; omega, ih.1⟩, ?_⟩
    rw [ih.2]
    simp
theorem bsl_run {t elem len : Nat} {e : TypeInfo} (hu : P.underlying t = some (.slice elem)) (hi : P.info? elem = some e) (hsz : 0 < e.size) (hbig : len * e.size ≤ 16777216) {z : List V} (hz : zeroCells' P elem = some z) (hzl : z.length = e.size)
    {parts : List (Nat × Value)} (hparts : parts.map (·.1) = List.range len) {ds : List V} (hdl : ds.length = len) (hds : ∀ (i : Nat) (d : V) (q : Nat × Value), ds[i]? = some d → parts[i]? = some q → Rep1 G d q.2) (hal : allLen e.size ds) (w : World) :
    ∃ us, (Instr.buildSlice t len parts.toArray).run P w = .ok (.slice (some ⟨w.heap.size, 0, none⟩) len len) (w.alloc (.cells us elem)) ∧ RepL G (ds.flatMap V.cells) us ∧ us.size = len * e.size := by
  obtain ⟨zv, hzv, hzr, hzs⟩ := zero_sound (G := G) hz w
  have hplen : parts.length = len := by have := congrArg List.length hparts; simpa using this
  have hpi : ∀ (i : Nat) (q : Nat × Value), parts[i]? = some q → q.1 = i := fun i q hq => by
    have h1 : (parts.map (·.1))[i]? = some q.1 := by simp [hq]
    have hlt := (List.getElem?_eq_some_iff.1 hq).1
    rw [hparts, List.getElem?_range (by omega)] at h1
    simpa using h1.symm
  have hzz : zv.cells.size = e.size := by omega
  have hrow : RepL G (List.replicate (len * e.size) V.any) ((Array.range (len * e.size)).map (zv.cells[· % zv.cells.size]!)) := by
    refine ⟨by simp, fun i v hv => ?_, fun i c v hc hv => ?_⟩
    · simp only [Array.getElem?_map, Option.map_eq_some_iff] at hv
      obtain ⟨j, _, rfl⟩ := hv
      have hlt : j % zv.cells.size < zv.cells.size := Nat.mod_lt _ (by omega)
      exact hzr.one (j % zv.cells.size) _ (by rw [getElem!_pos zv.cells _ hlt]; exact Array.getElem?_eq_getElem hlt)
    · have := List.mem_of_getElem? hc
      rw [List.mem_replicate] at this
      rw [this.2]; exact .any v
  have hf := fillV_rows hsz ds 0 [] (List.replicate (len * e.size) V.any) hal (by simp) (by simp [hdl])
  rw [List.nil_append, List.nil_append] at hf
  obtain ⟨us, hfill, hus⟩ := fill_sound (G := G) (fun i => some (i * e.size, e.size)) (rowsP e.size 0 ds) parts _ _ (by rw [rowsP_len, hdl, hplen]) (fun i p q hp hq => by
    obtain ⟨d, hd, rfl⟩ := rowsP_get _ _ _ _ _ hp
    exact ⟨by rw [hpi i q hq, Nat.zero_add], hds i d q hd hq⟩) hf.1 hrow
  rw [hf.2] at hus
  have hsize : us.size = len * e.size := by rw [hus.len, allLen_flat hal, hdl]
  refine ⟨us, ?_, hus, hsize⟩
  have hz2 : (if len * e.size = 0 then (pure #[] : Sem (Array Value)) else do pure (← zeroValue elem).cells).run P w = .ok (if len * e.size = 0 then #[] else zv.cells) w := by
    split
    · rfl
    · simp [hzv]
  by_cases h0 : len = 0
  · subst h0
    have hp0 : parts = [] := List.eq_nil_of_length_eq_zero hplen
    subst hp0
    simp only [Instr.fill, Option.some.injEq] at hfill
    have hu0 : us = #[] := Array.eq_empty_of_size_eq_zero (by simpa using hsize)
    subst hu0
    simp [Instr.buildSlice, run_underlying hu, run_sizeOf' hi, Instr.fill, newRow]
    rw [show (Array.range 0).map (fun _ => (default : Value)) = #[] from Array.eq_empty_of_size_eq_zero (by simp)]
  · have hne : ¬ (len * e.size = 0) := by have := Nat.mul_pos (show 0 < len by omega) hsz; omega
    have hb : ¬ (len * e.size > 2 ^ 24) := by omega
    simp only [Instr.buildSlice, Sem.run_bind, run_underlying hu, Result.andThen_ok, run_sizeOf' hi]
    rw [if_neg hb]
    simp only [hne, if_false, Sem.run_bind, Sem.run_pure, Result.andThen_ok, hzv]
    simp only [hfill]
    simp [newRow]
theorem bsl_sound {t elem len : Nat} {e : TypeInfo} (hw : RepW w0 G st w) (hu : P.underlying t = some (.slice elem)) (hi : P.info? elem = some e) (hsz : 0 < e.size) (hbig : len * e.size ≤ 16777216) {z : List V} (hz : zeroCells' P elem = some z) (hzl : z.length = e.size)
    {parts : List (Nat × Value)} (hparts : parts.map (·.1) = List.range len) {ds : List V} (hdl : ds.length = len) (hds : ∀ (i : Nat) (d : V) (q : Nat × Value), ds[i]? = some d → parts[i]? = some q → Rep1 G d q.2) (hal : allLen e.size ds) :
    ∃ r w' G', (Instr.buildSlice t len parts.toArray).run P w = .ok r w' ∧ Rep1 G' (.sl .no ds) r ∧ G.le G' ∧ RepW w0 G' st w' := by
  obtain ⟨us, hrun, hus, hsize⟩ := bsl_run (G := G) hu hi hsz hbig hz hzl hparts hdl hds hal w
  have hle := hw.le_addF us
  refine ⟨_, _, _, hrun, ?_, hle, hw.addF us elem⟩
  have hlen : len ≤ maxLen := by
    have : len * 1 ≤ len * e.size := Nat.mul_le_mul_left _ hsz
    unfold maxLen; omega
  subst hdl
  exact row_rep hal (hus.mono hle) (fun o v hv => by simp [Gh.addF, hv]) (Nat.le_refl _) hlen .no (by simp) (fun g k e => by cases e)
theorem byL_length (s : ByteArray) : (byL s).length = s.size := by
  rw [byL, bytesOf, List.length_map, List.length_map, Array.length_toList]; rfl
theorem byL_sz (s : ByteArray) : allSz 1 (byL s) := by
  intro d hd
  simp only [byL, List.mem_map] at hd
  obtain ⟨b, _, rfl⟩ := hd
  rfl
theorem byL_flat (s : ByteArray) : (byL s).flatMap V.cells = byL s := by
  unfold byL
  induction bytesOf s with
  | nil => rfl
  | cons x l ih => rw [List.map_cons, List.flatMap_cons, ih]; rfl
theorem byL_all (s : ByteArray) : allLen 1 (byL s) := by
  unfold byL
  induction bytesOf s with
  | nil => trivial
  | cons x l ih => exact ⟨rfl, ih⟩
/-- The cells of a string's bytes. -/
def strCs (s : ByteArray) : List Value := s.data.toList.map fun b => Value.int .u8 b.toNat
theorem strCs_length (s : ByteArray) : (strCs s).length = s.size := by
  rw [strCs, List.length_map, Array.length_toList]; rfl
theorem byL_rep (G : Gh) (s : ByteArray) : RepL G ((byL s).flatMap V.cells) (strCs s).toArray := by
  rw [byL_flat]
  refine ⟨by simp [byL, bytesOf, strCs], fun i v hv => ?_, fun i c v hc hv => ?_⟩
  · simp only [strCs, List.getElem?_toArray, List.getElem?_map, Option.map_eq_some_iff] at hv
    obtain ⟨b, _, rfl⟩ := hv
    rfl
  · simp only [strCs, List.getElem?_toArray, List.getElem?_map, Option.map_eq_some_iff] at hv
    obtain ⟨b, hb, rfl⟩ := hv
    simp only [byL, bytesOf, List.getElem?_map, hb, Option.map_some, Option.some.injEq] at hc
    subst hc
    exact .sc _ rfl
theorem RepW.addF2 (h : RepW w0 G st w) (cs : Array Value) {w' : World} (hsz : w'.heap.size = w.heap.size + 1) (hold : ∀ j, j < w.heap.size → w'.heap[j]? = w.heap[j]?) (hnew : ∀ (o : Nat) (v : Value), cs[o]? = some v → w'.cell? ⟨w.heap.size, o, none⟩ = some v)
    (hos : w'.os = w.os) (htape : w'.tape = w.tape) (hout : w'.output = w.output) : RepW w0 (G.addF w.heap.size cs) st w' := by
  have hle := h.le_addF cs
  refine ⟨fun b o v hf => ?_, fun g x hx => ?_, fun b cs' hb => ?_, fun g m hg => ?_, by have := h.sz; omega, ⟨hos.trans h.bel.os, htape.trans h.bel.tape, hout.trans h.bel.output, by have := h.bel.size; omega, fun i hi => ?_⟩, fun b x hx => ⟨by rw [hold _ (h.frLt hx)]; exact (h.fr b x hx).1, fun o => ?_, (h.fr b x hx).2.2⟩⟩
  · simp only [Gh.addF] at hf
    split at hf
    · rename_i e; subst e; exact hnew o v hf
    · have := h.F b o v hf
      rwa [World.cell?_of_block (w := w) (w' := w') (a := ⟨b, o, none⟩) (hold b (World.block_lt_of_cell? _ _ this))]
  · have := h.O g x hx; omega
  · obtain ⟨h1, h2, h3, h4, h5⟩ := h.box b cs' hb
    refine ⟨h1, h2, fun o => ?_, h4, by rw [hold b (by have := h.sz; omega)]; exact h5.mono hle⟩
    simp only [Gh.addF]
    rw [if_neg (by have := h.sz; omega)]
    exact h3 o
  · obtain ⟨h1, h2, e, size, cap, cur, h3, h4, h5, h6, h7, h8⟩ := h.own g m hg
    refine ⟨h1, h2, e, size, cap, cur, h3, by rw [hold g (by have := h.sz; omega)]; exact h4, h5, h6, h7, fun o ho => ?_⟩
    simp only [Gh.addF]
    rw [if_neg (by have := h.sz; omega)]
    exact h8 o ho
  · rw [hold i (by have := h.bel.size; omega)]; exact h.bel.block i hi
  · simp only [Gh.addF]
    rw [if_neg (by have := h.frLt hx; omega)]
    exact (h.fr b x hx).2.1 o
theorem s2b_sound {src dst : TypeId} (hc : s2b? P src dst = true) {x : V} {u : Value} (hw : RepW w0 G st w) (hx : Rep1 G x u) (h : (vs2b x).1) :
    ∃ r w' G', (convert src dst u).run P w = .ok r w' ∧ Rep1 G' (vs2b x).2 r ∧ G.le G' ∧ RepW w0 G' st w' := by
  unfold s2b? at hc
  split at hc
  · rename_i e hs hd
    split at hc
    · rename_i he
      unfold vs2b at h ⊢
      split at h
      · rename_i s
        rw [hx.sc_inv]
        have hrun := Lib.run_convert_string_bytes (P := P) w src dst e s hs hd he
        have hge := grownCap_ge w s.size 0 e
        have hle := grownCap_le_maxLen w s.size 0 e h
        have hold := fun j hj => Lib.bytesWorld_at_old w e s j hj
        have hnew : ∀ (o : Nat) (v : Value), (strCs s).toArray[o]? = some v → (Lib.bytesWorld w e s).cell? ⟨w.heap.size, o, none⟩ = some v := by
          intro o v hv
          simp only [strCs, List.getElem?_toArray, List.getElem?_map, Option.map_eq_some_iff] at hv
          obtain ⟨b, hb, rfl⟩ := hv
          have hlt : o < s.size := by have := (List.getElem?_eq_some_iff.1 hb).1; simpa using this
          rw [Lib.bytesWorld_cell w e s o hlt, List.getD_eq_getElem?_getD, hb]
          rfl
        have hw' := hw.addF2 (strCs s).toArray (Lib.bytesWorld_size w e s) hold hnew rfl rfl rfl
        refine ⟨_, _, _, hrun, ?_, hw.le_addF _, hw'⟩
        have hr : RepL (G.addF w.heap.size (strCs s).toArray) ((byL s).flatMap V.cells) (strCs s).toArray := byL_rep _ s
        have := row_rep (G := G.addF w.heap.size (strCs s).toArray) (l := byL s) (size := 1) (us := (strCs s).toArray) (b := w.heap.size) (cap := grownCap w s.size 0 e) (byL_all s) hr (fun o v hv => by simp only [Gh.addF, if_true]; exact hv) (by rw [byL_length]; omega) hle .no (by simp) (fun g k e => by cases e)
        rw [byL_length] at this
        exact this
      · exact h.elim
    · cases hc
  · cases hc
theorem sidx_sound {t : TypeId} (ht : P.underlying t = some .string) {x i : V} {u v : Value} (hx : Rep1 G x u) (hi : Rep1 G i v) (h : (vsidx x i).1) (w : World) :
    ∃ r, (Instr.index t u v).run P w = .ok r w ∧ Rep1 G (vsidx x i).2 r := by
  unfold vsidx at h ⊢
  split at h
  · rename_i s k n
    split at h
    · rename_i b hb
      rw [hx.sc_inv, hi.sc_inv]
      simp only [bytesOf, List.getElem?_map, Option.map_eq_some_iff] at hb
      obtain ⟨c, hc, rfl⟩ := hb
      refine ⟨.int .u8 c.toNat, ?_, .sc _ rfl⟩
      have hsc : s[n.toNat]? = some c := by
        rw [Array.getElem?_toList] at hc
        rw [← hc]
        obtain ⟨h1, h2⟩ := Array.getElem?_eq_some_iff.1 hc
        rw [hc, getElem?_pos s n.toNat h1]
        exact congrArg some h2
      have h0 : 0 ≤ n := h
      simp [Instr.index, asIntOf, run_underlying ht, h0, hsc]
    · exact h.elim
  · exact h.elim
theorem aidx_sound {t elem : TypeId} {e : TypeInfo} {len : Nat} (ht : P.underlying t = some (.array len elem)) (hi : P.info? elem = some e) (hs : e.size = 1) (hA : isA P elem = false) (hU : (P.underlying elem).isSome = true) {x y : V} {u v : Value} (hx : Rep1 G x u) (hy : Rep1 G y v) (h : (vaidx len x y).1) (w : World) :
    ∃ r, (Instr.index t u v).run P w = .ok r w ∧ Rep1 G (vaidx len x y).2 r := by
  unfold vaidx at h ⊢
  split at h
  · rename_i cs k n
    split at h
    · rename_i c hc
      obtain ⟨h0, h1⟩ := h
      rw [hy.sc_inv]
      cases hx with
      | agg _ vs hl ho hr =>
      have hlt := (List.getElem?_eq_some_iff.1 hc).1
      have hv : vs[n.toNat]? = some vs[n.toNat] := Array.getElem?_eq_getElem (by omega)
      refine ⟨_, ?_, hr _ _ _ hc hv⟩
      have hag : (isAgg elem).run P w = .ok false w := by
        cases hd : P.underlying elem with
        | none => rw [hd] at hU; cases hU
        | some d =>
          unfold isA at hA
          rw [hd] at hA
          simp only [isAgg, Sem.run_bind, run_underlying hd, Result.andThen_ok]
          cases d <;> first | rfl | (simp at hA; done)
      simp [Instr.index, asIntOf, run_underlying ht, h0, h1, part, hag, run_sizeOf' hi, hs, hv]
    · exact h.elim
  · exact h.elim
theorem bslo_sound {t elem len : Nat} {e : TypeInfo} (hw : RepW w0 G st w) (hu : P.underlying t = some (.slice elem)) (hi : P.info? elem = some e) (hsz : 0 < e.size) (hbig : len * e.size ≤ 16777216) {z : List V} (hz : zeroCells' P elem = some z) (hzl : z.length = e.size)
    {parts : List (Nat × Value)} (hparts : parts.map (·.1) = List.range len) {ds : List V} (hdl : ds.length = len) (hds : ∀ (i : Nat) (d : V) (q : Nat × Value), ds[i]? = some d → parts[i]? = some q → Rep1 G d q.2) (hal : allLen e.size ds) :
    ∃ r w' G', (Instr.buildSlice t len parts.toArray).run P w = .ok r w' ∧ Rep1 G' (.sl (.own w.heap.size e.size) ds) r ∧ G.le G' ∧ RepW w0 G' (st.use w.heap.size len) w' := by
  obtain ⟨us, hrun, hus, hsize⟩ := bsl_run (G := G) hu hi hsz hbig hz hzl hparts hdl hds hal w
  have hlen : len ≤ maxLen := by
    have : len * 1 ≤ len * e.size := Nat.mul_le_mul_left _ hsz
    unfold maxLen; omega
  obtain ⟨hle, hw'⟩ := hw.addRow rfl us elem e.size len len hsize (Nat.le_refl _) hlen
  refine ⟨_, _, _, hrun, ?_, hle, hw'⟩
  subst hdl
  refine row_rep hal (hus.mono hle) (fun o v hv => ?_) (Nat.le_refl _) hlen _ (by simp) (fun g k e' => ?_)
  · have := (Array.getElem?_eq_some_iff.1 hv).1
    simp only [Gh.addRow, if_true]
    rw [if_pos (by omega)]; exact hv
  · cases e'
    exact ⟨rfl, rfl, elem, by simp [Gh.addRow]⟩
/-- The same, as a box. -/
theorem bslb_sound {t elem len : Nat} {e : TypeInfo} (hw : RepW w0 G st w) (hu : P.underlying t = some (.slice elem)) (hi : P.info? elem = some e) (hsz : 0 < e.size) (hbig : len * e.size ≤ 16777216) {z : List V} (hz : zeroCells' P elem = some z) (hzl : z.length = e.size)
    {parts : List (Nat × Value)} (hparts : parts.map (·.1) = List.range len) {ds : List V} (hdl : ds.length = len) (hds : ∀ (i : Nat) (d : V) (q : Nat × Value), ds[i]? = some d → parts[i]? = some q → Rep1 G d q.2) (hal : allLen e.size ds) :
    ∃ w', (Instr.buildSlice t len parts.toArray).run P w = .ok (.slice (some ⟨w.heap.size, 0, none⟩) len len) w' ∧ RepW w0 G (st.put w.heap.size (ds.flatMap V.cells)) w' := by
  obtain ⟨us, hrun, hus, hsize⟩ := bsl_run (G := G) hu hi hsz hbig hz hzl hparts hdl hds hal w
  exact ⟨_, hrun, hw.newBox us elem _ hus.len hus.one hus.rep⟩

/-! ### Boxes -/
theorem box_sound (hw : RepW w0 G st w) {x : V} {u : Value} (hx : Rep1 G x u) (h0 : x.cells.length ≠ 0) (t : TypeId) :
    (Instr.box t u).run P w = .ok (.pointer (some ⟨w.heap.size, 0, none⟩)) (w.alloc (.cells u.cells t)) ∧ RepW w0 G (st.put w.heap.size x.cells) (w.alloc (.cells u.cells t)) := by
  have hc := hx.cells h0
  exact ⟨by simp [Instr.box, newVar, newRow], hw.newBox _ _ _ hc.len hc.one hc.rep⟩
theorem alc_sound (hw : RepW w0 G st w) {t : TypeId} {z : List V} (hz : zeroCells' P t = some z) :
    ∃ us, (Instr.alloc t true (.tuple #[])).run P w = .ok (.pointer (some ⟨w.heap.size, 0, none⟩)) (w.alloc (.cells us t)) ∧ RepW w0 G (st.put w.heap.size z) (w.alloc (.cells us t)) := by
  obtain ⟨v, hv, hr, _⟩ := zero_sound (G := G) hz w
  exact ⟨v.cells, by simp [Instr.alloc, hv, newVar, newRow], hw.newBox _ _ _ hr.len hr.one hr.rep⟩
theorem cells_store (hw : RepW w0 G st w) {b o : Nat} {cs : List V} (hb : st.box b = some cs) {ds : List V} {us : Array Value} (hyc : RepL G ds us) (hfit : o + ds.length ≤ cs.length) (hmo : mono cs) :
    ∃ w', (storeCells ⟨b, o, none⟩ us.toList).run P w = .ok () w' ∧ RepW w0 G (st.put b (splice cs o ds)) w' := by
  obtain ⟨_, hge, hF, hO, hrb⟩ := hw.box b cs hb
  obtain ⟨vs, e, hh, hvl, h1, hr⟩ := hrb.row hmo
  have hyl := hyc.len
  have hst := run_storeCells_at P b o e us.toList 0 vs w hh (by simp; omega) (fun u hu => by
    obtain ⟨j, hj, rfl⟩ := List.mem_iff_getElem.1 hu
    exact hyc.one j _ (by simp))
  rw [Nat.add_zero] at hst
  refine ⟨w.setRow b (vs.toList.take o ++ us.toList ++ vs.toList.drop (o + us.toList.length)).toArray, hst, ?_⟩
  have hrep : RepL G (splice cs o ds) (vs.toList.take o ++ us.toList ++ vs.toList.drop (o + us.toList.length)).toArray := by
    have tl : (vs.toList.take o).length = o := by simp; omega
    have hget : ∀ i, (vs.toList.take o ++ us.toList ++ vs.toList.drop (o + us.toList.length)).toArray[i]? = if o ≤ i ∧ i < o + ds.length then us[i - o]? else vs[i]? := fun i => by
      simp only [List.getElem?_toArray]
      rw [List.append_assoc, List.getElem?_append, tl]
      by_cases c1 : i < o
      · rw [if_pos c1, if_neg (by omega), List.getElem?_take, if_pos c1]; simp
      · rw [if_neg c1, List.getElem?_append]
        simp only [Array.length_toList]
        by_cases c2 : i - o < us.size
        · rw [if_pos c2, if_pos (by omega)]; simp
        · rw [if_neg c2, if_neg (by omega), List.getElem?_drop]
          simp only [Array.getElem?_toList]
          congr 1; omega
    have sget : ∀ i, (splice cs o ds)[i]? = if o ≤ i ∧ i < o + ds.length then ds[i - o]? else cs[i]? := fun i => by
      unfold splice
      rw [List.append_assoc, List.getElem?_append]
      have ht : (cs.take o).length = o := by simp; omega
      rw [ht]
      by_cases c1 : i < o
      · rw [if_pos c1, if_neg (by omega), List.getElem?_take, if_pos c1]
      · rw [if_neg c1, List.getElem?_append]
        by_cases c2 : i - o < ds.length
        · rw [if_pos c2, if_pos (by omega)]
        · rw [if_neg c2, if_neg (by omega), List.getElem?_drop]
          congr 1; omega
    refine ⟨?_, fun i u hu => ?_, fun i c u hc hu => ?_⟩
    · simp [splice]; omega
    · rw [hget] at hu
      split at hu
      · exact hyc.one _ _ hu
      · exact h1 _ _ hu
    · rw [hget] at hu
      rw [sget] at hc
      split at hu
      · rename_i c1; rw [if_pos c1] at hc; exact hyc.rep _ _ _ hc hu
      · rename_i c1; rw [if_neg c1] at hc; exact hr _ _ _ hc hu
  exact hw.setBox hb _ _ e _ (setRow_heap w b vs _ e _ hh) (fun k hk => setRow_other w b k _ hk) (by simp) rfl rfl rfl hrep.len hrep.one hrep.rep
theorem store_sound (hw : RepW w0 G st w) {t : TypeId} {n : Option Nat} {size : Nat} (hl : layout P t = some (n, size)) {b o : Nat} {cs : List V} (hb : st.box b = some cs) {y : V} {v : Value} (hy : Rep1 G y v) (hlen : y.cells.length = size) (h0 : 0 < size) (hfit : o + size ≤ cs.length) (hmo : mono cs) :
    ∃ w', (Instr.storeAt t (.pointer (some ⟨b, o, none⟩)) v).run P w = .ok () w' ∧ RepW w0 G (st.put b (splice cs o y.cells)) w' := by
  obtain ⟨d, i, hu, hi, hs, _⟩ := layout_inv hl
  have hyc := hy.cells (by omega)
  have hsz : v.cells.size = size := by rw [hyc.len, hlen]
  obtain ⟨w', h1, h2⟩ := cells_store (P := P) (o := o) hw hb hyc (by omega) hmo
  refine ⟨w', ?_, h2⟩
  simp only [Instr.storeAt, Instr.sureAddr, Sem.run_bind, Sem.run_pure, Result.andThen_ok, storeVar, run_sizeOf' hi, hs, hsz, ne_eq, not_true, if_false]
  exact h1
end
end Go.Proofs.Ytlngegoamfklgaa
