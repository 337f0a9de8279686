/- Appends. -/
import Derived.Test.YtlngegoamfklgaaV5
import Derived.IntWalk
namespace Go.Proofs.Ytlngegoamfklgaa
open Go Go.RowKit

section
variable {P : Program} {w0 : Fr} {G : Gh} {st : St} {w : World}

theorem app_room (t ty e : TypeId) (i : TypeInfo) (ht : P.underlying t = some (.slice e)) (hi : P.info? e = some i) (g sLen sCap : Nat) (cur : Array Value) (e' : TypeId) (hg : w.heap[g]? = some (.cells cur e' (0, 0)))
    (a : Addr) (m c : Nat) (news : List Value) (hl : news.length = m * i.size) (hnews : ∀ (j : Nat) (u : Value), news[j]? = some u → w.cell? (a.add j) = some u) (h1 : ∀ u ∈ news, u.oneCell' = true)
    (hroom : sLen + m ≤ sCap) (hfit : sLen * i.size + news.length ≤ cur.size) :
    (Builtin.append_ #[t, t] ty #[.slice (some ⟨g, 0, none⟩) sLen sCap, .slice (some a) m c]).run P w =
      .ok (.slice (some ⟨g, 0, none⟩) (sLen + m) sCap) (w.setRow g (cur.toList.take (sLen * i.size) ++ news ++ cur.toList.drop (sLen * i.size + news.length)).toArray) := by
  have hf := run_firstCells_some (P := P) w i.size m a m c news hl hnews
  have hst := run_storeCells_at P g (sLen * i.size) e' news 0 cur w hg (by simpa using hfit) h1
  simp only [Nat.add_zero] at hst
  simp [Builtin.append_, run_underlying ht, sizeOf, typeInfo, hi, Builtin.lenOf, hroom, hf, Addr.add_lit, hst]
theorem app_none (t ty e : TypeId) (i : TypeInfo) (ht : P.underlying t = some (.slice e)) (hi : P.info? e = some i) (A : Option Addr) (n cap : Nat) (hn : n ≤ cap) (B : Option Addr) (c : Nat) (w : World) :
    (Builtin.append_ #[t, t] ty #[.slice A n cap, .slice B 0 c]).run P w = .ok (.slice A n cap) w := by
  cases A <;> cases B <;> simp [Builtin.append_, run_underlying ht, sizeOf, typeInfo, hi, Builtin.lenOf, Builtin.firstCells, hn, storeCells, loadCells, loadCellsFrom]
theorem RepL.append {cs ds : List V} {us vs : Array Value} (h : RepL G cs us) (k : RepL G ds vs) : RepL G (cs ++ ds) (us ++ vs) := by
  have h0 := h.len
  refine ⟨by simp [h.len, k.len], fun i v hv => ?_, fun i c v hc hv => ?_⟩
  · rw [Array.getElem?_append] at hv
    split at hv
    · exact h.one _ _ hv
    · exact k.one _ _ hv
  · rw [Array.getElem?_append] at hv
    rw [List.getElem?_append] at hc
    split at hv
    · rename_i hi; rw [if_pos (by omega)] at hc; exact h.rep _ _ _ hc hv
    · rename_i hi; rw [if_neg (by omega)] at hc; rw [h0] at hv; exact k.rep _ _ _ hc hv
theorem allLen_of {size : Nat} : ∀ {l : List V}, allSz size l → allLen size l
  | [], _ => trivial
  | d :: ds, h => ⟨h d (by simp), allLen_of fun x hx => h x (by simp [hx])⟩
theorem allLen_append {size : Nat} : ∀ {l m : List V}, allLen size l → allLen size m → allLen size (l ++ m)
  | [], _, _, h => h
  | d :: ds, m, h, k => ⟨h.1, allLen_append h.2 k⟩
/-- What lies in a new block behind an append. -/
theorem app_new (hw : RepW w0 G st w) {size n m : Nat} {l ys : List V} (hl : allLen size l) (hys : allLen size ys) {us vs zs : Array Value} (hus : RepL G (l.flatMap V.cells) us) (hvs : RepL G (ys.flatMap V.cells) vs) (e : TypeId) (cap : Nat)
    (hn : n = l.length) (hm : m = ys.length) (hz : us.size + vs.size + zs.size = cap * size) (hcap : n + m ≤ cap) (hmax : cap ≤ maxLen) :
    ∃ G', Rep1 G' (.sl (.own w.heap.size size) (l ++ ys)) (.slice (some ⟨w.heap.size, 0, none⟩) (n + m) cap) ∧ G.le G' ∧ RepW w0 G' (st.use w.heap.size (n + m)) (w.alloc (.cells (us ++ vs ++ zs) e)) := by
  subst hn hm
  have hul := hus.len
  have hvl := hvs.len
  rw [allLen_flat hl] at hul
  rw [allLen_flat hys] at hvl
  obtain ⟨hle, hw'⟩ := hw.addRow rfl (us ++ vs ++ zs) e size cap (l.length + ys.length) (by simp; omega) hcap hmax
  refine ⟨_, ?_, hle, hw'⟩
  have hcat : RepL G ((l ++ ys).flatMap V.cells) (us ++ vs) := by rw [List.flatMap_append]; exact hus.append hvs
  rw [show l.length + ys.length = (l ++ ys).length by simp]
  refine row_rep (allLen_append hl hys) (hcat.mono (by rw [List.length_append]; exact hle)) (fun o v hv => ?_) (by simpa using hcap) hmax _ (by simp) (fun g k e' => ?_)
  · have hlt := (Array.getElem?_eq_some_iff.1 hv).1
    simp only [Array.size_append] at hlt
    simp only [Gh.addRow, if_true]
    rw [if_pos (by rw [List.length_append, Nat.add_mul]; omega), Array.getElem?_append_left (by simpa using hlt)]
    exact hv
  · cases e'
    exact ⟨rfl, rfl, e, by simp [Gh.addRow]⟩
/-- What an append does that adds m elements of these cells, however they are told. -/
structure SrcRun (P : Program) (w : World) (t u e : TypeId) (i : TypeInfo) (z v : Value) (m : Nat) (news : List Value) : Prop where
  room : ∀ (ty g sLen sCap : Nat) (cur : Array Value) (e' : TypeId), w.heap[g]? = some (.cells cur e' (0, 0)) → sLen + m ≤ sCap → sLen * i.size + news.length ≤ cur.size → (∀ x ∈ news, x.oneCell' = true) →
    (Builtin.append_ #[t, u] ty #[.slice (some ⟨g, 0, none⟩) sLen sCap, v]).run P w = .ok (.slice (some ⟨g, 0, none⟩) (sLen + m) sCap) (w.setRow g (cur.toList.take (sLen * i.size) ++ news ++ cur.toList.drop (sLen * i.size + news.length)).toArray)
  nil : ∀ (ty : Nat), 0 < m → (m : Int) ≤ 9223372036854775807 → m * i.bytes ≤ 281474976710656 →
    (Builtin.append_ #[t, u] ty #[.slice none 0 0, v]).run P w = .ok (.slice (some ⟨w.heap.size, 0, none⟩) m (grownCap w m 0 e)) (w.drew.alloc (.cells (news.toArray ++ Builtin.zeroCells z.cells (grownCap w m 0 e - m)) e))
  grow : ∀ (ty : Nat) (b : Addr) (sLen sCap : Nat) (olds : List Value), olds.length = sLen * i.size → (∀ (j : Nat) (x : Value), olds[j]? = some x → w.cell? (b.add j) = some x) → sCap < sLen + m → ((sLen + m : Nat) : Int) ≤ 9223372036854775807 → Builtin.nextslicecap (sLen + m) sCap * i.bytes ≤ 281474976710656 →
    (Builtin.append_ #[t, u] ty #[.slice (some b) sLen sCap, v]).run P w = .ok (.slice (some ⟨w.heap.size, 0, none⟩) (sLen + m) (grownCap w (sLen + m) sCap e)) (w.drew.alloc (.cells (olds.toArray ++ news.toArray ++ Builtin.zeroCells z.cells (grownCap w (sLen + m) sCap e - (sLen + m))) e))
theorem srcRun_slice {t e : TypeId} {i : TypeInfo} {z : Value} (ht : P.underlying t = some (.slice e)) (hi : P.info? e = some i) (hz : i.zero = some z) (a : Addr) (m c : Nat) (news : List Value) (hl : news.length = m * i.size) (hnews : ∀ (j : Nat) (u : Value), news[j]? = some u → w.cell? (a.add j) = some u) :
    SrcRun P w t t e i z (.slice (some a) m c) m news where
  room ty g sLen sCap cur e' hg hroom hfit h1 := app_room t ty e i ht hi g sLen sCap cur e' hg a m c news hl hnews h1 hroom hfit
  nil ty h0 h63 h48 := run_append_nil w t ty e i z ht hi hz a m c news hl hnews h0 h63 h48
  grow ty b sLen sCap olds hlo holds hg h63 hfit := run_append_grow w t ty e i z ht hi hz b sLen sCap olds hlo holds a m c news hl hnews hg h63 hfit
theorem firstCells_str (size : Nat) (s : ByteArray) (w : World) : (Builtin.firstCells size s.size (.string s)).run P w = .ok (strCs s).toArray w := by
  simp [Builtin.firstCells, strCs]
  apply Array.ext'
  simp
theorem srcRun_str {t u e : TypeId} {i : TypeInfo} {z : Value} (ht : P.underlying t = some (.slice e)) (hu : P.underlying u = some .string) (hi : P.info? e = some i) (hz : i.zero = some z) (s : ByteArray) : SrcRun P w t u e i z (.string s) s.size (strCs s) where
  room ty g sLen sCap cur e' hg hroom hfit h1 := by
    have hf := firstCells_str (P := P) i.size s w
    have hst := run_storeCells_at P g (sLen * i.size) e' (strCs s) 0 cur w hg (by simpa using hfit) h1
    simp only [Nat.add_zero] at hst
    simp [Builtin.append_, run_underlying ht, run_underlying hu, sizeOf, typeInfo, hi, Builtin.lenOf, hroom, hf, Addr.add_lit, hst]
  nil ty h0 h63 h48 := by
    have hn : s.size ≠ 0 := by omega
    have h63' : ¬ (9223372036854775807 < (s.size : Int)) := by omega
    have h48' : ¬ (281474976710656 < Builtin.nextslicecap s.size 0 * i.bytes) := by rw [nextslicecap_zero h0]; omega
    have hf := firstCells_str (P := P) i.size s w.drew
    simp [Builtin.append_, run_underlying ht, run_underlying hu, sizeOf, typeInfo, zeroValue, hi, hz, Builtin.lenOf, run_firstCells_none, hf, hn, h63', h48', Question.forced, newRow, grownCap]
  grow ty b sLen sCap olds hlo holds hg h63 hfit := by
    have hn : ¬ (sLen + s.size ≤ sCap) := by omega
    have h63' : ¬ (9223372036854775807 < ((sLen : Int) + (s.size : Int))) := by omega
    have h48' : ¬ (281474976710656 < Builtin.nextslicecap (sLen + s.size) sCap * i.bytes) := by omega
    have hf := firstCells_str (P := P) i.size s w.drew
    have hfo := run_firstCells_some (P := P) w.drew i.size sLen b sLen sCap olds hlo (by simpa using holds)
    simp [Builtin.append_, run_underlying ht, run_underlying hu, sizeOf, typeInfo, zeroValue, hi, hz, Builtin.lenOf, hn, h63', h48', Question.forced, hf, hfo, newRow, grownCap]
    congr 2
    apply Array.ext'
    simp [List.append_assoc]
/-- So many noughts ('append(b, make(..)...)'). -/
theorem srcRun_zero {t u e : TypeId} {k : IntKind} {i : TypeInfo} {z : Value} (ht : P.underlying t = some (.slice e)) (hu : P.underlying u = some (.int k)) (hi : P.info? e = some i) (hz : i.zero = some z) {n : Nat} (k' : IntKind) (hn0 : 0 < n * i.size) (h63n : (n : Int) ≤ 9223372036854775807) (h48n : n * i.bytes ≤ 281474976710656) :
    SrcRun P w t u e i z (.int k' n) n (Builtin.zeroCells z.cells n).toList where
  room ty g sLen sCap cur e' hg hroom hfit h1 := by
    have hw : IntKind.i64.wrap (n : Int) = n := IntWalk.i64_in _ ⟨by omega, h63n⟩
    have hnn : ¬ ((n : Int) < 0) := by omega
    have hbb : ¬ (281474976710656 < (n : Int) * (i.bytes : Int)) := by omega
    have hst := run_storeCells_at P g (sLen * i.size) e' (Builtin.zeroCells z.cells n).toList 0 cur w hg (by simpa using hfit) h1
    have hn1 : ¬ (n * i.size = 0) := by omega
    have hn2 : ¬ (n = 0 ∨ i.size = 0) := by rw [← Nat.mul_eq_zero]; exact hn1
    simp only [Nat.add_zero] at hst
    simp [Builtin.append_, run_underlying ht, run_underlying hu, sizeOf, typeInfo, zeroValue, hi, hz, asInt, asIntOf, hw, hnn, hbb, hn2, hroom, Addr.add_lit, hst]
    exact fun h => absurd h (Nat.ne_of_gt hn0)
  nil ty h0 h63 h48 := by
    have hw : IntKind.i64.wrap (n : Int) = n := IntWalk.i64_in _ ⟨by omega, h63n⟩
    have hnn : ¬ ((n : Int) < 0) := by omega
    have hbb : ¬ (281474976710656 < (n : Int) * (i.bytes : Int)) := by omega
    have hn : n ≠ 0 := by omega
    have hn2 : ¬ (n = 0 ∨ i.size = 0) := by rw [← Nat.mul_eq_zero]; omega
    have h63' : ¬ (9223372036854775807 < (n : Int)) := by omega
    have h48' : ¬ (281474976710656 < Builtin.nextslicecap n 0 * i.bytes) := by rw [nextslicecap_zero h0]; omega
    simp [Builtin.append_, run_underlying ht, run_underlying hu, sizeOf, typeInfo, zeroValue, hi, hz, asInt, asIntOf, hw, hnn, hbb, hn, hn2, run_firstCells_none, h63', h48', Question.forced, newRow, grownCap]
    exact fun h => absurd h (Nat.ne_of_gt hn0)
  grow ty b sLen sCap olds hlo holds hg h63 hfit := by
    have hw : IntKind.i64.wrap (n : Int) = n := IntWalk.i64_in _ ⟨by omega, h63n⟩
    have hnn : ¬ ((n : Int) < 0) := by omega
    have hbb : ¬ (281474976710656 < (n : Int) * (i.bytes : Int)) := by omega
    have hn2 : ¬ (n = 0 ∨ i.size = 0) := by rw [← Nat.mul_eq_zero]; omega
    have hn : ¬ (sLen + n ≤ sCap) := by omega
    have h63' : ¬ (9223372036854775807 < ((sLen : Int) + (n : Int))) := by omega
    have h48' : ¬ (281474976710656 < Builtin.nextslicecap (sLen + n) sCap * i.bytes) := by omega
    have hfo := run_firstCells_some (P := P) w.drew i.size sLen b sLen sCap olds hlo (by simpa using holds)
    simp [Builtin.append_, run_underlying ht, run_underlying hu, sizeOf, typeInfo, zeroValue, hi, hz, asInt, asIntOf, hw, hnn, hbb, hn2, hn, h63', h48', Question.forced, hfo, newRow, grownCap]
    exact fun h => absurd h (Nat.ne_of_gt hn0)
/-- What is appended. -/
def SrcOk (P : Program) (G : Gh) (w : World) (t u e : TypeId) (i : TypeInfo) (z v : Value) (ys : List V) : Prop :=
  (ys = [] ∧ ∀ (ty : Nat) (A : Option Addr) (n cap : Nat), n ≤ cap → (Builtin.append_ #[t, u] ty #[.slice A n cap, v]).run P w = .ok (.slice A n cap) w) ∨
  (0 < ys.length ∧ ∃ vs : Array Value, RepL G (ys.flatMap V.cells) vs ∧ vs.size = ys.length * i.size ∧ SrcRun P w t u e i z v ys.length vs.toList)
theorem Rep1.src (hw : RepW w0 G st w) {t e : TypeId} {i : TypeInfo} {z : Value} (ht : P.underlying t = some (.slice e)) (hi : P.info? e = some i) (hz : i.zero = some z) {tk : Tk} {ys : List V} {v : Value} (hy : Rep1 G (.sl tk ys) v) (hys : allSz i.size ys) : SrcOk P G w t t e i z v ys := by
  have hsl : ∃ B c, v = .slice B ys.length c ∧ (B = none → ys = []) := by
    cases hy with
    | nil => exact ⟨_, _, rfl, fun _ => rfl⟩
    | emp => exact ⟨_, _, rfl, fun h => by cases h⟩
    | sl _ _ b o k cap => exact ⟨_, _, rfl, fun h => by cases h⟩
  obtain ⟨B, c, rfl, hB⟩ := hsl
  by_cases h0 : ys = []
  · subst h0
    exact .inl ⟨rfl, fun ty A n cap hn => app_none t ty e i ht hi A n cap hn B c w⟩
  · have hpos : 0 < ys.length := List.length_pos_iff.2 h0
    cases B with
    | none => exact absurd (hB rfl) h0
    | some b =>
      obtain ⟨_, us, h1, h2, h3⟩ := hy.flat hw hys
      exact .inr ⟨hpos, us, h1, h2, srcRun_slice ht hi hz b _ c _ (by simpa using h2) h3⟩
/-- A boxed slice as a source. -/
theorem box_src (hw : RepW w0 G st w) {t e : TypeId} {i : TypeInfo} {z : Value} (ht : P.underlying t = some (.slice e)) (hi : P.info? e = some i) (hz : i.zero = some z) {b o c : Nat} {cs ys : List V} (hb : st.box b = some cs) (hfit : o + ys.length * i.size ≤ cs.length) (hys : allSz i.size ys) (he : (cs.drop o).take (ys.length * i.size) = ys.flatMap V.cells) (hmo : mono cs) :
    SrcOk P G w t t e i z (.slice (some ⟨b, o, none⟩) ys.length c) ys := by
  obtain ⟨u, hc, h1, hr⟩ := hw.boxCells hb hmo
  by_cases h0 : ys = []
  · subst h0
    exact .inl ⟨rfl, fun ty A n cap hn => app_none t ty e i ht hi A n cap hn (some ⟨b, o, none⟩) c w⟩
  refine .inr ⟨List.length_pos_iff.2 h0, ((List.range (ys.length * i.size)).map fun j => u (o + j)).toArray, ⟨?_, fun i v hv => ?_, fun i c' v hcc hv => ?_⟩, by simp, srcRun_slice ht hi hz _ _ c _ (by simp) (fun j v hv => ?_)⟩
  · rw [allLen_flat (allLen_of hys)]; simp
  · simp only [List.getElem?_toArray, List.getElem?_map, Option.map_eq_some_iff] at hv
    obtain ⟨j, hj, rfl⟩ := hv
    have hlt := (List.getElem?_eq_some_iff.1 hj).1
    simp at hlt
    rw [List.getElem?_range hlt] at hj
    cases hj
    exact h1 _ (by omega)
  · simp only [List.getElem?_toArray, List.getElem?_map, Option.map_eq_some_iff] at hv
    obtain ⟨j, hj, rfl⟩ := hv
    have hlt := (List.getElem?_eq_some_iff.1 hj).1
    simp at hlt
    rw [List.getElem?_range hlt] at hj
    cases hj
    rw [← he, List.getElem?_take, if_pos hlt, List.getElem?_drop] at hcc
    exact hr _ _ hcc
  · simp only [List.getElem?_map, Option.map_eq_some_iff] at hv
    obtain ⟨i, hi, rfl⟩ := hv
    have hlt := (List.getElem?_eq_some_iff.1 hi).1
    simp at hlt
    rw [List.getElem?_range hlt] at hi
    cases hi
    have := hc (o + j) (by omega)
    rw [Nat.zero_add] at this
    rw [addr_add]; exact this
theorem str_src {t u e : TypeId} {i : TypeInfo} {z : Value} (ht : P.underlying t = some (.slice e)) (hu : P.underlying u = some .string) (hi : P.info? e = some i) (hz : i.zero = some z) (h1 : i.size = 1) (s : ByteArray) : SrcOk P G w t u e i z (.string s) (byL s) := by
  by_cases h0 : s.size = 0
  · refine .inl ⟨List.eq_nil_of_length_eq_zero (by rw [byL_length, h0]), fun ty A n cap hn => ?_⟩
    have hf := firstCells_str (P := P) i.size s w
    have hnil : strCs s = [] := List.eq_nil_of_length_eq_zero (by rw [strCs_length, h0])
    rw [hnil, h0] at hf
    cases A <;> simp [Builtin.append_, run_underlying ht, run_underlying hu, sizeOf, typeInfo, hi, Builtin.lenOf, hn, h0, hf, storeCells]
  · refine .inr ⟨by rw [byL_length]; omega, (strCs s).toArray, byL_rep G s, by simp [strCs_length, byL_length, h1], ?_⟩
    rw [byL_length]
    exact srcRun_str ht hu hi hz s
theorem zero_src {t u e : TypeId} {k : IntKind} {i : TypeInfo} {z : Value} (ht : P.underlying t = some (.slice e)) (hu : P.underlying u = some (.int k)) (hi : P.info? e = some i) (hz : i.zero = some z) (hzs : z.cells.size = i.size) (hsz : 0 < i.size) {d : V} {k' : IntKind} {n : Nat}
    (hd : RepL G d.cells z.cells) (h63 : (n : Int) ≤ 9223372036854775807) (h48 : n * i.bytes ≤ 281474976710656) : SrcOk P G w t u e i z (.int k' n) (List.replicate n d) := by
  by_cases h0 : n = 0
  · subst h0
    refine .inl ⟨rfl, fun ty A n cap hn => ?_⟩
    have hw : IntKind.i64.wrap 0 = 0 := IntWalk.i64_in _ ⟨by omega, by omega⟩
    cases A <;> simp [Builtin.append_, run_underlying ht, run_underlying hu, sizeOf, typeInfo, hi, asInt, asIntOf, hw, hn, storeCells]
  · have hdl := hd.len
    have hmod : ∀ j, j < n * z.cells.size → j % z.cells.size < z.cells.size := fun j _ => Nat.mod_lt _ (by omega)
    have hget : ∀ (m j : Nat), j < m * d.cells.length → ((List.replicate m d).flatMap V.cells)[j]? = d.cells[j % d.cells.length]? := by
      intro m
      induction m with
      | zero => intro j hj; simp at hj
      | succ m ih =>
        intro j hj
        rw [List.replicate_succ, List.flatMap_cons, List.getElem?_append]
        by_cases hjl : j < d.cells.length
        · rw [if_pos hjl, Nat.mod_eq_of_lt hjl]
        · rw [if_neg hjl, ih _ (by rw [Nat.add_mul] at hj; omega), ← Nat.mod_eq_sub_mod (by omega)]
    have hzc : ∀ (j : Nat) (v : Value), (Builtin.zeroCells z.cells n)[j]? = some v → j < n * z.cells.size ∧ z.cells[j % z.cells.size]? = some v := by
      intro j v hv
      have hl := (Array.getElem?_eq_some_iff.1 hv).1
      rw [size_zeroCells] at hl
      unfold Builtin.zeroCells at hv
      simp only [Array.getElem?_map, Option.map_eq_some_iff] at hv
      obtain ⟨q, hq, rfl⟩ := hv
      rw [Array.getElem?_range] at hq
      split at hq
      · simp only [Option.some.injEq] at hq
        subst hq
        refine ⟨hl, ?_⟩
        have := hmod _ hl
        rw [getElem!_pos z.cells _ this, Array.getElem?_eq_getElem this]
      · rename_i hc; exact absurd hl hc
    refine .inr ⟨by simp; omega, Builtin.zeroCells z.cells n, ⟨?_, fun j v hv => ?_, fun j c v hc hv => ?_⟩, by simp [size_zeroCells, hzs], ?_⟩
    · rw [size_zeroCells, List.length_flatMap]; simp [hdl]
    · exact hd.one _ _ (hzc j v hv).2
    · obtain ⟨q1, q2⟩ := hzc j v hv
      rw [hget n j (by rw [← hdl]; exact q1), ← hdl] at hc
      exact hd.rep _ _ _ hc q2
    · rw [List.length_replicate]
      exact srcRun_zero ht hu hi hz k' (Nat.mul_pos (by omega) hsz) h63 h48
/-- 'make': a box. -/
theorem mkb_sound (hw : RepW w0 G st w) {t elem : TypeId} {e : TypeInfo} {z : List V} (ht : P.underlying t = some (.slice elem)) (hi : P.info? elem = some e) (hz : zeroCells' P elem = some z) (hzl : z.length = e.size) (hsz : 0 < e.size) {k' k : IntKind} {l n : Int} (h0 : 0 ≤ l) (h0' : l ≤ n) (h1 : (e.bytes : Int) * n ≤ 281474976710656) (h2 : n ≤ 9223372036854775807) :
    ∃ w', (Instr.makeSlice t (.int k' l) (.int k n)).run P w = .ok (.slice (some ⟨w.heap.size, 0, none⟩) l.toNat n.toNat) w' ∧ RepW w0 G (st.put w.heap.size ((List.replicate n.toNat z).flatten)) w' := by
  unfold zeroCells' at hz
  rw [hi] at hz
  simp only at hz
  split at hz
  · rename_i v hv
    split at hz
    · rename_i hc
      simp only [Option.some.injEq] at hz
      subst hz
      have hzs : v.cells.size = e.size := by simpa using hzl
      have hrun := run_make (P := P) w t elem e v ht hi hv k' k l n h0 h0' h1 h2
      refine ⟨_, hrun, hw.newBox _ _ _ ?_ ?_ ?_⟩
      · rw [size_madeCells]; simp [hzs]
      · intro i u hu
        simp only [Bool.and_eq_true, Array.all_eq_true_iff_forall_mem] at hc
        unfold madeCells at hu
        simp only [Array.getElem?_map, Option.map_eq_some_iff] at hu
        obtain ⟨j, _, rfl⟩ := hu
        have hlt : j % v.cells.size < v.cells.size := Nat.mod_lt _ (by omega)
        rw [getElem!_pos v.cells _ hlt]
        exact hc.2 _ (Array.getElem_mem hlt)
      · intro i c u hcc hu
        simp only [Bool.and_eq_true, Array.all_eq_true_iff_forall_mem] at hc
        unfold madeCells at hu
        simp only [Array.getElem?_map, Option.map_eq_some_iff] at hu
        obtain ⟨j, hj, rfl⟩ := hu
        have hlt : j % v.cells.size < v.cells.size := Nat.mod_lt _ (by omega)
        have hij : j = i := by
          have hl := (Array.getElem?_eq_some_iff.1 hj).1
          rw [Array.getElem?_range] at hj
          split at hj
          · simpa using hj.symm
          · cases hj
        subst hij
        have hget : ∀ (m j : Nat), j < m * v.cells.size → ((List.replicate m (v.cells.toList.map cellV)).flatten)[j]? = (v.cells.toList.map cellV)[j % v.cells.size]? := by
          intro m
          induction m with
          | zero => intro j hj; simp at hj
          | succ m ih =>
            intro j hj
            rw [List.replicate_succ, List.flatten_cons, List.getElem?_append]
            simp only [List.length_map, Array.length_toList]
            by_cases hjl : j < v.cells.size
            · rw [if_pos hjl, Nat.mod_eq_of_lt hjl]
            · rw [if_neg hjl, ih _ (by rw [Nat.add_mul] at hj; omega), ← Nat.mod_eq_sub_mod (by omega)]
        have hjm : j < n.toNat * v.cells.size := by
          have hl := (Array.getElem?_eq_some_iff.1 hj).1
          simp at hl; rw [hzs]; exact hl
        rw [hget _ _ hjm] at hcc
        rw [getElem!_pos v.cells _ hlt]
        simp only [List.getElem?_map, Array.getElem?_toList, Array.getElem?_eq_getElem hlt, Option.map_some, Option.some.injEq] at hcc
        subst hcc
        exact cellV_rep G (hc.2 _ (Array.getElem_mem hlt))
    · cases hz
  · cases hz
theorem mks_sound (hw : RepW w0 G st w) {t elem : TypeId} {e : TypeInfo} {z : List V} (ht : P.underlying t = some (.slice elem)) (hi : P.info? elem = some e) (hz : zeroCells' P elem = some z) (hzl : z.length = e.size) (hsz : 0 < e.size) {k : IntKind} {n : Int} (h0 : 0 ≤ n) (h1 : (e.bytes : Int) * n ≤ 281474976710656) (h2 : n ≤ 9223372036854775807) :
    ∃ w', (Instr.makeSlice t (.int k n) (.int k n)).run P w = .ok (.slice (some ⟨w.heap.size, 0, none⟩) n.toNat n.toNat) w' ∧ RepW w0 G (st.put w.heap.size ((List.replicate n.toNat z).flatten)) w' :=
  mkb_sound hw ht hi hz hzl hsz h0 (Int.le_refl _) h1 h2
theorem mko_sound (hw : RepW w0 G st w) {t elem : TypeId} {e : TypeInfo} {z : List V} (ht : P.underlying t = some (.slice elem)) (hi : P.info? elem = some e) (hz : zeroCells' P elem = some z) {k k' : IntKind} {n : Int} (h0 : 0 ≤ n) (h1 : (e.bytes : Int) * n ≤ 281474976710656) (h2 : n ≤ 9223372036854775807) :
    ∃ r w' G', (Instr.makeSlice t (.int k' 0) (.int k n)).run P w = .ok r w' ∧ Rep1 G' (.sl (.own w.heap.size e.size) []) r ∧ G.le G' ∧ RepW w0 G' (st.use w.heap.size 0) w' := by
  unfold zeroCells' at hz
  rw [hi] at hz
  simp only at hz
  split at hz
  · rename_i v hv
    have hrun := run_make (P := P) w t elem e v ht hi hv k' k 0 n (Int.le_refl _) h0 h1 h2
    obtain ⟨hle, hw'⟩ := hw.addRow rfl (madeCells v.cells (n.toNat * e.size)) elem e.size n.toNat 0 (by rw [size_madeCells]) (Nat.zero_le _) (by unfold maxLen; omega)
    refine ⟨_, _, _, hrun, ?_, hle, hw'⟩
    exact row_rep (l := []) (us := #[]) (size := e.size) trivial ⟨rfl, fun i v hv => by simp at hv, fun i c v hc => by simp at hc⟩ (fun o v hv => by simp at hv) (Nat.zero_le _) (by unfold maxLen; omega) _ (by simp) (fun g k' e' => by cases e'; exact ⟨rfl, rfl, elem, by simp [Gh.addRow]⟩)
  · cases hz
theorem app_sound (hw : RepW w0 G st w) {t t2 elem ty : TypeId} {e : TypeInfo} {z : Value} (ht : P.underlying t = some (.slice elem)) (hi : P.info? elem = some e) (hz : e.zero = some z) (hzs : z.cells.size = e.size) (hsz : 0 < e.size)
    {x : V} {u v : Value} {l ys : List V} (hx : Rep1 G x u) (hown : Own e.size st x l) (hy : SrcOk P G w t t2 elem e z v ys) (hys : allSz e.size ys) (h63 : l.length + ys.length ≤ maxLen) (hby : (l.length + ys.length) * e.bytes ≤ 140737488355328) :
    ∃ r w' G' rv st', (Builtin.append_ #[t, t2] ty #[u, v]).run P w = .ok r w' ∧ Rep1 G' rv r ∧ G.le G' ∧ RepW w0 G' st' w' ∧ Own e.size st' rv (l ++ ys) ∧ AppSt st x st' rv := by
  have hyl := allLen_of hys
  have same : ∀ {rv : V} (_ : Own e.size st rv l) (_ : rv = x), AppSt st x st rv := fun {rv} _ hrv => ⟨rfl, fun h => h, Nat.le_refl _, fun g m hg _ => hg, fun g k l' h => .inl ⟨l', by rw [← hrv]; exact h⟩⟩
  rcases hown with ⟨rfl, rfl⟩ | ⟨g, rfl, hg, hgs⟩
  · have hu : u = .slice none 0 0 := by
      cases hx with
      | nil => rfl
      | sl _ _ _ _ _ _ _ _ _ _ _ _ _ ho => exact absurd rfl ho
    subst hu
    rcases hy with ⟨rfl, hnone⟩ | ⟨hpos, vs, hvs, hvsz, hR⟩
    · exact ⟨_, _, G, .sl .nil [], st, hnone ty none 0 0 (Nat.le_refl _), hx, .refl G, hw, .inl ⟨rfl, by simp⟩, ⟨rfl, fun h => h, Nat.le_refl _, fun g m hg _ => hg, fun g k l h => by cases h⟩⟩
    · have hb : ys.length * e.bytes ≤ 281474976710656 := by simp at hby; omega
      simp only [List.length_nil, Nat.zero_add] at h63
      have hrun := hR.nil ty hpos (by unfold maxLen at h63; omega) hb
      have hge := grownCap_ge w ys.length 0 elem
      have hle := grownCap_le_maxLen w ys.length 0 elem h63
      obtain ⟨G', h1, h2, h3⟩ := app_new (us := #[]) (vs := vs) (zs := Builtin.zeroCells z.cells (grownCap w ys.length 0 elem - ys.length)) (n := 0) (m := ys.length) (l := []) hw.drew trivial hyl ⟨rfl, fun i v hv => by simp at hv, fun i c v hc => by simp at hc⟩ hvs elem (grownCap w ys.length 0 elem) rfl rfl (by
        simp only [size_zeroCells, hvsz, hzs, List.size_toArray, List.length_nil, Nat.zero_add, ← Nat.add_mul]
        congr 1; omega) (by omega) hle
      simp only [Nat.zero_add, List.nil_append, Array.empty_append, World.size_drew] at h1 h2 h3
      simp only [Array.toArray_toList] at hrun
      refine ⟨_, _, G', _, _, hrun, h1, h2, h3, .inr ⟨w.heap.size, rfl, by simp [St.use], by simp only [St.use]; omega⟩, ⟨rfl, use_lt, by simp only [St.use]; omega, fun g m hg _ => ?_, fun g k l' h => ?_⟩⟩
      · have := (hw.own g m hg).1
        have := hw.sz
        simp only [St.use]
        rw [if_neg (by omega)]; exact hg
      · cases h; exact .inr hw.sz
  · cases hx with
    | nil _ ho => exact absurd rfl (ho _ _)
    | sl _ _ b o k cap uu hk hF h1 hr hcap hm ho hown =>
      obtain ⟨rfl, rfl, rfl, e', hO⟩ := hown g _ rfl
      obtain ⟨_, hge0, e2, size2, cap2, cur, k3, hh, k5, k6, k7, k8⟩ := hw.own b _ hg
      rw [hO] at k3; cases k3
      rcases hy with ⟨rfl, hnone⟩ | ⟨hpos, vs, hvs, hvsz, hR⟩
      · have hown' : Own e.size st (.sl (.own b e.size) (l ++ [])) (l ++ []) := by rw [List.append_nil]; exact Or.inr ⟨b, rfl, hg, hgs⟩
        exact ⟨_, _, G, .sl (.own b e.size) (l ++ []), st, hnone ty (some ⟨b, 0, none⟩) l.length cap hcap, by
          simpa using Rep1.sl (.own b e.size) l b 0 e.size cap uu hk hF h1 hr hcap hm ho (fun g' k' hh => by cases hh; exact ⟨rfl, rfl, rfl, _, hO⟩), .refl G, hw, hown', ⟨rfl, fun h => h, Nat.le_refl _, fun g m hg _ => hg, fun g k l' h => by cases h; exact .inl ⟨l, by simp⟩⟩⟩
      · have hll : allSz e.size l := fun d hd => by
          obtain ⟨i, hi', rfl⟩ := List.mem_iff_getElem.1 hd
          exact hk i _ (List.getElem?_eq_getElem hi')
        have hxr : Rep1 G (.sl (.own b e.size) l) (.slice (some ⟨b, 0, none⟩) l.length cap) := Rep1.sl (.own b e.size) l b 0 e.size cap uu hk hF h1 hr hcap hm ho (fun g' k' hh => by cases hh; exact ⟨rfl, rfl, rfl, _, hO⟩)
        obtain ⟨_, us, hus, husz, huc⟩ := hxr.flat hw hll
        by_cases hroom : l.length + ys.length ≤ cap
        · have hfit : l.length * e.size + vs.toList.length ≤ cur.size := by
            simp only [Array.length_toList, hvsz, k5, ← Nat.add_mul]; exact Nat.mul_le_mul_right _ hroom
          have hrun := hR.room ty b l.length cap cur _ hh hroom hfit (fun u hu => by
            obtain ⟨j, hj, rfl⟩ := List.mem_iff_getElem.1 hu
            exact hvs.one j _ (by simp))
          obtain ⟨arr, harr⟩ : ∃ arr, arr = (cur.toList.take (l.length * e.size) ++ vs.toList ++ cur.toList.drop (l.length * e.size + vs.toList.length)).toArray := ⟨_, rfl⟩
          have harrs : arr.size = cap * e.size := by rw [harr]; simp only [Array.length_toList] at hfit; simp; omega
          rw [← harr] at hrun
          have hget : ∀ o, arr[o]? = if l.length * e.size ≤ o ∧ o < l.length * e.size + vs.size then vs[o - l.length * e.size]? else cur[o]? := fun o => by
            have tl : (cur.toList.take (l.length * e.size)).length = l.length * e.size := by simp only [Array.length_toList] at hfit; simp; omega
            rw [harr]
            simp only [List.getElem?_toArray]
            rw [List.append_assoc, List.getElem?_append, tl]
            by_cases c1 : o < l.length * e.size
            · rw [if_pos c1, if_neg (by omega), List.getElem?_take, if_pos c1]; simp
            · rw [if_neg c1, List.getElem?_append]
              simp only [Array.length_toList]
              by_cases c2 : o - l.length * e.size < vs.size
              · rw [if_pos c2, if_pos (by omega)]; simp
              · rw [if_neg c2, if_neg (by omega), List.getElem?_drop]
                simp only [Array.getElem?_toList]
                congr 1; omega
          obtain ⟨hle, hw'⟩ := hw.more hg hO hh arr (l.length + ys.length) (by omega) hroom harrs (fun o ho => by rw [hget, if_neg (by omega)])
          refine ⟨_, _, _, .sl (.own b e.size) (l ++ ys), _, hrun, ?_, hle, hw', .inr ⟨b, rfl, by simp [St.use], by simp only [St.use]; omega⟩, ⟨rfl, use_lt, by simp only [St.use]; omega, fun g m hg' hne => ?_, fun g k l' h => by cases h; exact .inl ⟨l, rfl⟩⟩⟩
          · rw [show l.length + ys.length = (l ++ ys).length by simp]
            have hF2 : ∀ i j, i < (l ++ ys).length → j < e.size → (Gh.more G b arr (l.length * e.size) ((l ++ ys).length * e.size)).F b (0 + i * e.size + j) = some (if i < l.length then uu i j else vs.getD ((i - l.length) * e.size + j) undef) := fun i j hi' hj => by
              rw [List.length_append] at hi'
              have hmul : (i + 1) * e.size ≤ (l.length + ys.length) * e.size := Nat.mul_le_mul_right _ hi'
              rw [Nat.add_mul, Nat.add_mul] at hmul
              simp only [Gh.more, Nat.zero_add]
              by_cases c1 : i < l.length
              · have hmul2 : (i + 1) * e.size ≤ l.length * e.size := Nat.mul_le_mul_right _ c1
                rw [Nat.add_mul] at hmul2
                rw [if_neg (by omega), if_pos c1]
                simpa using hF i j c1 hj
              · have hsub : i * e.size = l.length * e.size + (i - l.length) * e.size := by rw [← Nat.add_mul]; congr 1; omega
                rw [if_pos ⟨by trivial, by omega, by rw [List.length_append, Nat.add_mul]; omega⟩, if_neg c1, hget, if_pos (by omega)]
                rw [show i * e.size + j - l.length * e.size = (i - l.length) * e.size + j by omega]
                have hlt : (i - l.length) * e.size + j < vs.size := by omega
                simp [hlt]
            have hget2 : ∀ (i : Nat) (d : V), (l ++ ys)[i]? = some d → if i < l.length then l[i]? = some d else ys[i - l.length]? = some d := fun i d hd => by
              rw [List.getElem?_append] at hd
              split at hd
              · rename_i c1; rw [if_pos c1]; exact hd
              · rename_i c1; rw [if_neg c1]; exact hd
            refine .sl (.own b e.size) (l ++ ys) b 0 e.size cap (fun i j => if i < l.length then uu i j else vs.getD ((i - l.length) * e.size + j) undef) (fun i d hd => ?_) (fun i j hi' hj => by simpa using hF2 i j hi' hj) (fun i j hi' hj => ?_) (fun i d j cc hd hc => ?_) (by simpa using hroom) hm (by simp) (fun g' k' hh => by cases hh; exact ⟨rfl, rfl, rfl, _, hO⟩)
            · have := hget2 i d hd
              split at this
              · exact hk _ _ this
              · exact hys d (List.mem_of_getElem? this)
            · split
              · rename_i c1; exact h1 _ _ c1 hj
              · rename_i c1
                rw [List.length_append] at hi'
                have hmul : ((i - l.length) + 1) * e.size ≤ ys.length * e.size := Nat.mul_le_mul_right _ (by omega)
                rw [Nat.add_mul] at hmul
                have hlt : (i - l.length) * e.size + j < vs.size := by omega
                exact hvs.one _ _ (by rw [Array.getElem?_eq_getElem hlt]; simp [hlt])
            · have h2 := hget2 i d hd
              split
              · rename_i c1; rw [if_pos c1] at h2; exact (hr _ _ _ _ h2 hc).mono (by rw [List.length_append]; exact hle)
              · rename_i c1
                rw [if_neg c1] at h2
                have hj : j < e.size := by have := (List.getElem?_eq_some_iff.1 hc).1; rw [hys d (List.mem_of_getElem? h2)] at this; exact this
                have hi2 := (List.getElem?_eq_some_iff.1 h2).1
                have hmul : ((i - l.length) + 1) * e.size ≤ ys.length * e.size := Nat.mul_le_mul_right _ (by omega)
                rw [Nat.add_mul] at hmul
                have hlt : (i - l.length) * e.size + j < vs.size := by omega
                exact (hvs.rep ((i - l.length) * e.size + j) cc (vs.getD ((i - l.length) * e.size + j) undef) (by rw [flat_get hyl _ _ h2 hj]; exact hc) (by rw [Array.getElem?_eq_getElem hlt]; simp [hlt])).mono (by rw [List.length_append]; exact hle)
          · simp only [St.use]
            rw [if_neg (fun e3 => hne l e.size (by rw [e3]))]; exact hg'
        · have hrun := hR.grow ty ⟨b, 0, none⟩ l.length cap us.toList (by simpa using husz) huc (by omega) (by unfold maxLen at h63; omega) (growslice_fits (by omega) hby)
          have hge := grownCap_ge w (l.length + ys.length) cap elem
          have hle := grownCap_le_maxLen w (l.length + ys.length) cap elem h63
          obtain ⟨G', j1, j2, j3⟩ := app_new (us := us) (vs := vs) (zs := Builtin.zeroCells z.cells (grownCap w (l.length + ys.length) cap elem - (l.length + ys.length))) (n := l.length) (m := ys.length) (l := l) hw.drew (allLen_of hll) hyl hus hvs elem (grownCap w (l.length + ys.length) cap elem) rfl rfl (by
            simp only [size_zeroCells, hvsz, husz, hzs, ← Nat.add_mul]
            congr 1; omega) hge hle
          simp only [World.size_drew] at j1 j2 j3
          simp only [Array.toArray_toList] at hrun
          refine ⟨_, _, G', _, _, hrun, j1, j2, j3, .inr ⟨w.heap.size, rfl, by simp [St.use], by simp only [St.use]; omega⟩, ⟨rfl, use_lt, by simp only [St.use]; omega, fun g m hg' _ => ?_, fun g k l' h => ?_⟩⟩
          · have := (hw.own g m hg').1
            have := hw.sz
            simp only [St.use]
            rw [if_neg (by omega)]; exact hg'
          · cases h; exact .inr hw.sz
theorem mono_of_rep {cs : List V} {vs : Array Value} (h : RepL G cs vs) : mono cs := by
  unfold mono
  split
  · rename_i c
    have hs : vs.size = 1 := h.len
    have := h.rep 0 c vs[0] rfl (Array.getElem?_eq_getElem (by omega))
    generalize vs[0] = v at this
    cases this <;> rfl
  · trivial
theorem mono_and {cs : List V} {vs : Array Value} {p : Prop} (hp : RepL G cs vs → p) (h : RepL G cs vs) : mono cs ∧ p := ⟨mono_of_rep h, hp h⟩
/-- An append to a boxed slice: the row may turn afterwards. -/
theorem appB_sound (hw : RepW w0 G st w) {t t2 elem ty : TypeId} {e : TypeInfo} {z : Value} (ht : P.underlying t = some (.slice elem)) (hi : P.info? elem = some e) (hz : e.zero = some z) (hzs : z.cells.size = e.size) (hz1 : ∀ u ∈ z.cells, u.oneCell' = true) (hsz : 0 < e.size)
    {b n cap : Nat} {cs ys : List V} {v : Value} (hb : st.box b = some cs) (hcs : cs.length = cap * e.size) (hmo : mono cs) (hn : n ≤ cap) (hcap : cap ≤ maxLen) (hy : SrcOk P G w t t2 elem e z v ys) (hys : allSz e.size ys) (h63 : n + ys.length ≤ maxLen) (hby : (n + ys.length) * e.bytes ≤ 140737488355328) :
    ∃ b' cap' spare w', (Builtin.append_ #[t, t2] ty #[.slice (some ⟨b, 0, none⟩) n cap, v]).run P w = .ok (.slice (some ⟨b', 0, none⟩) (n + ys.length) cap') w' ∧ (b' = b ∨ st.sz ≤ b') ∧ n + ys.length ≤ cap' ∧ cap' ≤ maxLen ∧
      (n + ys.length) * e.size + spare.length = cap' * e.size ∧ (n + ys.length ≤ cap → b' = b ∧ cap' = cap ∧ spare = cs.drop ((n + ys.length) * e.size)) ∧ mono (cs.take (n * e.size) ++ ys.flatMap V.cells ++ spare) ∧ RepW w0 G (st.put b' (cs.take (n * e.size) ++ ys.flatMap V.cells ++ spare)) w' := by
  have hyl := allLen_of hys
  have hmul : n * e.size ≤ cap * e.size := Nat.mul_le_mul_right _ hn
  obtain ⟨hlt, hge0, hF, hO, hrb⟩ := hw.box b cs hb
  obtain ⟨cur, te, hh, hcl, hc1, hcr⟩ := hrb.row hmo
  rcases hy with ⟨rfl, hnone⟩ | ⟨hpos, vs, hvs, hvsz, hR⟩
  · have e1 : cs.take (n * e.size) ++ ([] : List V).flatMap V.cells ++ cs.drop (n * e.size) = cs := by simp
    refine ⟨b, cap, cs.drop (n * e.size), w, hnone ty _ n cap hn, .inl rfl, hn, hcap, by simp; omega, fun _ => ⟨rfl, rfl, by simp⟩, by rw [e1]; exact hmo, ?_⟩
    rw [e1]
    exact hw.setBox hb w cur te cs hh (fun _ _ => rfl) rfl rfl rfl rfl hcl hc1 hcr
  · have hvl := hvs.len
    rw [allLen_flat hyl] at hvl
    have hfl : (ys.flatMap V.cells).length = ys.length * e.size := allLen_flat hyl
    by_cases hroom : n + ys.length ≤ cap
    · have hmul2 : (n + ys.length) * e.size ≤ cap * e.size := Nat.mul_le_mul_right _ hroom
      rw [Nat.add_mul] at hmul2
      have hfit : n * e.size + vs.toList.length ≤ cur.size := by simp only [Array.length_toList]; omega
      have hrun := hR.room ty b n cap cur _ hh hroom hfit (fun u hu => by
        obtain ⟨j, hj, rfl⟩ := List.mem_iff_getElem.1 hu
        exact hvs.one j _ (by simp))
      refine ⟨b, cap, cs.drop (n * e.size + ys.length * e.size), _, hrun, .inl rfl, hroom, hcap, by rw [List.length_drop, Nat.add_mul]; omega, fun _ => ⟨rfl, rfl, by rw [Nat.add_mul]⟩, ?_⟩
      have hset := setRow_heap w b cur (cur.toList.take (n * e.size) ++ vs.toList ++ cur.toList.drop (n * e.size + vs.toList.length)).toArray _ _ hh
      have tl : (cur.toList.take (n * e.size)).length = n * e.size := by simp; omega
      have tc : (cs.take (n * e.size)).length = n * e.size := by simp; omega
      have hvl2 : vs.toList.length = ys.length * e.size := by simp only [Array.length_toList]; omega
      refine mono_and (G := G) (vs := (cur.toList.take (n * e.size) ++ vs.toList ++ cur.toList.drop (n * e.size + vs.toList.length)).toArray) (fun hrl => hw.setBox hb _ _ te _ hset (fun k hk => setRow_other w b k _ hk) (by simp) rfl rfl rfl hrl.len hrl.one hrl.rep) ⟨?_, fun i u hu => ?_, fun i x u hx hu => ?_⟩
      · simp only [List.size_toArray, List.length_append, tl, tc, hvl2, hfl, List.length_drop, Array.length_toList]; omega
      · simp only [List.getElem?_toArray] at hu
        rcases List.mem_append.1 (List.mem_of_getElem? hu) with h | h
        · rcases List.mem_append.1 h with h | h
          · obtain ⟨j, hj⟩ := List.mem_iff_getElem?.1 (List.mem_of_mem_take h)
            exact hc1 j u (by simpa using hj)
          · obtain ⟨j, hj⟩ := List.mem_iff_getElem?.1 h
            exact hvs.one j u (by simpa using hj)
        · obtain ⟨j, hj⟩ := List.mem_iff_getElem?.1 (List.mem_of_mem_drop h)
          exact hc1 j u (by simpa using hj)
      · simp only [List.getElem?_toArray] at hu
        rw [List.append_assoc, List.getElem?_append, tl] at hu
        rw [List.append_assoc, List.getElem?_append, tc] at hx
        split at hx
        · rename_i h1
          rw [if_pos h1, List.getElem?_take, if_pos h1] at hu
          rw [List.getElem?_take, if_pos h1] at hx
          exact hcr i x u hx (by simpa using hu)
        · rename_i h1
          rw [if_neg h1, List.getElem?_append, hvl2] at hu
          rw [List.getElem?_append, hfl] at hx
          split at hx
          · rename_i h2
            rw [if_pos h2] at hu
            exact hvs.rep _ x u hx (by simpa using hu)
          · rename_i h2
            rw [if_neg h2, List.getElem?_drop] at hu
            rw [List.getElem?_drop] at hx
            exact hcr _ x u hx (by simpa using hu)
    · have hrun := hR.grow ty ⟨b, 0, none⟩ n cap (cur.toList.take (n * e.size)) (by simp; omega) (fun j u hu => by
        rw [List.getElem?_take] at hu
        split at hu
        · rw [addr_add, cell_of_row w b _ cur te _ hh]; simpa using hu
        · cases hu) (by omega) (by unfold maxLen at h63; omega) (growslice_fits (by omega) hby)
      have hge := grownCap_ge w (n + ys.length) cap elem
      have hle := grownCap_le_maxLen w (n + ys.length) cap elem h63
      generalize grownCap w (n + ys.length) cap elem = k at *
      have hmul3 : (n + ys.length) * e.size ≤ k * e.size := Nat.mul_le_mul_right _ hge
      have hzc : (Builtin.zeroCells z.cells (k - (n + ys.length))).size = k * e.size - (n + ys.length) * e.size := by rw [size_zeroCells, hzs, Nat.sub_mul]
      refine ⟨w.heap.size, k, List.replicate (k * e.size - (n + ys.length) * e.size) .any, _, hrun, .inr hw.sz, hge, hle, by simp; omega, fun h => absurd h hroom, ?_⟩
      have tl : (cur.toList.take (n * e.size)).length = n * e.size := by simp; omega
      have tc : (cs.take (n * e.size)).length = n * e.size := by simp; omega
      have hvl2 : vs.toList.length = ys.length * e.size := by simp only [Array.length_toList]; omega
      refine mono_and (G := G) (vs := (cur.toList.take (n * e.size) ++ vs.toList).toArray ++ Builtin.zeroCells z.cells (k - (n + ys.length))) (fun hrl => ?_) ⟨by
        simp only [Array.size_append, List.size_toArray, List.length_append, tl, tc, hvl2, hfl, hzc, List.length_replicate], fun i u hu => ?_, fun i x u hx hu => ?_⟩
      · have hnew := hw.drew.newBox ((cur.toList.take (n * e.size) ++ vs.toList).toArray ++ Builtin.zeroCells z.cells (k - (n + ys.length))) elem (cs.take (n * e.size) ++ ys.flatMap V.cells ++ List.replicate (k * e.size - (n + ys.length) * e.size) .any) hrl.len hrl.one hrl.rep
        rw [World.size_drew, show (cur.toList.take (n * e.size) ++ vs.toList).toArray = (cur.toList.take (n * e.size)).toArray ++ vs.toList.toArray from by apply Array.ext'; simp] at hnew
        exact hnew
      · rw [Array.getElem?_append] at hu
        split at hu
        · simp only [List.getElem?_toArray] at hu
          rcases List.mem_append.1 (List.mem_of_getElem? hu) with h | h
          · obtain ⟨j, hj⟩ := List.mem_iff_getElem?.1 (List.mem_of_mem_take h)
            exact hc1 j u (by simpa using hj)
          · obtain ⟨j, hj⟩ := List.mem_iff_getElem?.1 h
            exact hvs.one j u (by simpa using hj)
        · unfold Builtin.zeroCells at hu
          simp only [Array.getElem?_map, Option.map_eq_some_iff] at hu
          obtain ⟨j, _, rfl⟩ := hu
          have hlt : j % z.cells.size < z.cells.size := Nat.mod_lt _ (by omega)
          rw [getElem!_pos z.cells _ hlt]
          exact hz1 _ (Array.getElem_mem hlt)
      · rw [List.append_assoc, List.getElem?_append, tc] at hx
        rw [Array.getElem?_append] at hu
        simp only [List.size_toArray, List.length_append, tl, hvl2] at hu
        split at hx
        · rename_i h1
          rw [if_pos (by omega)] at hu
          simp only [List.getElem?_toArray] at hu
          rw [List.getElem?_append, tl, if_pos h1, List.getElem?_take, if_pos h1] at hu
          rw [List.getElem?_take, if_pos h1] at hx
          exact hcr i x u hx (by simpa using hu)
        · rename_i h1
          rw [List.getElem?_append, hfl] at hx
          split at hx
          · rename_i h2
            rw [if_pos (by omega)] at hu
            simp only [List.getElem?_toArray] at hu
            rw [List.getElem?_append, tl, if_neg h1] at hu
            exact hvs.rep _ x u hx (by simpa using hu)
          · rw [List.getElem?_replicate] at hx
            split at hx
            · cases hx; exact .any u
            · cases hx
/-- An append of something to nil: its row may turn afterwards. -/
theorem appN_sound (hw : RepW w0 G st w) {t t2 elem ty : TypeId} {e : TypeInfo} {z : Value} (ht : P.underlying t = some (.slice elem)) (hi : P.info? elem = some e) (hz : e.zero = some z) (hzs : z.cells.size = e.size) (hz1 : ∀ u ∈ z.cells, u.oneCell' = true) (hsz : 0 < e.size)
    {ys : List V} {v : Value} (hy : SrcOk P G w t t2 elem e z v ys) (hys : allSz e.size ys) (hpos : 0 < ys.length) (h63 : ys.length ≤ maxLen) (hby : ys.length * e.bytes ≤ 140737488355328) :
    ∃ b' cap' spare w', (Builtin.append_ #[t, t2] ty #[.slice none 0 0, v]).run P w = .ok (.slice (some ⟨b', 0, none⟩) ys.length cap') w' ∧ st.sz ≤ b' ∧ ys.length ≤ cap' ∧ cap' ≤ maxLen ∧
      ys.length * e.size + spare.length = cap' * e.size ∧ mono (ys.flatMap V.cells ++ spare) ∧ RepW w0 G (st.put b' (ys.flatMap V.cells ++ spare)) w' := by
  have hyl := allLen_of hys
  obtain ⟨vs, hvs, hvsz, hR⟩ : ∃ vs : Array Value, RepL G (ys.flatMap V.cells) vs ∧ vs.size = ys.length * e.size ∧ SrcRun P w t t2 elem e z v ys.length vs.toList := by
    rcases hy with ⟨rfl, _⟩ | ⟨_, h⟩
    · exact absurd hpos (by simp)
    · exact h
  have hvl := hvs.len
  rw [allLen_flat hyl] at hvl
  have hfl : (ys.flatMap V.cells).length = ys.length * e.size := allLen_flat hyl
  have hb : ys.length * e.bytes ≤ 281474976710656 := by omega
  have hrun := hR.nil ty hpos (by unfold maxLen at h63; omega) hb
  have hge := grownCap_ge w ys.length 0 elem
  have hle := grownCap_le_maxLen w ys.length 0 elem h63
  generalize grownCap w ys.length 0 elem = k at *
  have hmul3 : ys.length * e.size ≤ k * e.size := Nat.mul_le_mul_right _ hge
  have hzc : (Builtin.zeroCells z.cells (k - ys.length)).size = k * e.size - ys.length * e.size := by rw [size_zeroCells, hzs, Nat.sub_mul]
  refine ⟨w.heap.size, k, List.replicate (k * e.size - ys.length * e.size) .any, _, hrun, hw.sz, hge, hle, by simp; omega, ?_⟩
  have hvl2 : vs.toList.length = ys.length * e.size := by simp only [Array.length_toList]; omega
  refine mono_and (G := G) (vs := vs.toList.toArray ++ Builtin.zeroCells z.cells (k - ys.length)) (fun hrl => ?_) ⟨by
    simp only [Array.size_append, List.size_toArray, List.length_append, hvl2, hfl, hzc, List.length_replicate], fun i u hu => ?_, fun i x u hx hu => ?_⟩
  · have hnew := hw.drew.newBox (vs.toList.toArray ++ Builtin.zeroCells z.cells (k - ys.length)) elem (ys.flatMap V.cells ++ List.replicate (k * e.size - ys.length * e.size) .any) hrl.len hrl.one hrl.rep
    rw [World.size_drew] at hnew
    exact hnew
  · rw [Array.getElem?_append] at hu
    split at hu
    · simp only [List.getElem?_toArray] at hu
      exact hvs.one i u (by simpa using hu)
    · unfold Builtin.zeroCells at hu
      simp only [Array.getElem?_map, Option.map_eq_some_iff] at hu
      obtain ⟨j, _, rfl⟩ := hu
      have hlt : j % z.cells.size < z.cells.size := Nat.mod_lt _ (by omega)
      rw [getElem!_pos z.cells _ hlt]
      exact hz1 _ (Array.getElem_mem hlt)
  · rw [List.getElem?_append, hfl] at hx
    rw [Array.getElem?_append] at hu
    simp only [List.size_toArray, hvl2] at hu
    split at hx
    · rename_i h1
      rw [if_pos h1] at hu
      simp only [List.getElem?_toArray] at hu
      exact hvs.rep i x u hx (by simpa using hu)
    · rw [List.getElem?_replicate] at hx
      split at hx
      · cases hx; exact .any u
      · cases hx
theorem repl_get {z : List V} : ∀ {k i : Nat}, 0 < z.length → i < k * z.length → (List.replicate k z).flatten[i]? = z[i % z.length]?
  | 0, i, _, h => by simp at h
  | k + 1, i, h0, h => by
    rw [List.replicate_succ, List.flatten_cons, List.getElem?_append]
    split
    · rename_i hlt; rw [Nat.mod_eq_of_lt hlt]
    · rename_i hge
      rw [Nat.add_mul, Nat.one_mul] at h
      rw [repl_get h0 (by omega)]
      rw [Nat.mod_eq_sub_mod (a := i) (by omega)]
/-- A slice's elements are made zero. -/
theorem clr_sound (hw : RepW w0 G st w) {t elem ty : TypeId} {e : TypeInfo} {z : List V} (ht : P.underlying t = some (.slice elem)) (hi : P.info? elem = some e) (hz : zeroCells' P elem = some z) (hzl : z.length = e.size) (hs : 0 < e.size) {b o n c : Nat} {cs : List V} (hb : st.box b = some cs) (hfit : o + n * e.size ≤ cs.length) (hmo : mono cs) :
    ∃ w', (Builtin.clear_ #[t] ty #[.slice (some ⟨b, o, none⟩) n c]).run P w = .ok (.tuple #[]) w' ∧ RepW w0 G (st.put b (splice cs o (List.replicate n z).flatten)) w' := by
  obtain ⟨zv, hzv, hzr, hzs⟩ := zero_sound (G := G) hz w
  obtain ⟨hlt, hge0, hF, hO, hrb⟩ := hw.box b cs hb
  obtain ⟨vs, te, hh, hvl, h1, hr⟩ := hrb.row hmo
  have hvc : RepL G cs vs := ⟨hvl, h1, hr⟩
  cases n with
  | zero =>
    refine ⟨w, by simp [Builtin.clear_, run_underlying ht], ?_⟩
    have e1 : splice cs o (List.replicate 0 z).flatten = cs := by simp [splice]
    rw [e1]
    exact hw.setBox hb w vs te cs hh (fun _ _ => rfl) rfl rfl rfl rfl hvl h1 hr
  | succ n =>
    have hyr : RepL G (List.replicate (n + 1) z).flatten (Builtin.zeroCells zv.cells (n + 1)) := by
      have hsz : (Builtin.zeroCells zv.cells (n + 1)).size = (n + 1) * e.size := by rw [size_zeroCells, hzs, hzl]
      have hlen : (List.replicate (n + 1) z).flatten.length = (n + 1) * e.size := by simp [hzl]
      have hget : ∀ i v, (Builtin.zeroCells zv.cells (n + 1))[i]? = some v → zv.cells[i % e.size]? = some v := fun i v hv => by
        unfold Builtin.zeroCells at hv
        simp only [Array.getElem?_map, Option.map_eq_some_iff] at hv
        obtain ⟨j, hj, rfl⟩ := hv
        have hj' := (Array.getElem?_eq_some_iff.1 hj)
        obtain ⟨hjl, hje⟩ := hj'
        simp at hje
        subst hje
        have hlt : i % zv.cells.size < zv.cells.size := Nat.mod_lt _ (by omega)
        rw [getElem!_pos zv.cells _ hlt, ← hzl, ← hzs]
        exact Array.getElem?_eq_getElem hlt
      refine ⟨by rw [hsz, hlen], fun i v hv => hzr.one _ _ (hget i v hv), fun i x v hx hv => hzr.rep _ x v ?_ (hget i v hv)⟩
      have hi' : i < (n + 1) * e.size := by rw [← hlen]; exact (List.getElem?_eq_some_iff.1 hx).1
      rw [← hx]
      exact (repl_get (z := z) (k := n + 1) (by omega) (by rw [hzl]; exact hi') |>.trans (by rw [hzl])).symm
    have hflen : (List.replicate (n + 1) z).flatten.length = (n + 1) * e.size := by simp [hzl]
    obtain ⟨w', k1, k2⟩ := cells_store (P := P) (o := o) hw hb hyr (by omega) hmo
    refine ⟨w', ?_, k2⟩
    simp [Builtin.clear_, run_underlying ht, hzv, k1]
end
end Go.Proofs.Ytlngegoamfklgaa
