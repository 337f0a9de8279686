/- A row of the call's own that is handed on and grows: what an append leaves; blocks that are known whole. -/
import Derived.Test.YtnbokpfkcfhgbaaInts
namespace Go.Proofs.Ytnbokpfkcfhgbaa
open Go Go.RowKit

/-- The row v has grown to v' (it lies where it lay, or in a new block); nothing else that was there has turned. -/
structure Grew (w w' : World) (v v' : Value) : Prop where
  grown : w.grownBy w' v.ownBlock
  lies : v'.ownBlock = v.ownBlock ∨ ∃ g, v'.ownBlock = some g ∧ w.heap.size ≤ g
theorem Grew.refl (w : World) (v : Value) : Grew w w v v := ⟨World.grownBy.refl w _, .inl rfl⟩
theorem Grew.trans {a b c : World} {u v x : Value} (h : Grew a b u v) (k : Grew b c v x) : Grew a c u x := by
  refine ⟨⟨k.grown.os.trans h.grown.os, k.grown.tape.trans h.grown.tape, k.grown.output.trans h.grown.output, Nat.le_trans h.grown.size k.grown.size, fun i hi hne => ?_⟩, ?_⟩
  · refine (k.grown.block i (Nat.lt_of_lt_of_le hi h.grown.size) ?_).trans (h.grown.block i hi hne)
    rcases h.lies with e | ⟨g, e, hg⟩
    · rw [e]; exact hne
    · rw [e]; intro e2; injection e2 with e2; omega
  · rcases k.lies with e | ⟨g, e, hg⟩
    · rcases h.lies with e' | ⟨g, e', hg⟩
      · exact .inl (e.trans e')
      · exact .inr ⟨g, e.trans e', hg⟩
    · exact .inr ⟨g, e, Nat.le_trans h.grown.size hg⟩
/-- Ahead of it only new memory was made. -/
theorem Grew.after {a b c : World} {u v : Value} (h : Below a.heap.size a b) (k : Grew b c u v) : Grew a c u v :=
  ⟨⟨k.grown.os.trans h.os, k.grown.tape.trans h.tape, k.grown.output.trans h.output, Nat.le_trans h.size k.grown.size, fun i hi hne => (k.grown.block i (Nat.lt_of_lt_of_le hi h.size) hne).trans (h.block i hi)⟩,
    by rcases k.lies with e | ⟨g, e, hg⟩; exact .inl e; exact .inr ⟨g, e, Nat.le_trans h.size hg⟩⟩
/-- Behind it only new memory was made. -/
theorem Grew.then {a b c : World} {u v : Value} (h : Grew a b u v) (k : Below b.heap.size b c) : Grew a c u v :=
  ⟨⟨k.os.trans h.grown.os, k.tape.trans h.grown.tape, k.output.trans h.grown.output, Nat.le_trans h.grown.size k.size, fun i hi hne => (k.block i (Nat.lt_of_lt_of_le hi h.grown.size)).trans (h.grown.block i hi hne)⟩, h.lies⟩
theorem Grew.size {a b : World} {u v : Value} (h : Grew a b u v) : a.heap.size ≤ b.heap.size := h.grown.size
theorem Grew.below {a w w' : World} {B : Nat} {e : TypeId} {size n : Nat} {u v : Value} {xs : List Value} (h : Grew w w' u v) (hown : w.ownsRow B e size u n xs) (hb : Below B a w) (hB : B ≤ w.heap.size) : Below B a w' :=
  hb.grown h.grown hB fun k hk => (hown.lt k hk).1
theorem Grew.nil {w w' : World} {v : Value} (h : Grew w w' (.slice none 0 0) v) : Below w.heap.size w w' :=
  ⟨h.grown.os, h.grown.tape, h.grown.output, h.grown.size, fun k hk => h.grown.block k hk (by simp [Value.ownBlock])⟩
/-- Another row of the call's own stays as it was, and stays another one. -/
theorem Grew.other {w w' : World} {B : Nat} {e : TypeId} {size n : Nat} {u v x : Value} {xs : List Value} (h : Grew w w' u v) (hx : w.ownsRow B e size x n xs) (hne : x.ownBlock = none ∨ x.ownBlock ≠ u.ownBlock) :
    w'.ownsRow B e size x n xs ∧ (x.ownBlock = none ∨ x.ownBlock ≠ v.ownBlock) := by
  refine ⟨hx.kept h.grown hne, ?_⟩
  rcases hne with e | hne
  · exact .inl e
  · rcases h.lies with e | ⟨g, e, hg⟩
    · exact .inr (by rw [e]; exact hne)
    · refine .inr fun e2 => ?_
      have := (hx.lt g (e2.trans e)).2
      omega
theorem Grew.cell {w w' : World} {u v : Value} (h : Grew w w' u v) {a : Addr} {x : Value} (hc : w.cell? a = some x) (hne : some a.block ≠ u.ownBlock) : w'.cell? a = some x := h.grown.cell hc hne
/-- A slice below the row's base reads as it did. -/
def InB (A : Option Addr) (B : Nat) : Prop := ∀ a, A = some a → a.block < B
theorem elemL_block {b : Nat} : ∀ {cs : List Value} {o : Nat} {p : Addr × Value}, p ∈ elemL b o cs → p.1.block = b
  | [], _, _, hp => by simp [elemL] at hp
  | c :: cs, o, p, hp => by
    simp only [elemL, List.mem_cons] at hp
    rcases hp with rfl | hp
    · rfl
    · exact elemL_block hp
theorem Elems.keepB {w w1 : World} {A : Option Addr} {size B : Nat} {xs : List (List Value)} (h : Elems w A size xs) (hA : InB A B) (hb : Below B w w1) : Elems w1 A size xs := fun i cs hi => by
  obtain ⟨b, o, e, hh⟩ := h i cs hi
  refine ⟨b, o, e, fun p hp => ?_⟩
  have hpb : p.1.block = b := elemL_block hp
  exact (hb.cell (by rw [hpb]; exact hA _ e)).trans (hh p hp)
theorem Elems.nil (w : World) (A : Option Addr) (size : Nat) : Elems w A size [] := fun i cs hi => by simp at hi
theorem Elems.take {w : World} {A : Option Addr} {size : Nat} {xs : List (List Value)} (h : Elems w A size xs) (k : Nat) : Elems w A size (xs.take k) := fun i cs hi => by
  rw [List.getElem?_take] at hi
  split at hi
  · exact h i cs hi
  · cases hi
/-- A slice cut in front. -/
theorem Elems.cut {w : World} {A : Option Addr} {size cap k : Nat} {xs : List (List Value)} (h : Elems w A size xs) (hc : xs.length ≤ cap) :
    Elems w (if cap = k then A else A.map (·.add (k * size))) size (xs.drop k) := fun i cs hi => by
  rw [List.getElem?_drop] at hi
  have hlt := (List.getElem?_eq_some_iff.1 hi).1
  obtain ⟨b, o, rfl, hh⟩ := h (k + i) cs hi
  rw [if_neg (by omega)]
  refine ⟨b, o + k * size, ?_, ?_⟩
  · unfold Addr.add
    by_cases hz : k * size = 0
    · simp [hz]
    · simp [hz]
  · rw [show o + k * size + i * size = o + (k + i) * size from by rw [Nat.add_mul]; omega]
    exact hh
theorem InB.cut {A : Option Addr} {B cap k size : Nat} (h : InB A B) : InB (if cap = k then A else A.map (·.add (k * size))) B := by
  intro a ha
  split at ha
  · exact h a ha
  · cases A with
    | none => cases ha
    | some x =>
      simp only [Option.map_some, Option.some.injEq] at ha
      subst ha
      have := h x rfl
      unfold Addr.add
      split <;> exact this
theorem InB.none (B : Nat) : InB none B := fun a h => by cases h
theorem InB.some {a : Addr} {B : Nat} (h : a.block < B) : InB (some a) B := fun x hx => by cases hx; exact h

section
variable {P : Program} {w : World}
/-- The append of some that have just been laid, with where the row lies. -/
theorem wpList_appG {ops : Array Oper} {rest : List Oper} {o : Oper} {a : Act} {Q : Exit → Act → World → Prop} (hgd : o.guard = none) (s x : Operand) (t : TypeId)
    (ho : o.op = .call { callee := .builtin .append, args := #[s, x], argTypes := #[t, t] })
    (base : Nat) (e : TypeId) (z : Value) (size bytes : Nat) (E : ElemInfo P t e z size bytes)
    (v : Value) (n : Nat) (xs : List Value) (hs : a.eval s = v) (hown : w.ownsRow base e size v n xs)
    (m : Nat) (news : Array Value) {H : Nat} (hx : a.eval x = .slice (some ⟨H, 0, none⟩) m m) (hH : w.heap.size = H) (hl : news.size = m * size) (h1 : ∀ u ∈ news.toList, u.oneCell' = true)
    (h63 : n + m ≤ maxLen) (hbytes : (n + m) * bytes ≤ 140737488355328) (hbase : base ≤ w.heap.size)
    (h : ∀ v' w', w'.ownsRow base e size v' (n + m) (xs ++ news.toList) → Grew w w' v v' → wpList P ops Q rest (a.put o.dst v') w') :
    wpList P ops Q (o :: rest) a (w.alloc (.cells news e)) := by
  subst hH
  obtain ⟨i, hi, hz, hsize, hby⟩ := E.info
  refine wpList_append_own_at (w := w.alloc (.cells news e)) hgd s x t ho base e i z size bytes E.ht hi hz hsize hby E.hzs E.hsz v n xs hs (hown.alloc _) ⟨w.heap.size, 0, none⟩ m m news.toList hx (by simpa using hl)
    (World.news_of_block (heap_alloc_new w _)) h1 h63 hbytes (by simp; omega) fun v' w' hown' hg _ hat => h v' w' hown' ⟨?_, ?_⟩
  · exact ⟨hg.os, hg.tape, hg.output, Nat.le_trans (by simp) hg.size, fun k hk hne => (hg.block k (by simp; omega) hne).trans (Below.heap_alloc w _ k hk)⟩
  · rcases hat with e | e
    · exact .inl e
    · exact .inr ⟨_, e, by simp⟩

theorem flatten_inv {size : Nat} : ∀ {Ls : List (List Value)} (_ : ∀ l ∈ Ls, l.length = size) {j : Nat} {u : Value} (_ : Ls.flatten[j]? = some u), ∃ i cs r, Ls[i]? = some cs ∧ cs[r]? = some u ∧ j = i * size + r
  | [], _, j, u, h => by simp at h
  | l :: Ls, hl, j, u, h => by
    have h0 := hl l (by simp)
    rw [List.flatten_cons, List.getElem?_append] at h
    split at h
    · exact ⟨0, l, j, rfl, h, by omega⟩
    · obtain ⟨i, cs, r, h1, h2, h3⟩ := flatten_inv (fun l h => hl l (by simp [h])) h
      exact ⟨i + 1, cs, r, by simpa using h1, h2, by rw [Nat.add_mul]; omega⟩
theorem flatten_len {size : Nat} {Ls : List (List Value)} (hl : ∀ l ∈ Ls, l.length = size) : Ls.flatten.length = Ls.length * size := by
  induction Ls with
  | nil => simp
  | cons l Ls ih =>
    rw [List.flatten_cons, List.length_append, hl l (by simp), ih fun l h => hl l (by simp [h]), List.length_cons, Nat.add_mul]
    omega
theorem elemL_get {w : World} {b : Nat} : ∀ {cs : List Value} {o : Nat} (_ : Holds w (elemL b o cs)) {j : Nat} {v : Value} (_ : cs[j]? = some v), w.cell? ⟨b, o + j, none⟩ = some v
  | [], _, _, j, v, hj => by simp at hj
  | c :: cs, o, h, 0, v, hj => by
    rw [elemL, Holds.cons] at h
    simp at hj
    subst hj
    simpa using h.1
  | c :: cs, o, h, j + 1, v, hj => by
    rw [elemL, Holds.cons] at h
    have := elemL_get h.2 (j := j) (by simpa using hj)
    rwa [show o + 1 + j = o + (j + 1) from by omega] at this

theorem run_append_nilsrc (base : Nat) (t ty e : TypeId) (i : TypeInfo) (size : Nat) (ht : P.underlying t = some (.slice e)) (hi : P.info? e = some i)
    (v : Value) (n : Nat) (xs : List Value) (hown : w.ownsRow base e size v n xs) (c : Nat) : (Builtin.append_ #[t, t] ty #[v, .slice none 0 c]).run P w = .ok v w := by
  rcases hown.2 with ⟨rfl, rfl⟩ | ⟨g, cap, cur, rfl, _, _, hnc, _⟩
  · simp [Builtin.append_, run_underlying ht, sizeOf, typeInfo, hi, Builtin.lenOf, Builtin.firstCells]
  · simp [Builtin.append_, run_underlying ht, sizeOf, typeInfo, hi, Builtin.lenOf, Builtin.firstCells, hnc, storeCells]

/-- 'out = append(out, x...)' where x is any slice that reads as these. -/
theorem run_appS (t ty : TypeId) (base : Nat) (e : TypeId) (z : Value) (size bytes : Nat) (E : ElemInfo P t e z size bytes)
    (v : Value) (n : Nat) (xs : List Value) (hown : w.ownsRow base e size v n xs)
    (A : Option Addr) (m c : Nat) (Ls : List (List Value)) (hel : Elems w A size Ls) (hm : Ls.length = m) (hl : ∀ l ∈ Ls, l.length = size) (h1 : ∀ l ∈ Ls, ∀ u ∈ l, u.oneCell' = true)
    (h63 : n + m ≤ maxLen) (hbytes : (n + m) * bytes ≤ 140737488355328) (hbase : base ≤ w.heap.size) :
    ∃ v' w', (Builtin.append_ #[t, t] ty #[v, .slice A m c]).run P w = .ok v' w' ∧ w'.ownsRow base e size v' (n + m) (xs ++ Ls.flatten) ∧ Grew w w' v v' := by
  obtain ⟨i, hi, hz, hsize, hby⟩ := E.info
  rcases A with _ | ad
  · have hm0 : Ls = [] := by
      cases Ls with
      | nil => rfl
      | cons l Ls =>
        obtain ⟨b, o, e, _⟩ := hel 0 l rfl
        cases e
    subst hm0
    simp at hm
    subst hm
    exact ⟨v, w, run_append_nilsrc base t ty e i size E.ht hi v n xs hown c, by simpa using hown, Grew.refl w v⟩
  · have hcells : ∀ j u, Ls.flatten[j]? = some u → w.cell? (ad.add j) = some u := by
      intro j u hj
      obtain ⟨k, cs, r, h2, h3, h4⟩ := flatten_inv hl hj
      obtain ⟨b, o, e, hh⟩ := hel k cs h2
      cases e
      have := elemL_get hh h3
      have ea : (⟨b, o, none⟩ : Addr).add j = ⟨b, o + k * size + r, none⟩ := by
        unfold Addr.add
        split
        · simp only [Addr.mk.injEq, true_and, and_true]; omega
        · simp only [Addr.mk.injEq, true_and, and_true]; omega
      rw [ea]
      exact this
    obtain ⟨v', w', hrun, h2, h3, _, h5⟩ := run_append_own_at (P := P) w base t ty e i z size bytes E.ht hi hz hsize hby E.hzs E.hsz v n xs hown ad m c Ls.flatten (by rw [flatten_len hl, hm]) hcells
      (fun u hu => by obtain ⟨l, hl', hu'⟩ := List.mem_flatten.1 hu; exact h1 l hl' u hu') h63 hbytes hbase
    refine ⟨v', w', hrun, h2, h3, ?_⟩
    rcases h5 with e | e
    · exact .inl e
    · exact .inr ⟨_, e, Nat.le_refl _⟩
theorem wp_appS {o : Oper} {a : Act} {K : Act → World → Prop} {Q : Exit → Act → World → Prop} (s x : Operand) (t : TypeId)
    (ho : o.op = .call { callee := .builtin .append, args := #[s, x], argTypes := #[t, t] })
    (base : Nat) (e : TypeId) (z : Value) (size bytes : Nat) (E : ElemInfo P t e z size bytes)
    (v : Value) (n : Nat) (xs : List Value) (hs : a.eval s = v) (hown : w.ownsRow base e size v n xs)
    (A : Option Addr) (m c : Nat) (Ls : List (List Value)) (hx : a.eval x = .slice A m c) (hel : Elems w A size Ls) (hm : Ls.length = m) (hl : ∀ l ∈ Ls, l.length = size) (h1 : ∀ l ∈ Ls, ∀ u ∈ l, u.oneCell' = true)
    (h63 : n + m ≤ maxLen) (hbytes : (n + m) * bytes ≤ 140737488355328) (hbase : base ≤ w.heap.size)
    (h : ∀ v' w', w'.ownsRow base e size v' (n + m) (xs ++ Ls.flatten) → Grew w w' v v' → K (a.put o.dst v') w') : o.wp P a w K Q := by
  obtain ⟨v', w', hrun, h2, h3⟩ := run_appS (P := P) t o.type base e z size bytes E v n xs hown A m c Ls hel hm hl h1 h63 hbytes hbase
  unfold Oper.wp execOp
  simp only [ho, resolve, invoke, builtin, Sem.run_bind, Sem.run_pure, Result.andThen_ok, List.map_toArray, List.map_cons, List.map_nil, hs, hx, hrun]
  exact h v' w' h2 h3
theorem wpList_appS {ops : Array Oper} {rest : List Oper} {o : Oper} {a : Act} {Q : Exit → Act → World → Prop} (hgd : o.guard = none) (s x : Operand) (t : TypeId)
    (ho : o.op = .call { callee := .builtin .append, args := #[s, x], argTypes := #[t, t] })
    (base : Nat) (e : TypeId) (z : Value) (size bytes : Nat) (E : ElemInfo P t e z size bytes)
    (v : Value) (n : Nat) (xs : List Value) (hs : a.eval s = v) (hown : w.ownsRow base e size v n xs)
    (A : Option Addr) (m c : Nat) (Ls : List (List Value)) (hx : a.eval x = .slice A m c) (hel : Elems w A size Ls) (hm : Ls.length = m) (hl : ∀ l ∈ Ls, l.length = size) (h1 : ∀ l ∈ Ls, ∀ u ∈ l, u.oneCell' = true)
    (h63 : n + m ≤ maxLen) (hbytes : (n + m) * bytes ≤ 140737488355328) (hbase : base ≤ w.heap.size)
    (h : ∀ v' w', w'.ownsRow base e size v' (n + m) (xs ++ Ls.flatten) → Grew w w' v v' → wpList P ops Q rest (a.put o.dst v') w') : wpList P ops Q (o :: rest) a w :=
  wpList_plain hgd fun _ hK => wp_appS s x t ho base e z size bytes E v n xs hs hown A m c Ls hx hel hm hl h1 h63 hbytes hbase fun v' w' h2 h3 => hK _ _ (h v' w' h2 h3)
end

theorem nums_cells_one (k : IntKind) (L : List Int) : ∀ l ∈ nums k L, ∀ u ∈ l, u.oneCell' = true := by
  intro l hl u hu
  obtain ⟨x, _, rfl⟩ := List.mem_map.1 hl
  simp at hu
  subst hu
  rfl

/-- A block that is known whole. -/
def Blk (w : World) (g : Nat) (t : TypeId) (cs : Array Value) : Prop := w.heap[g]? = some (.cells cs t (0, 0))
section
variable {w w' : World} {g : Nat} {t : TypeId} {cs : Array Value}
theorem Blk.lt (h : Blk w g t cs) : g < w.heap.size := by
  rcases Nat.lt_or_ge g w.heap.size with hlt | hge
  · exact hlt
  · unfold Blk at h; rw [Array.getElem?_eq_none hge] at h; cases h
theorem Blk.cell (h : Blk w g t cs) (i : Nat) : w.cell? ⟨g, i, none⟩ = cs[i]? := by
  unfold Blk at h
  simp [World.cell?, h]
theorem Blk.frozen (h : Blk w g t cs) (i : Nat) : w.frozen? ⟨g, i, none⟩ = false := by
  unfold Blk at h
  simp [World.frozen?, h]
theorem Blk.holds (h : Blk w g t cs) : Holds w (elemL g 0 cs.toList) := elemL_holds _ _ fun j v hv => by
  rw [Nat.zero_add, h.cell]
  simpa using hv
theorem Blk.new (w : World) (t : TypeId) (cs : Array Value) : Blk (w.alloc (.cells cs t)) w.heap.size t cs := heap_alloc_new w _
theorem Blk.set_ (h : Blk w g t cs) (i : Nat) (u : Value) : Blk (w.setCell ⟨g, i, none⟩ u) g t (cs.setIfInBounds i u) := by
  unfold Blk at h ⊢
  simp [World.setCell, Array.getElem?_modify, h]
theorem Blk.below {B : Nat} (h : Blk w g t cs) (hb : Below B w w') (hg : g < B) : Blk w' g t cs := (hb.block g hg).trans h
theorem Blk.keep (h : Blk w g t cs) (hb : Below w.heap.size w w') : Blk w' g t cs := h.below hb h.lt
theorem Blk.grown {row : Option Nat} (h : Blk w g t cs) (hb : w.grownBy w' row) (hg : some g ≠ row) : Blk w' g t cs := (hb.block g h.lt hg).trans h
theorem Blk.ne_ {g' : Nat} {t' : TypeId} {cs' : Array Value} (h : Blk w g t cs) (h' : Blk w g' t' cs') (hne : t ≠ t') : g ≠ g' := by
  rintro rfl
  unfold Blk at h h'
  rw [h] at h'
  injection h' with h'
  injection h' with _ ht
  exact hne ht
theorem own_blk_ne {base : Nat} {e : TypeId} {size n : Nat} {v : Value} {xs : List Value} (h : w.ownsRow base e size v n xs) (hg : Blk w g t cs) (hne : e ≠ t) : v.ownBlock ≠ some g := by
  rcases h.2 with ⟨rfl, _⟩ | ⟨g', cap, cur, rfl, _, hh, _⟩
  · simp [Value.ownBlock]
  · intro he
    have : g' = g := by simpa [Value.ownBlock] using he
    subst this
    exact Blk.ne_ (t := e) hh hg hne rfl
end
end Go.Proofs.Ytnbokpfkcfhgbaa
