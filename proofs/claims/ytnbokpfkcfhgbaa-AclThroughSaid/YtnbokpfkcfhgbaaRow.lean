/- Rows that the call itself makes: append in one law; what such a row reads as. -/
import Derived.Test.YtnbokpfkcfhgbaaBase
import Derived.Maps.AppendAt
import Derived.Deep.AppendLies
namespace Go.Proofs.Ytnbokpfkcfhgbaa
open Go Go.RowKit

/-- What a law asks of a slice type's elements. -/
structure ElemInfo (P : Program) (t e : TypeId) (z : Value) (size bytes : Nat) : Prop where
  ht : P.underlying t = some (.slice e)
  info : ∃ i, P.info? e = some i ∧ i.zero = some z ∧ i.size = size ∧ i.bytes = bytes
  hzs : z.cells.size = size
  hsz : 0 < size
theorem elemInfo_mk {P : Program} {t e : TypeId} {z : Value} {size bytes : Nat} (ht : P.underlying t = some (.slice e)) (h : (P.info? e).map (fun i => (i.zero, i.size, i.bytes)) = some (some z, size, bytes))
    (hzs : z.cells.size = size) (hsz : 0 < size) : ElemInfo P t e z size bytes :=
  ⟨ht, by
    cases hi : P.info? e with
    | none => rw [hi] at h; cases h
    | some i =>
      rw [hi] at h
      simp only [Option.map_some, Option.some.injEq, Prod.mk.injEq] at h
      exact ⟨i, rfl, h.1, h.2.1, h.2.2⟩, hzs, hsz⟩

section
variable {P : Program} {w : World}
/-- 'out = append(out, x..)' where the x have just been laid into a block of their own. -/
theorem wpList_app {ops : Array Oper} {rest : List Oper} {o : Oper} {a : Act} {Q : Exit → Act → World → Prop} (hgd : o.guard = none) (s x : Operand) (t : TypeId)
    (ho : o.op = .call { callee := .builtin .append, args := #[s, x], argTypes := #[t, t] })
    (base : Nat) (e : TypeId) (z : Value) (size bytes : Nat) (E : ElemInfo P t e z size bytes)
    (v : Value) (n : Nat) (xs : List Value) (hs : a.eval s = v) (hown : w.ownsRow base e size v n xs)
    (m : Nat) (news : Array Value) {H : Nat} (hx : a.eval x = .slice (some ⟨H, 0, none⟩) m m) (hH : w.heap.size = H) (hl : news.size = m * size) (h1 : ∀ u ∈ news.toList, u.oneCell' = true)
    (h63 : n + m ≤ maxLen) (hbytes : (n + m) * bytes ≤ 140737488355328) (hbase : base ≤ w.heap.size)
    (h : ∀ v' w', w'.ownsRow base e size v' (n + m) (xs ++ news.toList) → w.grownBy w' v.ownBlock → wpList P ops Q rest (a.put o.dst v') w') :
    wpList P ops Q (o :: rest) a (w.alloc (.cells news e)) := by
  subst hH
  obtain ⟨i, hi, hz, hsize, hby⟩ := E.info
  refine wpList_append_own_at (w := w.alloc (.cells news e)) hgd s x t ho base e i z size bytes E.ht hi hz hsize hby E.hzs E.hsz v n xs hs (hown.alloc _) ⟨w.heap.size, 0, none⟩ m m news.toList hx (by simpa using hl)
    (World.news_of_block (heap_alloc_new w _)) h1 h63 hbytes (by simp; omega) fun v' w' hown' hg _ _ => h v' w' hown' ?_
  have hlt : ∀ k, v.ownBlock = some k → k < w.heap.size := fun k hk => (hown.lt k hk).2
  exact ⟨hg.os, hg.tape, hg.output, Nat.le_trans (by simp) hg.size, fun k hk hne => (hg.block k (by simp; omega) hne).trans (Below.heap_alloc w _ k hk)⟩

/-- Behind an append onto a row of the call's own. -/
theorem below_app {B : Nat} {a w' : World} {e : TypeId} {size n : Nat} {v : Value} {xs : List Value} (h : Below B a w) (hown : w.ownsRow B e size v n xs) (hg : w.grownBy w' v.ownBlock) (hB : B ≤ w.heap.size) : Below B a w' :=
  h.grown hg hB fun k hk => (hown.lt k hk).1

theorem own_below {w' : World} {base : Nat} {e : TypeId} {size n : Nat} {v : Value} {xs : List Value} (h : w.ownsRow base e size v n xs) (hb : Below w.heap.size w w') : w'.ownsRow base e size v n xs :=
  h.kept (row := none) ⟨hb.os, hb.tape, hb.output, hb.size, fun k hk _ => hb.block k hk⟩ (by
    rcases h' : v.ownBlock with _ | k
    · exact .inl rfl
    · exact .inr (by simp))
theorem flatten_snoc (Ls : List (List Value)) (cs : List Value) : Ls.flatten ++ cs = (Ls ++ [cs]).flatten := by simp

theorem flatten_get {size : Nat} : ∀ {Ls : List (List Value)} (_ : ∀ l ∈ Ls, l.length = size) {i : Nat} {cs : List Value} (_ : Ls[i]? = some cs) {j : Nat} {v : Value} (_ : cs[j]? = some v), Ls.flatten[i * size + j]? = some v
  | [], _, i, cs, hi, _, _, _ => by simp at hi
  | l :: Ls, hl, 0, cs, hi, j, v, hj => by
    simp at hi
    subst hi
    have := (List.getElem?_eq_some_iff.1 hj).1
    rw [List.flatten_cons, Nat.zero_mul, Nat.zero_add, List.getElem?_append_left (by omega)]
    exact hj
  | l :: Ls, hl, i + 1, cs, hi, j, v, hj => by
    have h0 := hl l (by simp)
    rw [List.flatten_cons, Nat.succ_mul, show i * size + size + j = l.length + (i * size + j) from by omega, List.getElem?_append_right (by omega), Nat.add_sub_cancel_left]
    exact flatten_get (fun l h => hl l (by simp [h])) (by simpa using hi) hj
theorem own_elems {base : Nat} {e : TypeId} {size n : Nat} {v : Value} {Ls : List (List Value)} (h : w.ownsRow base e size v n Ls.flatten) (hl : ∀ l ∈ Ls, l.length = size) (hn : Ls.length = n) :
    ∃ A cap, v = .slice A n cap ∧ n ≤ cap ∧ cap ≤ maxLen ∧ Elems w A size Ls := by
  rcases h.2 with ⟨rfl, rfl⟩ | ⟨g, cap, cur, rfl, _, _, hnc, hm, _⟩
  · refine ⟨none, 0, rfl, by omega, by simp [maxLen], fun i cs hi => ?_⟩
    have : Ls = [] := List.eq_nil_of_length_eq_zero hn
    simp [this] at hi
  · refine ⟨_, cap, rfl, hnc, hm, fun i cs hi => ⟨g, 0, rfl, elemL_holds _ _ fun j u hu => ?_⟩⟩
    have := h.cells (g := g) rfl _ _ (flatten_get hl hi hu)
    have ea : ((⟨g, 0, none⟩ : Addr).add (i * size + j)) = ⟨g, 0 + i * size + j, none⟩ := by
      unfold Addr.add
      split
      · simp only [Addr.mk.injEq, true_and, and_true]; omega
      · simp only [Addr.mk.injEq, true_and, and_true]; omega
    rwa [ea] at this
theorem elems_new (w : World) {size : Nat} {Ls : List (List Value)} (hl : ∀ l ∈ Ls, l.length = size) (cs : Array Value) (t : TypeId) (hcs : cs.toList = Ls.flatten) :
    Elems (w.alloc (.cells cs t)) (some ⟨w.heap.size, 0, none⟩) size Ls := fun i c hi =>
  ⟨w.heap.size, 0, rfl, elemL_holds _ _ fun j u hu => by
    have h1 := flatten_get hl hi hu
    rw [← hcs] at h1
    simp only [World.cell?, World.alloc, Array.getElem?_push_size, Nat.zero_add]
    simpa using h1⟩
/-- Two structs that came by value, laid into blocks of their own. -/
theorem boxes2 (w : World) (xs ys : Array Value) (s t : TypeId) : Holds ((w.alloc (.cells xs s)).alloc (.cells ys t)) (elemL w.heap.size 0 xs.toList ++ elemL (w.heap.size + 1) 0 ys.toList) := by
  refine Holds.append ((elemL_new w xs s).keep ((Below.refl _ _).alloc (Nat.le_refl _) _)) ?_
  have := elemL_new (w.alloc (.cells xs s)) ys t
  rwa [World.size_alloc] at this
end
end Go.Proofs.Ytnbokpfkcfhgbaa
