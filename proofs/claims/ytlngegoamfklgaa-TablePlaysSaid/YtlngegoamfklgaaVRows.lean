/- Rows of the call's own, beside the caller's boxes. No program here. -/
import Derived.Test.YtlngegoamfklgaaVData
import Derived.Test.YtlngegoamfklgaaV13
namespace Go.Proofs.Ytlngegoamfklgaa
open Go

theorem own_nil {size : Nat} {st : St} : Own size st (.sl .nil []) [] := .inl ⟨rfl, rfl⟩
theorem own_sl {size : Nat} {st : St} {v : V} {l : List V} (h : Own size st v l) : ∃ tk, v = .sl tk l := by
  rcases h with ⟨rfl, rfl⟩ | ⟨g, rfl, _⟩
  · exact ⟨_, rfl⟩
  · exact ⟨_, rfl⟩
theorem own_put {size : Nat} {st : St} {v : V} {l : List V} (h : Own size st v l) {b : Nat} {cs : List V} : Own size (st.put b cs) v l := by
  rcases h with h | ⟨g, h1, h2, h3⟩
  · exact .inl h
  · exact .inr ⟨g, h1, h2, by simp only [put_sz]; omega⟩
theorem weak_tr {a b c : St} (h : a.weak b) (k : b.weak c) : a.weak c :=
  ⟨fun b cs hb => ⟨(k.box b cs (h.box b cs hb).1).1, (h.box b cs hb).2⟩, fun g m hg => ⟨(k.own g m (h.own g m hg).1).1, (h.own g m hg).2⟩, Nat.le_trans h.sz k.sz⟩
theorem app_keeps {s s' : St} {x r : V} (h : AppSt s x s' r) {t : St} (hw : t.weak s) (hx : ∀ g k l, x = .sl (.own g k) l → t.sz ≤ g) : t.weak s' :=
  ⟨fun b cs hb => ⟨by rw [h.box]; exact (hw.box b cs hb).1, (hw.box b cs hb).2⟩, fun g m hg => ⟨h.own g m (hw.own g m hg).1 (fun l k e => by have := hx g k l e; have := (hw.own g m hg).2; omega), (hw.own g m hg).2⟩, Nat.le_trans hw.sz h.sz⟩
theorem app_fresh {s s' : St} {x r : V} (h : AppSt s x s' r) {t : St} (hs : t.sz ≤ s.sz) (hx : ∀ g k l, x = .sl (.own g k) l → t.sz ≤ g) : ∀ g k l, r = .sl (.own g k) l → t.sz ≤ g := fun g k l e => by
  rcases h.tok g k l e with ⟨l', h1⟩ | h1
  · exact hx g k l' h1
  · omega
/-- A row of the call's own. -/
structure RO (size : Nat) (base s : St) (r : V) (l : List V) : Prop where
  own : Own size s r l
  weak : base.weak s
  lt : s.Lt
  tok : ∀ g k l', r = .sl (.own g k) l' → base.sz ≤ g
variable {size : Nat} {base s s' : St} {r x : V} {l l' : List V}
theorem RO.nil (hw : base.weak s) (hl : s.Lt) : RO size base s (.sl .nil []) [] := ⟨own_nil, hw, hl, fun g k l e => by cases e⟩
theorem RO.put (h : RO size base s r l) {c : Nat} {cs : List V} (hc : base.sz ≤ c) : RO size base (s.put c cs) r l :=
  ⟨own_put h.own, weak_put h.weak hc, h.lt.put, h.tok⟩
theorem RO.app (h : RO size base s x l) (ho : Own size s' r l') (k : AppSt s x s' r) : RO size base s' r l' :=
  ⟨ho, app_keeps k h.weak h.tok, h.lt.app k, app_fresh k h.weak.sz h.tok⟩
theorem RO.use (hw : base.weak s) (hl : s.Lt) {g : Nat} (hg : s.sz ≤ g) (cs : List V) : RO size base (s.use g cs.length) (.sl (.own g size) cs) cs :=
  ⟨.inr ⟨g, rfl, by simp [St.use], by simp only [use_sz]; omega⟩, weak_use hw (by have := hw.sz; omega), hl.use, fun g' k l e => by cases e; have := hw.sz; omega⟩
theorem RO.sl (h : RO size base s r l) : ∃ tk, r = .sl tk l := own_sl h.own
end Go.Proofs.Ytlngegoamfklgaa
