/- Regions that draw their order: one walk in one order serves all. -/
import Derived.Test.YtbmkohmhiafphaaV8
namespace Go.Proofs.Ytbmkohmhiafphaa
open Go Go.RowKit

/-- Must operation i wait for j? -/
def bf (ops : Array Oper) (i j : Nat) : Bool := ((Region.before ops).getD i 0).testBit j
def VOp.isLoad : VOp → Bool
  | .load _ _ => true
  | _ => false
def gslot (v : VO) : List Nat := match v.g with | some (s, _) => [s] | none => []
def VO.looks (v : VO) : List Nat := gslot v ++ v.op.reads
def dstAt (cs : List VO) (i : Nat) : Option Nat := (cs[i]?).bind (·.dst)
/-- The place of an operation in the one order. -/
def skey (ops : Array Oper) (cs : List VO) (i : Nat) : Nat :=
  let k := ((List.range cs.length).filter fun e => (match cs[e]? with | some v => !v.op.isPop | none => false) && bf ops i e).length
  match cs[i]? with
  | some v => if v.op.isPop then 2 * k else 2 * k + 1
  | none => 0
def canon (ops : Array Oper) (cs : List VO) : List Nat :=
  let ks := (List.range cs.length).map (skey ops cs)
  (List.range (2 * cs.length + 2)).flatMap fun k => (List.range cs.length).filter fun i => ks.getD i 0 == k
def obsItem (v : VO) : Option (Option Nat × X × Nat) :=
  match v.op, v.dst with
  | .load n x, some d => some (n, x, d)
  | _, _ => none
/-- The loads ahead of an operation j in the one order that need not be ahead of it. -/
def obsFor (ops : Array Oper) (cs : List VO) (pre : List Nat) (j : Nat) : List (Option Nat × X × Nat) :=
  match cs[j]? with
  | some v => if v.op.isPop then [] else (pre.filter fun i => !bf ops j i).filterMap fun i => (cs[i]?).bind obsItem
  | none => []
def withObs (ops : Array Oper) (cs : List VO) : List Nat → List Nat → List VO
  | _, [] => []
  | pre, j :: rem => (match cs[j]? with | some v => [{ v with obs := obsFor ops cs pre j }] | none => []) ++ withObs ops cs (pre ++ [j]) rem
/-- What the one order must keep. -/
def okFrom (ops : Array Oper) (cs : List VO) : List Nat → List Nat → Bool
  | _, [] => true
  | pre, j :: rem => (match cs[j]? with
      | some v => ((List.range cs.length).all fun k => !bf ops j k || pre.contains k) && (v.op.isPop || (rem.all fun i => bf ops i j)) &&
          (v.op.isPop || (pre.all fun i => bf ops j i || (match cs[i]? with
            | some u => !u.op.isLoad || ((obsItem u).isSome && u.op.reads.all fun t => (List.range cs.length).all fun k => dstAt cs k != some t || bf ops i k)
            | none => false)))
      | none => false) && okFrom ops cs (pre ++ [j]) rem
def okDraw (ops : Array Oper) (cs : List VO) (ord : List Nat) : Bool :=
  (ord.length == cs.length) && ((List.range cs.length).all fun i => ord.contains i) && (ord.all fun i => decide (i < cs.length)) && decide ord.Nodup &&
  ((List.range cs.length).all fun i => match ops[i]? with
    | some o => (o.after.toList.all fun e => !Region.binds .any e || decide (e.on < i)) && (List.range cs.length).all fun j => !bf ops i j || o.after.toList.any fun e => Region.binds .any e && (e.on == j || bf ops e.on j)
    | none => false) &&
  ((List.range cs.length).all fun i => match cs[i]? with
    | some v => (List.range cs.length).all fun j => j == i || match dstAt cs j with
      | some s => (dstAt cs i != some s) && (!v.looks.contains s || bf ops i j || bf ops j i)
      | none => true
    | none => false) &&
  ((List.range cs.length).all fun i => match cs[i]? with
    | some v => match v.dst with
      | some s => !v.looks.contains s
      | none => true
    | none => false) &&
  okFrom ops cs [] ord
def cDraw (P : Program) (N : Nat) (ops : Array Oper) : Option (List VO) :=
  match ops.toList.mapM (cOper P N ops) with
  | some cs => if okDraw ops cs (canon ops cs) then some (withObs ops cs [] (canon ops cs)) else none
  | none => none

theorem X.ev_congr {A B : Nat → V} {x : X} (h : ∀ t ∈ x.reads, A t = B t) : x.ev A = x.ev B := by
  cases x with
  | t n => exact h n (by simp [X.reads])
  | c v => rfl
theorem evs_congr {A B : Nat → V} : ∀ {xs : List X}, (∀ t ∈ xs.flatMap X.reads, A t = B t) → ∀ x ∈ xs, x.ev A = x.ev B := fun h x hx => X.ev_congr fun t ht => h t (List.mem_flatMap.2 ⟨x, hx, ht⟩)
theorem oev_congr {A B : Nat → V} {x : Option X} (h : ∀ t ∈ oreads x, A t = B t) : (x.map fun x => x.ev A) = x.map fun x => x.ev B := by
  cases x with
  | none => rfl
  | some x => simp only [Option.map_some, Option.some.injEq]; exact X.ev_congr h
theorem pop_congr {st : St} {A B : Nat → V} {o : VOp} (h : ∀ t ∈ o.reads, A t = B t) : pop st A o = pop st B o := by
  cases o <;> simp only [VOp.reads, List.mem_append] at h <;> simp only [pop]
  case mv x => rw [X.ev_congr h]
  case pick c a b => rw [X.ev_congr (x := c) fun t ht => h t (.inl (.inl ht)), X.ev_congr (x := a) fun t ht => h t (.inl (.inr ht)), X.ev_congr (x := b) fun t ht => h t (.inr ht)]
  case bin op x y => rw [X.ev_congr (x := x) fun t ht => h t (.inl ht), X.ev_congr (x := y) fun t ht => h t (.inr ht)]
  case un op x => rw [X.ev_congr h]
  case conv k x => rw [X.ev_congr h]
  case isnil neg x => rw [X.ev_congr h]
  case pnil neg x => rw [X.ev_congr h]
  case b2s x => rw [X.ev_congr h]
  case binb neg x y => rw [X.ev_congr (x := x) fun t ht => h t (.inl ht), X.ev_congr (x := y) fun t ht => h t (.inr ht)]
  case fld off x => rw [X.ev_congr h]
  case ix size x y => rw [X.ev_congr (x := x) fun t ht => h t (.inl ht), X.ev_congr (x := y) fun t ht => h t (.inr ht)]
  case ixa n size x y => rw [X.ev_congr (x := x) fun t ht => h t (.inl ht), X.ev_congr (x := y) fun t ht => h t (.inr ht)]
  case load n x => rw [X.ev_congr h]
  case nilck x => rw [X.ev_congr h]
  case ext x i => rw [X.ev_congr h]
  case len x => rw [X.ev_congr h]
  case slen x => rw [X.ev_congr h]
  case mn x y => rw [X.ev_congr (x := x) fun t ht => h t (.inl ht), X.ev_congr (x := y) fun t ht => h t (.inr ht)]
  case mx x y => rw [X.ev_congr (x := x) fun t ht => h t (.inl ht), X.ev_congr (x := y) fun t ht => h t (.inr ht)]
  case bld z ps =>
    have : (ps.map fun p => (p.1, p.2.1, p.2.2.ev A)) = ps.map fun p => (p.1, p.2.1, p.2.2.ev B) := List.map_congr_left fun p hp => by
      rw [X.ev_congr (x := p.2.2) fun t ht => h t (List.mem_flatMap.2 ⟨p, hp, ht⟩)]
    rw [this]
  case bsl size xs =>
    have : (xs.map fun x => strip (x.ev A)) = xs.map fun x => strip (x.ev B) := List.map_congr_left fun x hx => by rw [evs_congr h x hx]
    rw [this]
  case slc size x lo hi => rw [X.ev_congr (x := x) fun t ht => h t (.inl (.inl ht)), oev_congr (x := lo) fun t ht => h t (.inl (.inr ht)), oev_congr (x := hi) fun t ht => h t (.inr ht)]
  case sslc x lo hi => rw [X.ev_congr (x := x) fun t ht => h t (.inl (.inl ht)), oev_congr (x := lo) fun t ht => h t (.inl (.inr ht)), oev_congr (x := hi) fun t ht => h t (.inr ht)]
theorem pop_st {st st' : St} {A : Nat → V} {o : VOp} (h : o.isLoad = false) : pop st A o = pop st' A o := by
  cases o <;> first | rfl | simp [VOp.isLoad] at h

/-- What a walked operation leaves in its slot. -/
def Outc (v : VO) (st : St) (ρ : Nat → V) (r : V) : Prop :=
  match v.g with
  | none => (pop st ρ v.op).1 ∧ r = (pop st ρ v.op).2
  | some (s, want) => match ρ s with
    | .sc (.bool c) => if c = want then (pop st ρ v.op).1 ∧ r = (pop st ρ v.op).2 else r = .und
    | .und => r = .und
    | _ => False
theorem Outc.run {v : VO} {st : St} {ρ : Nat → V} (hg : v.g = none) (h : (pop st ρ v.op).1) : Outc v st ρ (pop st ρ v.op).2 := by unfold Outc; rw [hg]; exact ⟨h, rfl⟩
theorem Outc.wants {v : VO} {st : St} {ρ : Nat → V} {s : Nat} {want : Bool} (hg : v.g = some (s, want)) (hs : ρ s = .sc (.bool want)) (h : (pop st ρ v.op).1) : Outc v st ρ (pop st ρ v.op).2 := by
  unfold Outc; rw [hg]; simp [hs, h]
theorem Outc.passes {v : VO} {st : St} {ρ : Nat → V} {s : Nat} {want c : Bool} (hg : v.g = some (s, want)) (hs : ρ s = .sc (.bool c)) (hc : c ≠ want) : Outc v st ρ .und := by
  unfold Outc; rw [hg]; simp [hs, hc]
theorem Outc.und {v : VO} {st : St} {ρ : Nat → V} {s : Nat} {want : Bool} (hg : v.g = some (s, want)) (hs : ρ s = .und) : Outc v st ρ .und := by
  unfold Outc; rw [hg]; simp [hs]
/-- The three ways. -/
theorem Outc.cases {v : VO} {st : St} {ρ : Nat → V} {r : V} (h : Outc v st ρ r) : ((pop st ρ v.op).1 ∧ r = (pop st ρ v.op).2 ∧ (v.g = none ∨ ∃ s want, v.g = some (s, want) ∧ ρ s = .sc (.bool want))) ∨
    (r = .und ∧ ∃ s want, v.g = some (s, want) ∧ (ρ s = .und ∨ ∃ c, ρ s = .sc (.bool c) ∧ c ≠ want)) := by
  unfold Outc at h
  split at h
  · rename_i hg; exact .inl ⟨h.1, h.2, .inl hg⟩
  · rename_i s want hg
    split at h
    · rename_i c hc
      split at h
      · rename_i e; subst e; exact .inl ⟨h.1, h.2, .inr ⟨s, c, hg, hc⟩⟩
      · rename_i e; exact .inr ⟨h, s, want, hg, .inr ⟨c, hc, e⟩⟩
    · rename_i hc; exact .inr ⟨h, s, want, hg, .inl hc⟩
    · exact h.elim
theorem Outc.congr {v : VO} {st : St} {ρ σ : Nat → V} {r : V} (h : ∀ t ∈ v.looks, ρ t = σ t) (ho : Outc v st ρ r) : Outc v st σ r := by
  have hp : pop st ρ v.op = pop st σ v.op := pop_congr fun t ht => h t (by simp [VO.looks, ht])
  unfold Outc at *
  split at ho
  · rwa [← hp]
  · rename_i s want hg
    rw [← h s (by simp [VO.looks, gslot, hg]), ← hp]
    exact ho

section
variable {P : Program} {w0 : World} {N : Nat} {ops : Array Oper} {cs : List VO} {ord : List Nat} {K : (Nat → V) → St → Prop}

/-- The slots as operation i finds them. -/
noncomputable def rho (ops : Array Oper) (cs : List VO) (A0 A : Nat → V) (i : Nat) (t : Nat) : V :=
  open Classical in if ∃ j, dstAt cs j = some t ∧ bf ops i j = true then A t else A0 t

structure Draw (P : Program) (N : Nat) (ops : Array Oper) (cs : List VO) (ord : List Nat) : Prop where
  len : cs.length = ops.size
  get : ∀ (i : Nat) (o : Oper) (v : VO), ops[i]? = some o → cs[i]? = some v → cOper P N ops o = some v
  mem : ∀ i, i < cs.length → i ∈ ord
  lt : ∀ i ∈ ord, i < cs.length
  nodup : ord.Nodup
  back : ∀ (i : Nat) (o : Oper), ops[i]? = some o → ∀ e ∈ o.after, Region.binds .any e = true → e.on < i
  clos : ∀ (i : Nat) (o : Oper), ops[i]? = some o → ∀ j, j < cs.length → bf ops i j = true → ∃ e ∈ o.after, Region.binds .any e = true ∧ (e.on = j ∨ bf ops e.on j = true)
  one : ∀ i j s, i ≠ j → dstAt cs i = some s → dstAt cs j ≠ some s
  looks : ∀ i j s (v : VO), i ≠ j → cs[i]? = some v → dstAt cs j = some s → s ∈ v.looks → bf ops i j = true ∨ bf ops j i = true
  self : ∀ i s (v : VO), cs[i]? = some v → dstAt cs i = some s → s ∉ v.looks
theorem okDraw_spec (hcs : ops.toList.mapM (cOper P N ops) = some cs) (h : okDraw ops cs ord = true) : Draw P N ops cs ord ∧ okFrom ops cs [] ord = true := by
  obtain ⟨hlen, hget⟩ := mapM_get hcs
  have hl : cs.length = ops.size := by simpa using hlen
  unfold okDraw at h
  simp only [Bool.and_eq_true, List.all_eq_true, List.mem_range, decide_eq_true_eq, List.contains_eq_mem] at h
  obtain ⟨⟨⟨⟨⟨⟨⟨h1, h2⟩, h3⟩, h4⟩, h5⟩, h6⟩, h7⟩, h8⟩ := h
  have dlt : ∀ {j s}, dstAt cs j = some s → j < cs.length := fun {j s} hd => by
    unfold dstAt at hd
    rcases Nat.lt_or_ge j cs.length with hlt | hge
    · exact hlt
    · rw [List.getElem?_eq_none hge] at hd; simp at hd
  refine ⟨⟨hl, fun i o v ho hv => hget i o v (by simpa using ho) hv, h2, h3, h4, fun i o ho e he hb => ?_, fun i o ho j hj hb => ?_, fun i j s hij hi hj => ?_, fun i j s v hij hv hj hs => ?_, fun i s v hv hd hs => ?_⟩, h8⟩
  · have := h5 i (by rw [hl]; exact (Array.getElem?_eq_some_iff.1 ho).1)
    rw [ho] at this
    simp only [Bool.and_eq_true, List.all_eq_true, Bool.or_eq_true, Bool.not_eq_true', decide_eq_true_eq] at this
    rcases this.1 e (by simpa using he) with h | h
    · rw [hb] at h; cases h
    · exact h
  · have := h5 i (by rw [hl]; exact (Array.getElem?_eq_some_iff.1 ho).1)
    rw [ho] at this
    simp only [Bool.and_eq_true, List.all_eq_true, List.mem_range, Bool.or_eq_true, Bool.not_eq_true', List.any_eq_true, beq_iff_eq] at this
    rcases this.2 j hj with h | ⟨e, he, hb2, h⟩
    · rw [hb] at h; cases h
    · exact ⟨e, by simpa using he, hb2, h⟩
  · have hlt := dlt hi
    have hv : cs[i]? = some cs[i] := List.getElem?_eq_getElem hlt
    have := h6 i hlt
    rw [hv] at this
    simp only [List.all_eq_true, List.mem_range, Bool.or_eq_true, beq_iff_eq] at this
    rcases this j (dlt hj) with h | h
    · exact hij h.symm
    · rw [hj] at h
      simp only [Bool.and_eq_true, bne_iff_ne, ne_eq] at h
      exact h.1 hi
  · have := h6 i (List.getElem?_eq_some_iff.1 hv).1
    rw [hv] at this
    simp only [List.all_eq_true, List.mem_range, Bool.or_eq_true, beq_iff_eq] at this
    rcases this j (dlt hj) with h | h
    · exact absurd h.symm hij
    · rw [hj] at h
      simp only [Bool.and_eq_true, Bool.or_eq_true, Bool.not_eq_true', List.contains_eq_mem, decide_eq_false_iff_not] at h
      rcases h.2 with (h | h) | h
      · exact absurd hs h
      · exact .inl h
      · exact .inr h
  · have := h7 i (List.getElem?_eq_some_iff.1 hv).1
    rw [hv] at this
    have hd' : v.dst = some s := by unfold dstAt at hd; rw [hv] at hd; exact hd
    simp only [hd', Bool.not_eq_true', List.contains_eq_mem, decide_eq_false_iff_not] at this
    exact this hs

def Done (listed : Array Bool) (i : Nat) : Prop := listed.getD i false = true
/-- Midway: 'pre' has been walked, 'rem' not yet; 'listed' has been carried out. -/
structure Inv (P : Program) (w0 : World) (N : Nat) (ops : Array Oper) (cs : List VO) (ord : List Nat) (K : (Nat → V) → St → Prop) (A0 : Nat → V) (G : Gh) (A : Nat → V) (st : St) (a : Act) (w : World) (listed : Array Bool) (pre rem : List Nat) : Prop where
  w : RepW w0 G st w
  size : a.tmps.size = N
  defers : a.defers = []
  split : pre ++ rem = ord
  lsize : listed.size = cs.length
  donePre : ∀ i, Done listed i → i ∈ pre
  closed : ∀ (j : Nat) (o : Oper), ops[j]? = some o → Done listed j → ∀ e ∈ o.after, Region.binds .any e = true → Done listed e.on
  slotDone : ∀ s, (∀ i, dstAt cs i = some s → Done listed i) → Rep1 G (A s) (a.tmps.getD s undef)
  slotNot : ∀ s, (∀ i, dstAt cs i = some s → ¬ Done listed i) → Rep1 G (A0 s) (a.tmps.getD s undef)
  untouched : ∀ s, (∀ i ∈ pre, dstAt cs i ≠ some s) → A s = A0 s
  pend : ∀ i ∈ pre, ¬ Done listed i → ∀ v, cs[i]? = some v → v.op.isPop = true ∧ ∃ r, Outc v st (rho ops cs A0 A i) r ∧ ∀ d, v.dst = some d → A d = r
  ok : okFrom ops cs pre rem = true
  rest : vops P K (withObs ops cs pre rem) A st
  before : ∀ (i j : Nat), i ∈ pre → bf ops i j = true → j < cs.length → ∃ l1 l2, pre = l1 ++ i :: l2 ∧ j ∈ l1

theorem okFrom_cons {pre rem : List Nat} {j : Nat} (h : okFrom ops cs pre (j :: rem) = true) : ∃ v, cs[j]? = some v ∧ (∀ k, k < cs.length → bf ops j k = true → k ∈ pre) ∧ (v.op.isPop = false → ∀ i ∈ rem, bf ops i j = true) ∧
    (v.op.isPop = false → ∀ i ∈ pre, bf ops j i = false → ∀ u, cs[i]? = some u → u.op.isLoad = true → (∃ p, obsItem u = some p) ∧ ∀ t ∈ u.op.reads, ∀ k, dstAt cs k = some t → k < cs.length → bf ops i k = true) ∧ okFrom ops cs (pre ++ [j]) rem = true := by
  simp only [okFrom, Bool.and_eq_true] at h
  obtain ⟨h1, h2⟩ := h
  cases hv : cs[j]? with
  | none => rw [hv] at h1; cases h1
  | some v =>
    rw [hv] at h1
    simp only [Bool.and_eq_true, List.all_eq_true, List.mem_range, Bool.or_eq_true, Bool.not_eq_true', List.contains_eq_mem, decide_eq_true_eq] at h1
    obtain ⟨⟨k1, k2⟩, k3⟩ := h1
    refine ⟨v, rfl, fun k hk hb => (k1 k hk).resolve_left (by rw [hb]; simp), fun hp i hi => k2.resolve_left (by rw [hp]; simp) i hi, fun hp i hi hb u hu hl => ?_, h2⟩
    have := (k3.resolve_left (by rw [hp]; simp) i hi).resolve_left (by rw [hb]; simp)
    rw [hu] at this
    simp only [Bool.and_eq_true, List.all_eq_true, List.mem_range, Bool.or_eq_true, Bool.not_eq_true', bne_iff_ne, ne_eq] at this
    have h3 := this.resolve_left (by rw [hl]; simp)
    exact ⟨Option.isSome_iff_exists.1 h3.1, fun t ht k hd hk => (h3.2 t ht k hk).resolve_left (fun e => e hd)⟩
theorem dst_lt {j s : Nat} (hd : dstAt cs j = some s) : j < cs.length := by
  unfold dstAt at hd
  rcases Nat.lt_or_ge j cs.length with hlt | hge
  · exact hlt
  · rw [List.getElem?_eq_none hge] at hd; simp at hd
theorem dst_of {j : Nat} {v : VO} (hv : cs[j]? = some v) : dstAt cs j = v.dst := by simp [dstAt, hv]

section
variable {A0 : Nat → V} {G : Gh} {A : Nat → V} {st : St} {a : Act} {w : World} {listed : Array Bool} {pre rem : List Nat}

theorem Inv.disj (D : Draw P N ops cs ord) (I : Inv P w0 N ops cs ord K A0 G A st a w listed pre rem) {i : Nat} (h1 : i ∈ pre) (h2 : i ∈ rem) : False := by
  have := D.nodup
  rw [← I.split, List.nodup_append] at this
  exact this.2.2 i h1 i h2 rfl
theorem Inv.done_lt (I : Inv P w0 N ops cs ord K A0 G A st a w listed pre rem) (D : Draw P N ops cs ord) {i : Nat} (h : Done listed i) : i < cs.length :=
  D.lt i (by rw [← I.split]; exact List.mem_append_left _ (I.donePre i h))
/-- What an operation that may come up, or has come up, waits for has come up. -/
theorem Inv.waits (D : Draw P N ops cs ord) (I : Inv P w0 N ops cs ord K A0 G A st a w listed pre rem) : ∀ (i : Nat) (o : Oper), ops[i]? = some o → (∀ e ∈ o.after, Region.binds .any e = true → Done listed e.on) → ∀ j, j < cs.length → bf ops i j = true → Done listed j := by
  intro i
  induction i using Nat.strongRecOn with
  | _ i ih =>
    intro o ho hall j hj hb
    obtain ⟨e, he, hbe, h⟩ := D.clos i o ho j hj hb
    rcases h with h | h
    · rw [← h]; exact hall e he hbe
    · have hlt := D.back i o ho e he hbe
      have hd := hall e he hbe
      have hel := I.done_lt D hd
      have hoe : ops[e.on]? = some (ops[e.on]'(by rw [← D.len]; exact hel)) := Array.getElem?_eq_getElem _
      exact ih e.on hlt _ hoe (fun e' he' hb' => I.closed e.on _ hoe hd e' he' hb') j hj h
/-- A is what operation i finds in the slots that it looks at, where i comes next in the one order. -/
theorem Inv.next (D : Draw P N ops cs ord) {j : Nat} (I : Inv P w0 N ops cs ord K A0 G A st a w listed pre (j :: rem)) {v : VO} (hv : cs[j]? = some v) : ∀ t ∈ v.looks, A t = rho ops cs A0 A j t := by
  intro t ht
  unfold rho
  split
  · rfl
  · rename_i hno
    refine I.untouched t fun i hi hd => ?_
    have hij : j ≠ i := fun e => I.disj D hi (by rw [e]; simp)
    rcases D.looks j i t v hij hv hd ht with h | h
    · exact hno ⟨i, hd, h⟩
    · obtain ⟨l1, l2, e1, e2⟩ := I.before i j hi h (List.getElem?_eq_some_iff.1 hv).1
      exact I.disj D (i := j) (by rw [e1]; exact List.mem_append_left _ e2) (by simp)
theorem rho_put (D : Draw P N ops cs ord) {i j : Nat} {v : VO} (hv : cs[j]? = some v) (hb : bf ops i j = false) (r : V) : rho ops cs A0 (putV A v.dst r) i = rho ops cs A0 A i := by
  funext t
  unfold rho
  split
  · rename_i h
    obtain ⟨k, hk, hbk⟩ := h
    cases hd : v.dst with
    | none => rfl
    | some d =>
      simp only [putV]
      rw [if_neg]
      intro e
      subst e
      have hjd : dstAt cs j = some t := by rw [dst_of hv, hd]
      by_cases hjk : j = k
      · subst hjk; rw [hb] at hbk; cases hbk
      · exact D.one j k t hjk hjd hk
  · rfl
theorem putV_ne {d : Option Nat} {r : V} {s : Nat} (h : d ≠ some s) : putV A d r s = A s := by
  cases d with
  | none => rfl
  | some d => simp only [putV]; rw [if_neg (fun e => h (by rw [e]))]
theorem putV_eq {s : Nat} {r : V} : putV A (some s) r s = r := by simp [putV]

theorem withObs_cons {pre rem : List Nat} {j : Nat} {v : VO} (hv : cs[j]? = some v) : withObs ops cs pre (j :: rem) = { v with obs := obsFor ops cs pre j } :: withObs ops cs (pre ++ [j]) rem := by simp [withObs, hv]
theorem before_snoc (I : Inv P w0 N ops cs ord K A0 G A st a w listed pre rem) {j : Nat} (hb : ∀ k, k < cs.length → bf ops j k = true → k ∈ pre) (i k : Nat) (hi : i ∈ pre ++ [j]) (h : bf ops i k = true) (hk : k < cs.length) : ∃ l1 l2, pre ++ [j] = l1 ++ i :: l2 ∧ k ∈ l1 := by
  rw [List.mem_append] at hi
  rcases hi with hi | hi
  · obtain ⟨l1, l2, e1, e2⟩ := I.before i k hi h hk
    exact ⟨l1, l2 ++ [j], by rw [e1]; simp, e2⟩
  · simp at hi; subst hi
    exact ⟨pre, [], rfl, hb k hk h⟩
/-- An operation that turns nothing is walked ahead of its time. -/
theorem Inv.advance (D : Draw P N ops cs ord) {j : Nat} (I : Inv P w0 N ops cs ord K A0 G A st a w listed pre (j :: rem)) {v : VO} (hv : cs[j]? = some v) (hp : v.op.isPop = true) :
    ∃ A', Inv P w0 N ops cs ord K A0 G A' st a w listed (pre ++ [j]) rem := by
  obtain ⟨v', hv', hb, _, _, hok⟩ := okFrom_cons I.ok
  rw [hv] at hv'; cases hv'
  have hrest := I.rest
  rw [withObs_cons hv] at hrest
  have hobs : obsFor ops cs pre j = [] := by simp [obsFor, hv, hp]
  rw [hobs] at hrest
  simp only [vops] at hrest
  have hnd : ¬ Done listed j := fun h => I.disj D (I.donePre j h) (by simp)
  have hnb : ∀ i ∈ pre, bf ops i j = false := fun i hi => by
    cases h : bf ops i j with
    | false => rfl
    | true =>
      obtain ⟨l1, l2, e1, e2⟩ := I.before i j hi h (List.getElem?_eq_some_iff.1 hv).1
      exact (I.disj D (i := j) (by rw [e1]; exact List.mem_append_left _ e2) (by simp)).elim
  have hbj : bf ops j j = false := by
    cases h : bf ops j j with
    | false => rfl
    | true => exact (I.disj D (hb j (List.getElem?_eq_some_iff.1 hv).1 h) (by simp)).elim
  -- what it leaves
  have hout : ∃ r, Outc v st A r ∧ vops P K (withObs ops cs (pre ++ [j]) rem) (putV A v.dst r) st := by
    have hrun : ∀ {K' : V → St → Prop}, vop P v.op st A K' → (pop st A v.op).1 ∧ K' (pop st A v.op).2 st := fun {K'} h => by
      cases hvop : v.op <;> rw [hvop] at h hp <;> first | exact h | simp [VOp.isPop] at hp
    unfold vguard at hrest
    split at hrest
    · rename_i hg
      obtain ⟨h1, _, h2⟩ := hrun hrest
      exact ⟨_, .run hg h1, h2⟩
    · rename_i s want hg
      split at hrest
      · rename_i c hc
        by_cases hcw : c = want
        · obtain ⟨h1, _, h2⟩ := hrun (hrest.1 hcw)
          exact ⟨_, .wants hg (by rw [hc, hcw]) h1, h2⟩
        · exact ⟨.und, .passes hg hc hcw, hrest.2 hcw⟩
      · rename_i hc
        exact ⟨.und, .und hg hc, hrest⟩
      · exact hrest.elim
  obtain ⟨r, hr, hrest'⟩ := hout
  have hnext := I.next D hv
  refine ⟨putV A v.dst r, ⟨I.w, I.size, I.defers, by rw [List.append_assoc]; exact I.split, I.lsize, fun i h => List.mem_append_left _ (I.donePre i h), I.closed, fun s hs => ?_, I.slotNot, fun s hs => ?_, fun i hi hni u hu => ?_, hok, hrest', before_snoc I hb⟩⟩
  · rw [putV_ne]
    · exact I.slotDone s hs
    · intro e; exact hnd (hs j (by rw [dst_of hv]; exact e))
  · rw [putV_ne]
    · exact I.untouched s fun i hi => hs i (List.mem_append_left _ hi)
    · intro e; exact hs j (by simp) (by rw [dst_of hv]; exact e)
  · rw [List.mem_append] at hi
    rcases hi with hi | hi
    · obtain ⟨h1, r', h2, h3⟩ := I.pend i hi hni u hu
      refine ⟨h1, r', by rw [rho_put D hv (hnb i hi)]; exact h2, fun d hd => ?_⟩
      rw [putV_ne]
      · exact h3 d hd
      · intro e
        exact D.one i j d (fun e => by subst e; exact I.disj D hi (by simp)) (by rw [dst_of hu]; exact hd) (by rw [dst_of hv]; exact e)
    · simp at hi; subst hi
      rw [hv] at hu; cases hu
      refine ⟨hp, r, ?_, fun d hd => by rw [hd]; exact putV_eq⟩
      rw [rho_put D hv hbj]
      exact hr.congr hnext

theorem Done.set_ne {i j : Nat} (h : Done (listed.setIfInBounds i true) j) (hne : i ≠ j) : Done listed j := by
  unfold Done at *; rwa [getD_set_ne false hne] at h
theorem Done.set {i j : Nat} (h : Done listed j) : Done (listed.setIfInBounds i true) j := getD_set_true h
theorem Done.set_same {i : Nat} (h : i < listed.size) : Done (listed.setIfInBounds i true) i := by
  unfold Done; simp [h]
/-- The looked-at slots of an operation that may come up now. -/
theorem Inv.relOn (D : Draw P N ops cs ord) (I : Inv P w0 N ops cs ord K A0 G A st a w listed pre rem) {i : Nat} {o : Oper} (ho : ops[i]? = some o) {v : VO} (hv : cs[i]? = some v) (hnd : ¬ Done listed i) (hall : ∀ e ∈ o.after, Region.binds .any e = true → Done listed e.on) :
    RelOn v.looks G (rho ops cs A0 A i) a := by
  intro t ht
  have hw := I.waits D i o ho hall
  unfold rho
  split
  · rename_i h
    obtain ⟨k, hk, hb⟩ := h
    have hd := hw k (dst_lt hk) hb
    refine I.slotDone t fun k' hk' => ?_
    by_cases e : k' = k
    · subst e; exact hd
    · exact absurd hk (D.one k' k t e hk')
  · rename_i hno
    refine I.slotNot t fun k hk hdk => ?_
    have hik : i ≠ k := fun e => hnd (by rw [e]; exact hdk)
    rcases D.looks i k t v hik hv hk ht with h | h
    · exact hno ⟨k, hk, h⟩
    · have hok : ops[k]? = some (ops[k]'(by rw [← D.len]; exact dst_lt hk)) := Array.getElem?_eq_getElem _
      exact hnd (I.waits D k _ hok (fun e he hb => I.closed k _ hok hdk e he hb) i (List.getElem?_eq_some_iff.1 hv).1 h)
/-- An operation that was walked ahead is carried out. -/
theorem Inv.carry (D : Draw P N ops cs ord) (I : Inv P w0 N ops cs ord K A0 G A st a w listed pre rem) {i : Nat} {o : Oper} (ho : ops[i]? = some o) {v : VO} (hv : cs[i]? = some v) (hnd : ¬ Done listed i) (hi : i ∈ pre) (hall : ∀ e ∈ o.after, Region.binds .any e = true → Done listed e.on)
    {Kc : Act → World → Prop} {Q' : Exit → Act → World → Prop} (hk : ∀ G' a' w', Inv P w0 N ops cs ord K A0 G' A st a' w' (listed.setIfInBounds i true) pre rem → G.le G' → Kc a' w') : wpOp P ops Q' i Kc a w := by
  have hrel := I.relOn D ho hv hnd hall
  obtain ⟨hd, hdN, hop, _, hg⟩ := cOper_inv (D.get i o v ho hv)
  obtain ⟨hp, r, hout, hval⟩ := I.pend i hi hnd v hv
  have hlt : i < listed.size := by rw [I.lsize]; exact (List.getElem?_eq_some_iff.1 hv).1
  have next : ∀ (u : Value) (w' : World) (G' : Gh), Rep1 G' r u → G.le G' → RepW w0 G' st w' → Kc (a.put o.dst u) w' := fun u w' G' hru hle hw' => by
    refine hk G' _ w' ⟨hw', by cases o.dst <;> simp [Act.put, I.size], by cases o.dst <;> exact I.defers, I.split, by simp [I.lsize], fun j hj => ?_, fun j oj hoj hj e he hb => ?_, fun s hs => ?_, fun s hs => ?_, I.untouched, fun j hj hnj u hu => ?_, I.ok, I.rest, I.before⟩ hle
    · by_cases e : i = j
      · subst e; exact hi
      · exact I.donePre j (hj.set_ne e)
    · by_cases e' : i = j
      · subst e'
        rw [ho] at hoj; cases hoj
        exact (hall e he hb).set
      · exact (I.closed j oj hoj (hj.set_ne e') e he hb).set
    · cases hdd : o.dst with
      | none =>
        refine (I.slotDone s fun k hk' => ?_).mono hle
        have hne : i ≠ k := fun e => by subst e; rw [dst_of hv, hd, hdd] at hk'; cases hk'
        exact (hs k hk').set_ne hne
      | some d =>
        rw [getD_put, I.size]
        by_cases e : s = d
        · subst e
          rw [if_pos ⟨rfl, by rw [hdd] at hdN; simpa using hdN⟩, hval s (by rw [hd, hdd])]
          exact hru
        · rw [if_neg (fun h => e h.1)]
          refine (I.slotDone s fun k hk' => ?_).mono hle
          have hne : i ≠ k := fun e' => by
            subst e'; rw [dst_of hv, hd, hdd] at hk'; injection hk' with h; exact e h.symm
          exact (hs k hk').set_ne hne
    · cases hdd : o.dst with
      | none => exact (I.slotNot s fun k hk' hdk => hs k hk' hdk.set).mono hle
      | some d =>
        rw [getD_put]
        rw [if_neg]
        · exact (I.slotNot s fun k hk' hdk => hs k hk' hdk.set).mono hle
        · rintro ⟨e, _⟩
          subst e
          exact hs i (by rw [dst_of hv, hd, hdd]) (Done.set_same hlt)
    · exact I.pend j hj (fun h => hnj h.set) u hu
  unfold wpOp
  rw [ho]
  simp only
  rcases hout.cases with ⟨h1, h2, h3⟩ | ⟨h1, s, want, hvg, h3⟩
  · have hwant : Region.wanted o (yielded ops a.tmps) = true := by
      rcases hg with ⟨hg, _⟩ | ⟨j, want, s, hg, hs, hvg⟩
      · simp [Region.wanted, hg]
      · rcases h3 with h3 | ⟨s', want', h3, h4⟩
        · rw [hvg] at h3; cases h3
        · rw [hvg] at h3; cases h3
          have hrs := hrel s (by simp [VO.looks, gslot, hvg])
          rw [h4] at hrs
          rw [wanted_true hg hs hrs.sc_inv]; simp
    rw [if_pos hwant]
    obtain ⟨u, w', G', k1, k2, k3, k4⟩ := pop_sound hop hp I.w (hrel.mono fun t ht => by simp [VO.looks, ht]) h1
    exact .inl (wp_value k1 (next u w' G' (by rw [h2]; exact k2) k3 k4))
  · have hwant : Region.wanted o (yielded ops a.tmps) = false := by
      rcases hg with ⟨_, hvg'⟩ | ⟨j, want', s', hg, hs, hvg'⟩
      · rw [hvg'] at hvg; cases hvg
      · rw [hvg'] at hvg; cases hvg
        have hrs := hrel s (by simp [VO.looks, gslot, hvg'])
        rcases h3 with h3 | ⟨c, h3, h4⟩
        · rw [h3] at hrs
          exact wanted_und hg hs hrs.und_inv
        · rw [h3] at hrs
          rw [wanted_true hg hs hrs.sc_inv]; simpa using h4
    rw [if_neg (by rw [hwant]; simp)]
    exact next undef w G (by rw [h1]; exact .und) (.refl G) I.w
theorem takeV_not_und {cs : List V} {o : Nat} {n : Option Nat} (h : (takeV cs o n).1) : (takeV cs o n).2 ≠ .und := by
  cases n with
  | some n => simp [takeV]
  | none =>
    simp only [takeV] at h ⊢
    split at h
    · intro e; simp only at h e; rw [e] at h; simp [V.cells] at h
    · exact h.elim
theorem vload_not_und {st : St} {n : Option Nat} {x : V} (h : (vload st n x).1) : (vload st n x).2 ≠ .und := by
  unfold vload at h ⊢
  split at h
  · exact takeV_not_und h
  · split at h
    · exact takeV_not_und h
    · exact h.elim
  · exact h.elim
theorem obsOk_get {st' : St} {A : Nat → V} : ∀ {l : List (Option Nat × X × Nat)} (_ : obsOk st' A l) {n : Option Nat} {x : X} {d : Nat}, (n, x, d) ∈ l → A d = .und ∨ ((vload st' n (x.ev A)).1 ∧ (vload st' n (x.ev A)).2 = A d)
  | [], _, n, x, d, hm => by cases hm
  | p :: l, h, n, x, d, hm => by
    simp only [obsOk] at h
    rcases List.mem_cons.1 hm with e | hm
    · subst e
      have h1 := h.1
      simp only at h1
      split at h1
      · rename_i e; exact .inl e
      · exact .inr h1
    · exact obsOk_get h.2 hm
/-- An operation that turns something comes up: it is the next one in the one order. -/
theorem Inv.acts (D : Draw P N ops cs ord) {i : Nat} (I : Inv P w0 N ops cs ord K A0 G A st a w listed pre (i :: rem)) {o : Oper} (ho : ops[i]? = some o) {v : VO} (hv : cs[i]? = some v) (hp : v.op.isPop = false) (hall : ∀ e ∈ o.after, Region.binds .any e = true → Done listed e.on)
    {Kc : Act → World → Prop} {Q' : Exit → Act → World → Prop} (hk : ∀ G' A' st' a' w', Inv P w0 N ops cs ord K A0 G' A' st' a' w' (listed.setIfInBounds i true) (pre ++ [i]) rem → G.le G' → Kc a' w') : wpOp P ops Q' i Kc a w := by
  obtain ⟨v', hv', hb, _, hload, hok⟩ := okFrom_cons I.ok
  rw [hv] at hv'; cases hv'
  have hnd : ¬ Done listed i := fun h => I.disj D (I.donePre i h) (by simp)
  have hlt : i < listed.size := by rw [I.lsize]; exact (List.getElem?_eq_some_iff.1 hv).1
  have hnext := I.next D hv
  have hrel : RelOn v.looks G A a := fun t ht => by rw [hnext t ht]; exact I.relOn D ho hv hnd hall t ht
  obtain ⟨hd, hdN, hop, _, hg⟩ := cOper_inv (D.get i o v ho hv)
  have hrest := I.rest
  rw [withObs_cons hv] at hrest
  simp only [vops] at hrest
  have hnb : ∀ j ∈ pre, bf ops j i = false := fun j hj => by
    cases h : bf ops j i with
    | false => rfl
    | true =>
      obtain ⟨l1, l2, e1, e2⟩ := I.before j i hj h (List.getElem?_eq_some_iff.1 hv).1
      exact (I.disj D (i := i) (by rw [e1]; exact List.mem_append_left _ e2) (by simp)).elim
  have next : ∀ (r : V) (u : Value) (st' : St) (w' : World) (G' : Gh), vops P K (withObs ops cs (pre ++ [i]) rem) (putV A v.dst r) st' → (st' = st ∨ obsOk st' A (obsFor ops cs pre i)) → Rep1 G' r u → G.le G' → RepW w0 G' st' w' → Kc (a.put o.dst u) w' := fun r u st' w' G' hvops hobs hru hle hw' => by
    refine hk G' (putV A v.dst r) st' _ w' ⟨hw', by cases o.dst <;> simp [Act.put, I.size], by cases o.dst <;> exact I.defers, by rw [List.append_assoc]; exact I.split, by simp [I.lsize], fun j hj => ?_, fun j oj hoj hj e he hb => ?_, fun s hs => ?_, fun s hs => ?_, fun s hs => ?_, fun j hj hnj y hy => ?_, hok, hvops, before_snoc I hb⟩ hle
    · by_cases e : i = j
      · subst e; simp
      · exact List.mem_append_left _ (I.donePre j (hj.set_ne e))
    · by_cases e' : i = j
      · subst e'
        rw [ho] at hoj; cases hoj
        exact (hall e he hb).set
      · exact (I.closed j oj hoj (hj.set_ne e') e he hb).set
    · rw [hd]
      cases hdd : o.dst with
      | none =>
        refine (I.slotDone s fun k hk' => ?_).mono hle
        have hne : i ≠ k := fun e => by subst e; rw [dst_of hv, hd, hdd] at hk'; cases hk'
        exact (hs k hk').set_ne hne
      | some d =>
        rw [getD_put, I.size]
        simp only [putV]
        by_cases e : s = d
        · subst e
          rw [if_pos rfl, if_pos ⟨rfl, by rw [hdd] at hdN; simpa using hdN⟩]
          exact hru
        · rw [if_neg e, if_neg (fun h => e h.1)]
          refine (I.slotDone s fun k hk' => ?_).mono hle
          have hne : i ≠ k := fun e' => by
            subst e'; rw [dst_of hv, hd, hdd] at hk'; injection hk' with h; exact e h.symm
          exact (hs k hk').set_ne hne
    · cases hdd : o.dst with
      | none => exact (I.slotNot s fun k hk' hdk => hs k hk' hdk.set).mono hle
      | some d =>
        rw [getD_put]
        rw [if_neg]
        · exact (I.slotNot s fun k hk' hdk => hs k hk' hdk.set).mono hle
        · rintro ⟨e, _⟩
          subst e
          exact hs i (by rw [dst_of hv, hd, hdd]) (Done.set_same hlt)
    · rw [putV_ne]
      · exact I.untouched s fun j hj => hs j (List.mem_append_left _ hj)
      · intro e; exact hs i (by simp) (by rw [dst_of hv]; exact e)
    · rw [List.mem_append] at hj
      rcases hj with hj | hj
      · have hji : j ≠ i := fun e => by subst e; exact I.disj D hj (by simp)
        obtain ⟨h1, r', h2, h3⟩ := I.pend j hj (fun h => hnj h.set) y hy
        refine ⟨h1, r', ?_, fun d hd' => ?_⟩
        · rw [rho_put D hv (hnb j hj)]
          rcases hobs with e | hobs
          · rw [e]; exact h2
          · by_cases hl : y.op.isLoad = true
            · have hbij : bf ops i j = false := by
                cases h : bf ops i j with
                | false => rfl
                | true => exact absurd (I.waits D i o ho hall j (List.getElem?_eq_some_iff.1 hy).1 h) (fun h => hnj h.set)
              obtain ⟨⟨p, hp1⟩, hp2⟩ := hload hp j hj hbij y hy hl
              obtain ⟨n, x, d⟩ := p
              have hyop : y.op = .load n x ∧ y.dst = some d := by
                unfold obsItem at hp1
                split at hp1
                · rename_i n' x' d' e1 e2
                  simp only [Option.some.injEq, Prod.mk.injEq] at hp1
                  obtain ⟨rfl, rfl, rfl⟩ := hp1
                  exact ⟨e1, e2⟩
                · cases hp1
              have hmem : (n, x, d) ∈ obsFor ops cs pre i := by
                simp only [obsFor, hv, hp, Bool.false_eq_true, if_false]
                refine List.mem_filterMap.2 ⟨j, List.mem_filter.2 ⟨hj, by rw [hbij]; rfl⟩, by rw [hy]; exact hp1⟩
              have hev : x.ev (rho ops cs A0 A j) = x.ev A := X.ev_congr fun t ht => by
                unfold rho
                split
                · rfl
                · rename_i hno
                  refine (I.untouched t fun k _ hk => ?_).symm
                  exact hno ⟨k, hk, hp2 t (by rw [hyop.1]; exact ht) k hk (dst_lt hk)⟩
              have hAd := h3 d hyop.2
              rcases h2.cases with ⟨k1, k2, k3⟩ | ⟨k1, s, want, k2, k3⟩
              · have hpop : ∀ st, pop st (rho ops cs A0 A j) y.op = vload st n (x.ev A) := fun st => by rw [hyop.1]; simp only [pop]; rw [hev]
                rw [hpop] at k1 k2
                rcases obsOk_get hobs hmem with h | ⟨o1, o2⟩
                · exfalso
                  rw [hAd] at h
                  rw [h] at k2
                  exact vload_not_und k1 k2.symm
                · rw [hAd] at o2
                  rcases k3 with k3 | ⟨s, want, k3, k4⟩
                  · rw [← o2, ← hpop]; exact .run k3 (by rw [hpop]; exact o1)
                  · rw [← o2, ← hpop]; exact .wants k3 k4 (by rw [hpop]; exact o1)
              · rw [k1]
                rcases k3 with k3 | ⟨c, k3, k4⟩
                · exact .und k2 k3
                · exact .passes k2 k3 k4
            · have hpop : pop st (rho ops cs A0 A j) y.op = pop st' (rho ops cs A0 A j) y.op := pop_st (by simpa using hl)
              rcases h2.cases with ⟨k1, k2, k3⟩ | ⟨k1, s, want, k2, k3⟩
              · rw [hpop] at k1 k2
                rw [k2]
                rcases k3 with k3 | ⟨s, want, k3, k4⟩
                · exact .run k3 k1
                · exact .wants k3 k4 k1
              · rw [k1]
                rcases k3 with k3 | ⟨c, k3, k4⟩
                · exact .und k2 k3
                · exact .passes k2 k3 k4
        · rw [putV_ne]
          · exact h3 d hd'
          · intro e
            exact D.one j i d hji (by rw [dst_of hy]; exact hd') (by rw [dst_of hv]; exact e)
      · simp at hj; subst hj
        exact absurd (Done.set_same hlt) hnj
  unfold wpOp
  rw [ho]
  simp only
  have run : vop P v.op st A (fun r st' => obsOk st' A (obsFor ops cs pre i) ∧ vops P K (withObs ops cs (pre ++ [i]) rem) (putV A v.dst r) st') → o.wp P a w Kc Q' := fun h =>
    vop_sound hop I.w (hrel.mono fun t ht => by simp [VO.looks, ht]) h fun r u st' w' G' hkk hru hle hw' => next r u st' w' G' hkk.2 (.inr hkk.1) hru hle hw'
  rcases hg with ⟨hg, hvg⟩ | ⟨j, want, s, hg, hs, hvg⟩
  · rw [hvg] at hrest
    rw [if_pos (by simp [Region.wanted, hg])]
    exact .inl (run hrest)
  · rw [hvg] at hrest
    simp only [vguard] at hrest
    have hrs := hrel s (by simp [VO.looks, gslot, hvg])
    split at hrest
    · rename_i b hb'
      rw [hb'] at hrs
      have hw1 := wanted_true hg hs hrs.sc_inv
      by_cases hbw : b = want
      · rw [if_pos (by rw [hw1]; simpa using hbw)]
        exact .inl (run (hrest.1 hbw))
      · rw [if_neg (by rw [hw1]; simpa using hbw)]
        exact next .und undef st w G (hrest.2 hbw) (.inl rfl) .und (.refl G) I.w
    · rename_i hb'
      rw [hb'] at hrs
      rw [if_neg (by rw [wanted_und hg hs hrs.und_inv]; simp)]
      exact next .und undef st w G hrest (.inl rfl) .und (.refl G) I.w
    · exact hrest.elim

/-- All that can be walked ahead of an operation that may come up is. -/
theorem Inv.advanceTo (D : Draw P N ops cs ord) {i : Nat} : ∀ (q1 q2 : List Nat) {A : Nat → V} {pre : List Nat}, Inv P w0 N ops cs ord K A0 G A st a w listed pre (q1 ++ i :: q2) → (∀ j ∈ q1, ∀ v, cs[j]? = some v → v.op.isPop = true) →
    ∃ A', Inv P w0 N ops cs ord K A0 G A' st a w listed (pre ++ q1) (i :: q2)
  | [], q2, A, pre, I, _ => ⟨A, by simpa using I⟩
  | j :: q1, q2, A, pre, I, h => by
    obtain ⟨v, hv, _⟩ := okFrom_cons I.ok
    obtain ⟨A', I'⟩ := I.advance D hv (h j (by simp) v hv)
    obtain ⟨A2, I2⟩ := Inv.advanceTo D q1 q2 I' (fun k hk => h k (by simp [hk]))
    exact ⟨A2, by simpa using I2⟩
theorem okFrom_ae : ∀ (q1 : List Nat) (i : Nat) (q2 pre : List Nat), okFrom ops cs pre (q1 ++ i :: q2) = true → ∀ j ∈ q1, ∀ v, cs[j]? = some v → v.op.isPop = false → bf ops i j = true
  | [], _, _, _, _, j, hj, _, _, _ => by cases hj
  | k :: q1, i, q2, pre, h, j, hj, v, hv, hp => by
    obtain ⟨v', hv', _, h2, _, h4⟩ := okFrom_cons h
    rcases List.mem_cons.1 hj with e | hj
    · subst e
      rw [hv] at hv'; cases hv'
      exact h2 hp i (by simp)
    · exact okFrom_ae q1 i q2 _ h4 j hj v hv hp
theorem any_sound (D : Draw P N ops cs ord) {Q' : Exit → Act → World → Prop} {G0 : Gh} (hk : ∀ A' a' st' w' G', K A' st' → G0.le G' → RelAll N G' A' a' → RepW w0 G' st' w' → Q' .normal a' w') :
    ∀ (fuel : Nat) {G : Gh} {A : Nat → V} {st : St} {a : Act} {w : World} {listed : Array Bool} {pre rem : List Nat}, G0.le G → Inv P w0 N ops cs ord K A0 G A st a w listed pre rem → fuel + (listed.toList.filter id).length = cs.length → wpAny P .any ops Q' fuel listed a w := by
  have fin : ∀ {G : Gh} {A : Nat → V} {st : St} {a : Act} {w : World} {listed : Array Bool} {pre rem : List Nat}, G0.le G → Inv P w0 N ops cs ord K A0 G A st a w listed pre rem → (∀ i, i < cs.length → Done listed i) → Q' .normal a w := fun {G A st a w listed pre rem} hle I hall => by
    have hrem : rem = [] := by
      cases rem with
      | nil => rfl
      | cons j rem =>
        have hj := D.lt j (by rw [← I.split]; simp)
        exact (I.disj D (I.donePre j (hall j hj)) (by simp)).elim
    subst hrem
    exact hk A a st w G I.rest hle ⟨I.size, I.defers, fun t => I.slotDone t fun i hi => hall i (dst_lt hi)⟩ I.w
  have noReady : ∀ {G : Gh} {A : Nat → V} {st : St} {a : Act} {w : World} {listed : Array Bool} {pre rem : List Nat}, Inv P w0 N ops cs ord K A0 G A st a w listed pre rem → Region.ready .any ops listed = [] → ∀ i, i < cs.length → Done listed i := fun {G A st a w listed pre rem} I h i => by
    induction i using Nat.strongRecOn with
    | _ i ih =>
      intro hi
      have ho : ops[i]? = some (ops[i]'(by rw [← D.len]; exact hi)) := Array.getElem?_eq_getElem _
      cases hd : listed.getD i false with
      | true => exact hd
      | false =>
        exfalso
        have : i ∈ Region.ready .any ops listed := mem_ready.2 ⟨by
          have hlt : i < listed.size := by rw [I.lsize]; exact hi
          simp [hlt] at hd ⊢; exact hd, _, ho, fun e he hb => ih e.on (D.back i _ ho e he hb) (Nat.lt_trans (D.back i _ ho e he hb) hi)⟩
        rw [h] at this; cases this
  have count : ∀ {listed : Array Bool} {i : Nat}, i < listed.size → ¬ Done listed i → ((listed.setIfInBounds i true).toList.filter id).length = (listed.toList.filter id).length + 1 := fun {listed i} hi hd => by
    have hl : listed.toList[i]? = some false := by
      unfold Done at hd
      simp [hi] at hd
      simp [hi, hd]
    rw [Array.toList_setIfInBounds]
    generalize listed.toList = l at hl
    clear hd hi
    induction l generalizing i with
    | nil => simp at hl
    | cons x l ih =>
      cases i with
      | zero => simp at hl; subst hl; simp
      | succ i =>
        have := ih (i := i) (by simpa using hl)
        cases x <;> simp [List.set_cons_succ, this]
  have step : ∀ {G : Gh} {A : Nat → V} {st : St} {a : Act} {w : World} {listed : Array Bool} {pre rem : List Nat} (fuel : Nat), G0.le G → Inv P w0 N ops cs ord K A0 G A st a w listed pre rem → fuel + 1 + (listed.toList.filter id).length = cs.length →
      (∀ {G : Gh} {A : Nat → V} {st : St} {a : Act} {w : World} {listed : Array Bool} {pre rem : List Nat}, G0.le G → Inv P w0 N ops cs ord K A0 G A st a w listed pre rem → fuel + (listed.toList.filter id).length = cs.length → wpAny P .any ops Q' fuel listed a w) →
      ∀ i ∈ Region.ready .any ops listed, wpOp P ops Q' i (wpAny P .any ops Q' fuel (listed.setIfInBounds i true)) a w := fun {G A st a w listed pre rem} fuel hle I hf ih i hi => by
    obtain ⟨hun, o, ho, hall⟩ := mem_ready.1 hi
    have hlt : i < cs.length := by rw [D.len]; exact (Array.getElem?_eq_some_iff.1 ho).1
    have hls : i < listed.size := by rw [I.lsize]; exact hlt
    have hnd : ¬ Done listed i := by unfold Done; simp [hls] at hun ⊢; exact hun
    have hv : cs[i]? = some cs[i] := List.getElem?_eq_getElem hlt
    have hc := count hls hnd
    by_cases hip : i ∈ pre
    · exact I.carry D ho hv hnd hip hall fun G' a' w' I' hle' => ih (hle.trans hle') I' (by rw [hc]; omega)
    · have hir : i ∈ rem := by
        have := D.mem i hlt
        rw [← I.split, List.mem_append] at this
        exact this.resolve_left hip
      obtain ⟨q1, q2, rfl⟩ := List.append_of_mem hir
      obtain ⟨A', I'⟩ := Inv.advanceTo D q1 q2 I (fun j hj v hv' => by
        cases hp : v.op.isPop with
        | true => rfl
        | false =>
          have := okFrom_ae q1 i q2 pre I.ok j hj v hv' hp
          exact (I.disj D (I.donePre j (I.waits D i o ho hall j (List.getElem?_eq_some_iff.1 hv').1 this)) (by simp [hj])).elim)
      cases hp : cs[i].op.isPop with
      | false => exact I'.acts D ho hv hp hall fun G' A2 st' a' w' I2 hle' => ih (hle.trans hle') I2 (by rw [hc]; omega)
      | true =>
        obtain ⟨A2, I2⟩ := I'.advance D hv hp
        exact I2.carry D ho hv hnd (by simp) hall fun G' a' w' I3 hle' => ih (hle.trans hle') I3 (by rw [hc]; omega)
  intro fuel
  induction fuel with
  | zero =>
    intro G A st a w listed pre rem hle I hf
    have hall : ∀ i, i < cs.length → Done listed i := fun i hi => by
      have hl : (listed.toList.filter id).length = listed.toList.length := by
        have h1 : listed.toList.length = cs.length := by rw [Array.length_toList]; exact I.lsize
        omega
      have := List.length_filter_eq_length_iff.1 hl
      have hls : i < listed.size := by rw [I.lsize]; exact hi
      have h2 := this listed[i] (by simp)
      unfold Done
      simpa [hls] using h2
    refine ⟨?_, fin hle I hall⟩
    cases hr : Region.ready .any ops listed with
    | nil => rfl
    | cons i l =>
      have hi : i ∈ Region.ready .any ops listed := by rw [hr]; simp
      obtain ⟨hun, o, ho, _⟩ := mem_ready.1 hi
      have := hall i (by rw [D.len]; exact (Array.getElem?_eq_some_iff.1 ho).1)
      unfold Done at this
      have hls : i < listed.size := by rw [I.lsize, D.len]; exact (Array.getElem?_eq_some_iff.1 ho).1
      simp [hls] at hun this
      rw [this] at hun; cases hun
  | succ fuel ih =>
    intro G A st a w listed pre rem hle I hf
    exact ⟨fun h => fin hle I (noReady I h), step fuel hle I (by omega) ih⟩
end
/-- A region that draws its order. -/
theorem draw_sound {vs : List VO} (hm : P.follows .mixedOrders = true) (hc : cDraw P N ops = some vs) (id : Nat) {Q' : Exit → Act → World → Prop} {G : Gh} {A : Nat → V} {a : Act} {st : St} {w : World} (hr : RelAll N G A a) (hw : RepW w0 G st w) (h : vops P K vs A st)
    (hk : ∀ A' a' st' w' G', K A' st' → G.le G' → RelAll N G' A' a' → RepW w0 G' st' w' → Q' .normal a' w') : (Code.region id ops true).wp P Q' a w := by
  unfold cDraw at hc
  split at hc
  · rename_i cs hcs
    split at hc
    · rename_i hok
      simp only [Option.some.injEq] at hc
      subst hc
      obtain ⟨D, hok2⟩ := okDraw_spec hcs hok
      refine wp_region_any hm ?_
      refine any_sound (A0 := A) D (G0 := G) hk ops.size (A := A) (pre := []) (rem := canon ops cs) (.refl G) ⟨hw.drew, hr.size, hr.defers, rfl, by simp [D.len], fun i hi => ?_, fun j o ho hd => ?_, fun s hs => hr.rep s, fun s hs => hr.rep s, fun s hs => rfl, fun i hi => (by cases hi), hok2, h, fun i j hi => (by cases hi)⟩ ?_
      · unfold Done at hi; rw [Array.getD_eq_getD_getElem?, Array.getElem?_replicate] at hi; split at hi <;> simp at hi
      · unfold Done at hd; rw [Array.getD_eq_getD_getElem?, Array.getElem?_replicate] at hd; split at hd <;> simp at hd
      · simp [D.len]
    · cases hc
  · cases hc
end
end Go.Proofs.Ytbmkohmhiafphaa
