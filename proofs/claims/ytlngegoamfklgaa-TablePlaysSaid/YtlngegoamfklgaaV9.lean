/- Regions that draw their order: one walk in one order serves all. -/
import Derived.Test.YtlngegoamfklgaaV8
namespace Go.Proofs.Ytlngegoamfklgaa
open Go Go.RowKit

/-- Must operation i wait for j? -/
def bf (ops : Array Oper) (i j : Nat) : Bool := ((Region.before ops).getD i 0).testBit j
def VOp.isLoad : VOp → Bool
  | .load _ _ => true
  | .b2sB _ => true
  | .mlk _ _ _ _ _ _ => true
  | .mlen _ => true
  | .ent _ => true
  | _ => false
def gslot (v : VO) : List Nat := match v.g with | some (s, _) => [s] | none => []
def VO.looks (v : VO) : List Nat := gslot v ++ v.op.reads
def dstAt (cs : List VO) (i : Nat) : Option Nat := (cs[i]?).bind (·.dst)
/-- The place of an operation in the one order. -/
def skey (ops : Array Oper) (cs : List VO) (i : Nat) : Nat :=
  let k := ((List.range cs.length).filter fun e => (match cs[e]? with | some v => !v.op.isPop | none => false) && bf ops i e).length
  match cs[i]? with
  | some v => if v.op.isPop then 2 * k else 2 * k + 1
  | none => 0
def canon (ops : Array Oper) (cs : List VO) : List Nat :=
  let ks := (List.range cs.length).map (skey ops cs)
  (List.range (2 * cs.length + 2)).flatMap fun k => (List.range cs.length).filter fun i => ks.getD i 0 == k
def VOp.isAlcX : VOp → Bool
  | .alcX _ => true
  | .boxX _ => true
  | _ => false
/-- An allocation that may come up ahead of its place in the one order. -/
def VO.toX (bx : Bool) (v : VO) : VO := match v.op, v.g with
  | .alc z, none => { v with op := .alcX z }
  | .box x, none => if bx then { v with op := .boxX x } else v
  | _, _ => v
def isX (cs : List VO) (i : Nat) : Bool := match cs[i]? with
  | some v => v.op.isAlcX
  | none => false
/-- Another order: each allocation as late as may be. -/
def pickNext (ops : Array Oper) (cs : List VO) (done : List Nat) : Option Nat :=
  let rem := (List.range cs.length).filter fun i => !done.contains i
  let ready := rem.filter fun i => rem.all fun k => !bf ops i k
  let ok := fun j => rem.all fun i => i == j || isX cs i || bf ops i j
  match ready.find? fun i => match cs[i]? with | some v => v.op.isPop | none => false with
  | some i => some i
  | none => match ready.find? fun i => !isX cs i && ok i with
    | some i => some i
    | none => ready.find? fun i => isX cs i && ok i
def canonX (ops : Array Oper) (cs : List VO) : Nat → List Nat → List Nat
  | 0, done => done
  | n + 1, done => match pickNext ops cs done with
    | some i => canonX ops cs n (done ++ [i])
    | none => done
def obsItem (v : VO) : Option (Option Nat × X × Nat) :=
  match v.op, v.dst with
  | .load n x, some d => some (n, x, d)
  | _, _ => none
/-- The loads ahead of an operation j in the one order that need not be ahead of it. -/
def obsFor (ops : Array Oper) (cs : List VO) (pre : List Nat) (j : Nat) : List (Option Nat × X × Nat) :=
  match cs[j]? with
  | some v => if v.op.isPop || v.op.isAlcX then [] else (pre.filter fun i => !bf ops j i).filterMap fun i => (cs[i]?).bind obsItem
  | none => []
def withObs (ops : Array Oper) (cs : List VO) : List Nat → List Nat → List VO
  | _, [] => []
  | pre, j :: rem => (match cs[j]? with | some v => [{ v with obs := obsFor ops cs pre j }] | none => []) ++ withObs ops cs (pre ++ [j]) rem
/-- What the one order must keep. -/
def okFrom (ops : Array Oper) (cs : List VO) : List Nat → List Nat → Bool
  | _, [] => true
  | pre, j :: rem => (match cs[j]? with
      | some v => ((List.range cs.length).all fun k => !bf ops j k || pre.contains k) && (v.op.isPop || (rem.all fun i => bf ops i j || isX cs i)) &&
          (v.op.isPop || v.op.isAlcX || (pre.all fun i => bf ops j i || (match cs[i]? with
            | some u => !u.op.isLoad || ((obsItem u).isSome && u.op.reads.all fun t => (List.range cs.length).all fun k => dstAt cs k != some t || bf ops i k)
            | none => false)))
      | none => false) && okFrom ops cs (pre ++ [j]) rem
def okDraw (ops : Array Oper) (cs : List VO) (ord : List Nat) : Bool :=
  (ord.length == cs.length) && ((List.range cs.length).all fun i => ord.contains i) && (ord.all fun i => decide (i < cs.length)) && decide ord.Nodup &&
  ((List.range cs.length).all fun i => match ops[i]? with
    | some o => (o.after.toList.all fun e => !Region.binds .any e || decide (e.on < i)) && (List.range cs.length).all fun j => !bf ops i j || o.after.toList.any fun e => Region.binds .any e && (e.on == j || bf ops e.on j)
    | none => false) &&
  ((List.range cs.length).all fun i => match cs[i]? with
    | some v => (List.range cs.length).all fun j => j == i || match dstAt cs j with
      | some s => (dstAt cs i != some s) && (!v.looks.contains s || bf ops i j || bf ops j i)
      | none => true
    | none => false) &&
  ((List.range cs.length).all fun i => match cs[i]? with
    | some v => match v.dst with
      | some s => !v.looks.contains s
      | none => true
    | none => false) &&
  ((List.range cs.length).all fun i => (List.range cs.length).all fun j => !isX cs i || !isX cs j || !bf ops i j) &&
  okFrom ops cs [] ord
def cDraw (P : Program) (N : Nat) (ops : Array Oper) : Option (List VO) :=
  match ops.toList.mapM (cOper P N ops) with
  | some cs => if cs.all (fun v => !v.op.isAlcX) then (if okDraw ops cs (canon ops cs) then some (withObs ops cs [] (canon ops cs)) else
      if okDraw ops (cs.map (VO.toX false)) (canonX ops (cs.map (VO.toX false)) cs.length []) then some (withObs ops (cs.map (VO.toX false)) [] (canonX ops (cs.map (VO.toX false)) cs.length [])) else
      if okDraw ops (cs.map (VO.toX true)) (canonX ops (cs.map (VO.toX true)) cs.length []) then some (withObs ops (cs.map (VO.toX true)) [] (canonX ops (cs.map (VO.toX true)) cs.length [])) else none) else none
  | none => none
/-- The operation, but for allocations that may come up early. -/
def Is (v v0 : VO) : Prop := (v = v0 ∧ v.op.isAlcX = false) ∨ (∃ z, v0.op = .alc z ∧ v0.g = none ∧ v = { v0 with op := .alcX z }) ∨ ∃ x, v0.op = .box x ∧ v0.g = none ∧ v = { v0 with op := .boxX x }
theorem Is.x {v v0 : VO} (h : Is v v0) (hx : v.op.isAlcX = false) : v = v0 := by
  rcases h with h | ⟨z, _, _, h⟩ | ⟨z, _, _, h⟩
  · exact h.1
  · rw [h] at hx; cases hx
  · rw [h] at hx; cases hx
theorem toX_is {v : VO} {bx : Bool} (h : v.op.isAlcX = false) : Is (v.toX bx) v := by
  unfold VO.toX
  split
  · rename_i z h1 h2
    exact .inr (.inl ⟨z, h1, h2, rfl⟩)
  · rename_i x h1 h2
    split
    · exact .inr (.inr ⟨x, h1, h2, rfl⟩)
    · exact .inl ⟨rfl, h⟩
  · exact .inl ⟨rfl, h⟩

theorem X.ev_congr {A B : Nat → V} {x : X} (h : ∀ t ∈ x.reads, A t = B t) : x.ev A = x.ev B := by
  cases x with
  | t n => exact h n (by simp [X.reads])
  | c v => rfl
theorem evs_congr {A B : Nat → V} : ∀ {xs : List X}, (∀ t ∈ xs.flatMap X.reads, A t = B t) → ∀ x ∈ xs, x.ev A = x.ev B := fun h x hx => X.ev_congr fun t ht => h t (List.mem_flatMap.2 ⟨x, hx, ht⟩)
theorem oev_congr {A B : Nat → V} {x : Option X} (h : ∀ t ∈ oreads x, A t = B t) : (x.map fun x => x.ev A) = x.map fun x => x.ev B := by
  cases x with
  | none => rfl
  | some x => simp only [Option.map_some, Option.some.injEq]; exact X.ev_congr h
theorem pop_congr {st : St} {A B : Nat → V} {o : VOp} (h : ∀ t ∈ o.reads, A t = B t) : pop st A o = pop st B o := by
  cases o <;> simp only [VOp.reads, List.mem_append] at h <;> simp only [pop]
  case mv x => rw [X.ev_congr h]
  case pick c a b => rw [X.ev_congr (x := c) fun t ht => h t (.inl (.inl ht)), X.ev_congr (x := a) fun t ht => h t (.inl (.inr ht)), X.ev_congr (x := b) fun t ht => h t (.inr ht)]
  case bin op x y => rw [X.ev_congr (x := x) fun t ht => h t (.inl ht), X.ev_congr (x := y) fun t ht => h t (.inr ht)]
  case un op x => rw [X.ev_congr h]
  case conv k x => rw [X.ev_congr h]
  case isnil neg x => rw [X.ev_congr h]
  case pnil neg x => rw [X.ev_congr h]
  case b2s x => rw [X.ev_congr h]
  case s2b x => rw [X.ev_congr h]
  case aidx n x y => rw [X.ev_congr (x := x) fun t ht => h t (.inl ht), X.ev_congr (x := y) fun t ht => h t (.inr ht)]
  case b2sB x => rw [X.ev_congr h]
  case s2a n size x => rw [X.ev_congr h]
  case slcA n size x lo hi => rw [X.ev_congr (x := x) fun t ht => h t (.inl (.inl ht)), oev_congr (x := lo) fun t ht => h t (.inl (.inr ht)), oev_congr (x := hi) fun t ht => h t (.inr ht)]
  case sidx x y => rw [X.ev_congr (x := x) fun t ht => h t (.inl ht), X.ev_congr (x := y) fun t ht => h t (.inr ht)]
  case binb neg x y => rw [X.ev_congr (x := x) fun t ht => h t (.inl ht), X.ev_congr (x := y) fun t ht => h t (.inr ht)]
  case eqs neg l x y => rw [X.ev_congr (x := x) fun t ht => h t (.inl ht), X.ev_congr (x := y) fun t ht => h t (.inr ht)]
  case fld off x => rw [X.ev_congr h]
  case ix size x y => rw [X.ev_congr (x := x) fun t ht => h t (.inl ht), X.ev_congr (x := y) fun t ht => h t (.inr ht)]
  case ixa n size x y => rw [X.ev_congr (x := x) fun t ht => h t (.inl ht), X.ev_congr (x := y) fun t ht => h t (.inr ht)]
  case load n x => rw [X.ev_congr h]
  case nilck x => rw [X.ev_congr h]
  case ext x i => rw [X.ev_congr h]
  case len x => rw [X.ev_congr h]
  case slen x => rw [X.ev_congr h]
  case mn x y => rw [X.ev_congr (x := x) fun t ht => h t (.inl ht), X.ev_congr (x := y) fun t ht => h t (.inr ht)]
  case mx x y => rw [X.ev_congr (x := x) fun t ht => h t (.inl ht), X.ev_congr (x := y) fun t ht => h t (.inr ht)]
  case bld z ps =>
    have : (ps.map fun p => (p.1, p.2.1, p.2.2.ev A)) = ps.map fun p => (p.1, p.2.1, p.2.2.ev B) := List.map_congr_left fun p hp => by
      rw [X.ev_congr (x := p.2.2) fun t ht => h t (List.mem_flatMap.2 ⟨p, hp, ht⟩)]
    rw [this]
  case bsl size xs =>
    have : (xs.map fun x => strip (x.ev A)) = xs.map fun x => strip (x.ev B) := List.map_congr_left fun x hx => by rw [evs_congr h x hx]
    rw [this]
  case slc size x lo hi => rw [X.ev_congr (x := x) fun t ht => h t (.inl (.inl ht)), oev_congr (x := lo) fun t ht => h t (.inl (.inr ht)), oev_congr (x := hi) fun t ht => h t (.inr ht)]
  case sslc x lo hi => rw [X.ev_congr (x := x) fun t ht => h t (.inl (.inl ht)), oev_congr (x := lo) fun t ht => h t (.inl (.inr ht)), oev_congr (x := hi) fun t ht => h t (.inr ht)]
  case mlk ag lf z ok x y => rw [X.ev_congr (x := x) fun t ht => h t (.inl ht), X.ev_congr (x := y) fun t ht => h t (.inr ht)]
  case mlen x => rw [X.ev_congr h]
  case mnil neg x => rw [X.ev_congr h]
  case ent x => rw [X.ev_congr h]
  case mfn f a b =>
    have e1 : (a.map fun x => x.ev A) = a.map fun x => x.ev B := List.map_congr_left fun x hx => evs_congr (fun t ht => h t (.inl ht)) x hx
    have e2 : (b.map fun x => x.ev A) = b.map fun x => x.ev B := List.map_congr_left fun x hx => evs_congr (fun t ht => h t (.inr ht)) x hx
    rw [e1, e2]
  case slc3 size x lo y q => rw [X.ev_congr (x := x) fun t ht => h t (.inl (.inl (.inl ht))), oev_congr (x := lo) fun t ht => h t (.inl (.inl (.inr ht))), X.ev_congr (x := y) fun t ht => h t (.inl (.inr ht)), X.ev_congr (x := q) fun t ht => h t (.inr ht)]
theorem pop_st {st st' : St} {A : Nat → V} {o : VOp} (h : o.isLoad = false) : pop st A o = pop st' A o := by
  cases o <;> first | rfl | simp [VOp.isLoad] at h

/-- What a walked operation leaves in its slot. -/
def Outc (v : VO) (st : St) (ρ : Nat → V) (r : V) : Prop :=
  match v.g with
  | none => (pop st ρ v.op).1 ∧ r = (pop st ρ v.op).2
  | some (s, want) => match ρ s with
    | .sc (.bool c) => if c = want then (pop st ρ v.op).1 ∧ r = (pop st ρ v.op).2 else r = .und
    | .und => r = .und
    | _ => False
theorem Outc.run {v : VO} {st : St} {ρ : Nat → V} (hg : v.g = none) (h : (pop st ρ v.op).1) : Outc v st ρ (pop st ρ v.op).2 := by unfold Outc; rw [hg]; exact ⟨h, rfl⟩
theorem Outc.wants {v : VO} {st : St} {ρ : Nat → V} {s : Nat} {want : Bool} (hg : v.g = some (s, want)) (hs : ρ s = .sc (.bool want)) (h : (pop st ρ v.op).1) : Outc v st ρ (pop st ρ v.op).2 := by
  unfold Outc; rw [hg]; simp [hs, h]
theorem Outc.passes {v : VO} {st : St} {ρ : Nat → V} {s : Nat} {want c : Bool} (hg : v.g = some (s, want)) (hs : ρ s = .sc (.bool c)) (hc : c ≠ want) : Outc v st ρ .und := by
  unfold Outc; rw [hg]; simp [hs, hc]
theorem Outc.und {v : VO} {st : St} {ρ : Nat → V} {s : Nat} {want : Bool} (hg : v.g = some (s, want)) (hs : ρ s = .und) : Outc v st ρ .und := by
  unfold Outc; rw [hg]; simp [hs]
/-- The three ways. -/
theorem Outc.cases {v : VO} {st : St} {ρ : Nat → V} {r : V} (h : Outc v st ρ r) : ((pop st ρ v.op).1 ∧ r = (pop st ρ v.op).2 ∧ (v.g = none ∨ ∃ s want, v.g = some (s, want) ∧ ρ s = .sc (.bool want))) ∨
    (r = .und ∧ ∃ s want, v.g = some (s, want) ∧ (ρ s = .und ∨ ∃ c, ρ s = .sc (.bool c) ∧ c ≠ want)) := by
  unfold Outc at h
  split at h
  · rename_i hg; exact .inl ⟨h.1, h.2, .inl hg⟩
  · rename_i s want hg
    split at h
    · rename_i c hc
      split at h
      · rename_i e; subst e; exact .inl ⟨h.1, h.2, .inr ⟨s, c, hg, hc⟩⟩
      · rename_i e; exact .inr ⟨h, s, want, hg, .inr ⟨c, hc, e⟩⟩
    · rename_i hc; exact .inr ⟨h, s, want, hg, .inl hc⟩
    · exact h.elim
theorem Outc.congr {v : VO} {st : St} {ρ σ : Nat → V} {r : V} (h : ∀ t ∈ v.looks, ρ t = σ t) (ho : Outc v st ρ r) : Outc v st σ r := by
  have hp : pop st ρ v.op = pop st σ v.op := pop_congr fun t ht => h t (by simp [VO.looks, ht])
  unfold Outc at *
  split at ho
  · rwa [← hp]
  · rename_i s want hg
    rw [← h s (by simp [VO.looks, gslot, hg]), ← hp]
    exact ho

section
variable {P : Program} {w0 : Fr} {N : Nat} {ops : Array Oper} {cs : List VO} {ord : List Nat} {K : (Nat → V) → St → Prop}

/-- The slots as operation i finds them. -/
noncomputable def rho (ops : Array Oper) (cs : List VO) (A0 A : Nat → V) (i : Nat) (t : Nat) : V :=
  open Classical in if ∃ j, dstAt cs j = some t ∧ bf ops i j = true then A t else A0 t

structure Draw (P : Program) (N : Nat) (ops : Array Oper) (cs : List VO) (ord : List Nat) : Prop where
  len : cs.length = ops.size
  get : ∀ (i : Nat) (o : Oper) (v : VO), ops[i]? = some o → cs[i]? = some v → ∃ v0, cOper P N ops o = some v0 ∧ Is v v0
  mem : ∀ i, i < cs.length → i ∈ ord
  lt : ∀ i ∈ ord, i < cs.length
  nodup : ord.Nodup
  back : ∀ (i : Nat) (o : Oper), ops[i]? = some o → ∀ e ∈ o.after, Region.binds .any e = true → e.on < i
  clos : ∀ (i : Nat) (o : Oper), ops[i]? = some o → ∀ j, j < cs.length → bf ops i j = true → ∃ e ∈ o.after, Region.binds .any e = true ∧ (e.on = j ∨ bf ops e.on j = true)
  one : ∀ i j s, i ≠ j → dstAt cs i = some s → dstAt cs j ≠ some s
  looks : ∀ i j s (v : VO), i ≠ j → cs[i]? = some v → dstAt cs j = some s → s ∈ v.looks → bf ops i j = true ∨ bf ops j i = true
  self : ∀ i s (v : VO), cs[i]? = some v → dstAt cs i = some s → s ∉ v.looks
  xx : ∀ i j, isX cs i = true → isX cs j = true → bf ops i j = false
theorem okDraw_spec (hl : cs.length = ops.size) (hget : ∀ (i : Nat) (o : Oper) (v : VO), ops.toList[i]? = some o → cs[i]? = some v → ∃ v0, cOper P N ops o = some v0 ∧ Is v v0) (h : okDraw ops cs ord = true) : Draw P N ops cs ord ∧ okFrom ops cs [] ord = true := by
  unfold okDraw at h
  simp only [Bool.and_eq_true, List.all_eq_true, List.mem_range, decide_eq_true_eq, List.contains_eq_mem] at h
  obtain ⟨⟨⟨⟨⟨⟨⟨⟨h1, h2⟩, h3⟩, h4⟩, h5⟩, h6⟩, h7⟩, h9⟩, h8⟩ := h
  have dlt : ∀ {j s}, dstAt cs j = some s → j < cs.length := fun {j s} hd => by
    unfold dstAt at hd
    rcases Nat.lt_or_ge j cs.length with hlt | hge
    · exact hlt
    · rw [List.getElem?_eq_none hge] at hd; simp at hd
  refine ⟨⟨hl, fun i o v ho hv => hget i o v (by simpa using ho) hv, h2, h3, h4, fun i o ho e he hb => ?_, fun i o ho j hj hb => ?_, fun i j s hij hi hj => ?_, fun i j s v hij hv hj hs => ?_, fun i s v hv hd hs => ?_, fun i j hi hj => ?_⟩, h8⟩
  · have := h5 i (by rw [hl]; exact (Array.getElem?_eq_some_iff.1 ho).1)
    rw [ho] at this
    simp only [Bool.and_eq_true, List.all_eq_true, Bool.or_eq_true, Bool.not_eq_true', decide_eq_true_eq] at this
    rcases this.1 e (by simpa using he) with h | h
    · rw [hb] at h; cases h
    · exact h
  · have := h5 i (by rw [hl]; exact (Array.getElem?_eq_some_iff.1 ho).1)
    rw [ho] at this
    simp only [Bool.and_eq_true, List.all_eq_true, List.mem_range, Bool.or_eq_true, Bool.not_eq_true', List.any_eq_true, beq_iff_eq] at this
    rcases this.2 j hj with h | ⟨e, he, hb2, h⟩
    · rw [hb] at h; cases h
    · exact ⟨e, by simpa using he, hb2, h⟩
  · have hlt := dlt hi
    have hv : cs[i]? = some cs[i] := List.getElem?_eq_getElem hlt
    have := h6 i hlt
    rw [hv] at this
    simp only [List.all_eq_true, List.mem_range, Bool.or_eq_true, beq_iff_eq] at this
    rcases this j (dlt hj) with h | h
    · exact hij h.symm
    · rw [hj] at h
      simp only [Bool.and_eq_true, bne_iff_ne, ne_eq] at h
      exact h.1 hi
  · have := h6 i (List.getElem?_eq_some_iff.1 hv).1
    rw [hv] at this
    simp only [List.all_eq_true, List.mem_range, Bool.or_eq_true, beq_iff_eq] at this
    rcases this j (dlt hj) with h | h
    · exact absurd h.symm hij
    · rw [hj] at h
      simp only [Bool.and_eq_true, Bool.or_eq_true, Bool.not_eq_true', List.contains_eq_mem, decide_eq_false_iff_not] at h
      rcases h.2 with (h | h) | h
      · exact absurd hs h
      · exact .inl h
      · exact .inr h
  · have := h7 i (List.getElem?_eq_some_iff.1 hv).1
    rw [hv] at this
    have hd' : v.dst = some s := by unfold dstAt at hd; rw [hv] at hd; exact hd
    simp only [hd', Bool.not_eq_true', List.contains_eq_mem, decide_eq_false_iff_not] at this
    exact this hs
  · have lt : ∀ {k}, isX cs k = true → k < cs.length := fun {k} h => by
      unfold isX at h
      rcases Nat.lt_or_ge k cs.length with hlt | hge
      · exact hlt
      · rw [List.getElem?_eq_none hge] at h; cases h
    have := h9 i (lt hi) j (lt hj)
    simp only [hi, hj, Bool.not_true, Bool.false_or, Bool.not_eq_true'] at this
    exact this

/-- Blocks that are set aside. -/
def Fr.add (F : Fr) (XB : Nat → Option Obj) : Fr := ⟨F.w, fun b => match F.x b with | some o => some o | none => XB b⟩
theorem Fr.free_add {F : Fr} {XB : Nat → Option Obj} {b : Nat} (h : (F.add XB).free b) : F.free b ∧ XB b = none := by
  obtain ⟨h1, h2⟩ := h
  simp only [Fr.add] at h1 h2
  split at h2
  · cases h2
  · rename_i hx; exact ⟨⟨h1, hx⟩, h2⟩
theorem Fr.add_free {F : Fr} {XB : Nat → Option Obj} {b : Nat} (h : F.free b) (hX : XB b = none) : (F.add XB).free b := ⟨h.1, by simp only [Fr.add, h.2, hX]⟩
theorem RepW.unframe {w0 : Fr} {XB : Nat → Option Obj} {G : Gh} {s : St} {w : World} (h : RepW (w0.add XB) G s w) : RepW w0 G s w :=
  ⟨h.F, h.O, fun b cs hb => ⟨(h.box b cs hb).1, (Fr.free_add (h.box b cs hb).2.1).1, (h.box b cs hb).2.2⟩, fun g m hg => ⟨(h.own g m hg).1, (Fr.free_add (h.own g m hg).2.1).1, (h.own g m hg).2.2⟩, h.sz, h.bel, fun b o hx => h.fr b o (by simp only [Fr.add, hx])⟩
def setX (XB : Nat → Option Obj) (b : Nat) (o : Option Obj) : Nat → Option Obj := fun c => if c = b then o else XB c
/-- A block that is allocated and set aside. -/
theorem RepW.aside {w0 : Fr} {XB : Nat → Option Obj} {G : Gh} {s : St} {w : World} (h : RepW (w0.add XB) G s w) (o : Obj) : RepW (w0.add (setX XB w.heap.size (some o))) G s (w.alloc o) := by
  have ha := h.alloc o
  have hsz := h.sz
  have hno : ∀ b, b ≠ w.heap.size → (w0.add XB).free b → (w0.add (setX XB w.heap.size (some o))).free b := fun b hb hf => by
    obtain ⟨h1, h2⟩ := Fr.free_add hf
    exact Fr.add_free h1 (by simp only [setX, if_neg hb]; exact h2)
  refine ⟨ha.F, ha.O, fun b cs hb => ?_, fun g m hg => ?_, ha.sz, ha.bel, fun b x hx => ?_⟩
  · obtain ⟨k1, k2, k3⟩ := ha.box b cs hb
    exact ⟨k1, hno b (by omega) k2, k3⟩
  · obtain ⟨k1, k2, k3⟩ := ha.own g m hg
    exact ⟨k1, hno g (by omega) k2, k3⟩
  · by_cases e : b = w.heap.size
    · subst e
      have hfree := (Fr.free_add h.newFree).1
      have : x = o := by
        simp only [Fr.add, hfree.2, setX, if_true] at hx
        exact (Option.some.inj hx).symm
      subst this
      exact ⟨heap_alloc_new _ _, fun i => h.newF (Nat.le_refl _) i, h.newO (Nat.le_refl _)⟩
    · refine ha.fr b x ?_
      simp only [Fr.add, setX, if_neg e] at hx ⊢
      exact hx
/-- A block that was set aside becomes a box. -/
theorem RepW.claim {w0 : Fr} {XB : Nat → Option Obj} {G : Gh} {s : St} {w : World} (h : RepW (w0.add XB) G s w) {b : Nat} {us : Array Value} {t : TypeId} {z : List V} (hX : XB b = some (.cells us t (0, 0))) (hf : w0.free b) (hr : RepL G z us) :
    RepW (w0.add (setX XB b none)) G (s.put b z) w ∧ s.box b = none ∧ s.own b = none := by
  have hfr := h.fr b _ (show (w0.add XB).x b = some (.cells us t (0, 0)) by simp only [Fr.add, hf.2]; exact hX)
  have hlt : b < w.heap.size := (Array.getElem?_eq_some_iff.1 hfr.1).1
  have hno : ∀ c, (w0.add XB).free c → (w0.add (setX XB b none)).free c := fun c hc => by
    obtain ⟨h1, h2⟩ := Fr.free_add hc
    refine Fr.add_free h1 ?_
    simp only [setX]
    split
    · rfl
    · exact h2
  have hsz := h.sz
  refine ⟨⟨h.F, h.O, fun c cs hc => ?_, fun g m hg => ?_, ?_, h.bel, fun c x hx => ?_⟩, ?_, ?_⟩
  · simp only [St.put] at hc ⊢
    split at hc
    · rename_i e
      subst e
      injection hc with hc; subst hc
      exact ⟨by omega, Fr.add_free hf (by simp [setX]), hfr.2.1, hfr.2.2, by rw [hfr.1]; exact .cells us t _ hr.len hr.one hr.rep⟩
    · obtain ⟨k1, k2, k3⟩ := h.box c cs hc
      exact ⟨by omega, hno c k2, k3⟩
  · obtain ⟨k1, k2, k3⟩ := h.own g m hg
    exact ⟨by simp only [St.put]; omega, hno g k2, k3⟩
  · simp only [St.put]; omega
  · refine h.fr c x ?_
    by_cases e : c = b
    · subst e
      simp only [Fr.add, hf.2, setX, if_true] at hx
      cases hx
    · simp only [Fr.add, setX, if_neg e] at hx ⊢
      exact hx
  · cases hb : s.box b with
    | none => rfl
    | some cs =>
      have := (Fr.free_add (h.box b cs hb).2.1).2
      rw [hX] at this; cases this
  · cases hb : s.own b with
    | none => rfl
    | some m =>
      have := (Fr.free_add (h.own b m hb).2.1).2
      rw [hX] at this; cases this
theorem cOp_alc {P : Program} {own : Bool} {o : Op} {z : List V} (h : cOp P own o = some (.alc z)) : ∃ t, o = .alloc t ∧ zeroCells' P t = some z := by
  cases o <;> simp only [cOp] at h
  case alloc t =>
    obtain ⟨z', h1, h2⟩ := Option.map_eq_some_iff.1 h
    injection h2 with h2
    exact ⟨t, rfl, by rw [h1, h2]⟩
  case makeMap t r => cases r <;> simp [Option.bind_eq_some_iff] at h
  all_goals
    exfalso
    repeat' split at h
    all_goals first
      | (cases h; done)
      | (simp [Option.bind_eq_some_iff] at h; done)
theorem cOp_box {P : Program} {own : Bool} {o : Op} {x : X} (h : cOp P own o = some (.box x)) : ∃ t y, o = .box t y ∧ cx y = some x := by
  cases o <;> simp only [cOp] at h
  case box t y =>
    obtain ⟨x', h1, h2⟩ := Option.map_eq_some_iff.1 h
    injection h2 with h2
    exact ⟨t, y, rfl, by rw [h1, h2]⟩
  case makeMap t r => cases r <;> simp [Option.bind_eq_some_iff] at h
  all_goals
    exfalso
    repeat' split at h
    all_goals first
      | (cases h; done)
      | (simp [Option.bind_eq_some_iff] at h; done)
/-- What an early allocation holds. -/
def Early (G : Gh) (ρ : Nat → V) (us : Array Value) : VOp → Prop
  | .alcX z => RepL G z us
  | .boxX x => ∃ u, Rep1 G (x.ev ρ) u ∧ us = u.cells
  | _ => False
theorem Early.mono {G H : Gh} {ρ : Nat → V} {us : Array Value} {o : VOp} (h : Early G ρ us o) (hle : G.le H) : Early H ρ us o := by
  cases o <;> try exact h
  · exact RepL.mono hle h
  · obtain ⟨u, h1, h2⟩ := h
    exact ⟨u, h1.mono hle, h2⟩
/-- What turns nothing yields the same beside a new box. -/
theorem pop_fresh {st : St} {A : Nat → V} {o : VOp} {b : Nat} {z : List V} (hb : st.box b = none) (h : (pop st A o).1) : pop (st.put b z) A o = pop st A o := by
  cases o <;> try rfl
  case load n x =>
    simp only [pop] at h ⊢
    unfold vload at h ⊢
    split at h
    · rfl
    · rename_i c o hx
      cases hc : st.box c with
      | none => rw [hc] at h; exact h.elim
      | some cs =>
        have hne : c ≠ b := fun e => by subst e; rw [hb] at hc; cases hc
        simp only [St.put, if_neg hne, hc]
    · exact h.elim
  case b2sB x =>
    simp only [pop] at h ⊢
    unfold vb2sB at h ⊢
    split at h
    · rename_i c o n cap hx
      cases hc : st.box c with
      | none => rw [hc] at h; exact h.elim
      | some cs =>
        have hne : c ≠ b := fun e => by subst e; rw [hb] at hc; cases hc
        simp only [St.put, if_neg hne, hc]
    · exact h.elim
  case mlk ag lf zz ok x k =>
    simp only [pop] at h ⊢
    unfold vmlk at h ⊢
    split at h
    · rfl
    · rename_i c hx
      cases hc : st.box c with
      | none => rw [hc] at h; exact h.elim
      | some cs =>
        have hne : c ≠ b := fun e => by subst e; rw [hb] at hc; cases hc
        simp only [St.put, if_neg hne, hc]
    · exact h.elim
  case mlen x =>
    simp only [pop] at h ⊢
    unfold vmlen at h ⊢
    split at h
    · rfl
    · rename_i c hx
      cases hc : st.box c with
      | none => rw [hc] at h; exact h.elim
      | some cs =>
        have hne : c ≠ b := fun e => by subst e; rw [hb] at hc; cases hc
        simp only [St.put, if_neg hne, hc]
    · exact h.elim
  case ent x =>
    simp only [pop] at h ⊢
    unfold vent at h ⊢
    split at h
    · rename_i c hx
      cases hc : st.box c with
      | none => rw [hc] at h; exact h.elim
      | some cs =>
        have hne : c ≠ b := fun e => by subst e; rw [hb] at hc; cases hc
        rw [hc] at h
        simp only [St.put, if_neg hne, hc]
        split at h
        · rename_i m since seen last e
          cases e
          cases hm : st.box m with
          | none => rw [hm] at h; exact h.elim
          | some ds =>
            have hne' : m ≠ b := fun e => by subst e; rw [hb] at hm; cases hm
            simp only [if_neg hne', hm]
        · exact h.elim
    · exact h.elim
def Done (listed : Array Bool) (i : Nat) : Prop := listed.getD i false = true
/-- Midway: 'pre' has been walked, 'rem' not yet; 'listed' has been carried out. ex: the allocations that came up early, with their blocks; XB: these blocks. -/
structure Inv (P : Program) (w0 : Fr) (N : Nat) (ops : Array Oper) (cs : List VO) (ord : List Nat) (K : (Nat → V) → St → Prop) (A0 : Nat → V) (ex : Nat → Option Nat) (XB : Nat → Option Obj) (G : Gh) (A : Nat → V) (st : St) (a : Act) (w : World) (listed : Array Bool) (pre rem : List Nat) : Prop where
  w : RepW (w0.add XB) G st w
  size : a.tmps.size = N
  defers : a.defers = []
  split : pre ++ rem = ord
  lsize : listed.size = cs.length
  donePre : ∀ i, Done listed i → i ∈ pre ∨ ∃ b, ex i = some b
  closed : ∀ (j : Nat) (o : Oper), ops[j]? = some o → Done listed j → ∀ e ∈ o.after, Region.binds .any e = true → Done listed e.on
  slotDone : ∀ s, (∀ i, dstAt cs i = some s → Done listed i ∧ ex i = none) → Rep1 G (A s) (a.tmps.getD s undef)
  slotNot : ∀ s, (∀ i, dstAt cs i = some s → ¬ Done listed i) → Rep1 G (A0 s) (a.tmps.getD s undef)
  untouched : ∀ s, (∀ i ∈ pre, dstAt cs i ≠ some s) → A s = A0 s
  pend : ∀ i ∈ pre, ¬ Done listed i → ∀ v, cs[i]? = some v → v.op.isPop = true ∧ ∃ r, Outc v st (rho ops cs A0 A i) r ∧ ∀ d, v.dst = some d → A d = r
  ok : okFrom ops cs pre rem = true
  rest : vops P K (withObs ops cs pre rem) A st
  before : ∀ (i j : Nat), i ∈ pre → bf ops i j = true → j < cs.length → ∃ l1 l2, pre = l1 ++ i :: l2 ∧ j ∈ l1
  early : ∀ i b, ex i = some b → i ∈ rem ∧ Done listed i ∧ w0.free b ∧ ∃ v us t, cs[i]? = some v ∧ v.op.isAlcX = true ∧ v.g = none ∧ XB b = some (.cells us t (0, 0)) ∧ Early G (rho ops cs A0 A i) us v.op ∧ ∀ d, v.dst = some d → a.tmps.getD d undef = .pointer (some ⟨b, 0, none⟩)
  einj : ∀ i j b, ex i = some b → ex j = some b → i = j

theorem okFrom_cons {pre rem : List Nat} {j : Nat} (h : okFrom ops cs pre (j :: rem) = true) : ∃ v, cs[j]? = some v ∧ (∀ k, k < cs.length → bf ops j k = true → k ∈ pre) ∧ (v.op.isPop = false → ∀ i ∈ rem, bf ops i j = true ∨ isX cs i = true) ∧
    (v.op.isPop = false → v.op.isAlcX = false → ∀ i ∈ pre, bf ops j i = false → ∀ u, cs[i]? = some u → u.op.isLoad = true → (∃ p, obsItem u = some p) ∧ ∀ t ∈ u.op.reads, ∀ k, dstAt cs k = some t → k < cs.length → bf ops i k = true) ∧ okFrom ops cs (pre ++ [j]) rem = true := by
  simp only [okFrom, Bool.and_eq_true] at h
  obtain ⟨h1, h2⟩ := h
  cases hv : cs[j]? with
  | none => rw [hv] at h1; cases h1
  | some v =>
    rw [hv] at h1
    simp only [Bool.and_eq_true, List.all_eq_true, List.mem_range, Bool.or_eq_true, Bool.not_eq_true', List.contains_eq_mem, decide_eq_true_eq] at h1
    obtain ⟨⟨k1, k2⟩, k3⟩ := h1
    refine ⟨v, rfl, fun k hk hb => (k1 k hk).resolve_left (by rw [hb]; simp), fun hp i hi => k2.resolve_left (by rw [hp]; simp) i hi, fun hp hx i hi hb u hu hl => ?_, h2⟩
    have := (k3.resolve_left (by rw [hp, hx]; simp) i hi).resolve_left (by rw [hb]; simp)
    rw [hu] at this
    simp only [Bool.and_eq_true, List.all_eq_true, List.mem_range, Bool.or_eq_true, Bool.not_eq_true', bne_iff_ne, ne_eq] at this
    have h3 := this.resolve_left (by rw [hl]; simp)
    exact ⟨Option.isSome_iff_exists.1 h3.1, fun t ht k hd hk => (h3.2 t ht k hk).resolve_left (fun e => e hd)⟩
theorem dst_lt {j s : Nat} (hd : dstAt cs j = some s) : j < cs.length := by
  unfold dstAt at hd
  rcases Nat.lt_or_ge j cs.length with hlt | hge
  · exact hlt
  · rw [List.getElem?_eq_none hge] at hd; simp at hd
theorem dst_of {j : Nat} {v : VO} (hv : cs[j]? = some v) : dstAt cs j = v.dst := by simp [dstAt, hv]

section
variable {A0 : Nat → V} {ex : Nat → Option Nat} {XB : Nat → Option Obj} {G : Gh} {A : Nat → V} {st : St} {a : Act} {w : World} {listed : Array Bool} {pre rem : List Nat}

theorem Inv.disj (D : Draw P N ops cs ord) (I : Inv P w0 N ops cs ord K A0 ex XB G A st a w listed pre rem) {i : Nat} (h1 : i ∈ pre) (h2 : i ∈ rem) : False := by
  have := D.nodup
  rw [← I.split, List.nodup_append] at this
  exact this.2.2 i h1 i h2 rfl
theorem Inv.done_lt (I : Inv P w0 N ops cs ord K A0 ex XB G A st a w listed pre rem) (D : Draw P N ops cs ord) {i : Nat} (h : Done listed i) : i < cs.length :=
  D.lt i (by
    rw [← I.split]
    rcases I.donePre i h with h | ⟨b, h⟩
    · exact List.mem_append_left _ h
    · exact List.mem_append_right _ (I.early i b h).1)
theorem Inv.exPre (D : Draw P N ops cs ord) (I : Inv P w0 N ops cs ord K A0 ex XB G A st a w listed pre rem) {i : Nat} (h : i ∈ pre) : ex i = none := by
  cases he : ex i with
  | none => rfl
  | some b => exact (I.disj D h (I.early i b he).1).elim
/-- What is not an early allocation and has been carried out was walked. -/
theorem Inv.preOf (I : Inv P w0 N ops cs ord K A0 ex XB G A st a w listed pre rem) {i : Nat} (h : Done listed i) {v : VO} (hv : cs[i]? = some v) (hx : v.op.isAlcX = false) : i ∈ pre := by
  rcases I.donePre i h with h | ⟨b, h⟩
  · exact h
  · obtain ⟨_, _, _, v', us, t, k1, k2, _⟩ := I.early i b h
    rw [hv] at k1; cases k1
    rw [k2] at hx; cases hx
/-- What an operation that may come up, or has come up, waits for has come up. -/
theorem Inv.waits (D : Draw P N ops cs ord) (I : Inv P w0 N ops cs ord K A0 ex XB G A st a w listed pre rem) : ∀ (i : Nat) (o : Oper), ops[i]? = some o → (∀ e ∈ o.after, Region.binds .any e = true → Done listed e.on) → ∀ j, j < cs.length → bf ops i j = true → Done listed j := by
  intro i
  induction i using Nat.strongRecOn with
  | _ i ih =>
    intro o ho hall j hj hb
    obtain ⟨e, he, hbe, h⟩ := D.clos i o ho j hj hb
    rcases h with h | h
    · rw [← h]; exact hall e he hbe
    · have hlt := D.back i o ho e he hbe
      have hd := hall e he hbe
      have hel := I.done_lt D hd
      have hoe : ops[e.on]? = some (ops[e.on]'(by rw [← D.len]; exact hel)) := Array.getElem?_eq_getElem _
      exact ih e.on hlt _ hoe (fun e' he' hb' => I.closed e.on _ hoe hd e' he' hb') j hj h
theorem isX_of {i : Nat} {v : VO} (hv : cs[i]? = some v) : isX cs i = v.op.isAlcX := by simp [isX, hv]
/-- What an early allocation waits for has been walked. -/
theorem Inv.depsPre (D : Draw P N ops cs ord) (I : Inv P w0 N ops cs ord K A0 ex XB G A st a w listed pre rem) {i : Nat} {o : Oper} (ho : ops[i]? = some o) (hall : ∀ e ∈ o.after, Region.binds .any e = true → Done listed e.on) (hx : isX cs i = true) : ∀ k, k < cs.length → bf ops i k = true → k ∈ pre := fun k hk hb => by
  have hv : cs[k]? = some cs[k] := List.getElem?_eq_getElem hk
  refine I.preOf (I.waits D i o ho hall k hk hb) hv ?_
  cases h : cs[k].op.isAlcX with
  | false => rfl
  | true =>
    have := D.xx i k hx (by rw [isX_of hv, h])
    rw [hb] at this; cases this
theorem Inv.earlyDeps (D : Draw P N ops cs ord) (I : Inv P w0 N ops cs ord K A0 ex XB G A st a w listed pre rem) {i b : Nat} (he : ex i = some b) : ∀ k, k < cs.length → bf ops i k = true → k ∈ pre := by
  obtain ⟨_, k2, _, v, _, _, hv, hx, _⟩ := I.early i b he
  have ho : ops[i]? = some (ops[i]'(by rw [← D.len]; exact (List.getElem?_eq_some_iff.1 hv).1)) := Array.getElem?_eq_getElem _
  exact I.depsPre D ho (fun e h1 h2 => I.closed i _ ho k2 e h1 h2) (by rw [isX_of hv, hx])
/-- A is what operation i finds in the slots that it looks at, where i comes next in the one order. -/
theorem Inv.next (D : Draw P N ops cs ord) {j : Nat} (I : Inv P w0 N ops cs ord K A0 ex XB G A st a w listed pre (j :: rem)) {v : VO} (hv : cs[j]? = some v) : ∀ t ∈ v.looks, A t = rho ops cs A0 A j t := by
  intro t ht
  unfold rho
  split
  · rfl
  · rename_i hno
    refine I.untouched t fun i hi hd => ?_
    have hij : j ≠ i := fun e => I.disj D hi (by rw [e]; simp)
    rcases D.looks j i t v hij hv hd ht with h | h
    · exact hno ⟨i, hd, h⟩
    · obtain ⟨l1, l2, e1, e2⟩ := I.before i j hi h (List.getElem?_eq_some_iff.1 hv).1
      exact I.disj D (i := j) (by rw [e1]; exact List.mem_append_left _ e2) (by simp)
theorem rho_put (D : Draw P N ops cs ord) {i j : Nat} {v : VO} (hv : cs[j]? = some v) (hb : bf ops i j = false) (r : V) : rho ops cs A0 (putV A v.dst r) i = rho ops cs A0 A i := by
  funext t
  unfold rho
  split
  · rename_i h
    obtain ⟨k, hk, hbk⟩ := h
    cases hd : v.dst with
    | none => rfl
    | some d =>
      simp only [putV]
      rw [if_neg]
      intro e
      subst e
      have hjd : dstAt cs j = some t := by rw [dst_of hv, hd]
      by_cases hjk : j = k
      · subst hjk; rw [hb] at hbk; cases hbk
      · exact D.one j k t hjk hjd hk
  · rfl
theorem putV_ne {d : Option Nat} {r : V} {s : Nat} (h : d ≠ some s) : putV A d r s = A s := by
  cases d with
  | none => rfl
  | some d => simp only [putV]; rw [if_neg (fun e => h (by rw [e]))]
theorem putV_eq {s : Nat} {r : V} : putV A (some s) r s = r := by simp [putV]

theorem withObs_cons {pre rem : List Nat} {j : Nat} {v : VO} (hv : cs[j]? = some v) : withObs ops cs pre (j :: rem) = { v with obs := obsFor ops cs pre j } :: withObs ops cs (pre ++ [j]) rem := by simp [withObs, hv]
theorem before_snoc (I : Inv P w0 N ops cs ord K A0 ex XB G A st a w listed pre rem) {j : Nat} (hb : ∀ k, k < cs.length → bf ops j k = true → k ∈ pre) (i k : Nat) (hi : i ∈ pre ++ [j]) (h : bf ops i k = true) (hk : k < cs.length) : ∃ l1 l2, pre ++ [j] = l1 ++ i :: l2 ∧ k ∈ l1 := by
  rw [List.mem_append] at hi
  rcases hi with hi | hi
  · obtain ⟨l1, l2, e1, e2⟩ := I.before i k hi h hk
    exact ⟨l1, l2 ++ [j], by rw [e1]; simp, e2⟩
  · simp at hi; subst hi
    exact ⟨pre, [], rfl, hb k hk h⟩
/-- An operation that turns nothing is walked ahead of its time. -/
theorem Inv.advance (D : Draw P N ops cs ord) {j : Nat} (I : Inv P w0 N ops cs ord K A0 ex XB G A st a w listed pre (j :: rem)) {v : VO} (hv : cs[j]? = some v) (hp : v.op.isPop = true) :
    ∃ A', Inv P w0 N ops cs ord K A0 ex XB G A' st a w listed (pre ++ [j]) rem := by
  obtain ⟨v', hv', hb, _, _, hok⟩ := okFrom_cons I.ok
  rw [hv] at hv'; cases hv'
  have hrest := I.rest
  rw [withObs_cons hv] at hrest
  have hobs : obsFor ops cs pre j = [] := by simp [obsFor, hv, hp]
  have hxx : v.op.isAlcX = false := by cases hvop : v.op <;> rw [hvop] at hp <;> first | rfl | simp [VOp.isPop] at hp
  rw [hobs] at hrest
  simp only [vops] at hrest
  have hnd : ¬ Done listed j := fun h => I.disj D (I.preOf h hv hxx) (by simp)
  have hnb : ∀ i ∈ pre, bf ops i j = false := fun i hi => by
    cases h : bf ops i j with
    | false => rfl
    | true =>
      obtain ⟨l1, l2, e1, e2⟩ := I.before i j hi h (List.getElem?_eq_some_iff.1 hv).1
      exact (I.disj D (i := j) (by rw [e1]; exact List.mem_append_left _ e2) (by simp)).elim
  have hbj : bf ops j j = false := by
    cases h : bf ops j j with
    | false => rfl
    | true => exact (I.disj D (hb j (List.getElem?_eq_some_iff.1 hv).1 h) (by simp)).elim
  -- what it leaves
  have hout : ∃ r, Outc v st A r ∧ vops P K (withObs ops cs (pre ++ [j]) rem) (putV A v.dst r) st := by
    have hrun : ∀ {K' : V → St → Prop}, vop P v.op st A K' → (pop st A v.op).1 ∧ K' (pop st A v.op).2 st := fun {K'} h => by
      cases hvop : v.op <;> rw [hvop] at h hp <;> first | exact h | simp [VOp.isPop] at hp
    unfold vguard at hrest
    split at hrest
    · rename_i hg
      obtain ⟨h1, _, h2⟩ := hrun hrest
      exact ⟨_, .run hg h1, h2⟩
    · rename_i s want hg
      split at hrest
      · rename_i c hc
        by_cases hcw : c = want
        · obtain ⟨h1, _, h2⟩ := hrun (hrest.1 hcw)
          exact ⟨_, .wants hg (by rw [hc, hcw]) h1, h2⟩
        · exact ⟨.und, .passes hg hc hcw, hrest.2 hcw⟩
      · rename_i hc
        exact ⟨.und, .und hg hc, hrest⟩
      · exact hrest.elim
  obtain ⟨r, hr, hrest'⟩ := hout
  have hnext := I.next D hv
  refine ⟨putV A v.dst r, ⟨I.w, I.size, I.defers, by rw [List.append_assoc]; exact I.split, I.lsize, fun i h => (I.donePre i h).imp_left (List.mem_append_left _), I.closed, fun s hs => ?_, I.slotNot, fun s hs => ?_, fun i hi hni u hu => ?_, hok, hrest', before_snoc I hb, fun i b he => ?_, I.einj⟩⟩
  rotate_right
  · obtain ⟨k1, k2, k3, v', us, t, k4, k5, k6, k7, k8, k9⟩ := I.early i b he
    have hbi : bf ops i j = false := by
      cases h : bf ops i j with
      | false => rfl
      | true => exact (I.disj D (I.earlyDeps D he j (List.getElem?_eq_some_iff.1 hv).1 h) (by simp)).elim
    refine ⟨?_, k2, k3, v', us, t, k4, k5, k6, k7, by rw [rho_put D hv hbi]; exact k8, k9⟩
    rcases List.mem_cons.1 k1 with e | e
    · subst e; rw [hv] at k4; cases k4; rw [k5] at hxx; cases hxx
    · exact e
  · rw [putV_ne]
    · exact I.slotDone s hs
    · intro e; exact hnd (hs j (by rw [dst_of hv]; exact e)).1
  · rw [putV_ne]
    · exact I.untouched s fun i hi => hs i (List.mem_append_left _ hi)
    · intro e; exact hs j (by simp) (by rw [dst_of hv]; exact e)
  · rw [List.mem_append] at hi
    rcases hi with hi | hi
    · obtain ⟨h1, r', h2, h3⟩ := I.pend i hi hni u hu
      refine ⟨h1, r', by rw [rho_put D hv (hnb i hi)]; exact h2, fun d hd => ?_⟩
      rw [putV_ne]
      · exact h3 d hd
      · intro e
        exact D.one i j d (fun e => by subst e; exact I.disj D hi (by simp)) (by rw [dst_of hu]; exact hd) (by rw [dst_of hv]; exact e)
    · simp at hi; subst hi
      rw [hv] at hu; cases hu
      refine ⟨hp, r, ?_, fun d hd => by rw [hd]; exact putV_eq⟩
      rw [rho_put D hv hbj]
      exact hr.congr hnext

theorem Done.set_ne {i j : Nat} (h : Done (listed.setIfInBounds i true) j) (hne : i ≠ j) : Done listed j := by
  unfold Done at *; rwa [getD_set_ne false hne] at h
theorem Done.set {i j : Nat} (h : Done listed j) : Done (listed.setIfInBounds i true) j := getD_set_true h
theorem Done.set_same {i : Nat} (h : i < listed.size) : Done (listed.setIfInBounds i true) i := by
  unfold Done; simp [h]
/-- The looked-at slots of an operation that may come up now. -/
theorem Inv.relOn (D : Draw P N ops cs ord) (I : Inv P w0 N ops cs ord K A0 ex XB G A st a w listed pre rem) {i : Nat} {o : Oper} (ho : ops[i]? = some o) {v : VO} (hv : cs[i]? = some v) (hnd : ¬ Done listed i) (hall : ∀ e ∈ o.after, Region.binds .any e = true → Done listed e.on) (hpre : ∀ k, k < cs.length → bf ops i k = true → k ∈ pre) :
    RelOn v.looks G (rho ops cs A0 A i) a := by
  intro t ht
  have hw := I.waits D i o ho hall
  unfold rho
  split
  · rename_i h
    obtain ⟨k, hk, hb⟩ := h
    have hd := hw k (dst_lt hk) hb
    refine I.slotDone t fun k' hk' => ?_
    by_cases e : k' = k
    · subst e; exact ⟨hd, I.exPre D (hpre k' (dst_lt hk) hb)⟩
    · exact absurd hk (D.one k' k t e hk')
  · rename_i hno
    refine I.slotNot t fun k hk hdk => ?_
    have hik : i ≠ k := fun e => hnd (by rw [e]; exact hdk)
    rcases D.looks i k t v hik hv hk ht with h | h
    · exact hno ⟨k, hk, h⟩
    · have hok : ops[k]? = some (ops[k]'(by rw [← D.len]; exact dst_lt hk)) := Array.getElem?_eq_getElem _
      exact hnd (I.waits D k _ hok (fun e he hb => I.closed k _ hok hdk e he hb) i (List.getElem?_eq_some_iff.1 hv).1 h)
/-- An operation that was walked ahead is carried out. -/
theorem Inv.carry (D : Draw P N ops cs ord) (I : Inv P w0 N ops cs ord K A0 ex XB G A st a w listed pre rem) {i : Nat} {o : Oper} (ho : ops[i]? = some o) {v : VO} (hv : cs[i]? = some v) (hnd : ¬ Done listed i) (hi : i ∈ pre) (hall : ∀ e ∈ o.after, Region.binds .any e = true → Done listed e.on)
    {Kc : Act → World → Prop} {Q' : Exit → Act → World → Prop} (hk : ∀ G' a' w', Inv P w0 N ops cs ord K A0 ex XB G' A st a' w' (listed.setIfInBounds i true) pre rem → G.le G' → Kc a' w') : wpOp P ops Q' i Kc a w := by
  have hrel := I.relOn D ho hv hnd hall fun k hk hb => by
    obtain ⟨l1, l2, e1, e2⟩ := I.before i k hi hb hk
    rw [e1]; exact List.mem_append_left _ e2
  obtain ⟨hp, r, hout, hval⟩ := I.pend i hi hnd v hv
  have hxx : v.op.isAlcX = false := by cases hvop : v.op <;> rw [hvop] at hp <;> first | rfl | simp [VOp.isPop] at hp
  obtain ⟨v0, hv0, his⟩ := D.get i o v ho hv
  obtain rfl := his.x hxx
  obtain ⟨hd, hdN, hop, _, hg⟩ := cOper_inv hv0
  have hlt : i < listed.size := by rw [I.lsize]; exact (List.getElem?_eq_some_iff.1 hv).1
  have next : ∀ (u : Value) (w' : World) (G' : Gh), Rep1 G' r u → G.le G' → RepW (w0.add XB) G' st w' → Kc (a.put o.dst u) w' := fun u w' G' hru hle hw' => by
    refine hk G' _ w' ⟨hw', by cases o.dst <;> simp [Act.put, I.size], by cases o.dst <;> exact I.defers, I.split, by simp [I.lsize], fun j hj => ?_, fun j oj hoj hj e he hb => ?_, fun s hs => ?_, fun s hs => ?_, I.untouched, fun j hj hnj u hu => ?_, I.ok, I.rest, I.before, fun j b he => ?_, I.einj⟩ hle
    rotate_right
    · obtain ⟨k1, k2, k3, v', us, t, k4, k5, k6, k7, k8, k9⟩ := I.early j b he
      refine ⟨k1, k2.set, k3, v', us, t, k4, k5, k6, k7, k8.mono hle, fun d hdd => ?_⟩
      rw [← k9 d hdd]
      cases hod : o.dst with
      | none => rfl
      | some d' =>
        rw [getD_put, if_neg]
        rintro ⟨e, _⟩
        subst e
        exact D.one i j d (fun e => by subst e; exact I.disj D hi k1) (by rw [dst_of hv, hd, hod]) (by rw [dst_of k4]; exact hdd)
    · by_cases e : i = j
      · subst e; exact .inl hi
      · exact I.donePre j (hj.set_ne e)
    · by_cases e' : i = j
      · subst e'
        rw [ho] at hoj; cases hoj
        exact (hall e he hb).set
      · exact (I.closed j oj hoj (hj.set_ne e') e he hb).set
    · cases hdd : o.dst with
      | none =>
        refine (I.slotDone s fun k hk' => ?_).mono hle
        have hne : i ≠ k := fun e => by subst e; rw [dst_of hv, hd, hdd] at hk'; cases hk'
        exact ⟨(hs k hk').1.set_ne hne, (hs k hk').2⟩
      | some d =>
        rw [getD_put, I.size]
        by_cases e : s = d
        · subst e
          rw [if_pos ⟨rfl, by rw [hdd] at hdN; simpa using hdN⟩, hval s (by rw [hd, hdd])]
          exact hru
        · rw [if_neg (fun h => e h.1)]
          refine (I.slotDone s fun k hk' => ?_).mono hle
          have hne : i ≠ k := fun e' => by
            subst e'; rw [dst_of hv, hd, hdd] at hk'; injection hk' with h; exact e h.symm
          exact ⟨(hs k hk').1.set_ne hne, (hs k hk').2⟩
    · cases hdd : o.dst with
      | none => exact (I.slotNot s fun k hk' hdk => hs k hk' hdk.set).mono hle
      | some d =>
        rw [getD_put]
        rw [if_neg]
        · exact (I.slotNot s fun k hk' hdk => hs k hk' hdk.set).mono hle
        · rintro ⟨e, _⟩
          subst e
          exact hs i (by rw [dst_of hv, hd, hdd]) (Done.set_same hlt)
    · exact I.pend j hj (fun h => hnj h.set) u hu
  unfold wpOp
  rw [ho]
  simp only
  rcases hout.cases with ⟨h1, h2, h3⟩ | ⟨h1, s, want, hvg, h3⟩
  · have hwant : Region.wanted o (yielded ops a.tmps) = true := by
      rcases hg with ⟨hg, _⟩ | ⟨j, want, s, hg, hs, hvg⟩
      · simp [Region.wanted, hg]
      · rcases h3 with h3 | ⟨s', want', h3, h4⟩
        · rw [hvg] at h3; cases h3
        · rw [hvg] at h3; cases h3
          have hrs := hrel s (by simp [VO.looks, gslot, hvg])
          rw [h4] at hrs
          rw [wanted_true hg hs hrs.sc_inv]; simp
    rw [if_pos hwant]
    obtain ⟨u, w', G', k1, k2, k3, k4⟩ := pop_sound hop hp I.w (hrel.mono fun t ht => by simp [VO.looks, ht]) h1
    exact .inl (wp_value k1 (next u w' G' (by rw [h2]; exact k2) k3 k4))
  · have hwant : Region.wanted o (yielded ops a.tmps) = false := by
      rcases hg with ⟨_, hvg'⟩ | ⟨j, want', s', hg, hs, hvg'⟩
      · rw [hvg'] at hvg; cases hvg
      · rw [hvg'] at hvg; cases hvg
        have hrs := hrel s (by simp [VO.looks, gslot, hvg'])
        rcases h3 with h3 | ⟨c, h3, h4⟩
        · rw [h3] at hrs
          exact wanted_und hg hs hrs.und_inv
        · rw [h3] at hrs
          rw [wanted_true hg hs hrs.sc_inv]; simpa using h4
    rw [if_neg (by rw [hwant]; simp)]
    exact next undef w G (by rw [h1]; exact .und) (.refl G) I.w
theorem takeV_not_und {cs : List V} {o : Nat} {n : Option Nat} (h : (takeV cs o n).1) : (takeV cs o n).2 ≠ .und := by
  cases n with
  | some n => simp [takeV]
  | none =>
    simp only [takeV] at h ⊢
    split at h
    · intro e; simp only at h e; rw [e] at h; simp [V.cells] at h
    · exact h.elim
theorem vload_not_und {st : St} {n : Option Nat} {x : V} (h : (vload st n x).1) : (vload st n x).2 ≠ .und := by
  unfold vload at h ⊢
  split at h
  · exact takeV_not_und h
  · split at h
    · obtain ⟨_, h, e⟩ := takeB_spec h
      rw [e]
      exact takeV_not_und h
    · exact h.elim
  · exact h.elim
theorem obsOk_get {st' : St} {A : Nat → V} : ∀ {l : List (Option Nat × X × Nat)} (_ : obsOk st' A l) {n : Option Nat} {x : X} {d : Nat}, (n, x, d) ∈ l → A d = .und ∨ ((vload st' n (x.ev A)).1 ∧ (vload st' n (x.ev A)).2 = A d)
  | [], _, n, x, d, hm => by cases hm
  | p :: l, h, n, x, d, hm => by
    simp only [obsOk] at h
    rcases List.mem_cons.1 hm with e | hm
    · subst e
      have h1 := h.1
      simp only at h1
      split at h1
      · rename_i e; exact .inl e
      · exact .inr h1
    · exact obsOk_get h.2 hm
/-- An operation that turns something comes up: it is the next one in the one order. -/
theorem Inv.acts (D : Draw P N ops cs ord) {i : Nat} (I : Inv P w0 N ops cs ord K A0 ex XB G A st a w listed pre (i :: rem)) {o : Oper} (ho : ops[i]? = some o) {v : VO} (hv : cs[i]? = some v) (hp : v.op.isPop = false) (hxx : v.op.isAlcX = false) (hall : ∀ e ∈ o.after, Region.binds .any e = true → Done listed e.on)
    {Kc : Act → World → Prop} {Q' : Exit → Act → World → Prop} (hk : ∀ G' A' st' a' w', Inv P w0 N ops cs ord K A0 ex XB G' A' st' a' w' (listed.setIfInBounds i true) (pre ++ [i]) rem → G.le G' → Kc a' w') : wpOp P ops Q' i Kc a w := by
  obtain ⟨v', hv', hb, _, hload, hok⟩ := okFrom_cons I.ok
  rw [hv] at hv'; cases hv'
  have hnd : ¬ Done listed i := fun h => I.disj D (I.preOf h hv hxx) (by simp)
  have hlt : i < listed.size := by rw [I.lsize]; exact (List.getElem?_eq_some_iff.1 hv).1
  have hnext := I.next D hv
  have hrel : RelOn v.looks G A a := fun t ht => by rw [hnext t ht]; exact I.relOn D ho hv hnd hall hb t ht
  obtain ⟨v0, hv0, his⟩ := D.get i o v ho hv
  obtain rfl := his.x hxx
  obtain ⟨hd, hdN, hop, _, hg⟩ := cOper_inv hv0
  have hrest := I.rest
  rw [withObs_cons hv] at hrest
  simp only [vops] at hrest
  have hnb : ∀ j ∈ pre, bf ops j i = false := fun j hj => by
    cases h : bf ops j i with
    | false => rfl
    | true =>
      obtain ⟨l1, l2, e1, e2⟩ := I.before j i hj h (List.getElem?_eq_some_iff.1 hv).1
      exact (I.disj D (i := i) (by rw [e1]; exact List.mem_append_left _ e2) (by simp)).elim
  have next : ∀ (r : V) (u : Value) (st' : St) (w' : World) (G' : Gh), vops P K (withObs ops cs (pre ++ [i]) rem) (putV A v.dst r) st' → (st' = st ∨ obsOk st' A (obsFor ops cs pre i)) → Rep1 G' r u → G.le G' → RepW (w0.add XB) G' st' w' → Kc (a.put o.dst u) w' := fun r u st' w' G' hvops hobs hru hle hw' => by
    refine hk G' (putV A v.dst r) st' _ w' ⟨hw', by cases o.dst <;> simp [Act.put, I.size], by cases o.dst <;> exact I.defers, by rw [List.append_assoc]; exact I.split, by simp [I.lsize], fun j hj => ?_, fun j oj hoj hj e he hb => ?_, fun s hs => ?_, fun s hs => ?_, fun s hs => ?_, fun j hj hnj y hy => ?_, hok, hvops, before_snoc I hb, fun j b he => ?_, I.einj⟩ hle
    rotate_right
    · obtain ⟨k1, k2, k3, v', us, t, k4, k5, k6, k7, k8, k9⟩ := I.early j b he
      have hji : i ≠ j := fun e => by subst e; rw [hv] at k4; cases k4; rw [k5] at hxx; cases hxx
      have hbi : bf ops j i = false := by
        cases h : bf ops j i with
        | false => rfl
        | true => exact (I.disj D (I.earlyDeps D he i (List.getElem?_eq_some_iff.1 hv).1 h) (by simp)).elim
      refine ⟨?_, k2.set, k3, v', us, t, k4, k5, k6, k7, by rw [rho_put D hv hbi]; exact k8.mono hle, fun d hdd => ?_⟩
      · rcases List.mem_cons.1 k1 with e | e
        · exact absurd e.symm hji
        · exact e
      rw [← k9 d hdd]
      cases hod : o.dst with
      | none => rfl
      | some d' =>
        rw [getD_put, if_neg]
        rintro ⟨e, _⟩
        subst e
        exact D.one i j d hji (by rw [dst_of hv, hd, hod]) (by rw [dst_of k4]; exact hdd)
    · by_cases e : i = j
      · subst e; simp
      · exact (I.donePre j (hj.set_ne e)).imp_left (List.mem_append_left _)
    · by_cases e' : i = j
      · subst e'
        rw [ho] at hoj; cases hoj
        exact (hall e he hb).set
      · exact (I.closed j oj hoj (hj.set_ne e') e he hb).set
    · rw [hd]
      cases hdd : o.dst with
      | none =>
        refine (I.slotDone s fun k hk' => ?_).mono hle
        have hne : i ≠ k := fun e => by subst e; rw [dst_of hv, hd, hdd] at hk'; cases hk'
        exact ⟨(hs k hk').1.set_ne hne, (hs k hk').2⟩
      | some d =>
        rw [getD_put, I.size]
        simp only [putV]
        by_cases e : s = d
        · subst e
          rw [if_pos rfl, if_pos ⟨rfl, by rw [hdd] at hdN; simpa using hdN⟩]
          exact hru
        · rw [if_neg e, if_neg (fun h => e h.1)]
          refine (I.slotDone s fun k hk' => ?_).mono hle
          have hne : i ≠ k := fun e' => by
            subst e'; rw [dst_of hv, hd, hdd] at hk'; injection hk' with h; exact e h.symm
          exact ⟨(hs k hk').1.set_ne hne, (hs k hk').2⟩
    · cases hdd : o.dst with
      | none => exact (I.slotNot s fun k hk' hdk => hs k hk' hdk.set).mono hle
      | some d =>
        rw [getD_put]
        rw [if_neg]
        · exact (I.slotNot s fun k hk' hdk => hs k hk' hdk.set).mono hle
        · rintro ⟨e, _⟩
          subst e
          exact hs i (by rw [dst_of hv, hd, hdd]) (Done.set_same hlt)
    · rw [putV_ne]
      · exact I.untouched s fun j hj => hs j (List.mem_append_left _ hj)
      · intro e; exact hs i (by simp) (by rw [dst_of hv]; exact e)
    · rw [List.mem_append] at hj
      rcases hj with hj | hj
      · have hji : j ≠ i := fun e => by subst e; exact I.disj D hj (by simp)
        obtain ⟨h1, r', h2, h3⟩ := I.pend j hj (fun h => hnj h.set) y hy
        refine ⟨h1, r', ?_, fun d hd' => ?_⟩
        · rw [rho_put D hv (hnb j hj)]
          rcases hobs with e | hobs
          · rw [e]; exact h2
          · by_cases hl : y.op.isLoad = true
            · have hbij : bf ops i j = false := by
                cases h : bf ops i j with
                | false => rfl
                | true => exact absurd (I.waits D i o ho hall j (List.getElem?_eq_some_iff.1 hy).1 h) (fun h => hnj h.set)
              obtain ⟨⟨p, hp1⟩, hp2⟩ := hload hp hxx j hj hbij y hy hl
              obtain ⟨n, x, d⟩ := p
              have hyop : y.op = .load n x ∧ y.dst = some d := by
                unfold obsItem at hp1
                split at hp1
                · rename_i n' x' d' e1 e2
                  simp only [Option.some.injEq, Prod.mk.injEq] at hp1
                  obtain ⟨rfl, rfl, rfl⟩ := hp1
                  exact ⟨e1, e2⟩
                · cases hp1
              have hmem : (n, x, d) ∈ obsFor ops cs pre i := by
                simp only [obsFor, hv, hp, hxx, Bool.or_self, Bool.false_eq_true, if_false]
                refine List.mem_filterMap.2 ⟨j, List.mem_filter.2 ⟨hj, by rw [hbij]; rfl⟩, by rw [hy]; exact hp1⟩
              have hev : x.ev (rho ops cs A0 A j) = x.ev A := X.ev_congr fun t ht => by
                unfold rho
                split
                · rfl
                · rename_i hno
                  refine (I.untouched t fun k _ hk => ?_).symm
                  exact hno ⟨k, hk, hp2 t (by rw [hyop.1]; exact ht) k hk (dst_lt hk)⟩
              have hAd := h3 d hyop.2
              rcases h2.cases with ⟨k1, k2, k3⟩ | ⟨k1, s, want, k2, k3⟩
              · have hpop : ∀ st, pop st (rho ops cs A0 A j) y.op = vload st n (x.ev A) := fun st => by rw [hyop.1]; simp only [pop]; rw [hev]
                rw [hpop] at k1 k2
                rcases obsOk_get hobs hmem with h | ⟨o1, o2⟩
                · exfalso
                  rw [hAd] at h
                  rw [h] at k2
                  exact vload_not_und k1 k2.symm
                · rw [hAd] at o2
                  rcases k3 with k3 | ⟨s, want, k3, k4⟩
                  · rw [← o2, ← hpop]; exact .run k3 (by rw [hpop]; exact o1)
                  · rw [← o2, ← hpop]; exact .wants k3 k4 (by rw [hpop]; exact o1)
              · rw [k1]
                rcases k3 with k3 | ⟨c, k3, k4⟩
                · exact .und k2 k3
                · exact .passes k2 k3 k4
            · have hpop : pop st (rho ops cs A0 A j) y.op = pop st' (rho ops cs A0 A j) y.op := pop_st (by simpa using hl)
              rcases h2.cases with ⟨k1, k2, k3⟩ | ⟨k1, s, want, k2, k3⟩
              · rw [hpop] at k1 k2
                rw [k2]
                rcases k3 with k3 | ⟨s, want, k3, k4⟩
                · exact .run k3 k1
                · exact .wants k3 k4 k1
              · rw [k1]
                rcases k3 with k3 | ⟨c, k3, k4⟩
                · exact .und k2 k3
                · exact .passes k2 k3 k4
        · rw [putV_ne]
          · exact h3 d hd'
          · intro e
            exact D.one j i d hji (by rw [dst_of hy]; exact hd') (by rw [dst_of hv]; exact e)
      · simp at hj; subst hj
        exact absurd (Done.set_same hlt) hnj
  unfold wpOp
  rw [ho]
  simp only
  have run : vop P v.op st A (fun r st' => obsOk st' A (obsFor ops cs pre i) ∧ vops P K (withObs ops cs (pre ++ [i]) rem) (putV A v.dst r) st') → o.wp P a w Kc Q' := fun h =>
    vop_sound hop I.w (hrel.mono fun t ht => by simp [VO.looks, ht]) h fun r u st' w' G' hkk hru hle hw' => next r u st' w' G' hkk.2 (.inr hkk.1) hru hle hw'
  rcases hg with ⟨hg, hvg⟩ | ⟨j, want, s, hg, hs, hvg⟩
  · rw [hvg] at hrest
    rw [if_pos (by simp [Region.wanted, hg])]
    exact .inl (run hrest)
  · rw [hvg] at hrest
    simp only [vguard] at hrest
    have hrs := hrel s (by simp [VO.looks, gslot, hvg])
    split at hrest
    · rename_i b hb'
      rw [hb'] at hrs
      have hw1 := wanted_true hg hs hrs.sc_inv
      by_cases hbw : b = want
      · rw [if_pos (by rw [hw1]; simpa using hbw)]
        exact .inl (run (hrest.1 hbw))
      · rw [if_neg (by rw [hw1]; simpa using hbw)]
        exact next .und undef st w G (hrest.2 hbw) (.inl rfl) .und (.refl G) I.w
    · rename_i hb'
      rw [hb'] at hrs
      rw [if_neg (by rw [wanted_und hg hs hrs.und_inv]; simp)]
      exact next .und undef st w G hrest (.inl rfl) .und (.refl G) I.w
    · exact hrest.elim

theorem Outc.fresh {v : VO} {st : St} {ρ : Nat → V} {r : V} (h : Outc v st ρ r) {b : Nat} {z : List V} (hb : st.box b = none) : Outc v (st.put b z) ρ r := by
  rcases h.cases with ⟨k1, k2, k3⟩ | ⟨k1, s, want, k2, k3⟩
  · have e := pop_fresh (z := z) hb k1
    rw [k2, ← e]
    rw [← e] at k1
    rcases k3 with k3 | ⟨s, want, k3, k4⟩
    · exact .run k3 k1
    · exact .wants k3 k4 k1
  · rw [k1]
    rcases k3 with k3 | ⟨c, k3, k4⟩
    · exact .und k2 k3
    · exact .passes k2 k3 k4
/-- An allocation comes up ahead of its place. -/
theorem Inv.ahead (D : Draw P N ops cs ord) {i : Nat} (I : Inv P w0 N ops cs ord K A0 ex XB G A st a w listed pre rem) {o : Oper} (ho : ops[i]? = some o) {v : VO} (hv : cs[i]? = some v) (hxx : v.op.isAlcX = true) (hir : i ∈ rem) (hnd : ¬ Done listed i) (hall : ∀ e ∈ o.after, Region.binds .any e = true → Done listed e.on)
    {Kc : Act → World → Prop} {Q' : Exit → Act → World → Prop} (hk : ∀ ex' X' a' w', Inv P w0 N ops cs ord K A0 ex' X' G A st a' w' (listed.setIfInBounds i true) pre rem → Kc a' w') : wpOp P ops Q' i Kc a w := by
  obtain ⟨v0, hv0, his⟩ := D.get i o v ho hv
  obtain ⟨hd, hdN, hop, _, hg⟩ := cOper_inv hv0
  have hrelx := I.relOn D ho hv hnd hall (I.depsPre D ho hall (by rw [isX_of hv, hxx]))
  obtain ⟨us, t, hg0, hvg0, hvd, hrun, hea⟩ : ∃ us t, v0.g = none ∧ v.g = none ∧ v.dst = v0.dst ∧ (execOp a.eval o).run P w = .ok (.value (.pointer (some ⟨w.heap.size, 0, none⟩))) (w.alloc (.cells us t)) ∧ Early G (rho ops cs A0 A i) us v.op := by
    rcases his with ⟨rfl, h⟩ | ⟨z, hz, hg0, rfl⟩ | ⟨x, hz, hg0, rfl⟩
    · rw [hxx] at h; cases h
    · rw [hz] at hop
      obtain ⟨t, hot, hzz⟩ := cOp_alc hop
      obtain ⟨vz, hvz, hrl, _⟩ := zero_sound (G := G) hzz w
      refine ⟨vz.cells, t, hg0, hg0, rfl, ?_, hrl⟩
      unfold execOp
      simp only [hot]
      exact run_v (by simp [Instr.alloc, hvz, newVar, newRow])
    · rw [hz] at hop
      obtain ⟨t, y, hot, hxy⟩ := cOp_box hop
      refine ⟨(a.eval y).cells, t, hg0, hg0, rfl, ?_, a.eval y, cx_rep hxy hrelx (fun t ht => by simp [VO.looks, VOp.reads, ht]), rfl⟩
      unfold execOp
      simp only [hot]
      exact run_v (by simp [Instr.box, newVar, newRow])
  have hgn : o.guard = none := by
    rcases hg with ⟨hg, _⟩ | ⟨j, want, s, _, _, hvg⟩
    · exact hg
    · rw [hg0] at hvg; cases hvg
  have hlt : i < listed.size := by rw [I.lsize]; exact (List.getElem?_eq_some_iff.1 hv).1
  unfold wpOp
  rw [ho]
  simp only
  rw [if_pos (by simp [Region.wanted, hgn])]
  refine .inl (wp_value hrun ?_)
  have hex : ex i = none := by
    cases he : ex i with
    | none => rfl
    | some b => exact absurd (I.early i b he).2.1 hnd
  have hX : ∀ j b, ex j = some b → b ≠ w.heap.size := fun j b he e => by
    obtain ⟨_, _, k3, _, us', t', _, _, _, k7, _⟩ := I.early j b he
    have := I.w.frLt (show (w0.add XB).x b = some (.cells us' t' (0, 0)) by simp only [Fr.add, k3.2]; exact k7)
    omega
  refine hk (fun j => if j = i then some w.heap.size else ex j) (setX XB w.heap.size (some (.cells us t))) _ _ ⟨I.w.aside _, by cases o.dst <;> simp [Act.put, I.size], by cases o.dst <;> exact I.defers, I.split, by simp [I.lsize], fun j hj => ?_, fun j oj hoj hj e he hb => ?_, fun s hs => ?_, fun s hs => ?_, I.untouched, fun j hj hnj u hu => I.pend j hj (fun h => hnj h.set) u hu, I.ok, I.rest, I.before, fun j b he => ?_, fun j k b hj hk' => ?_⟩
  · by_cases e : j = i
    · exact .inr ⟨w.heap.size, by rw [if_pos e]⟩
    · rcases I.donePre j (hj.set_ne (fun e' => e e'.symm)) with h | ⟨b, h⟩
      · exact .inl h
      · exact .inr ⟨b, by simp only [if_neg e]; exact h⟩
  · by_cases e' : i = j
    · subst e'
      rw [ho] at hoj; cases hoj
      exact (hall e he hb).set
    · exact (I.closed j oj hoj (hj.set_ne e') e he hb).set
  · have hni : dstAt cs i ≠ some s := fun e => by
      have := (hs i e).2
      simp only [if_true] at this
      cases this
    have h0 := I.slotDone s fun k hk' => by
      have hne : k ≠ i := fun e => by subst e; exact hni hk'
      obtain ⟨h1, h2⟩ := hs k hk'
      simp only [if_neg hne] at h2
      exact ⟨h1.set_ne (fun e => hne e.symm), h2⟩
    cases hod : o.dst with
    | none => exact h0
    | some d =>
      rw [getD_put, if_neg]
      · exact h0
      · rintro ⟨e, _⟩
        subst e
        exact hni (by rw [dst_of hv, hvd]; exact hd.trans hod)
  · have h0 := I.slotNot s fun k hk' hdk => hs k hk' hdk.set
    cases hod : o.dst with
    | none => exact h0
    | some d =>
      rw [getD_put, if_neg]
      · exact h0
      · rintro ⟨e, _⟩
        subst e
        exact hs i (by rw [dst_of hv, hvd]; exact hd.trans hod) (Done.set_same hlt)
  · split at he
    · rename_i e
      subst e
      injection he with he; subst he
      refine ⟨hir, Done.set_same hlt, (Fr.free_add I.w.newFree).1, _, us, t, hv, hxx, hvg0, by simp [setX], hea, fun d hdd => ?_⟩
      have hod : o.dst = some d := hd.symm.trans (hvd.symm.trans hdd)
      rw [hod, getD_put, if_pos ⟨rfl, by rw [I.size]; rw [hod] at hdN; simpa using hdN⟩]
    · rename_i e
      obtain ⟨k1, k2, k3, v', us', t', k4, k5, k6, k7, k8, k9⟩ := I.early j b he
      refine ⟨k1, k2.set, k3, v', us', t', k4, k5, k6, by simp only [setX, if_neg (hX j b he)]; exact k7, k8, fun d hdd => ?_⟩
      rw [← k9 d hdd]
      cases hod : o.dst with
      | none => rfl
      | some d' =>
        rw [getD_put, if_neg]
        rintro ⟨e', _⟩
        subst e'
        exact D.one i j d (fun e' => e e'.symm) (by rw [dst_of hv, hvd]; exact hd.trans hod) (by rw [dst_of k4]; exact hdd)
  · split at hj <;> split at hk'
    · rename_i e1 e2; rw [e1, e2]
    · injection hj with hj
      exact absurd hj.symm (hX k b hk')
    · injection hk' with hk'
      exact absurd hk'.symm (hX j b hj)
    · exact I.einj j k b hj hk'
/-- An allocation that came up early is walked. -/
theorem Inv.claim (D : Draw P N ops cs ord) {j : Nat} (I : Inv P w0 N ops cs ord K A0 ex XB G A st a w listed pre (j :: rem)) {b : Nat} (he : ex j = some b) :
    ∃ ex' X' A' st', Inv P w0 N ops cs ord K A0 ex' X' G A' st' a w listed (pre ++ [j]) rem := by
  obtain ⟨k1, k2, k3, v, us, t, hv, hop, hg, hX, hea, hslot⟩ := I.early j b he
  obtain ⟨v', hv', hb, _, _, hok⟩ := okFrom_cons I.ok
  rw [hv] at hv'; cases hv'
  have hrest := I.rest
  rw [withObs_cons hv] at hrest
  have hobs : obsFor ops cs pre j = [] := by simp [obsFor, hv, hop]
  rw [hobs] at hrest
  simp only [vops, hg, vguard] at hrest
  have hnext := I.next D hv
  obtain ⟨z, hrl, hz⟩ : ∃ z, RepL G z us ∧ ∀ {K' : V → St → Prop}, vop P v.op st A K' → ∀ b, st.box b = none → st.own b = none → K' (ptrV b) (st.put b z) := by
    cases hvop : v.op <;> rw [hvop] at hop hea <;> first | (simp [VOp.isAlcX] at hop; done) | skip
    · exact ⟨_, hea, fun h => h⟩
    · rename_i x
      obtain ⟨u, hu, rfl⟩ := hea
      have hev : x.ev (rho ops cs A0 A j) = x.ev A := X.ev_congr fun t ht => (hnext t (by simp [VO.looks, hvop, VOp.reads, ht])).symm
      rw [hev] at hu
      rw [hvop] at hrest
      exact ⟨(x.ev A).cells, hu.cells hrest.1, fun h => h.2⟩
  obtain ⟨hw, hbx, hbo⟩ := I.w.claim hX k3 hrl
  obtain ⟨_, hrest'⟩ := hz hrest b hbx hbo
  have hnb : ∀ i ∈ pre, bf ops i j = false := fun i hi => by
    cases h : bf ops i j with
    | false => rfl
    | true =>
      obtain ⟨l1, l2, e1, e2⟩ := I.before i j hi h (List.getElem?_eq_some_iff.1 hv).1
      exact (I.disj D (i := j) (by rw [e1]; exact List.mem_append_left _ e2) (by simp)).elim
  refine ⟨fun i => if i = j then none else ex i, setX XB b none, putV A v.dst (ptrV b), st.put b z, hw, I.size, I.defers, by rw [List.append_assoc]; exact I.split, I.lsize, fun i h => ?_, I.closed, fun s hs => ?_, I.slotNot, fun s hs => ?_, fun i hi hni u hu => ?_, hok, hrest', before_snoc I hb, fun i c hc => ?_, fun i k c hi hk => ?_⟩
  · by_cases e : i = j
    · subst e; exact .inl (by simp)
    · rcases I.donePre i h with h | ⟨c, h⟩
      · exact .inl (List.mem_append_left _ h)
      · exact .inr ⟨c, by simp only [if_neg e]; exact h⟩
  · by_cases e : v.dst = some s
    · rw [e, putV_eq, hslot s e]; exact .sc _ rfl
    · rw [putV_ne e]
      refine I.slotDone s fun k hk => ?_
      have hne : k ≠ j := fun e' => by subst e'; rw [dst_of hv] at hk; exact e hk
      obtain ⟨h1, h2⟩ := hs k hk
      simp only [if_neg hne] at h2
      exact ⟨h1, h2⟩
  · rw [putV_ne]
    · exact I.untouched s fun i hi => hs i (List.mem_append_left _ hi)
    · intro e; exact hs j (by simp) (by rw [dst_of hv]; exact e)
  · rw [List.mem_append] at hi
    rcases hi with hi | hi
    · obtain ⟨h1, r', h2, h3⟩ := I.pend i hi hni u hu
      refine ⟨h1, r', by rw [rho_put D hv (hnb i hi)]; exact h2.fresh hbx, fun d hd => ?_⟩
      rw [putV_ne]
      · exact h3 d hd
      · intro e
        exact D.one i j d (fun e => by subst e; exact I.disj D hi (by simp)) (by rw [dst_of hu]; exact hd) (by rw [dst_of hv]; exact e)
    · simp at hi; subst hi
      exact absurd k2 hni
  · split at hc
    · cases hc
    · rename_i e
      obtain ⟨q1, q2, q3, v', us', t', q4, q5, q6, q7, q8, q9⟩ := I.early i c hc
      refine ⟨?_, q2, q3, v', us', t', q4, q5, q6, ?_, by rw [rho_put D hv (D.xx i j (by rw [isX_of q4, q5]) (by rw [isX_of hv, hop]))]; exact q8, q9⟩
      · rcases List.mem_cons.1 q1 with e' | e'
        · exact absurd e' e
        · exact e'
      · simp only [setX]
        rw [if_neg (fun e' => e (I.einj i j b (by rw [← e']; exact hc) he))]
        exact q7
  · split at hi
    · cases hi
    · split at hk
      · cases hk
      · exact I.einj i k c hi hk

/-- All that can be walked ahead of an operation that may come up is. -/
theorem Inv.advanceTo (D : Draw P N ops cs ord) : ∀ (q1 q2 : List Nat) {ex : Nat → Option Nat} {XB : Nat → Option Obj} {A : Nat → V} {st : St} {pre : List Nat}, Inv P w0 N ops cs ord K A0 ex XB G A st a w listed pre (q1 ++ q2) → (∀ j ∈ q1, ∀ v, cs[j]? = some v → v.op.isPop = true ∨ Done listed j) →
    ∃ ex' X' A' st', Inv P w0 N ops cs ord K A0 ex' X' G A' st' a w listed (pre ++ q1) q2
  | [], q2, ex, XB, A, st, pre, I, _ => ⟨ex, XB, A, st, by simpa using I⟩
  | j :: q1, q2, ex, XB, A, st, pre, I, h => by
    obtain ⟨v, hv, _⟩ := okFrom_cons I.ok
    have step : ∃ ex' X' A' st', Inv P w0 N ops cs ord K A0 ex' X' G A' st' a w listed (pre ++ [j]) (q1 ++ q2) := by
      rcases h j (by simp) v hv with hp | hd
      · obtain ⟨A', I'⟩ := I.advance D hv hp
        exact ⟨ex, XB, A', st, I'⟩
      · rcases I.donePre j hd with hpre | ⟨b, hb⟩
        · exact (I.disj D hpre (by simp)).elim
        · exact I.claim D hb
    obtain ⟨ex', X', A', st', I'⟩ := step
    obtain ⟨ex2, X2, A2, st2, I2⟩ := Inv.advanceTo D q1 q2 I' (fun k hk => h k (by simp [hk]))
    exact ⟨ex2, X2, A2, st2, by simpa using I2⟩
theorem okFrom_ae : ∀ (q1 : List Nat) (i : Nat) (q2 pre : List Nat), okFrom ops cs pre (q1 ++ i :: q2) = true → ∀ j ∈ q1, ∀ v, cs[j]? = some v → v.op.isPop = false → bf ops i j = true ∨ isX cs i = true
  | [], _, _, _, _, j, hj, _, _, _ => by cases hj
  | k :: q1, i, q2, pre, h, j, hj, v, hv, hp => by
    obtain ⟨v', hv', _, h2, _, h4⟩ := okFrom_cons h
    rcases List.mem_cons.1 hj with e | hj
    · subst e
      rw [hv] at hv'; cases hv'
      exact h2 hp i (by simp)
    · exact okFrom_ae q1 i q2 _ h4 j hj v hv hp
theorem any_sound (D : Draw P N ops cs ord) {Q' : Exit → Act → World → Prop} {G0 : Gh} (hk : ∀ A' a' st' w' G', K A' st' → G0.le G' → RelAll N G' A' a' → RepW w0 G' st' w' → Q' .normal a' w') :
    ∀ (fuel : Nat) {ex : Nat → Option Nat} {XB : Nat → Option Obj} {G : Gh} {A : Nat → V} {st : St} {a : Act} {w : World} {listed : Array Bool} {pre rem : List Nat}, G0.le G → Inv P w0 N ops cs ord K A0 ex XB G A st a w listed pre rem → fuel + (listed.toList.filter id).length = cs.length → wpAny P .any ops Q' fuel listed a w := by
  have fin : ∀ {ex : Nat → Option Nat} {XB : Nat → Option Obj} {G : Gh} {A : Nat → V} {st : St} {a : Act} {w : World} {listed : Array Bool} {pre rem : List Nat}, G0.le G → Inv P w0 N ops cs ord K A0 ex XB G A st a w listed pre rem → (∀ i, i < cs.length → Done listed i) → Q' .normal a w := fun {ex XB G A st a w listed pre rem} hle I hall => by
    obtain ⟨ex', X', A', st', I'⟩ := Inv.advanceTo D rem [] (by simpa using I) (fun j _ v hv => .inr (hall j (List.getElem?_eq_some_iff.1 hv).1))
    exact hk A' a st' w G I'.rest hle ⟨I'.size, I'.defers, fun t => I'.slotDone t fun i hi => ⟨hall i (dst_lt hi), I'.exPre D (by
      have h := D.mem i (dst_lt hi)
      rw [← I'.split] at h
      simpa using h)⟩⟩ I'.w.unframe
  have noReady : ∀ {ex : Nat → Option Nat} {XB : Nat → Option Obj} {G : Gh} {A : Nat → V} {st : St} {a : Act} {w : World} {listed : Array Bool} {pre rem : List Nat}, Inv P w0 N ops cs ord K A0 ex XB G A st a w listed pre rem → Region.ready .any ops listed = [] → ∀ i, i < cs.length → Done listed i := fun {ex XB G A st a w listed pre rem} I h i => by
    induction i using Nat.strongRecOn with
    | _ i ih =>
      intro hi
      have ho : ops[i]? = some (ops[i]'(by rw [← D.len]; exact hi)) := Array.getElem?_eq_getElem _
      cases hd : listed.getD i false with
      | true => exact hd
      | false =>
        exfalso
        have : i ∈ Region.ready .any ops listed := mem_ready.2 ⟨by
          have hlt : i < listed.size := by rw [I.lsize]; exact hi
          simp [hlt] at hd ⊢; exact hd, _, ho, fun e he hb => ih e.on (D.back i _ ho e he hb) (Nat.lt_trans (D.back i _ ho e he hb) hi)⟩
        rw [h] at this; cases this
  have count : ∀ {listed : Array Bool} {i : Nat}, i < listed.size → ¬ Done listed i → ((listed.setIfInBounds i true).toList.filter id).length = (listed.toList.filter id).length + 1 := fun {listed i} hi hd => by
    have hl : listed.toList[i]? = some false := by
      unfold Done at hd
      simp [hi] at hd
      simp [hi, hd]
    rw [Array.toList_setIfInBounds]
    generalize listed.toList = l at hl
    clear hd hi
    induction l generalizing i with
    | nil => simp at hl
    | cons x l ih =>
      cases i with
      | zero => simp at hl; subst hl; simp
      | succ i =>
        have := ih (i := i) (by simpa using hl)
        cases x <;> simp [List.set_cons_succ, this]
  have step : ∀ {ex : Nat → Option Nat} {XB : Nat → Option Obj} {G : Gh} {A : Nat → V} {st : St} {a : Act} {w : World} {listed : Array Bool} {pre rem : List Nat} (fuel : Nat), G0.le G → Inv P w0 N ops cs ord K A0 ex XB G A st a w listed pre rem → fuel + 1 + (listed.toList.filter id).length = cs.length →
      (∀ {ex : Nat → Option Nat} {XB : Nat → Option Obj} {G : Gh} {A : Nat → V} {st : St} {a : Act} {w : World} {listed : Array Bool} {pre rem : List Nat}, G0.le G → Inv P w0 N ops cs ord K A0 ex XB G A st a w listed pre rem → fuel + (listed.toList.filter id).length = cs.length → wpAny P .any ops Q' fuel listed a w) →
      ∀ i ∈ Region.ready .any ops listed, wpOp P ops Q' i (wpAny P .any ops Q' fuel (listed.setIfInBounds i true)) a w := fun {ex XB G A st a w listed pre rem} fuel hle I hf ih i hi => by
    obtain ⟨hun, o, ho, hall⟩ := mem_ready.1 hi
    have hlt : i < cs.length := by rw [D.len]; exact (Array.getElem?_eq_some_iff.1 ho).1
    have hls : i < listed.size := by rw [I.lsize]; exact hlt
    have hnd : ¬ Done listed i := by unfold Done; simp [hls] at hun ⊢; exact hun
    have hv : cs[i]? = some cs[i] := List.getElem?_eq_getElem hlt
    have hc := count hls hnd
    by_cases hip : i ∈ pre
    · exact I.carry D ho hv hnd hip hall fun G' a' w' I' hle' => ih (hle.trans hle') I' (by rw [hc]; omega)
    · have hir : i ∈ rem := by
        have := D.mem i hlt
        rw [← I.split, List.mem_append] at this
        exact this.resolve_left hip
      cases hx : cs[i].op.isAlcX with
      | true => exact I.ahead D ho hv hx hir hnd hall fun ex' X' a' w' I' => ih hle I' (by rw [hc]; omega)
      | false =>
      obtain ⟨q1, q2, rfl⟩ := List.append_of_mem hir
      obtain ⟨ex', X', A', st', I'⟩ := Inv.advanceTo D q1 (i :: q2) I (fun j hj v hv' => by
        cases hp : v.op.isPop with
        | true => exact .inl rfl
        | false =>
          refine .inr ?_
          rcases okFrom_ae q1 i q2 pre I.ok j hj v hv' hp with h | h
          · exact I.waits D i o ho hall j (List.getElem?_eq_some_iff.1 hv').1 h
          · simp only [isX, hv] at h
            rw [hx] at h; cases h)
      cases hp : cs[i].op.isPop with
      | false => exact I'.acts D ho hv hp hx hall fun G' A2 st' a' w' I2 hle' => ih (hle.trans hle') I2 (by rw [hc]; omega)
      | true =>
        obtain ⟨A2, I2⟩ := I'.advance D hv hp
        exact I2.carry D ho hv hnd (by simp) hall fun G' a' w' I3 hle' => ih (hle.trans hle') I3 (by rw [hc]; omega)
  intro fuel
  induction fuel with
  | zero =>
    intro ex XB G A st a w listed pre rem hle I hf
    have hall : ∀ i, i < cs.length → Done listed i := fun i hi => by
      have hl : (listed.toList.filter id).length = listed.toList.length := by
        have h1 : listed.toList.length = cs.length := by rw [Array.length_toList]; exact I.lsize
        omega
      have := List.length_filter_eq_length_iff.1 hl
      have hls : i < listed.size := by rw [I.lsize]; exact hi
      have h2 := this listed[i] (by simp)
      unfold Done
      simpa [hls] using h2
    refine ⟨?_, fin hle I hall⟩
    cases hr : Region.ready .any ops listed with
    | nil => rfl
    | cons i l =>
      have hi : i ∈ Region.ready .any ops listed := by rw [hr]; simp
      obtain ⟨hun, o, ho, _⟩ := mem_ready.1 hi
      have := hall i (by rw [D.len]; exact (Array.getElem?_eq_some_iff.1 ho).1)
      unfold Done at this
      have hls : i < listed.size := by rw [I.lsize, D.len]; exact (Array.getElem?_eq_some_iff.1 ho).1
      simp [hls] at hun this
      rw [this] at hun; cases hun
  | succ fuel ih =>
    intro ex XB G A st a w listed pre rem hle I hf
    exact ⟨fun h => fin hle I (noReady I h), step fuel hle I (by omega) ih⟩
end
/-- A region that draws its order. -/
theorem draw_sound {vs : List VO} (hm : P.follows .mixedOrders = true) (hc : cDraw P N ops = some vs) (id : Nat) {Q' : Exit → Act → World → Prop} {G : Gh} {A : Nat → V} {a : Act} {st : St} {w : World} (hr : RelAll N G A a) (hw : RepW w0 G st w) (h : vops P K vs A st)
    (hk : ∀ A' a' st' w' G', K A' st' → G.le G' → RelAll N G' A' a' → RepW w0 G' st' w' → Q' .normal a' w') : (Code.region id ops true).wp P Q' a w := by
  have key : ∀ (cs : List VO) (ord : List Nat), cs.length = ops.size → (∀ (i : Nat) (o : Oper) (v : VO), ops.toList[i]? = some o → cs[i]? = some v → ∃ v0, cOper P N ops o = some v0 ∧ Is v v0) → okDraw ops cs ord = true → vops P K (withObs ops cs [] ord) A st → (Code.region id ops true).wp P Q' a w := fun cs ord hl hget hok h => by
    obtain ⟨D, hok2⟩ := okDraw_spec hl hget hok
    refine wp_region_any hm ?_
    have hw2 : RepW (w0.add fun _ => none) G st w.drew := by
      have e : w0.add (fun _ => none) = w0 := by
        unfold Fr.add
        congr 1
        funext b
        cases w0.x b <;> rfl
      rw [e]; exact hw.drew
    refine any_sound (A0 := A) D (G0 := G) hk ops.size (A := A) (pre := []) (rem := ord) (ex := fun _ => none) (XB := fun _ => none) (.refl G) ⟨hw2, hr.size, hr.defers, rfl, by simp [D.len], fun i hi => ?_, fun j o ho hd => ?_, fun s hs => hr.rep s, fun s hs => hr.rep s, fun s hs => rfl, fun i hi => (by cases hi), hok2, h, fun i j hi => (by cases hi), fun i b hi => (by cases hi), fun i j b hi => (by cases hi)⟩ ?_
    · unfold Done at hi; rw [Array.getD_eq_getD_getElem?, Array.getElem?_replicate] at hi; split at hi <;> simp at hi
    · unfold Done at hd; rw [Array.getD_eq_getD_getElem?, Array.getElem?_replicate] at hd; split at hd <;> simp at hd
    · simp [D.len]
  unfold cDraw at hc
  split at hc
  · rename_i cs hcs
    obtain ⟨hlen, hget⟩ := mapM_get hcs
    have hl : cs.length = ops.size := by simpa using hlen
    split at hc
    · rename_i hall
      have hnx : ∀ (i : Nat) (v : VO), cs[i]? = some v → v.op.isAlcX = false := fun i v hv => by
        have := List.all_eq_true.1 hall v (List.mem_of_getElem? hv)
        simpa using this
      split at hc
      · rename_i hok
        simp only [Option.some.injEq] at hc
        subst hc
        exact key cs _ hl (fun i o v ho hv => ⟨v, hget i o v ho hv, .inl ⟨rfl, hnx i v hv⟩⟩) hok h
      · have tx : ∀ bx, okDraw ops (cs.map (VO.toX bx)) (canonX ops (cs.map (VO.toX bx)) cs.length []) = true → vops P K (withObs ops (cs.map (VO.toX bx)) [] (canonX ops (cs.map (VO.toX bx)) cs.length [])) A st → (Code.region id ops true).wp P Q' a w := fun bx hok h => by
          refine key (cs.map (VO.toX bx)) _ (by simpa using hl) (fun i o v ho hv => ?_) hok h
          rw [List.getElem?_map] at hv
          obtain ⟨v0, hv0, rfl⟩ := Option.map_eq_some_iff.1 hv
          exact ⟨v0, hget i o v0 ho hv0, toX_is (hnx i v0 hv0)⟩
        split at hc
        · rename_i hok
          simp only [Option.some.injEq] at hc
          subst hc
          exact tx false hok h
        · split at hc
          · rename_i hok
            simp only [Option.some.injEq] at hc
            subst hc
            exact tx true hok h
          · cases hc
    · cases hc
  · cases hc
end
end Go.Proofs.Ytlngegoamfklgaa
