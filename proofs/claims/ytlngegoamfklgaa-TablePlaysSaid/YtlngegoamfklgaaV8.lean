/- Regions in the text's order, code, functions: the abstract wp, and that it is sound. -/
import Derived.Test.YtlngegoamfklgaaV7
import Derived.Deep.LoopGhost
import Derived.Scope
namespace Go.Proofs.Ytlngegoamfklgaa
open Go Go.RowKit

structure VO where
  dst : Option Nat
  op : VOp
  g : Option (Nat × Bool)
  obs : List (Option Nat × X × Nat)

def putV (A : Nat → V) (d : Option Nat) (v : V) : Nat → V :=
  match d with
  | none => A
  | some d => fun t => if t = d then v else A t
/-- Loads that may lie ahead or behind: they must read as they did. -/
def obsOk (st : St) (A : Nat → V) : List (Option Nat × X × Nat) → Prop
  | [] => True
  | (n, x, d) :: rest => (match A d with | .und => True | v => (vload st n (x.ev A)).1 ∧ (vload st n (x.ev A)).2 = v) ∧ obsOk st A rest
def vguard (A : Nat → V) (g : Option (Nat × Bool)) (x y : Prop) : Prop :=
  match g with
  | none => x
  | some (s, want) => match A s with
    | .sc (.bool b) => (b = want → x) ∧ (b ≠ want → y)
    | .und => y
    | _ => False
def vops (P : Program) (K : (Nat → V) → St → Prop) : List VO → (Nat → V) → St → Prop
  | [], A, st => K A st
  | o :: rest, A, st => vguard A o.g (vop P o.op st A fun r st' => obsOk st' A o.obs ∧ vops P K rest (putV A o.dst r) st') (vops P K rest (putV A o.dst .und) st)

inductive VC where
  | skip
  | reg (ops : List VO)
  | seq (a b : VC)
  | cond (c : X) (a b : VC)
  | blk (id : Nat) (c : VC)
  | loop (c : VC)
  | exit (id : Nat)
  | ret
inductive VEx where
  | normal
  | exit (id : Nat)
  | ret
abbrev VQ := VEx → (Nat → V) → St → Prop
def VQ.seq (Q : VQ) (K : (Nat → V) → St → Prop) : VQ
  | .normal, A, st => K A st
  | e, A, st => Q e A st
def VQ.blk (Q : VQ) (id : Nat) : VQ
  | .exit i, A, st => if i = id then Q .normal A st else Q (.exit i) A st
  | e, A, st => Q e A st
def vwp (P : Program) : VC → VQ → (Nat → V) → St → Prop
  | .skip, Q => Q .normal
  | .reg ops, Q => vops P (Q .normal) ops
  | .seq a b, Q => vwp P a (Q.seq (vwp P b Q))
  | .cond c a b, Q => fun A st => match c.ev A with
    | .sc (.bool t) => (t = true → vwp P a Q A st) ∧ (t = false → vwp P b Q A st)
    | _ => False
  | .blk id c, Q => vwp P c (Q.blk id)
  | .loop c, Q => fun A st => ∃ (I : (Nat → V) → St → Prop) (μ : (Nat → V) → St → Nat), I A st ∧ ∀ A st, I A st → vwp P c (Q.seq fun A' st' => I A' st' ∧ μ A' st' < μ A st) A st
  | .exit id, Q => Q (.exit id)
  | .ret, Q => Q .ret

/-! ### The compiler -/
def usedByAppend (ops : Array Oper) (d : Option Nat) : Bool :=
  match d with
  | none => false
  | some d => ops.any fun o => match o.op with
    | .call c => match c.callee, c.args.toList with
      | .builtin .append, [_, .tmp t] => t == d
      | _, _ => false
    | .convert _ _ (.tmp t) => t == d
    | _ => false
/-- Is this the slice of an array variable? -/
def arrSl (P : Program) (ops : Array Oper) (t : Nat) : Bool :=
  ops.any fun o => o.dst == some t && match o.op with
    | .slice ty _ _ _ _ => (match P.underlying ty with | some (.array _ _) => true | _ => false)
    | _ => false
/-- How an operation is compiled that may be in two ways. -/
def way (P : Program) (ops : Array Oper) (o : Oper) : Bool :=
  match o.op with
  | .convert _ _ (.tmp t) => !arrSl P ops t
  | _ => !usedByAppend ops o.dst
def cOper (P : Program) (N : Nat) (ops : Array Oper) (o : Oper) : Option VO :=
  match cOp P (way P ops o) o.op with
  | none => none
  | some vo => if o.dst.all (· < N) then
      match o.guard with
      | none => some ⟨o.dst, vo, none, []⟩
      | some (j, want) => match (ops[j]?).bind (·.dst) with
        | some s => some ⟨o.dst, vo, some (s, want), []⟩
        | none => none
    else none

section
variable {P : Program} {w0 : Fr} {G : Gh} {st : St} {w : World} {A : Nat → V} {a : Act} {N : Nat}

theorem Rep1.und_inv {v : Value} (h : Rep1 G .und v) : v = undef := by cases h; rfl
structure RelAll (N : Nat) (G : Gh) (A : Nat → V) (a : Act) : Prop where
  size : a.tmps.size = N
  defers : a.defers = []
  rep : ∀ t, Rep1 G (A t) (a.tmps.getD t undef)
theorem RelAll.le {H : Gh} (h : RelAll N G A a) (hle : G.le H) : RelAll N H A a := ⟨h.size, h.defers, fun t => (h.rep t).mono hle⟩
theorem RelAll.on (h : RelAll N G A a) (l : List Nat) : RelOn l G A a := fun t _ => h.rep t
theorem getD_put (a : Act) (d : Nat) (u : Value) (t : Nat) : (a.put (some d) u).tmps.getD t undef = if t = d ∧ d < a.tmps.size then u else a.tmps.getD t undef := by
  simp only [Act.put, Array.getD_eq_getD_getElem?, Array.getElem?_setIfInBounds]
  by_cases h : d = t
  · subst h
    by_cases h2 : d < a.tmps.size
    · simp [h2]
    · simp [h2]
  · rw [if_neg h, if_neg (fun e => h e.1.symm)]
theorem RelAll.put (h : RelAll N G A a) {d : Option Nat} (hd : d.all (· < N) = true) {r : V} {u : Value} (hr : Rep1 G r u) : RelAll N G (putV A d r) (a.put d u) := by
  cases d with
  | none => exact h
  | some d =>
    have hd' : d < N := by simpa using hd
    refine ⟨by simp [Act.put, h.size], h.defers, fun t => ?_⟩
    rw [getD_put, h.size]
    simp only [putV]
    by_cases ht : t = d
    · rw [if_pos ht, if_pos ⟨ht, hd'⟩]; exact hr
    · rw [if_neg ht, if_neg (fun e => ht e.1)]; exact h.rep t
theorem cOper_inv {ops : Array Oper} {o : Oper} {v : VO} (h : cOper P N ops o = some v) : v.dst = o.dst ∧ o.dst.all (· < N) = true ∧ cOp P (way P ops o) o.op = some v.op ∧ v.obs = [] ∧
    ((o.guard = none ∧ v.g = none) ∨ ∃ j want s, o.guard = some (j, want) ∧ (ops[j]?).bind (·.dst) = some s ∧ v.g = some (s, want)) := by
  unfold cOper at h
  split at h
  · cases h
  · rename_i vo hvo
    split at h
    · rename_i hd
      split at h
      · rename_i hg
        simp only [Option.some.injEq] at h; subst h
        exact ⟨rfl, hd, hvo, rfl, .inl ⟨hg, rfl⟩⟩
      · rename_i j want hg
        split at h
        · rename_i s hs
          simp only [Option.some.injEq] at h; subst h
          exact ⟨rfl, hd, hvo, rfl, .inr ⟨j, want, s, hg, hs, rfl⟩⟩
        · cases h
    · cases h
/-- Whether an operation is wanted, as its guard's slot says. -/
theorem wanted_true {ops : Array Oper} {o : Oper} {j s : Nat} {want b : Bool} (hg : o.guard = some (j, want)) (hs : (ops[j]?).bind (·.dst) = some s) (hv : a.tmps.getD s undef = .bool b) : Region.wanted o (yielded ops a.tmps) = (b == want) := by
  have h2 : a.tmps[s]? = some (.bool b) := by
    rw [Array.getD_eq_getD_getElem?] at hv
    cases h3 : a.tmps[s]? with
    | none => rw [h3] at hv; simp [undef] at hv
    | some v => rw [h3] at hv; simp at hv; rw [hv]
  simp only [Region.wanted, hg, yielded, hs, Option.bind_some, h2]
  cases b <;> cases want <;> rfl
theorem wanted_und {ops : Array Oper} {o : Oper} {j s : Nat} {want : Bool} (hg : o.guard = some (j, want)) (hs : (ops[j]?).bind (·.dst) = some s) (hv : a.tmps.getD s undef = undef) : Region.wanted o (yielded ops a.tmps) = false := by
  simp only [Region.wanted, hg, yielded, hs, Option.bind_some]
  rw [Array.getD_eq_getD_getElem?] at hv
  cases h3 : a.tmps[s]? with
  | none => cases want <;> rfl
  | some v => rw [h3] at hv; simp at hv; subst hv; cases want <;> rfl
theorem vops_sound {ops : Array Oper} {Q' : Exit → Act → World → Prop} {K : (Nat → V) → St → Prop} : ∀ (l : List Oper) (vs : List VO), l.mapM (cOper P N ops) = some vs → ∀ {G : Gh} {A : Nat → V} {a : Act} {st : St} {w : World}, RelAll N G A a → RepW w0 G st w → vops P K vs A st →
    (∀ A' a' st' w' G', K A' st' → G.le G' → RelAll N G' A' a' → RepW w0 G' st' w' → Q' .normal a' w') → wpList P ops Q' l a w
  | [], vs, hc, G, A, a, st, w, hr, hw, h, hk => by
    simp at hc; subst hc
    exact hk A a st w G h (.refl G) hr hw
  | o :: l, vs, hc, G, A, a, st, w, hr, hw, h, hk => by
    simp only [List.mapM_cons, Option.pure_def, Option.bind_eq_bind, Option.bind_eq_some_iff, Option.some.injEq] at hc
    obtain ⟨v, hv, vs', hvs, rfl⟩ := hc
    obtain ⟨hd, hdN, hop, hobs, hg⟩ := cOper_inv hv
    have run : vop P v.op st A (fun r st' => obsOk st' A v.obs ∧ vops P K vs' (putV A v.dst r) st') → o.wp P a w (wpList P ops Q' l) Q' := fun h =>
      vop_sound hop hw (hr.on _) h fun r u st' w' G' hkk hru hle hw' => vops_sound l vs' hvs (by rw [hd] at *; exact (hr.le hle).put hdN hru) hw' hkk.2 fun A' a' st2 w2 G2 k1 k2 k3 k4 => hk A' a' st2 w2 G2 k1 (hle.trans k2) k3 k4
    have skip : vops P K vs' (putV A v.dst .und) st → wpList P ops Q' l (a.put o.dst undef) w := fun h =>
      vops_sound l vs' hvs (by rw [hd] at *; exact hr.put hdN .und) hw h hk
    simp only [vops] at h
    simp only [wpList]
    rcases hg with ⟨hg, hvg⟩ | ⟨j, want, s, hg, hs, hvg⟩
    · rw [hvg] at h
      rw [if_pos (by simp [Region.wanted, hg])]
      exact .inl (run h)
    · rw [hvg] at h
      simp only [vguard] at h
      have hrs := hr.rep s
      split at h
      · rename_i b hb
        rw [hb] at hrs
        have hw1 := wanted_true hg hs hrs.sc_inv
        by_cases hbw : b = want
        · rw [if_pos (by rw [hw1]; simpa using hbw)]
          exact .inl (run (h.1 hbw))
        · rw [if_neg (by rw [hw1]; simpa using hbw)]
          exact skip (h.2 hbw)
      · rename_i hb
        rw [hb] at hrs
        have hw1 := wanted_und (a := a) hg hs hrs.und_inv
        rw [if_neg (by rw [hw1]; simp)]
        exact skip h
      · exact h.elim
end
end Go.Proofs.Ytlngegoamfklgaa
