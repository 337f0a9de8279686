/- The operations that turn nothing, compiled: what they yield, and that they do. -/
import Derived.Test.YtlngegoamfklgaaV1
import Derived.IntWalk
namespace Go.Proofs.Ytlngegoamfklgaa
open Go Go.RowKit

inductive X where
  | t (n : Nat)
  | c (v : V)
/-- Compiled operations. -/
inductive VOp where
  | mv (x : X)
  | pick (c a b : X)
  | bin (op : BinOp) (x y : X)
  | un (op : UnOp) (x : X)
  | binb (neg : Bool) (x y : X)
  | eqs (neg : Bool) (l : List Lf) (x y : X)
  | isnil (neg : Bool) (x : X)
  | pnil (neg : Bool) (x : X)
  | b2s (x : X)
  | s2b (x : X)
  | b2sB (x : X)
  | s2a (n size : Nat) (x : X)
  | slcA (n size : Nat) (x : X) (lo hi : Option X)
  | sidx (x i : X)
  | aidx (len : Nat) (x i : X)
  | conv (k : IntKind) (x : X)
  | fld (off : Nat) (x : X)
  | ix (size : Nat) (x i : X)
  | ixa (n size : Nat) (x i : X)
  | load (n : Option Nat) (x : X)
  | nilck (x : X)
  | ext (x : X) (i : Nat)
  | len (x : X)
  | slen (x : X)
  | mn (x y : X)
  | mx (x y : X)
  | bld (zero : List V) (parts : List (Nat × Nat × X))
  | bsl (size : Nat) (xs : List X)
  | slc (size : Nat) (x : X) (lo hi : Option X)
  | sslc (x : X) (lo hi : Option X)
  | bslo (size : Nat) (xs : List X)
  | box (x : X)
  | alc (zero : List V)
  | alcX (zero : List V)
  | boxX (x : X)
  | mks (size bytes : Nat) (z : List V) (x : X)
  | mko (size bytes : Nat) (z : List V) (x : X)
  | store (n : Nat) (x y : X)
  | app (size bytes : Nat) (x y : X)
  | appx (size bytes : Nat) (z : Option V) (x y : X)
  | call (f : FuncId) (args : List X)
  | mlk (ag : Bool) (lf : List Lf) (z : V) (ok : Bool) (x k : X)
  | mlen (x : X)
  | mnil (neg : Bool) (x : X)
  | mkm (ag : Bool) (lf : List Lf)
  | mup (ag : Bool) (lf : List Lf) (x k v : X)
  | mdel (ag : Bool) (lf : List Lf) (x k : X)
  | rng (x : X)
  | nxt (x : X)
  | ent (x : X)
  | mfn (f : Fn) (first cap : List X)
  | slc3 (size : Nat) (x : X) (lo : Option X) (hi mx : X)
  | ment (ag : Bool) (lf : List Lf) (z : V) (x k : X)
  | est (x s v : X)
  | clr (size : Nat) (z : List V) (x : X)
  | calv (x : X) (args : List X)

def cellV : Value → V
  | .slice none 0 0 => .sl .nil []
  | v => .sc v
def ofVal : Value → V
  | .agg cs => .agg (cs.toList.map cellV)
  | .tuple _ => .any
  | v => cellV v
def constOk : Value → Bool
  | .agg cs => cs.all Value.oneCell'
  | _ => true
theorem cellV_rep (G : Gh) {v : Value} (h : v.oneCell' = true) : Rep1 G (cellV v) v := by
  unfold cellV
  split
  · exact .nil _ (fun g k e => by cases e)
  · exact .sc _ h
theorem ofVal_rep (G : Gh) {v : Value} (h : constOk v = true) : Rep1 G (ofVal v) v := by
  cases v with
  | agg cs =>
    refine .agg _ _ (by simp) (fun i v hv => ?_) (fun i c v hc hv => ?_)
    · simp only [constOk, Array.all_eq_true_iff_forall_mem] at h
      exact h v (Array.mem_of_getElem? hv)
    · simp only [List.getElem?_map, Array.getElem?_toList] at hc
      rw [hv] at hc
      simp at hc
      subst hc
      simp only [constOk, Array.all_eq_true_iff_forall_mem] at h
      exact cellV_rep G (h v (Array.mem_of_getElem? hv))
  | tuple cs => exact .any _
  | _ => simp only [ofVal]; exact cellV_rep G rfl

def cx : Operand → Option X
  | .tmp t => some (.t t)
  | .const v => if constOk v then some (.c (ofVal v)) else none
  | .func f => some (.c (.sc (.func (.func f) #[] #[])))
  | .global g => some (.c (.sc (.pointer (some ⟨g, 0, none⟩))))
def X.ev (A : Nat → V) : X → V
  | .t n => A n
  | .c v => v
def X.reads : X → List Nat
  | .t n => [n]
  | .c _ => []
/-- The slots of l are as the abstract ones say. -/
def RelOn (l : List Nat) (G : Gh) (A : Nat → V) (a : Act) : Prop := ∀ t ∈ l, Rep1 G (A t) (a.tmps.getD t undef)
theorem RelOn.mono {l l' : List Nat} {G : Gh} {A : Nat → V} {a : Act} (h : RelOn l G A a) (hl : ∀ t ∈ l', t ∈ l) : RelOn l' G A a := fun t ht => h t (hl t ht)
theorem RelOn.le {l : List Nat} {G H : Gh} {A : Nat → V} {a : Act} (h : RelOn l G A a) (hle : G.le H) : RelOn l H A a := fun t ht => (h t ht).mono hle
theorem cx_rep {o : Operand} {x : X} (hx : cx o = some x) {l : List Nat} {G : Gh} {A : Nat → V} {a : Act} (h : RelOn l G A a) (hl : ∀ t ∈ x.reads, t ∈ l) : Rep1 G (x.ev A) (a.eval o) := by
  cases o with
  | tmp t => simp only [cx, Option.some.injEq] at hx; subst hx; exact h t (hl t (by simp [X.reads]))
  | const v =>
    simp only [cx] at hx
    split at hx
    · rename_i hc; simp only [Option.some.injEq] at hx; subst hx; exact ofVal_rep G hc
    · cases hx
  | func f => simp only [cx, Option.some.injEq] at hx; subst hx; exact .sc _ rfl
  | global g => simp only [cx, Option.some.injEq] at hx; subst hx; exact .sc _ rfl

/-! ### Numbers -/
/-- A sum that must fit (a signed kind), or goes round (an unsigned one). -/
def norm (k : IntKind) (n : Int) : Prop × V :=
  match k with
  | .i64 => (-9223372036854775808 ≤ n ∧ n ≤ 9223372036854775807, .sc (.int .i64 n))
  | .i32 => (-2147483648 ≤ n ∧ n ≤ 2147483647, .sc (.int .i32 n))
  | .i16 => (-32768 ≤ n ∧ n ≤ 32767, .sc (.int .i16 n))
  | .i8 => (-128 ≤ n ∧ n ≤ 127, .sc (.int .i8 n))
  | .u64 => (True, .sc (.int .u64 (n % 18446744073709551616)))
  | .u32 => (True, .sc (.int .u32 (n % 4294967296)))
  | .u16 => (True, .sc (.int .u16 (n % 65536)))
  | .u8 => (True, .sc (.int .u8 (n % 256)))
theorem norm_wrap {k : IntKind} {n : Int} (h : (norm k n).1) : (norm k n).2 = .sc (.int k (k.wrap n)) := by
  cases k <;> simp only [norm] at h ⊢
  · rw [IntWalk.i8_in n h]
  · rw [IntWalk.i16_in n h]
  · rw [IntWalk.i32_in n h]
  · rw [IntWalk.i64_in n h]
  all_goals simp [IntKind.wrap, IntKind.signed, IntKind.bits]
/-- Bits: as the model has them. -/
def ibit (op : BinOp) (k : IntKind) (x y : Int) : Int :=
  let a := BitVec.ofInt k.bits x
  let b := BitVec.ofInt k.bits y
  match op with
  | .and => k.wrap (a &&& b).toNat
  | .or => k.wrap (a ||| b).toNat
  | .xor => k.wrap (a ^^^ b).toNat
  | _ => k.wrap (a &&& ~~~b).toNat
def shAmt (k : IntKind) (y : Int) : Nat := min y.toNat k.bits
def vbinI (op : BinOp) (k : IntKind) (a : Int) (k' : IntKind) (b : Int) : Prop × V :=
  match op with
  | .add => (k = k' ∧ (norm k (a + b)).1, (norm k (a + b)).2)
  | .sub => (k = k' ∧ (norm k (a - b)).1, (norm k (a - b)).2)
  | .mul => (k = k' ∧ (norm k (a * b)).1, (norm k (a * b)).2)
  | .quo => (k = k' ∧ 0 ≤ a ∧ 0 < b ∧ (norm k (a / b)).1, (norm k (a / b)).2)
  | .rem => (k = k' ∧ 0 ≤ a ∧ 0 < b, .sc (.int k (a % b)))
  | .and => (k = k', .sc (.int k (ibit .and k a b)))
  | .or => (k = k', .sc (.int k (ibit .or k a b)))
  | .xor => (k = k', .sc (.int k (ibit .xor k a b)))
  | .andNot => (k = k', .sc (.int k (ibit .andNot k a b)))
  | .shl => (0 ≤ b ∧ (norm k (a * 2 ^ shAmt k b)).1, (norm k (a * 2 ^ shAmt k b)).2)
  | .shr => (0 ≤ b, .sc (.int k (a / 2 ^ shAmt k b)))
  | .eql => (k = k', .sc (.bool (decide (a = b))))
  | .neq => (k = k', .sc (.bool (decide (a ≠ b))))
  | .lss => (k = k', .sc (.bool (decide (a < b))))
  | .leq => (k = k', .sc (.bool (decide (a ≤ b))))
  | .gtr => (k = k', .sc (.bool (decide (b < a))))
  | .geq => (k = k', .sc (.bool (decide (b ≤ a))))
def vbinS (op : BinOp) (a b : ByteArray) : Prop × V :=
  match op with
  | .add => (a.size + b.size ≤ 9223372036854775807, .sc (.string (a ++ b)))
  | .eql => (True, .sc (.bool (decide (a = b))))
  | .neq => (True, .sc (.bool (decide (a ≠ b))))
  | .lss => (True, .sc (.bool (Op.bytesLess a.toList b.toList)))
  | .gtr => (True, .sc (.bool (!(Op.bytesLess a.toList b.toList || decide (a = b)))))
  | .leq => (True, .sc (.bool (Op.bytesLess a.toList b.toList || decide (a = b))))
  | .geq => (True, .sc (.bool (!Op.bytesLess a.toList b.toList)))
  | _ => (False, .any)
def vbin (op : BinOp) : V → V → Prop × V
  | .sc (.int k a), .sc (.int k' b) => vbinI op k a k' b
  | .sc (.string a), .sc (.string b) => vbinS op a b
  | _, _ => (False, .any)
def vun (op : UnOp) : V → Prop × V
  | .sc (.int k a) => match op with
    | .neg => norm k (0 - a)
    | .xor => (True, .sc (.int k (ibit .xor k (if k.signed then -1 else k.max) a)))
    | _ => (False, .any)
  | .sc (.bool b) => match op with
    | .not => (True, .sc (.bool (!b)))
    | _ => (False, .any)
  | _ => (False, .any)

theorem string_beq (a b : ByteArray) : (a.toList == b.toList) = decide (a = b) := by
  rw [Bool.eq_iff_iff]
  simp only [beq_iff_eq, decide_eq_true_eq]
  rw [Go.ByteArray.toList_eq, Go.ByteArray.toList_eq]
  refine ⟨fun h => ?_, fun h => by rw [h]⟩
  cases a; cases b
  simp only [ByteArray.mk.injEq]
  exact Array.toList_inj.1 h


def vbinb (neg : Bool) : V → V → Prop × V
  | .sc (.bool a), .sc (.bool b) => (True, .sc (.bool (if neg then !(a == b) else a == b)))
  | _, _ => (False, .any)
/-- Cell by cell the same? -/
def eqV : List V → List V → Bool
  | .sc (.int _ a) :: l, .sc (.int _ b) :: m => decide (a = b) && eqV l m
  | .sc (.bool a) :: l, .sc (.bool b) :: m => (a == b) && eqV l m
  | .sc (.string a) :: l, .sc (.string b) :: m => decide (a = b) && eqV l m
  | [], [] => true
  | _, _ => false
def veqs (neg : Bool) (l : List Lf) : V → V → Prop × V
  | .agg cs, .agg ds => (fitsV l cs ∧ fitsV l ds, .sc (.bool (if neg then !(eqV cs ds) else eqV cs ds)))
  | _, _ => (False, .any)
def visnil (neg : Bool) : V → Prop × V
  | .sl .nil [] => (True, .sc (.bool (!neg)))
  | .sl (.own _ _) _ => (True, .sc (.bool neg))
  | .sl .no (_ :: _) => (True, .sc (.bool neg))
  | .sc (.slice (some _) _ _) => (True, .sc (.bool neg))
  | _ => (False, .any)
def vpnil (neg : Bool) : V → Prop × V
  | .sc (.pointer none) => (True, .sc (.bool (!neg)))
  | .sc (.pointer (some _)) => (True, .sc (.bool neg))
  | .ep _ _ => (True, .sc (.bool neg))
  | _ => (False, .any)
def u8sOf : List V → Option (List Int)
  | [] => some []
  | .sc (.int .u8 n) :: l => (u8sOf l).map (n :: ·)
  | _ => none
/-- The string of these bytes. -/
def strOf (ns : List Int) : ByteArray := ns.foldl (fun r n => r.push (UInt8.ofNat n.toNat)) ByteArray.empty
def vb2s : V → Prop × V
  | .sl _ l => match u8sOf l with
    | some ns => (True, .sc (.string (strOf ns)))
    | none => (False, .any)
  | _ => (False, .any)

/-- The bytes of a string. -/
def bytesOf (s : ByteArray) : List Int := s.data.toList.map fun b => (b.toNat : Int)
def byL (s : ByteArray) : List V := (bytesOf s).map fun n => .sc (.int .u8 n)
def vs2b : V → Prop × V
  | .sc (.string s) => (s.size ≤ maxLen, .sl .no (byL s))
  | _ => (False, .any)
def vsidx : V → V → Prop × V
  | .sc (.string s), .sc (.int _ n) => match (bytesOf s)[n.toNat]? with
    | some b => (0 ≤ n, .sc (.int .u8 b))
    | none => (False, .any)
  | _, _ => (False, .any)
/-- An element of an array value. -/
def vaidx (len : Nat) : V → V → Prop × V
  | .agg cs, .sc (.int _ n) => match cs[n.toNat]? with
    | some c => (0 ≤ n ∧ n < len, c)
    | none => (False, .any)
  | _, _ => (False, .any)
/-- What is appended that is no slice: a string's bytes, or so many zero values. -/
def srcX : Option V → V → Prop × V
  | none, .sc (.string s) => (True, .sl .no (byL s))
  | some d, .sc (.int _ n) => (0 ≤ n, .sl .no (List.replicate n.toNat d))
  | _, _ => (False, .any)

/-! ### Cells in rows -/
def splice (cs : List V) (off : Nat) (ds : List V) : List V := cs.take off ++ ds ++ cs.drop (off + ds.length)
def fillV : List V → List (Nat × Nat × V) → Prop × List V
  | cs, [] => (True, cs)
  | cs, (off, size, d) :: rest => ((d.cells.length = size ∧ 0 < size ∧ off + size ≤ cs.length ∧ (fillV (splice cs off d.cells) rest).1), (fillV (splice cs off d.cells) rest).2)
def strip1 : V → V
  | .sl _ l => .sl .no l
  | v => v
def strip : V → V
  | .agg cs => .agg (cs.map strip1)
  | v => strip1 v
/-- A cell, or so many cells, behind an address. -/
def takeV (cs : List V) (off : Nat) : Option Nat → Prop × V
  | none => match cs[off]? with
    | some c => (c.cells.length = 1, c)
    | none => (False, .any)
  | some n => (off + n ≤ cs.length, .agg ((cs.drop off).take n))
/-- The same in a block that may turn. -/
def takeB (cs : List V) (off : Nat) : Option Nat → Prop × V
  | none => takeV cs off none
  | some n => ((takeV cs off (some n)).1 ∧ mono cs, (takeV cs off (some n)).2)
def vload (st : St) (n : Option Nat) : V → Prop × V
  | .ep cs off => takeV cs off n
  | .sc (.pointer (some ⟨b, o, none⟩)) => match st.box b with
    | some cs => takeB cs o n
    | none => (False, .any)
  | _ => (False, .any)
def vint : V → Option (IntKind × Int)
  | .sc (.int k n) => some (k, n)
  | _ => none
def vix (size : Nat) (x i : V) : Prop × V :=
  match x, i with
  | .sl _ l, .sc (.int _ n) => match l[n.toNat]? with
    | some d => (0 ≤ n ∧ d.cells.length = size, .ep d.cells 0)
    | none => (False, .any)
  | .sc (.slice (some ⟨b, o, none⟩) m _), .sc (.int _ n) => (0 ≤ n ∧ n < m, .sc (.pointer (some ⟨b, o + n.toNat * size, none⟩)))
  | _, _ => (False, .any)
def vixa (len size : Nat) (x i : V) : Prop × V :=
  match x, i with
  | .sc (.pointer (some ⟨b, o, none⟩)), .sc (.int _ n) => (0 ≤ n ∧ n < len, .sc (.pointer (some ⟨b, o + n.toNat * size, none⟩)))
  | .ep cs off, .sc (.int _ n) => (0 ≤ n ∧ n < len, .ep cs (off + n.toNat * size))
  | _, _ => (False, .any)
def vfld (off : Nat) : V → Prop × V
  | .sc (.pointer (some ⟨b, o, none⟩)) => (True, .sc (.pointer (some ⟨b, o + off, none⟩)))
  | .ep cs o => (True, .ep cs (o + off))
  | _ => (False, .any)
def vnil : V → Prop × V
  | .sc (.pointer (some a)) => (True, .sc (.pointer (some a)))
  | .ep cs o => (True, .ep cs o)
  | _ => (False, .any)
def vlen : V → Prop × V
  | .sl _ l => (True, .sc (.int .i64 l.length))
  | .sc (.slice _ n _) => (True, .sc (.int .i64 n))
  | _ => (False, .any)
def vslen : V → Prop × V
  | .sc (.string s) => (True, .sc (.int .i64 s.size))
  | _ => (False, .any)
def vext (i : Nat) : V → Prop × V
  | .tup cs => match cs[i]? with
    | some c => (True, c)
    | none => (False, .any)
  | _ => (False, .any)
def vmm (mx : Bool) : V → V → Prop × V
  | .sc (.int k a), .sc (.int _ b) => (True, .sc (.int k (if mx then max a b else min a b)))
  | _, _ => (False, .any)
def vpick (a b : V) : V → Prop × V
  | .sc (.bool c) => (True, if c then a else b)
  | _ => (False, .any)
def vconv (k : IntKind) : V → Prop × V
  | .sc (.int _ n) => norm k n
  | _ => (False, .any)
def allSz (size : Nat) (l : List V) : Prop := ∀ d ∈ l, d.cells.length = size
def vslc (size : Nat) (x : V) (lo hi : Option V) : Prop × V :=
  match x with
  | .sl _ l => match lo, hi with
    | none, none => (allSz size l, .sl .no l)
    | some (.sc (.int _ a)), none => (allSz size l ∧ 0 ≤ a ∧ a.toNat ≤ l.length, .sl .no (l.drop a.toNat))
    | none, some (.sc (.int _ b)) => (allSz size l ∧ 0 ≤ b ∧ b.toNat ≤ l.length, .sl .no (l.take b.toNat))
    | some (.sc (.int _ a)), some (.sc (.int _ b)) => (allSz size l ∧ 0 ≤ a ∧ a ≤ b ∧ b.toNat ≤ l.length, .sl .no ((l.take b.toNat).drop a.toNat))
    | _, _ => (False, .any)
  | .sc (.slice (some ⟨b', o, none⟩) n c) => match lo, hi with
    | none, none => (n ≤ c, .sc (.slice (some ⟨b', o, none⟩) n c))
    | some (.sc (.int _ a)), none => (0 ≤ a ∧ a.toNat ≤ n ∧ n ≤ c ∧ (a = 0 ∨ a < c), .sc (.slice (some ⟨b', o + a.toNat * size, none⟩) (n - a.toNat) (c - a.toNat)))
    | none, some (.sc (.int _ b)) => (0 ≤ b ∧ b.toNat ≤ n ∧ n ≤ c, .sc (.slice (some ⟨b', o, none⟩) b.toNat c))
    | some (.sc (.int _ a)), some (.sc (.int _ b)) => (0 ≤ a ∧ a ≤ b ∧ b.toNat ≤ n ∧ n ≤ c ∧ (a = 0 ∨ a < c), .sc (.slice (some ⟨b', o + a.toNat * size, none⟩) (b.toNat - a.toNat) (c - a.toNat)))
    | _, _ => (False, .any)
  | _ => (False, .any)
/-- A slice of an array variable. -/
def vslcA (n size : Nat) (x : V) (lo hi : Option V) : Prop × V :=
  match x with
  | .sc (.pointer (some ⟨b, o, none⟩)) => vslc size (.sc (.slice (some ⟨b, o, none⟩) n n)) lo hi
  | _ => (False, .any)
/-- A slice as an array. -/
def vs2a (n size : Nat) : V → Prop × V
  | .sl _ l => (allSz size l ∧ n ≤ l.length ∧ 0 < l.length, .ep (l.flatMap V.cells) 0)
  | .sc (.slice (some ⟨b, o, none⟩) m _) => (n ≤ m, .sc (.pointer (some ⟨b, o, none⟩)))
  | _ => (False, .any)
/-- The text of a boxed slice. -/
def vb2sB (st : St) : V → Prop × V
  | .sc (.slice (some ⟨b, o, none⟩) n _) => match st.box b with
    | some cs => match u8sOf ((cs.drop o).take n) with
      | some ns => (o + n ≤ cs.length ∧ mono cs, .sc (.string (strOf ns)))
      | none => (False, .any)
    | none => (False, .any)
  | _ => (False, .any)
def vsslc (x : V) (lo hi : Option V) : Prop × V :=
  match x with
  | .sc (.string s) => match lo, hi with
    | none, none => (True, .sc (.string (s.extract 0 s.size)))
    | some (.sc (.int _ a)), none => (0 ≤ a ∧ a.toNat ≤ s.size, .sc (.string (s.extract a.toNat s.size)))
    | none, some (.sc (.int _ b)) => (0 ≤ b ∧ b.toNat ≤ s.size, .sc (.string (s.extract 0 b.toNat)))
    | some (.sc (.int _ a)), some (.sc (.int _ b)) => (0 ≤ a ∧ a ≤ b ∧ b.toNat ≤ s.size, .sc (.string (s.extract a.toNat b.toNat)))
    | _, _ => (False, .any)
  | _ => (False, .any)
def allLen (size : Nat) : List V → Prop
  | [] => True
  | d :: ds => d.cells.length = size ∧ allLen size ds

/-! ### Maps -/
/-- What is under a key. -/
def mfind (k : V) : List (V × V × Nat) → Option V
  | [] => none
  | e :: es => if eqV k.cells e.1.cells = true then some e.2.1 else mfind k es
def mset (k v : V) (c : Nat) : List (V × V × Nat) → List (V × V × Nat)
  | [] => [(k, v, c)]
  | e :: es => if eqV k.cells e.1.cells = true then (k, v, e.2.2) :: es else e :: mset k v c es
def mclk (es : List (V × V × Nat)) (k : V) (c : Nat) : Nat := if (mfind k es).isSome = true then c else c + 1
def mdel (k : V) : List (V × V × Nat) → List (V × V × Nat)
  | [] => []
  | e :: es => if eqV k.cells e.1.cells = true then es else e :: mdel k es
def vmlk (bx : Nat → Option (List V)) (ag : Bool) (lf : List Lf) (z : V) (ok : Bool) (x k : V) : Prop × V :=
  match x with
  | .sc (.map none) => (kOk ag lf k, if ok = true then .tup [z, .sc (.bool false)] else z)
  | .sc (.map (some b)) => match bx b with
    | some [.mp ag' lf' es _] => (ag' = ag ∧ lf' = lf ∧ kOk ag lf k, if ok = true then .tup [(mfind k es).getD z, .sc (.bool (mfind k es).isSome)] else (mfind k es).getD z)
    | _ => (False, .any)
  | _ => (False, .any)
def vmlen (bx : Nat → Option (List V)) : V → Prop × V
  | .sc (.map none) => (True, .sc (.int .i64 0))
  | .sc (.map (some b)) => match bx b with
    | some [.mp _ _ es _] => (True, .sc (.int .i64 es.length))
    | _ => (False, .any)
  | _ => (False, .any)
/-- The entry that going through a map is at. -/
def vent (bx : Nat → Option (List V)) : V → Prop × V
  | .sc (.pointer (some ⟨r, 0, none⟩)) => match bx r with
    | some [.it (some m) _ seen last] => match bx m with
      | some [.mp _ _ es c] => match es.find? fun e => some e.2.2 == seen.getLast? with
        | some e => (c = last, .tup [e.1, e.2.1])
        | none => (False, .any)
      | _ => (False, .any)
    | _ => (False, .any)
  | _ => (False, .any)
def allSc : List V → Option (List Value)
  | [] => some []
  | .sc v :: l => (allSc l).map (v :: ·)
  | _ => none
/-- A function value. -/
def vmfn (f : Fn) (first cap : List V) : Prop × V :=
  match allSc first, allSc cap with
  | some a, some b => (True, .sc (.func f a.toArray b.toArray))
  | _, _ => (False, .any)
/-- A slice with three bounds. -/
def vslc3 (size : Nat) (x : V) (lo : Option V) (hi mx : V) : Prop × V :=
  match x, hi, mx with
  | .sl _ l, .sc (.int _ b), .sc (.int _ m) => match lo with
    | none => (allSz size l ∧ 0 ≤ b ∧ b ≤ m ∧ m.toNat ≤ l.length, .sl .no (l.take b.toNat))
    | some (.sc (.int _ a)) => (allSz size l ∧ 0 ≤ a ∧ a ≤ b ∧ b ≤ m ∧ m.toNat ≤ l.length, .sl .no ((l.take b.toNat).drop a.toNat))
    | _ => (False, .any)
  | .sc (.slice (some ⟨b', o, none⟩) n c), .sc (.int _ b), .sc (.int _ m) => match lo with
    | none => (0 ≤ b ∧ b ≤ m ∧ m.toNat ≤ c, .sc (.slice (some ⟨b', o, none⟩) b.toNat m.toNat))
    | some (.sc (.int _ a)) => (0 ≤ a ∧ a ≤ b ∧ b ≤ m ∧ m.toNat ≤ c ∧ (a = 0 ∨ a < m), .sc (.slice (some ⟨b', o + a.toNat * size, none⟩) (b.toNat - a.toNat) (m.toNat - a.toNat)))
    | _ => (False, .any)
  | _, _, _ => (False, .any)
def vmnil (neg : Bool) : V → Prop × V
  | .sc (.map none) => (True, .sc (.bool (!neg)))
  | .sc (.map (some _)) => (True, .sc (.bool neg))
  | _ => (False, .any)

/-- What an operation that turns nothing yields, and what it owes. -/
def pop (st : St) (A : Nat → V) : VOp → Prop × V
  | .mv x => (True, x.ev A)
  | .pick c a b => vpick (a.ev A) (b.ev A) (c.ev A)
  | .bin op x y => vbin op (x.ev A) (y.ev A)
  | .un op x => vun op (x.ev A)
  | .binb neg x y => vbinb neg (x.ev A) (y.ev A)
  | .eqs neg l x y => veqs neg l (x.ev A) (y.ev A)
  | .isnil neg x => visnil neg (x.ev A)
  | .pnil neg x => vpnil neg (x.ev A)
  | .b2s x => vb2s (x.ev A)
  | .s2b x => vs2b (x.ev A)
  | .b2sB x => vb2sB st (x.ev A)
  | .s2a n size x => vs2a n size (x.ev A)
  | .slcA n size x lo hi => vslcA n size (x.ev A) (lo.map fun x => x.ev A) (hi.map fun x => x.ev A)
  | .sidx x i => vsidx (x.ev A) (i.ev A)
  | .aidx len x i => vaidx len (x.ev A) (i.ev A)
  | .conv k x => vconv k (x.ev A)
  | .fld off x => vfld off (x.ev A)
  | .ix size x i => vix size (x.ev A) (i.ev A)
  | .ixa n size x i => vixa n size (x.ev A) (i.ev A)
  | .load n x => vload st n (x.ev A)
  | .nilck x => vnil (x.ev A)
  | .ext x i => vext i (x.ev A)
  | .len x => vlen (x.ev A)
  | .slen x => vslen (x.ev A)
  | .mn x y => vmm false (x.ev A) (y.ev A)
  | .mx x y => vmm true (x.ev A) (y.ev A)
  | .bld zero parts => ((fillV zero (parts.map fun p => (p.1, p.2.1, p.2.2.ev A))).1, .agg (fillV zero (parts.map fun p => (p.1, p.2.1, p.2.2.ev A))).2)
  | .bsl size xs => (allLen size (xs.map fun x => strip (x.ev A)), .sl .no (xs.map fun x => strip (x.ev A)))
  | .slc size x lo hi => vslc size (x.ev A) (lo.map fun x => x.ev A) (hi.map fun x => x.ev A)
  | .sslc x lo hi => vsslc (x.ev A) (lo.map fun x => x.ev A) (hi.map fun x => x.ev A)
  | .mlk ag lf z ok x k => vmlk st.box ag lf z ok (x.ev A) (k.ev A)
  | .mlen x => vmlen st.box (x.ev A)
  | .mnil neg x => vmnil neg (x.ev A)
  | .ent x => vent st.box (x.ev A)
  | .mfn f first cap => vmfn f (first.map fun x => x.ev A) (cap.map fun x => x.ev A)
  | .slc3 size x lo hi mx => vslc3 size (x.ev A) (lo.map fun x => x.ev A) (hi.ev A) (mx.ev A)
  | _ => (False, .any)
def oreads (x : Option X) : List Nat := match x with | some x => x.reads | none => []
def VOp.reads : VOp → List Nat
  | .mv x | .un _ x | .isnil _ x | .pnil _ x | .b2s x | .s2b x | .b2sB x | .s2a _ _ x | .mks _ _ _ x | .mko _ _ _ x | .conv _ x | .fld _ x | .load _ x | .nilck x | .ext x _ | .len x | .slen x | .box x | .boxX x | .mlen x | .mnil _ x | .rng x | .nxt x | .ent x | .clr _ _ x => x.reads
  | .mfn _ a b => a.flatMap X.reads ++ b.flatMap X.reads
  | .slc3 _ x lo y q => x.reads ++ oreads lo ++ y.reads ++ q.reads
  | .est x s v => x.reads ++ s.reads ++ v.reads
  | .calv x xs => x.reads ++ xs.flatMap X.reads
  | .pick c a b => c.reads ++ a.reads ++ b.reads
  | .bin _ x y | .binb _ x y | .eqs _ _ x y | .ix _ x y | .ixa _ _ x y | .mn x y | .mx x y | .store _ x y | .sidx x y | .aidx _ x y | .app _ _ x y | .appx _ _ _ x y | .mlk _ _ _ _ x y | .mdel _ _ x y | .ment _ _ _ x y => x.reads ++ y.reads
  | .mup _ _ x k v => x.reads ++ k.reads ++ v.reads
  | .bld _ parts => parts.flatMap fun p => p.2.2.reads
  | .bsl _ xs | .bslo _ xs | .call _ xs => xs.flatMap X.reads
  | .slc _ x lo hi | .slcA _ _ x lo hi | .sslc x lo hi => x.reads ++ oreads lo ++ oreads hi
  | .alc _ | .alcX _ | .mkm _ _ => []

/-! ### The compiler, an operation at a time -/
def layout (P : Program) (t : TypeId) : Option (Option Nat × Nat) :=
  match P.underlying t, P.info? t with
  | some (.struct _), some i => some (some i.size, i.size)
  | some (.array _ _), some i => some (some i.size, i.size)
  | some _, some i => if i.size = 1 then some (none, 1) else none
  | _, _ => none
def zeroCells' (P : Program) (t : TypeId) : Option (List V) :=
  match P.info? t with
  | some i => match i.zero with
    | some v => if constOk v && v.cells.all Value.oneCell' then some (v.cells.toList.map cellV) else none
    | none => none
  | none => none
def places (P : Program) (t : TypeId) : Option (Array (Nat × Nat)) :=
  match P.underlying t with
  | some (.struct fields) => fields.mapM fun f => (P.info? f.type).map fun i => (f.offset, i.size)
  | some (.array n elem) => (P.info? elem).map fun i => (Array.range n).map fun j => (j * i.size, i.size)
  | _ => none
def okBin (P : Program) (op : BinOp) (t : TypeId) : Bool :=
  match P.underlying t with
  | some (.int _) => true
  | some .string => true
  | _ => false
/-- The kind that a type's numbers have. -/
def intOf? (P : Program) (t : TypeId) : Option IntKind :=
  match P.underlying t with
  | some (.int k) => some k
  | _ => none
def intOf2? (P : Program) (s t : TypeId) : Option IntKind :=
  match P.underlying s, P.underlying t with
  | some _, some (.int k) => some k
  | _, _ => none
def callable (P : Program) (f : FuncId) : Bool :=
  match P.funcs[f]? with
  | some fn => fn.name != "runtime.NumGoroutine" && fn.body.isSome
  | none => false
def cxo : Option Operand → Option (Option X)
  | none => some none
  | some o => (cx o).map some
def b2s? (P : Program) (s d : TypeId) : Bool :=
  match P.underlying s, P.underlying d with
  | some (.slice e), some .string => (match P.underlying e with | some (.int .u8) => true | _ => false)
  | _, _ => false
def s2b? (P : Program) (s d : TypeId) : Bool :=
  match P.underlying s, P.underlying d with
  | some .string, some (.slice e) => (match P.underlying e with | some (.int .u8) => true | _ => false)
  | _, _ => false
/-- What an append's source is: a slice (none), a string (some none), so many zero values (some (some d)). -/
def appSrc (P : Program) (t t' elem : TypeId) (e : TypeInfo) : Option (Option (Option V)) :=
  if t = t' then some none else
    match P.underlying t' with
    | some .string => if e.size = 1 then some (some none) else none
    | some (.int _) => match zeroCells' P elem with
      | some [.sc v] => some (some (some (.sc v)))
      | _ => none
    | _ => none
def zeroV (P : Program) (t : TypeId) : Option V :=
  match P.info? t with
  | some i => match i.zero with
    | some v => if constOk v = true then some (ofVal v) else none
    | none => none
  | none => none
/-- A map's nil. -/
def mnilOf (P : Program) (op : BinOp) (t : TypeId) (y : Operand) : Option Bool :=
  match op, P.underlying t, y with
  | .eql, some (.map _ _), .const (.map none) => some false
  | .neq, some (.map _ _), .const (.map none) => some true
  | _, _, _ => none
/-- Equality of bools; of a slice with nil; of a pointer with nil. -/
def eqKind (P : Program) (op : BinOp) (t : TypeId) (y : Operand) : Option (Bool ⊕ (Bool × Bool)) :=
  match op, P.underlying t, y with
  | .eql, some .bool, _ => some (.inl false)
  | .neq, some .bool, _ => some (.inl true)
  | .eql, some (.slice _), .const (.slice none 0 0) => some (.inr (false, false))
  | .neq, some (.slice _), .const (.slice none 0 0) => some (.inr (false, true))
  | .eql, some (.pointer _), .const (.pointer none) => some (.inr (true, false))
  | .neq, some (.pointer _), .const (.pointer none) => some (.inr (true, true))
  | _, _, _ => none
def isA (P : Program) (t : TypeId) : Bool :=
  match P.underlying t with
  | some (.struct _) => true
  | some (.array _ _) => true
  | _ => false
/-- The cells of a type, if its values are compared cell by cell. -/
def leafsF (P : Program) (g : TypeId → Option (List Lf)) : Nat → List Field → Option (List Lf)
  | _, [] => some []
  | o, f :: fs => if f.offset = o ∧ f.name ≠ "_" then (g f.type).bind fun a => (leafsF P g (o + P.cellsOf f.type) fs).map fun b => a ++ b else none
def leafsU (P : Program) (g : TypeId → Option (List Lf)) (t : TypeId) : Option (List Lf) :=
  match P.underlying t with
  | some (.int k) => some [.int k]
  | some .bool => some [.bool]
  | some .string => some [.str]
  | some (.struct fs) => if P.stoodInHeld t = false then leafsF P g 0 fs.toList else none
  | some (.array n e) => (g e).map fun l => (List.replicate n l).flatten
  | _ => none
def leafs (P : Program) : Nat → TypeId → Option (List Lf)
  | 0, _ => none
  | n + 1, t => (leafsU P (leafs P n) t).bind fun l => if l.length = P.cellsOf t ∧ 0 < l.length then some l else none
def eqNeg : BinOp → Option Bool
  | .eql => some false
  | .neq => some true
  | _ => none
def eqSpec (P : Program) (op : BinOp) (t : TypeId) : Option (Bool × List Lf) :=
  if isA P t = true ∧ P.eqGuardType P.depth t = false then (eqNeg op).bind fun neg => (leafs P 8 t).map fun l => (neg, l) else none
/-- A map type's key: more cells than one? which cells? -/
def mapK (P : Program) (t : TypeId) : Option (Bool × List Lf) :=
  match P.underlying t with
  | some (.map k _) => (leafs P 8 k).map fun l => (isA P k, l)
  | _ => none
def mapZ (P : Program) (t : TypeId) : Option V :=
  match P.underlying t with
  | some (.map _ e) => zeroV P e
  | _ => none
def cOp (P : Program) (own : Bool) (o : Op) : Option VOp :=
  match o with
  | .move x | .assign x => (cx x).map .mv
  | .pick c a b => do pure (.pick (← cx c) (← cx a) (← cx b))
  | .binOp op t x y _ => match eqKind P op t y with
    | some (.inl neg) => do pure (.binb neg (← cx x) (← cx y))
    | some (.inr (false, neg)) => do pure (.isnil neg (← cx x))
    | some (.inr (true, neg)) => do pure (.pnil neg (← cx x))
    | none => match eqSpec P op t with
      | some (neg, l) => do pure (.eqs neg l (← cx x) (← cx y))
      | none => match mnilOf P op t y with
        | some neg => do pure (.mnil neg (← cx x))
        | none => do pure (.bin op (← cx x) (← cx y))
  | .unOp op _ x => do pure (.un op (← cx x))
  | .convert s d x => if b2s? P s d then (cx x).map (if own then .b2s else .b2sB) else if s2b? P s d then (cx x).map .s2b else do pure (.conv (← intOf2? P s d) (← cx x))
  | .makeSlice t l c => match P.underlying t with
    | some (.slice elem) => match P.info? elem with
      | some e => match zeroCells' P elem with
        | some z => if z.length = e.size ∧ 0 < e.size then
            match l, c with
            | .const (.int .i64 0), c => do pure (.mko e.size e.bytes z (← cx c))
            | .tmp a, .tmp b => if a = b then some (.mks e.size e.bytes z (.t a)) else none
            | .const (.int .i64 a), .const (.int .i64 b) => if a = b then some (.mks e.size e.bytes z (.c (.sc (.int .i64 a)))) else none
            | _, _ => none
          else none
        | none => none
      | none => none
    | _ => none
  | .fieldAddr s x f => match P.underlying s with
    | some (.struct fields) => match fields[f]? with
      | some fd => match P.info? fd.type with
        | some i => if i.size = 0 then none else (cx x).map (.fld fd.offset)
        | none => none
      | none => none
    | _ => none
  | .indexAddr t x i => match P.underlying t with
    | some (.slice elem) => match P.info? elem with
      | some e => do pure (.ix e.size (← cx x) (← cx i))
      | none => none
    | some (.array n elem) => match P.info? elem with
      | some e => do pure (.ixa n e.size (← cx x) (← cx i))
      | none => none
    | _ => none
  | .index t x i => match P.underlying t with
    | some .string => do pure (.sidx (← cx x) (← cx i))
    | some (.array n elem) => match P.info? elem with
      | some e => if e.size = 1 ∧ isA P elem = false ∧ (P.underlying elem).isSome = true then do pure (.aidx n (← cx x) (← cx i)) else none
      | none => none
    | _ => none
  | .load t x => do pure (.load (← layout P t).1 (← cx x))
  | .nilCheck x => (cx x).map .nilck
  | .extract x i => (cx x).map fun x => .ext x i
  | .build t parts => do
    let z ← zeroCells' P t
    let pl ← places P t
    let ps ← parts.toList.mapM fun p => do pure ((← pl[p.1]?).1, (← pl[p.1]?).2, ← cx p.2)
    pure (.bld z ps)
  | .buildSlice t len parts => match P.underlying t with
    | some (.slice elem) => match P.info? elem with
      | some e => if parts.toList.map (·.1) = List.range len ∧ len * e.size ≤ 16777216 ∧ 0 < e.size then do
          let xs ← parts.toList.mapM fun p => cx p.2
          let z ← zeroCells' P elem
          if z.length = e.size then pure (if own then .bslo e.size xs else .bsl e.size xs) else none
        else none
      | none => none
    | _ => none
  | .slice t x lo hi mx => match mx, P.underlying t with
    | none, some (.slice elem) => match P.info? elem with
      | some e => do pure (.slc e.size (← cx x) (← cxo lo) (← cxo hi))
      | none => none
    | none, some .string => do pure (.sslc (← cx x) (← cxo lo) (← cxo hi))
    | none, some (.array n elem) => match P.info? elem with
      | some e => do pure (.slcA n e.size (← cx x) (← cxo lo) (← cxo hi))
      | none => none
    | some m, some (.slice elem) => match P.info? elem, hi with
      | some e, some h => do pure (.slc3 e.size (← cx x) (← cxo lo) (← cx h) (← cx m))
      | _, _ => none
    | _, _ => none
  | .sliceToArrayPointer arr x => match P.underlying arr with
    | some (.array n elem) => match P.info? elem with
      | some e => if 0 < e.size then (cx x).map (.s2a n e.size) else none
      | none => none
    | _ => none
  | .alloc t => (zeroCells' P t).map .alc
  | .box _ x => (cx x).map .box
  | .store t x y => do pure (.store (← layout P t).2 (← cx x) (← cx y))
  | .call c => match c.callee with
    | .value (.func f) => if callable P f then do pure (.call f (← c.args.toList.mapM cx)) else none
    | .value (.tmp t) => do pure (.calv (.t t) (← c.args.toList.mapM cx))
    | .builtin .len => match c.args.toList, c.argTypes.toList with
      | [x], [t] => match P.underlying t with
        | some (.slice _) => (cx x).map .len
        | some .string => (cx x).map .slen
        | some (.map _ _) => (cx x).map .mlen
        | _ => none
      | _, _ => none
    | .builtin .min => match c.args.toList with
      | [x, y] => do pure (.mn (← cx x) (← cx y))
      | _ => none
    | .builtin .max => match c.args.toList with
      | [x, y] => do pure (.mx (← cx x) (← cx y))
      | _ => none
    | .builtin .append => match c.args.toList, c.argTypes.toList with
      | [x, y], [t, t'] => match P.underlying t with
        | some (.slice elem) => match P.info? elem with
          | some e => match e.zero with
            | some z => if z.cells.size = e.size ∧ 0 < e.size ∧ z.cells.all Value.oneCell' = true then
                match appSrc P t t' elem e with
                | some none => do pure (.app e.size e.bytes (← cx x) (← cx y))
                | some (some k) => do pure (.appx e.size e.bytes k (← cx x) (← cx y))
                | none => none
              else none
            | none => none
          | none => none
        | _ => none
      | _, _ => none
    | .builtin .delete => match c.args.toList, c.argTypes.toList with
      | [x, y], t :: _ => do let m ← mapK P t; pure (.mdel m.1 m.2 (← cx x) (← cx y))
      | _, _ => none
    | .builtin .clear => match c.args.toList, c.argTypes.toList with
      | [x], [t] => match P.underlying t with
        | some (.slice elem) => match P.info? elem, zeroCells' P elem with
          | some e, some z => if z.length = e.size ∧ 0 < e.size then (cx x).map (.clr e.size z) else none
          | _, _ => none
        | _ => none
      | _, _ => none
    | _ => none
  | .lookup t x k ok => do let m ← mapK P t; pure (.mlk m.1 m.2 (← mapZ P t) ok (← cx x) (← cx k))
  | .makeMap t none => do let m ← mapK P t; pure (.mkm m.1 m.2)
  | .mapUpdate t x k v | .insert t x k v => do let m ← mapK P t; pure (.mup m.1 m.2 (← cx x) (← cx k) (← cx v))
  | .mapEntry t x k => do let m ← mapK P t; pure (.ment m.1 m.2 (← mapZ P t) (← cx x) (← cx k))
  | .entryStore _ x s v => do pure (.est (← cx x) (← cx s) (← cx v))
  | .entry x => (cx x).map .ent
  | .makeFunc f a b => do pure (.mfn f (← a.toList.mapM cx) (← b.toList.mapM cx))
  | .range t x => match P.underlying t with
    | some (.map _ _) => (cx x).map .rng
    | _ => none
  | .next x str => if str then none else (cx x).map .nxt
  | _ => none
end Go.Proofs.Ytlngegoamfklgaa
