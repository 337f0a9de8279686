/- An operation's abstract step, and that the model's operation takes it. -/
import Derived.Test.YtlngegoamfklgaaV6
import Derived.Test.YtlngegoamfklgaaVMap
namespace Go.Proofs.Ytlngegoamfklgaa
open Go Go.RowKit

/-- A call's contract: from any world that is as the state says, the call hands back what r stands for, and leaves a world that is as the new state says. -/
def VCalls (P : Program) (f : FuncId) (args : List V) (st : St) (Q : V → St → Prop) : Prop :=
  ∀ (w0 : Fr) (G : Gh) (w : World) (us : Array Value), RepW w0 G st w → us.size = args.length → (∀ (i : Nat) (d : V) (u : Value), args[i]? = some d → us[i]? = some u → Rep1 G d u) →
    Calls P f us w fun e w' => ∃ u r st' G', e = .returned u ∧ Q r st' ∧ Rep1 G' r u ∧ G.le G' ∧ RepW w0 G' st' w'
theorem VCalls.mono {P : Program} {f : FuncId} {args : List V} {st : St} {Q Q' : V → St → Prop} (h : VCalls P f args st Q) (hq : ∀ r st', Q r st' → Q' r st') : VCalls P f args st Q' :=
  fun w0 G w us hw hl hr => (h w0 G w us hw hl hr).mono fun _ _ ⟨u, r, st', G', h1, h2, h3⟩ => ⟨u, r, st', G', h1, hq _ _ h2, h3⟩

def ptrV (b : Nat) : V := .sc (.pointer (some ⟨b, 0, none⟩))
def vstore (size : Nat) (x y : V) (st : St) (K : St → Prop) : Prop :=
  match x with
  | .sc (.pointer (some ⟨b, o, none⟩)) => match st.box b with
    | some cs => y.cells.length = size ∧ 0 < size ∧ o + size ≤ cs.length ∧ mono cs ∧ K (st.put b (splice cs o y.cells))
    | none => False
  | _ => False
/-- What a slice holds that is appended. -/
def srcV (size : Nat) (st : St) (y : V) (ys : List V) : Prop :=
  (∃ tk, y = .sl tk ys) ∨ ∃ b o c cs, y = .sc (.slice (some ⟨b, o, none⟩) ys.length c) ∧ st.box b = some cs ∧ o + ys.length * size ≤ cs.length ∧ (cs.drop o).take (ys.length * size) = ys.flatMap V.cells ∧ mono cs
def vapp (size bytes : Nat) (x y : V) (st : St) (K : V → St → Prop) : Prop :=
  (∃ l ys, Own size st x l ∧ srcV size st y ys ∧ allSz size ys ∧ l.length + ys.length ≤ maxLen ∧ (l.length + ys.length) * bytes ≤ 140737488355328 ∧ ∀ r st', Own size st' r (l ++ ys) → AppSt st x st' r → K r st') ∨
  (∃ b n cap cs ys, x = .sc (.slice (some ⟨b, 0, none⟩) n cap) ∧ st.box b = some cs ∧ cs.length = cap * size ∧ mono cs ∧ n ≤ cap ∧ cap ≤ maxLen ∧ srcV size st y ys ∧ allSz size ys ∧ n + ys.length ≤ maxLen ∧ (n + ys.length) * bytes ≤ 140737488355328 ∧
    ∀ b' cap' spare, (b' = b ∨ st.sz ≤ b') → n + ys.length ≤ cap' → cap' ≤ maxLen → (n + ys.length) * size + spare.length = cap' * size → (n + ys.length ≤ cap → b' = b ∧ cap' = cap ∧ spare = cs.drop ((n + ys.length) * size)) → mono (cs.take (n * size) ++ ys.flatMap V.cells ++ spare) →
      K (.sc (.slice (some ⟨b', 0, none⟩) (n + ys.length) cap')) (st.put b' (cs.take (n * size) ++ ys.flatMap V.cells ++ spare))) ∨
  ∃ ys, x = .sl .nil [] ∧ srcV size st y ys ∧ allSz size ys ∧ 0 < ys.length ∧ ys.length ≤ maxLen ∧ ys.length * bytes ≤ 140737488355328 ∧
    ∀ b' cap' spare, st.sz ≤ b' → ys.length ≤ cap' → cap' ≤ maxLen → ys.length * size + spare.length = cap' * size → mono (ys.flatMap V.cells ++ spare) →
      K (.sc (.slice (some ⟨b', 0, none⟩) ys.length cap')) (st.put b' (ys.flatMap V.cells ++ spare))
def vmks (size bytes : Nat) (z : List V) (x : V) (st : St) (K : V → St → Prop) : Prop :=
  match x with
  | .sc (.int _ n) => 0 ≤ n ∧ (bytes : Int) * n ≤ 281474976710656 ∧ n ≤ 9223372036854775807 ∧ ∀ b, st.sz ≤ b → K (.sc (.slice (some ⟨b, 0, none⟩) n.toNat n.toNat)) (st.put b (List.replicate n.toNat z).flatten)
  | _ => False
def vmko (size bytes : Nat) (z : List V) (x : V) (st : St) (K : V → St → Prop) : Prop :=
  match x with
  | .sc (.int _ n) => 0 ≤ n ∧ (bytes : Int) * n ≤ 281474976710656 ∧ n ≤ 9223372036854775807 ∧ ((∀ g, st.sz ≤ g → K (.sl (.own g size) []) (st.use g 0)) ∨
    ∀ b, st.sz ≤ b → K (.sc (.slice (some ⟨b, 0, none⟩) 0 n.toNat)) (st.put b (List.replicate n.toNat z).flatten))
  | _ => False
def vmup (ag : Bool) (lf : List Lf) (x k v : V) (st : St) (K : St → Prop) : Prop :=
  match x with
  | .sc (.map (some b)) => match st.box b with
    | some [.mp ag' lf' es c] => ag' = ag ∧ lf' = lf ∧ kOk ag lf k ∧ K (st.put b [.mp ag lf (mset k v c es) (mclk es k c)])
    | _ => False
  | _ => False
def vmdel (ag : Bool) (lf : List Lf) (x k : V) (st : St) (K : St → Prop) : Prop :=
  match x with
  | .sc (.map none) => kOk ag lf k ∧ K st
  | .sc (.map (some b)) => match st.box b with
    | some [.mp ag' lf' es c] => ag' = ag ∧ lf' = lf ∧ kOk ag lf k ∧ K (st.put b [.mp ag lf (mdel k es) c])
    | _ => False
  | _ => False
def vrng (x : V) (st : St) (K : V → St → Prop) : Prop :=
  match x with
  | .sc (.map none) => ∀ r, st.sz ≤ r → K (ptrV r) (st.put r [.it none 0 [] 0])
  | .sc (.map (some b)) => match st.box b with
    | some [.mp _ _ _ c] => ∀ r, st.sz ≤ r → K (ptrV r) (st.put r [.it (some b) c [] c])
    | _ => False
  | _ => False
def vnxt (x : V) (st : St) (K : V → St → Prop) : Prop :=
  match x with
  | .sc (.pointer (some ⟨r, 0, none⟩)) => match st.box r with
    | some [.it none _ _ _] => K (.tup [.sc (.bool false)]) st
    | some [.it (some m) since seen last] => match st.box m with
      | some [.mp _ _ es c] => (∀ e ∈ es, e.2.2 < since) ∧ since ≤ last ∧ ((∀ e ∈ es, e.2.2 ∈ seen) → K (.tup [.sc (.bool false)]) st) ∧
          ∀ e ∈ es, e.2.2 ∉ seen → K (.tup [.sc (.bool true), e.1, e.2.1]) (st.put r [.it (some m) since (seen ++ [e.2.2]) c])
      | _ => False
    | _ => False
  | _ => False
def vment (ag : Bool) (lf : List Lf) (z x k : V) (st : St) (K : V → St → Prop) : Prop :=
  match x with
  | .sc (.map (some b)) => match st.box b with
    | some [.mp ag' lf' es c] => ag' = ag ∧ lf' = lf ∧ kOk ag lf k ∧ K (.tup [(mfind k es).getD z, .sc (.int .i64 (mborn k c es))]) (st.put b [.mp ag lf (mset k ((mfind k es).getD z) c es) (mclk es k c)])
    | _ => False
  | _ => False
def vest (x s v : V) (st : St) (K : St → Prop) : Prop :=
  match x, s with
  | .sc (.map (some b)), .sc (.int .i64 n) => 0 ≤ n ∧ match st.box b with
    | some [.mp ag lf es c] => (∃ e ∈ es, e.2.2 = n.toNat) ∧ K (st.put b [.mp ag lf (mstamp n.toNat v es) c])
    | _ => False
  | _, _ => False
def vclr (size : Nat) (z : List V) (x : V) (st : St) (K : St → Prop) : Prop :=
  match x with
  | .sl _ [] => K st
  | .sc (.slice (some ⟨b, o, none⟩) n _) => match st.box b with
    | some cs => o + n * size ≤ cs.length ∧ mono cs ∧ K (st.put b (splice cs o (List.replicate n z).flatten))
    | none => False
  | _ => False
def vcalv (P : Program) (x : V) (args : List V) (st : St) (K : V → St → Prop) : Prop :=
  match x with
  | .sc (.func (.func f) first cap) => callable P f = true ∧ (∀ v ∈ first.toList ++ cap.toList, v.oneCell' = true) ∧ VCalls P f (first.toList.map V.sc ++ args ++ cap.toList.map V.sc) st K
  | _ => False
/-- One operation's step. -/
def vop (P : Program) (o : VOp) (st : St) (A : Nat → V) (K : V → St → Prop) : Prop :=
  match o with
  | .box x => (x.ev A).cells.length ≠ 0 ∧ ∀ b, st.sz ≤ b → K (ptrV b) (st.put b (x.ev A).cells)
  | .alc z => ∀ b, st.sz ≤ b → K (ptrV b) (st.put b z)
  | .alcX z => ∀ b, st.box b = none → st.own b = none → K (ptrV b) (st.put b z)
  | .boxX x => (x.ev A).cells.length ≠ 0 ∧ ∀ b, st.box b = none → st.own b = none → K (ptrV b) (st.put b (x.ev A).cells)
  | .bslo size xs => allLen size (xs.map fun x => strip (x.ev A)) ∧ ((∀ g, st.sz ≤ g → K (.sl (.own g size) (xs.map fun x => strip (x.ev A))) (st.use g xs.length)) ∨
      ∀ b, st.sz ≤ b → K (.sc (.slice (some ⟨b, 0, none⟩) xs.length xs.length)) (st.put b ((xs.map fun x => strip (x.ev A)).flatMap V.cells)))
  | .mks size bytes z x => vmks size bytes z (x.ev A) st K
  | .mko size bytes z x => vmko size bytes z (x.ev A) st K
  | .store size x y => vstore size (x.ev A) (y.ev A) st (K .und)
  | .app size bytes x y => vapp size bytes (x.ev A) (y.ev A) st K
  | .appx size bytes z x y => (srcX z (y.ev A)).1 ∧ vapp size bytes (x.ev A) (srcX z (y.ev A)).2 st K
  | .call f args => VCalls P f (args.map fun x => x.ev A) st fun r st' => r.Ok → K r st'
  | .mkm ag lf => ∀ b, st.sz ≤ b → K (.sc (.map (some b))) (st.put b [.mp ag lf [] 0])
  | .mup ag lf x k v => vmup ag lf (x.ev A) (k.ev A) (v.ev A) st (K .und)
  | .mdel ag lf x k => vmdel ag lf (x.ev A) (k.ev A) st (K (.tup []))
  | .rng x => vrng (x.ev A) st K
  | .nxt x => vnxt (x.ev A) st K
  | .ment ag lf z x k => vment ag lf z (x.ev A) (k.ev A) st K
  | .est x s v => vest (x.ev A) (s.ev A) (v.ev A) st (K .und)
  | .clr size z x => vclr size z (x.ev A) st (K (.tup []))
  | .calv x args => vcalv P (x.ev A) (args.map fun x => x.ev A) st fun r st' => r.Ok → K r st'
  | o => (pop st A o).1 ∧ K (pop st A o).2 st

section
variable {P : Program} {w0 : Fr} {G : Gh} {st : St} {w : World} {A : Nat → V} {a : Act}

def VOp.isPop : VOp → Bool
  | .box _ | .alc _ | .alcX _ | .boxX _ | .mks _ _ _ _ | .mko _ _ _ _ | .bslo _ _ | .store _ _ _ | .app _ _ _ _ | .appx _ _ _ _ _ | .call _ _ | .mkm _ _ | .mup _ _ _ _ _ | .mdel _ _ _ _ | .rng _ | .nxt _ | .ment _ _ _ _ _ | .est _ _ _ | .clr _ _ _ | .calv _ _ => false
  | _ => true
theorem mapM_get {α β : Type} {f : α → Option β} : ∀ {l : List α} {r : List β} (_ : l.mapM f = some r), r.length = l.length ∧ ∀ (i : Nat) (x : α) (y : β), l[i]? = some x → r[i]? = some y → f x = some y
  | [], r, h => by simp at h; subst h; exact ⟨rfl, fun i x y hx => by simp at hx⟩
  | x :: l, r, h => by
    simp only [List.mapM_cons, Option.pure_def, Option.bind_eq_bind, Option.bind_eq_some_iff, Option.some.injEq] at h
    obtain ⟨y, hy, ys, hys, rfl⟩ := h
    obtain ⟨h1, h2⟩ := mapM_get hys
    refine ⟨by simp [h1], fun i x' y' hx hy' => ?_⟩
    cases i with
    | zero => simp at hx hy'; subst hx; subst hy'; exact hy
    | succ i => exact h2 i x' y' (by simpa using hx) (by simpa using hy')
theorem opt_rep {x : Option Operand} {X' : Option X} (hx : cxo x = some X') {l : List Nat} (hr : RelOn l G A a) (hl : ∀ t ∈ oreads X', t ∈ l) :
    oRep G (X'.map fun x => x.ev A) (x.map a.eval) := by
  cases x with
  | none => simp only [cxo, Option.some.injEq] at hx; subst hx; trivial
  | some o =>
    simp only [cxo, Option.map_eq_some_iff] at hx
    obtain ⟨y, hy, rfl⟩ := hx
    exact cx_rep hy hr hl
theorem run_v {s : Sem Value} {u : Value} {w' : World} (h : s.run P w = .ok u w') : (do pure (Next.value (← s)) : Sem Next).run P w = .ok (.value u) w' := by simp [h]

/-- An append's step. -/
theorem vapp_sound {t t2 elem ty : TypeId} {e : TypeInfo} {z : Value} (hw : RepW w0 G st w) (hu : P.underlying t = some (.slice elem)) (he : P.info? elem = some e) (hz : e.zero = some z) (hzs : z.cells.size = e.size) (hz1 : z.cells.all Value.oneCell' = true) (hsz : 0 < e.size)
    {x y : V} {u v : Value} (r1 : Rep1 G x u) (hsrc : ∀ ys, srcV e.size st y ys → allSz e.size ys → ys.length ≤ maxLen → ys.length * e.bytes ≤ 140737488355328 → SrcOk P G w t t2 elem e z v ys) {K : V → St → Prop} (h : vapp e.size e.bytes x y st K) :
    ∃ r w' G' rv st', (Builtin.append_ #[t, t2] ty #[u, v]).run P w = .ok r w' ∧ K rv st' ∧ Rep1 G' rv r ∧ G.le G' ∧ RepW w0 G' st' w' := by
  have mulle : ∀ {a b : Nat}, a ≤ b → a * e.bytes ≤ b * e.bytes := fun h => Nat.mul_le_mul_right _ h
  rcases h with ⟨l, ys, k1, k2, k3, k4, k5, k6⟩ | ⟨b, n, cap, cs, ys, kx, kb, kl, kmo, kn, kc, k2, k3, k4, k5, k6⟩ | ⟨ys, kx, k2, k3, k1, k4, k5, k6⟩
  · have hsr := hsrc ys k2 k3 (by omega) (Nat.le_trans (mulle (by omega)) k5)
    obtain ⟨r, w', G', rv, st', hrun, j1, j2, j3, j4, j5⟩ := app_sound (P := P) (ty := ty) hw hu he hz hzs hsz r1 k1 hsr k3 k4 k5
    exact ⟨r, w', G', rv, st', hrun, k6 rv st' j4 j5, j1, j2, j3⟩
  · have hsr := hsrc ys k2 k3 (by omega) (Nat.le_trans (mulle (by omega)) k5)
    rw [kx] at r1
    have hux := r1.sc_inv
    obtain ⟨b', cap', spare, w', hrun, j1, j2, j3, j4, jin, jmo, j5⟩ := appB_sound (P := P) (ty := ty) hw hu he hz hzs (Array.all_eq_true_iff_forall_mem.1 hz1) hsz kb kl kmo kn kc hsr k3 k4 k5
    rw [← hux] at hrun
    exact ⟨_, w', G, _, _, hrun, k6 b' cap' spare j1 j2 j3 j4 jin jmo, .sc _ rfl, .refl G, j5⟩
  · have hsr := hsrc ys k2 k3 k4 k5
    rw [kx] at r1
    have hux : u = .slice none 0 0 := by
      cases r1 with
      | nil => rfl
      | sl _ _ _ _ _ _ _ _ _ _ _ _ _ ho => exact absurd rfl ho
    obtain ⟨b', cap', spare, w', hrun, j1, j2, j3, j4, jmo, j5⟩ := appN_sound (P := P) (ty := ty) hw hu he hz hzs (Array.all_eq_true_iff_forall_mem.1 hz1) hsz hsr k3 k1 k4 k5
    rw [← hux] at hrun
    exact ⟨_, w', G, _, _, hrun, k6 b' cap' spare j1 j2 j3 j4 jmo, .sc _ rfl, .refl G, j5⟩
theorem srcX_str {y : V} (h : (srcX none y).1) : ∃ s, y = .sc (.string s) := by
  cases y with
  | sc v => cases v with
    | string s => exact ⟨s, rfl⟩
    | _ => exact h.elim
  | _ => exact h.elim
theorem srcX_zero {d y : V} (h : (srcX (some d) y).1) : ∃ k n, y = .sc (.int k n) ∧ 0 ≤ n := by
  cases y with
  | sc v => cases v with
    | int k n => exact ⟨k, n, rfl, h⟩
    | _ => exact h.elim
  | _ => exact h.elim
theorem zeroCells'_sc {elem : TypeId} {e : TypeInfo} {z v : Value} (he : P.info? elem = some e) (hz : e.zero = some z) (h : zeroCells' P elem = some [.sc v]) : RepL G (V.sc v).cells z.cells := by
  unfold zeroCells' at h
  rw [he] at h
  simp only [hz] at h
  split at h
  · rename_i hc
    simp only [Bool.and_eq_true, Array.all_eq_true_iff_forall_mem] at hc
    simp only [Option.some.injEq] at h
    have hlen : z.cells.size = 1 := by have := congrArg List.length h; simpa using this
    refine ⟨by rw [hlen]; rfl, fun i u hu => hc.2 _ (Array.mem_of_getElem? hu), fun i c u hcc hu => ?_⟩
    have : (z.cells.toList.map cellV)[i]? = some c := by rw [h]; exact hcc
    simp only [List.getElem?_map, Array.getElem?_toList, hu, Option.map_some, Option.some.injEq] at this
    rw [← this]
    exact cellV_rep G (hc.2 _ (Array.mem_of_getElem? hu))
  · cases h
theorem eqKind_bool {op : BinOp} {t : TypeId} {y : Operand} {neg : Bool} (h : eqKind P op t y = some (.inl neg)) : op = (if neg then .neq else .eql) ∧ P.underlying t = some .bool := by
  unfold eqKind at h
  split at h <;> simp only [Option.some.injEq, Sum.inl.injEq, reduceCtorEq] at h
  · subst h; exact ⟨rfl, by assumption⟩
  · subst h; exact ⟨rfl, by assumption⟩
theorem eqKind_slice {op : BinOp} {t : TypeId} {y : Operand} {neg : Bool} (h : eqKind P op t y = some (.inr (false, neg))) : op = (if neg then .neq else .eql) ∧ ∃ e, P.underlying t = some (.slice e) ∧ y = .const (.slice none 0 0) := by
  unfold eqKind at h
  split at h <;> simp only [Option.some.injEq, Sum.inr.injEq, Prod.mk.injEq, reduceCtorEq, true_and, false_and, Bool.true_eq_false] at h
  · subst h; exact ⟨rfl, _, by assumption, rfl⟩
  · subst h; exact ⟨rfl, _, by assumption, rfl⟩
theorem eqKind_ptr {op : BinOp} {t : TypeId} {y : Operand} {neg : Bool} (h : eqKind P op t y = some (.inr (true, neg))) : op = (if neg then .neq else .eql) ∧ ∃ e, P.underlying t = some (.pointer e) ∧ y = .const (.pointer none) := by
  unfold eqKind at h
  split at h <;> simp only [Option.some.injEq, Sum.inr.injEq, Prod.mk.injEq, reduceCtorEq, true_and, false_and, Bool.false_eq_true] at h
  · subst h; exact ⟨rfl, _, by assumption, rfl⟩
  · subst h; exact ⟨rfl, _, by assumption, rfl⟩
theorem mk_inv' {own : Bool} {t : TypeId} {l c : Operand} {vo : VOp} (h : cOp P own (.makeSlice t l c) = some vo) : ∃ elem e z, P.underlying t = some (.slice elem) ∧ P.info? elem = some e ∧ zeroCells' P elem = some z ∧ z.length = e.size ∧ 0 < e.size ∧
    ((∃ (_ : Unit) (x' : X), (∀ {A : Nat → V} {a : Act} {G : Gh}, RelOn x'.reads G A a → Rep1 G (x'.ev A) (a.eval l)) ∧ (∀ {A : Nat → V} {a : Act} {G : Gh}, RelOn x'.reads G A a → Rep1 G (x'.ev A) (a.eval c)) ∧ True ∧ vo = .mks e.size e.bytes z x') ∨
     (∃ (_ : Unit) (x' : X), (∀ {A : Nat → V} {a : Act} {G : Gh}, RelOn x'.reads G A a → Rep1 G (x'.ev A) (a.eval c)) ∧ l = .const (.int .i64 0) ∧ vo = .mko e.size e.bytes z x')) := by
  simp only [cOp] at h
  split at h
  · rename_i elem hu
    split at h
    · rename_i e hi
      split at h
      · rename_i z hz
        split at h
        · rename_i hzl
          refine ⟨elem, e, z, hu, hi, hz, hzl.1, hzl.2, ?_⟩
          split at h
          · simp only [Option.pure_def, Option.bind_eq_bind, Option.bind_eq_some_iff, Option.some.injEq] at h
            obtain ⟨x', hx, rfl⟩ := h
            exact .inr ⟨(), x', fun hr => cx_rep hx hr fun t ht => ht, rfl, rfl⟩
          · split at h
            · rename_i x y hxy
              simp only [Option.some.injEq] at h
              subst hxy; subst h
              exact .inl ⟨(), .t x, fun hr => cx_rep (o := .tmp x) rfl hr fun t ht => ht, fun hr => cx_rep (o := .tmp x) rfl hr fun t ht => ht, trivial, rfl⟩
            · cases h
          · split at h
            · rename_i x y _ hxy
              simp only [Option.some.injEq] at h
              subst hxy; subst h
              exact .inl ⟨(), .c (.sc (.int .i64 x)), fun hr => .sc _ rfl, fun hr => .sc _ rfl, trivial, rfl⟩
            · cases h
          · cases h
        · cases h
      · cases h
    · cases h
  · cases h
theorem mapK_inv {t : TypeId} {m : Bool × List Lf} (h : mapK P t = some m) : ∃ kt et, P.underlying t = some (.map kt et) ∧ leafs P 8 kt = some m.2 ∧ m.1 = isA P kt := by
  unfold mapK at h
  split at h
  · rename_i k e hu
    simp only [Option.map_eq_some_iff] at h
    obtain ⟨l, hl, rfl⟩ := h
    exact ⟨k, e, hu, hl, rfl⟩
  · cases h
theorem mapZ_inv {t kt et : TypeId} {z : V} (hu : P.underlying t = some (.map kt et)) (h : mapZ P t = some z) : zeroV P et = some z := by
  unfold mapZ at h
  rw [hu] at h
  exact h
theorem allSc_rep : ∀ {l : List V} {r : List Value} (_ : allSc l = some r) {us : List Value}, us.length = l.length → (∀ (i : Nat) (d : V) (u : Value), l[i]? = some d → us[i]? = some u → Rep1 G d u) → us = r
  | [], r, h, us, hl, _ => by
    simp only [allSc, Option.some.injEq] at h
    subst h
    exact List.eq_nil_of_length_eq_zero hl
  | d :: l, r, h, [], hl, _ => by simp at hl
  | d :: l, r, h, u :: us, hl, hr => by
    unfold allSc at h
    split at h
    · rename_i e; cases e
    · rename_i v l' e
      cases e
      simp only [Option.map_eq_some_iff] at h
      obtain ⟨r', hr', rfl⟩ := h
      rw [allSc_rep hr' (us := us) (by simpa using hl) (fun i d u hd hu => hr (i + 1) d u (by simpa using hd) (by simpa using hu)), (hr 0 _ u rfl rfl).sc_inv]
    · cases h
theorem mapM_reps {l : List Operand} {xs : List X} (h : l.mapM cx = some xs) (hr : ∀ t ∈ xs.flatMap X.reads, Rep1 G (A t) (a.tmps.getD t undef)) : ∀ (i : Nat) (d : V) (u : Value), (xs.map fun x => x.ev A)[i]? = some d → (l.map a.eval)[i]? = some u → Rep1 G d u := fun i d u hd hu => by
  obtain ⟨hlen, hget⟩ := mapM_get h
  simp only [List.getElem?_map, Option.map_eq_some_iff] at hd hu
  obtain ⟨x, hx, rfl⟩ := hd
  obtain ⟨o', ho, rfl⟩ := hu
  exact cx_rep (hget i o' x ho hx) (l := xs.flatMap X.reads) hr (fun t ht => List.mem_flatMap.2 ⟨x, List.mem_of_getElem? hx, ht⟩)
theorem pop_sound {own : Bool} {o : Oper} {vo : VOp} (hc : cOp P own o.op = some vo) (hp : vo.isPop = true) (hw : RepW w0 G st w) (hr : RelOn vo.reads G A a) (hs : (pop st A vo).1) :
    ∃ u w' G', (execOp a.eval o).run P w = .ok (.value u) w' ∧ Rep1 G' (pop st A vo).2 u ∧ G.le G' ∧ RepW w0 G' st w' := by
  have keep : ∀ {s : Sem Value} {r : V}, (∃ u, s.run P w = .ok u w ∧ Rep1 G r u) → ∃ u w' G', (do pure (Next.value (← s)) : Sem Next).run P w = .ok (.value u) w' ∧ Rep1 G' r u ∧ G.le G' ∧ RepW w0 G' st w' :=
    fun ⟨u, h1, h2⟩ => ⟨u, w, G, run_v h1, h2, .refl G, hw⟩
  unfold execOp
  cases hop : o.op <;> simp only [hop, cOp] at hc ⊢ <;> try (cases hc; done)
  case move x =>
    simp only [Option.map_eq_some_iff] at hc
    obtain ⟨x', hx, rfl⟩ := hc
    exact ⟨_, w, G, rfl, cx_rep hx hr (fun t h => h), .refl G, hw⟩
  case assign x =>
    simp only [Option.map_eq_some_iff] at hc
    obtain ⟨x', hx, rfl⟩ := hc
    exact ⟨_, w, G, rfl, cx_rep hx hr (fun t h => h), .refl G, hw⟩
  case pick c x y =>
    simp only [Option.pure_def, Option.bind_eq_bind, Option.bind_eq_some_iff, Option.some.injEq] at hc
    obtain ⟨c', h1, x', h2, y', h3, rfl⟩ := hc
    have r1 := cx_rep h1 hr (by simp only [VOp.reads, List.mem_append]; exact fun t h => .inl (.inl h))
    have r2 := cx_rep h2 hr (by simp only [VOp.reads, List.mem_append]; exact fun t h => .inl (.inr h))
    have r3 := cx_rep h3 hr (by simp only [VOp.reads, List.mem_append]; exact fun t h => .inr h)
    simp only [pop] at hs ⊢
    unfold vpick at hs ⊢
    split at hs
    · rename_i b hb
      rw [hb] at r1
      have e1 := r1.sc_inv
      refine ⟨if b then a.eval x else a.eval y, w, G, by simp only [e1, asBool, Sem.run_bind, Sem.run_pure, Result.andThen_ok], ?_, .refl G, hw⟩
      cases b
      · exact r3
      · exact r2
    · exact hs.elim
  case alloc t =>
    simp only [Option.map_eq_some_iff] at hc
    obtain ⟨z, _, rfl⟩ := hc
    simp [VOp.isPop] at hp
  case box t x =>
    simp only [Option.map_eq_some_iff] at hc
    obtain ⟨z, _, rfl⟩ := hc
    simp [VOp.isPop] at hp
  case store t x y =>
    simp only [Option.pure_def, Option.bind_eq_bind, Option.bind_eq_some_iff, Option.some.injEq] at hc
    obtain ⟨_, _, _, _, _, _, rfl⟩ := hc
    simp [VOp.isPop] at hp
  case binOp op xt x y yt =>
    split at hc
    · rename_i neg he
      simp only [Option.pure_def, Option.bind_eq_bind, Option.bind_eq_some_iff, Option.some.injEq] at hc
      obtain ⟨x', h1, y', h2, rfl⟩ := hc
      have r1 := cx_rep h1 hr (by simp only [VOp.reads, List.mem_append]; exact fun t h => .inl h)
      have r2 := cx_rep h2 hr (by simp only [VOp.reads, List.mem_append]; exact fun t h => .inr h)
      obtain ⟨hop', hu⟩ := eqKind_bool he
      have := vbinb_sound (P := P) (G := G) hu x y r1 r2 hs w
      rw [← hop'] at this
      exact keep this
    · rename_i neg he
      simp only [Option.pure_def, Option.bind_eq_bind, Option.bind_eq_some_iff, Option.some.injEq] at hc
      obtain ⟨x', h1, rfl⟩ := hc
      obtain ⟨hop', e, hu, hy⟩ := eqKind_slice he
      have := visnil_sound (P := P) (G := G) hu x y (cx_rep h1 hr (fun t h => h)) hs w
      rw [← hop'] at this
      subst hy
      exact keep this
    · rename_i neg he
      simp only [Option.pure_def, Option.bind_eq_bind, Option.bind_eq_some_iff, Option.some.injEq] at hc
      obtain ⟨x', h1, rfl⟩ := hc
      obtain ⟨hop', e, hu, hy⟩ := eqKind_ptr he
      have := vpnil_sound (P := P) (G := G) hu x y (cx_rep h1 hr (fun t h => h)) hs w
      rw [← hop'] at this
      subst hy
      exact keep this
    · split at hc
      · rename_i neg l he
        simp only [Option.pure_def, Option.bind_eq_bind, Option.bind_eq_some_iff, Option.some.injEq] at hc
        obtain ⟨x', h1, y', h2, rfl⟩ := hc
        have r1 := cx_rep h1 hr (by simp only [VOp.reads, List.mem_append]; exact fun t h => .inl h)
        have r2 := cx_rep h2 hr (by simp only [VOp.reads, List.mem_append]; exact fun t h => .inr h)
        exact keep (veqs_sound (P := P) (G := G) he x y r1 r2 hs w)
      · split at hc
        · rename_i neg he
          simp only [Option.pure_def, Option.bind_eq_bind, Option.bind_eq_some_iff, Option.some.injEq] at hc
          obtain ⟨x', h1, rfl⟩ := hc
          obtain ⟨hop', k, e, hu, hy⟩ := mnilOf_inv he
          have := vmnil_sound (P := P) (G := G) hu x y (cx_rep h1 hr (fun t h => h)) hs w
          rw [← hop'] at this
          subst hy
          exact keep this
        simp only [Option.pure_def, Option.bind_eq_bind, Option.bind_eq_some_iff, Option.some.injEq] at hc
        obtain ⟨x', h1, y', h2, rfl⟩ := hc
        have r1 := cx_rep h1 hr (by simp only [VOp.reads, List.mem_append]; exact fun t h => .inl h)
        have r2 := cx_rep h2 hr (by simp only [VOp.reads, List.mem_append]; exact fun t h => .inr h)
        exact keep (vbin_sound xt x y r1 r2 hs w)
  case unOp op xt x =>
    simp only [Option.pure_def, Option.bind_eq_bind, Option.bind_eq_some_iff, Option.some.injEq] at hc
    obtain ⟨x', h1, rfl⟩ := hc
    exact keep (vun_sound (cx_rep h1 hr (fun t h => h)) hs w)
  case convert sT dT x =>
    split at hc
    · rename_i hb
      simp only [Option.map_eq_some_iff] at hc
      obtain ⟨x', hx, rfl⟩ := hc
      cases own
      · exact keep (vb2sB_sound hb hw (cx_rep hx hr (fun t h => h)) hs)
      · exact keep (vb2s_sound hb hw (cx_rep hx hr (fun t h => h)) hs)
    · split at hc
      · rename_i hb
        simp only [Option.map_eq_some_iff] at hc
        obtain ⟨x', hx, rfl⟩ := hc
        obtain ⟨r, w', G', h1, h2, h3, h4⟩ := s2b_sound (P := P) hb hw (cx_rep hx hr (fun t h => h)) hs
        exact ⟨r, w', G', run_v h1, h2, h3, h4⟩
      simp only [Option.pure_def, Option.bind_eq_bind, Option.bind_eq_some_iff, Option.some.injEq] at hc
      obtain ⟨k, h0, x', h1, rfl⟩ := hc
      unfold intOf2? at h0
      split at h0
      · rename_i sd k' hsd hk
        simp only [Option.some.injEq] at h0
        subst h0
        exact keep (vconv_sound hsd hk (cx_rep h1 hr (fun t h => h)) hs)
      · cases h0
  case makeSlice t l c =>
    have hc' : cOp P own (.makeSlice t l c) = some vo := by simp only [cOp]; exact hc
    obtain ⟨_, _, _, _, _, _, _, _, hm⟩ := mk_inv' hc'
    rcases hm with ⟨_, _, _, _, _, h⟩ | ⟨_, _, _, _, h⟩ <;> (rw [h] at hp; simp [VOp.isPop] at hp)
  case fieldAddr sT x f =>
    split at hc
    · rename_i fields hu
      split at hc
      · rename_i fd hf
        split at hc
        · rename_i i hi
          split at hc
          · cases hc
          · rename_i h0
            simp only [Option.map_eq_some_iff] at hc
            obtain ⟨x', hx, rfl⟩ := hc
            exact keep (vfld_sound hu hf hi h0 (cx_rep hx hr (fun t h => h)) hs)
        · cases hc
      · cases hc
    · cases hc
  case indexAddr t x i =>
    split at hc
    · rename_i elem hu
      split at hc
      · rename_i e he
        simp only [Option.pure_def, Option.bind_eq_bind, Option.bind_eq_some_iff, Option.some.injEq] at hc
        obtain ⟨x', h1, y', h2, rfl⟩ := hc
        exact keep (vix_sound hu he (cx_rep h1 hr (by simp only [VOp.reads, List.mem_append]; exact fun t h => .inl h)) (cx_rep h2 hr (by simp only [VOp.reads, List.mem_append]; exact fun t h => .inr h)) hs)
      · cases hc
    · rename_i n elem hu
      split at hc
      · rename_i e he
        simp only [Option.pure_def, Option.bind_eq_bind, Option.bind_eq_some_iff, Option.some.injEq] at hc
        obtain ⟨x', h1, y', h2, rfl⟩ := hc
        exact keep (vixa_sound hu he (cx_rep h1 hr (by simp only [VOp.reads, List.mem_append]; exact fun t h => .inl h)) (cx_rep h2 hr (by simp only [VOp.reads, List.mem_append]; exact fun t h => .inr h)) hs)
      · cases hc
    · cases hc
  case index t x i =>
    split at hc
    · rename_i hu
      simp only [Option.pure_def, Option.bind_eq_bind, Option.bind_eq_some_iff, Option.some.injEq] at hc
      obtain ⟨x', h1, y', h2, rfl⟩ := hc
      exact keep (sidx_sound hu (cx_rep h1 hr (by simp only [VOp.reads, List.mem_append]; exact fun t h => .inl h)) (cx_rep h2 hr (by simp only [VOp.reads, List.mem_append]; exact fun t h => .inr h)) hs w)
    · rename_i n elem hu
      split at hc
      · rename_i e he
        split at hc
        · rename_i hcond
          simp only [Option.pure_def, Option.bind_eq_bind, Option.bind_eq_some_iff, Option.some.injEq] at hc
          obtain ⟨x', h1, y', h2, rfl⟩ := hc
          exact keep (aidx_sound hu he hcond.1 hcond.2.1 hcond.2.2 (cx_rep h1 hr (by simp only [VOp.reads, List.mem_append]; exact fun t h => .inl h)) (cx_rep h2 hr (by simp only [VOp.reads, List.mem_append]; exact fun t h => .inr h)) hs w)
        · cases hc
      · cases hc
    · cases hc
  case load t x =>
    simp only [Option.pure_def, Option.bind_eq_bind, Option.bind_eq_some_iff, Option.some.injEq] at hc
    obtain ⟨⟨n, size⟩, h0, x', h1, rfl⟩ := hc
    exact keep (vload_sound h0 hw (cx_rep h1 hr (fun t h => h)) hs)
  case nilCheck x =>
    simp only [Option.map_eq_some_iff] at hc
    obtain ⟨x', hx, rfl⟩ := hc
    have r1 := cx_rep hx hr (fun t h => h)
    simp only [pop] at hs ⊢
    unfold vnil at hs ⊢
    split at hs
    · rename_i b hb
      rw [hb] at r1
      rw [r1.sc_inv]
      exact ⟨_, w, G, rfl, .sc _ rfl, .refl G, hw⟩
    · rename_i cs off hb
      rw [hb] at r1
      have r2 := r1
      generalize a.eval x = u at r1 r2
      cases r1
      exact ⟨_, w, G, rfl, r2, .refl G, hw⟩
    · exact hs.elim
  case extract x i =>
    simp only [Option.map_eq_some_iff] at hc
    obtain ⟨x', hx, rfl⟩ := hc
    exact keep (vext_sound (cx_rep hx hr (fun t h => h)) hs)
  case build t parts =>
    simp only [Option.pure_def, Option.bind_eq_bind, Option.bind_eq_some_iff, Option.some.injEq] at hc
    obtain ⟨z, hz, pl, hpl, ps, hps, rfl⟩ := hc
    obtain ⟨hlen, hget⟩ := mapM_get hps
    have e : (parts.map fun x => (x.1, a.eval x.2)) = ((parts.toList.map fun x => (x.1, a.eval x.2))).toArray := by rw [← Array.toList_map, Array.toArray_toList]
    have hs' : (fillV z (ps.map fun p => (p.1, p.2.1, p.2.2.ev A))).1 := hs
    have := build_sound (P := P) (G := G) (parts := parts.toList.map fun x => (x.1, a.eval x.2)) (ps := ps.map fun p => (p.1, p.2.1, p.2.2.ev A)) hz hpl (by simp [hlen]) (fun i p q hp hq => by
      simp only [List.getElem?_map, Option.map_eq_some_iff] at hp hq
      obtain ⟨p', hp', rfl⟩ := hp
      obtain ⟨q', hq', rfl⟩ := hq
      have h1 := hget i q' p' hq' hp'
      simp only [Option.bind_eq_some_iff, Option.some.injEq] at h1
      obtain ⟨y, hy, y2, hy2, xx, hxx, rfl⟩ := h1
      rw [hy] at hy2; cases hy2
      refine ⟨hy, cx_rep hxx hr (fun t ht => ?_)⟩
      simp only [VOp.reads, List.mem_flatMap]
      exact ⟨_, List.mem_of_getElem? hp', ht⟩) hs' w
    rw [← e] at this
    exact keep this
  case buildSlice t len parts =>
    split at hc
    · rename_i elem hu
      split at hc
      · rename_i e he
        split at hc
        · rename_i hcond
          simp only [Option.pure_def, Option.bind_eq_bind, Option.bind_eq_some_iff] at hc
          obtain ⟨xs, hxs, z, hz, hc⟩ := hc
          split at hc
          · rename_i hzl
            cases own
            · simp only [Bool.false_eq_true, if_false, Option.some.injEq] at hc
              subst hc
              obtain ⟨hlen, hget⟩ := mapM_get hxs
              have hpl : parts.toList.length = len := by have := congrArg List.length hcond.1; simpa using this
              have ee : (parts.map fun x => (x.1, a.eval x.2)) = ((parts.toList.map fun x => (x.1, a.eval x.2))).toArray := by rw [← Array.toList_map, Array.toArray_toList]
              have hs' : allLen e.size (xs.map fun x => strip (x.ev A)) := hs
              obtain ⟨r, w', G', h1, h2, h3, h4⟩ := bsl_sound (P := P) hw hu he hcond.2.2 hcond.2.1 hz hzl (parts := parts.toList.map fun x => (x.1, a.eval x.2)) (by rw [List.map_map]; exact hcond.1) (ds := xs.map fun x => strip (x.ev A)) (by simp [hlen, hpl]) (fun i d q hd hq => by
                simp only [List.getElem?_map, Option.map_eq_some_iff] at hd hq
                obtain ⟨x', hx', rfl⟩ := hd
                obtain ⟨q', hq', rfl⟩ := hq
                refine strip_rep (cx_rep (hget i q' x' hq' hx') hr (fun t ht => ?_))
                simp only [VOp.reads, List.mem_flatMap]
                exact ⟨_, List.mem_of_getElem? hx', ht⟩) hs'
              rw [← ee] at h1
              exact ⟨r, w', G', run_v h1, h2, h3, h4⟩
            · simp only [if_true, Option.some.injEq] at hc
              subst hc
              simp [VOp.isPop] at hp
          · cases hc
        · cases hc
      · cases hc
    · cases hc
  case slice t x lo hi mx =>
    split at hc
    · rename_i elem hu
      split at hc
      · rename_i e he
        simp only [Option.pure_def, Option.bind_eq_bind, Option.bind_eq_some_iff, Option.some.injEq] at hc
        obtain ⟨x', h1, lo', h2, hi', h3, rfl⟩ := hc
        exact keep (vslc_sound hu he (cx_rep h1 hr (by simp only [VOp.reads, List.mem_append]; exact fun t h => .inl (.inl h))) (opt_rep h2 hr (by simp only [VOp.reads, List.mem_append]; exact fun t h => .inl (.inr h))) (opt_rep h3 hr (by simp only [VOp.reads, List.mem_append]; exact fun t h => .inr h)) hs)
      · cases hc
    · rename_i hu
      simp only [Option.pure_def, Option.bind_eq_bind, Option.bind_eq_some_iff, Option.some.injEq] at hc
      obtain ⟨x', h1, lo', h2, hi', h3, rfl⟩ := hc
      exact keep (vsslc_sound hu (cx_rep h1 hr (by simp only [VOp.reads, List.mem_append]; exact fun t h => .inl (.inl h))) (opt_rep h2 hr (by simp only [VOp.reads, List.mem_append]; exact fun t h => .inl (.inr h))) (opt_rep h3 hr (by simp only [VOp.reads, List.mem_append]; exact fun t h => .inr h)) hs)
    · rename_i n elem hu
      split at hc
      · rename_i e he
        simp only [Option.pure_def, Option.bind_eq_bind, Option.bind_eq_some_iff, Option.some.injEq] at hc
        obtain ⟨x', h1, lo', h2, hi', h3, rfl⟩ := hc
        exact keep (vslcA_sound hu he (cx_rep h1 hr (by simp only [VOp.reads, List.mem_append]; exact fun t h => .inl (.inl h))) (opt_rep h2 hr (by simp only [VOp.reads, List.mem_append]; exact fun t h => .inl (.inr h))) (opt_rep h3 hr (by simp only [VOp.reads, List.mem_append]; exact fun t h => .inr h)) hs)
      · cases hc
    · rename_i m elem hu
      split at hc
      · rename_i e h he
        simp only [Option.pure_def, Option.bind_eq_bind, Option.bind_eq_some_iff, Option.some.injEq] at hc
        obtain ⟨x', h1, lo', h2, y', h3, z', h4, rfl⟩ := hc
        exact keep (vslc3_sound hu he (cx_rep h1 hr (by simp only [VOp.reads, List.mem_append]; exact fun t h => .inl (.inl (.inl h)))) (opt_rep h2 hr (by simp only [VOp.reads, List.mem_append]; exact fun t h => .inl (.inl (.inr h)))) (cx_rep h3 hr (by simp only [VOp.reads, List.mem_append]; exact fun t h => .inl (.inr h))) (cx_rep h4 hr (by simp only [VOp.reads, List.mem_append]; exact fun t h => .inr h)) hs)
      · cases hc
    · cases hc
  case sliceToArrayPointer arr x =>
    split at hc
    · rename_i n elem hu
      split at hc
      · rename_i e he
        split at hc
        · rename_i h0
          simp only [Option.map_eq_some_iff] at hc
          obtain ⟨x', hx, rfl⟩ := hc
          exact keep (vs2a_sound hu h0 (cx_rep hx hr (fun t h => h)) hs)
        · cases hc
      · cases hc
    · cases hc
  case call c =>
    obtain ⟨cal, args, tys⟩ := c
    simp only at hc
    split at hc
    · rename_i f
      split at hc
      · simp only [Option.pure_def, Option.bind_eq_bind, Option.bind_eq_some_iff, Option.some.injEq] at hc
        obtain ⟨_, _, rfl⟩ := hc
        simp [VOp.isPop] at hp
      · cases hc
    · simp only [Option.pure_def, Option.bind_eq_bind, Option.bind_eq_some_iff, Option.some.injEq] at hc
      obtain ⟨_, _, rfl⟩ := hc
      simp [VOp.isPop] at hp
    · split at hc
      · rename_i x t hx ht
        have hx' : args = #[x] := by cases args; simp at hx; simp [hx]
        have ht' : tys = #[t] := by cases tys; simp at ht; simp [ht]
        subst hx' ht'
        split at hc
        · rename_i e hu
          simp only [Option.map_eq_some_iff] at hc
          obtain ⟨x', hx1, rfl⟩ := hc
          obtain ⟨u, h1, h2⟩ := vlen_sound (P := P) (w := w) (ts := #[t]) (ty := o.type) (us := #[a.eval x]) rfl hu rfl (cx_rep hx1 hr (fun t h => h)) hs
          exact ⟨u, w, G, by simp [resolve, invoke, builtin, h1], h2, .refl G, hw⟩
        · rename_i hu
          simp only [Option.map_eq_some_iff] at hc
          obtain ⟨x', hx1, rfl⟩ := hc
          obtain ⟨u, h1, h2⟩ := vslen_sound (P := P) (w := w) (ts := #[t]) (ty := o.type) (us := #[a.eval x]) rfl hu rfl (cx_rep hx1 hr (fun t h => h)) hs
          exact ⟨u, w, G, by simp [resolve, invoke, builtin, h1], h2, .refl G, hw⟩
        · rename_i kt et hu
          simp only [Option.map_eq_some_iff] at hc
          obtain ⟨x', hx1, rfl⟩ := hc
          obtain ⟨u, h1, h2⟩ := mlen_sound (P := P) (ty := o.type) hu hw (cx_rep hx1 hr (fun t h => h)) hs
          exact ⟨u, w, G, by simp [resolve, invoke, builtin, h1], h2, .refl G, hw⟩
        · cases hc
      · cases hc
    · split at hc
      · rename_i x y hx
        have hx' : args = #[x, y] := by cases args; simp at hx; simp [hx]
        subst hx'
        simp only [Option.pure_def, Option.bind_eq_bind, Option.bind_eq_some_iff, Option.some.injEq] at hc
        obtain ⟨x', h1, y', h2, rfl⟩ := hc
        obtain ⟨u, h1, h2⟩ := vmm_sound (P := P) (w := w) (mx := false) (cx_rep h1 hr (by simp only [VOp.reads, List.mem_append]; exact fun t h => .inl h)) (cx_rep h2 hr (by simp only [VOp.reads, List.mem_append]; exact fun t h => .inr h)) hs tys o.type
        simp only [Bool.false_eq_true, if_false] at h1
        exact ⟨u, w, G, by simp [resolve, invoke, builtin, h1], h2, .refl G, hw⟩
      · cases hc
    · split at hc
      · rename_i x y hx
        have hx' : args = #[x, y] := by cases args; simp at hx; simp [hx]
        subst hx'
        simp only [Option.pure_def, Option.bind_eq_bind, Option.bind_eq_some_iff, Option.some.injEq] at hc
        obtain ⟨x', h1, y', h2, rfl⟩ := hc
        obtain ⟨u, h1, h2⟩ := vmm_sound (P := P) (w := w) (mx := true) (cx_rep h1 hr (by simp only [VOp.reads, List.mem_append]; exact fun t h => .inl h)) (cx_rep h2 hr (by simp only [VOp.reads, List.mem_append]; exact fun t h => .inr h)) hs tys o.type
        simp only [if_true] at h1
        exact ⟨u, w, G, by simp [resolve, invoke, builtin, h1], h2, .refl G, hw⟩
      · cases hc
    · split at hc
      · split at hc
        · split at hc
          · split at hc
            · split at hc
              · split at hc
                · simp only [Option.pure_def, Option.bind_eq_bind, Option.bind_eq_some_iff, Option.some.injEq] at hc
                  obtain ⟨_, _, _, _, rfl⟩ := hc
                  simp [VOp.isPop] at hp
                · simp only [Option.pure_def, Option.bind_eq_bind, Option.bind_eq_some_iff, Option.some.injEq] at hc
                  obtain ⟨_, _, _, _, rfl⟩ := hc
                  simp [VOp.isPop] at hp
                · cases hc
              · cases hc
            · cases hc
          · cases hc
        · cases hc
      · cases hc
    · split at hc
      · simp only [Option.pure_def, Option.bind_eq_bind, Option.bind_eq_some_iff, Option.some.injEq] at hc
        obtain ⟨_, _, _, _, _, _, rfl⟩ := hc
        simp [VOp.isPop] at hp
      · cases hc
    · split at hc
      · split at hc
        · split at hc
          · split at hc
            · simp only [Option.map_eq_some_iff] at hc
              obtain ⟨_, _, rfl⟩ := hc
              simp [VOp.isPop] at hp
            · cases hc
          · cases hc
        · cases hc
      · cases hc
    · cases hc
  case makeMap t r =>
    cases r with
    | some r => simp only at hc; cases hc
    | none =>
      simp only [Option.pure_def, Option.bind_eq_bind, Option.bind_eq_some_iff, Option.some.injEq] at hc
      obtain ⟨_, _, rfl⟩ := hc
      simp [VOp.isPop] at hp
  case mapUpdate t x k v =>
    simp only [Option.pure_def, Option.bind_eq_bind, Option.bind_eq_some_iff, Option.some.injEq] at hc
    obtain ⟨_, _, _, _, _, _, _, _, rfl⟩ := hc
    simp [VOp.isPop] at hp
  case insert t x k v =>
    simp only [Option.pure_def, Option.bind_eq_bind, Option.bind_eq_some_iff, Option.some.injEq] at hc
    obtain ⟨_, _, _, _, _, _, _, _, rfl⟩ := hc
    simp [VOp.isPop] at hp
  case mapEntry t x k =>
    simp only [Option.pure_def, Option.bind_eq_bind, Option.bind_eq_some_iff, Option.some.injEq] at hc
    obtain ⟨_, _, _, _, _, _, _, _, rfl⟩ := hc
    simp [VOp.isPop] at hp
  case entryStore t x s v =>
    simp only [Option.pure_def, Option.bind_eq_bind, Option.bind_eq_some_iff, Option.some.injEq] at hc
    obtain ⟨_, _, _, _, _, _, rfl⟩ := hc
    simp [VOp.isPop] at hp
  case range t x =>
    split at hc
    · simp only [Option.map_eq_some_iff] at hc
      obtain ⟨_, _, rfl⟩ := hc
      simp [VOp.isPop] at hp
    · cases hc
  case next x str =>
    split at hc
    · cases hc
    · simp only [Option.map_eq_some_iff] at hc
      obtain ⟨_, _, rfl⟩ := hc
      simp [VOp.isPop] at hp
  case lookup t x k ok =>
    simp only [Option.pure_def, Option.bind_eq_bind, Option.bind_eq_some_iff, Option.some.injEq] at hc
    obtain ⟨m, hm, z, hz, x', h1, k', h2, rfl⟩ := hc
    obtain ⟨kt, et, hu, hl, hag⟩ := mapK_inv hm
    have r1 := cx_rep h1 hr (by simp only [VOp.reads, List.mem_append]; exact fun t h => .inl h)
    have r2 := cx_rep h2 hr (by simp only [VOp.reads, List.mem_append]; exact fun t h => .inr h)
    simp only [pop, hag] at hs ⊢
    exact keep (mlk_sound hu hl (mapZ_inv hu hz) ok hw r1 r2 hs)
  case entry x =>
    simp only [Option.map_eq_some_iff] at hc
    obtain ⟨x', hx, rfl⟩ := hc
    exact keep (ent_sound hw (cx_rep hx hr (fun t h => h)) hs)
  case makeFunc f fs cs =>
    simp only [Option.pure_def, Option.bind_eq_bind, Option.bind_eq_some_iff, Option.some.injEq] at hc
    obtain ⟨xs, h1, ys, h2, rfl⟩ := hc
    have r1 := mapM_reps (G := G) (A := A) (a := a) h1 (fun t ht => hr t (by simp only [VOp.reads, List.mem_append]; exact .inl ht))
    have r2 := mapM_reps (G := G) (A := A) (a := a) h2 (fun t ht => hr t (by simp only [VOp.reads, List.mem_append]; exact .inr ht))
    simp only [pop] at hs ⊢
    unfold vmfn at hs ⊢
    split at hs
    · rename_i u v hu hv
      have e1 := allSc_rep (G := G) hu (us := fs.toList.map a.eval) (by simp [(mapM_get h1).1]) r1
      have e2 := allSc_rep (G := G) hv (us := cs.toList.map a.eval) (by simp [(mapM_get h2).1]) r2
      refine ⟨.func f (fs.map a.eval) (cs.map a.eval), w, G, by simp [Instr.makeFunc], ?_, .refl G, hw⟩
      have k1 : fs.map a.eval = u.toArray := by rw [← e1]; apply Array.toList_inj.1; simp
      have k2 : cs.map a.eval = v.toArray := by rw [← e2]; apply Array.toList_inj.1; simp
      rw [k1, k2]
      exact .sc _ rfl
    · exact hs.elim

/-- What an operation leaves: its slot's value, the state. -/
def Left (P : Program) (w0 : Fr) (G : Gh) (o : Oper) (a : Act) (K : V → St → Prop) (next : Act → World → Prop) : Prop :=
  ∀ r u st' w' G', K r st' → Rep1 G' r u → G.le G' → RepW w0 G' st' w' → next (a.put o.dst u) w'
theorem wp_value {o : Oper} {u : Value} {w' : World} {next : Act → World → Prop} {Q : Exit → Act → World → Prop} (h : (execOp a.eval o).run P w = .ok (.value u) w') (hn : next (a.put o.dst u) w') : o.wp P a w next Q := by
  unfold Oper.wp; rw [h]; exact hn
theorem wp_skip' {o : Oper} {w' : World} {next : Act → World → Prop} {Q : Exit → Act → World → Prop} (h : (execOp a.eval o).run P w = .ok .skip w') (hn : next (a.put o.dst undef) w') : o.wp P a w next Q := by
  unfold Oper.wp; rw [h]; exact hn
theorem callable_run {f : FuncId} (h : callable P f = true) (us : Array Value) (w : World) : (callFunc f us).run P w = .ok (.enter f us) w := by
  unfold callable at h
  split at h
  · rename_i fn hf
    simp only [Bool.and_eq_true, bne_iff_ne, ne_eq, beq_eq_false_iff_ne, Option.isSome_iff_ne_none] at h
    simp only [callFunc, Sem.run_bind, run_program, Result.andThen_ok, hf]
    rw [if_neg (by simpa using h.1), if_neg (by simpa using h.2)]
    rfl
  · cases h
theorem vop_sound {own : Bool} {o : Oper} {vo : VOp} (hc : cOp P own o.op = some vo) (hw : RepW w0 G st w) (hr : RelOn vo.reads G A a) {K : V → St → Prop} (h : vop P vo st A K) {next : Act → World → Prop} {Q : Exit → Act → World → Prop}
    (hn' : Left P w0 G o a K next) : o.wp P a w next Q := by
  by_cases hp : vo.isPop = true
  · have h' : (pop st A vo).1 ∧ K (pop st A vo).2 st := by cases vo <;> first | exact h | simp [VOp.isPop] at hp
    obtain ⟨u, w', G', h1, h2, h3, h4⟩ := pop_sound hc hp hw hr h'.1
    exact wp_value h1 (hn' _ u st w' G' h'.2 h2 h3 h4)
  have noPop : ∀ (v : VOp), vo = v → v.isPop = true → False := fun v e h => hp (by rw [e]; exact h)
  have keepL : ∀ {v : VOp} {x : X} {o' : Operand}, vo = v → (∀ t ∈ x.reads, t ∈ v.reads) → cx o' = some x → Rep1 G (x.ev A) (a.eval o') := fun {v x o'} e hl hx => cx_rep hx hr (by rw [e]; exact hl)
  cases hop : o.op <;> simp only [hop, cOp] at hc <;> try (cases hc; done)
  case move x => simp only [Option.map_eq_some_iff] at hc; obtain ⟨_, _, rfl⟩ := hc; exact (hp rfl).elim
  case assign x => simp only [Option.map_eq_some_iff] at hc; obtain ⟨_, _, rfl⟩ := hc; exact (hp rfl).elim
  case pick c x y => simp only [Option.pure_def, Option.bind_eq_bind, Option.bind_eq_some_iff, Option.some.injEq] at hc; obtain ⟨_, _, _, _, _, _, rfl⟩ := hc; exact (hp rfl).elim
  case binOp op xt x y yt =>
    split at hc
    · simp only [Option.pure_def, Option.bind_eq_bind, Option.bind_eq_some_iff, Option.some.injEq] at hc; obtain ⟨_, _, _, _, rfl⟩ := hc; exact (hp rfl).elim
    · simp only [Option.pure_def, Option.bind_eq_bind, Option.bind_eq_some_iff, Option.some.injEq] at hc; obtain ⟨_, _, rfl⟩ := hc; exact (hp rfl).elim
    · simp only [Option.pure_def, Option.bind_eq_bind, Option.bind_eq_some_iff, Option.some.injEq] at hc; obtain ⟨_, _, rfl⟩ := hc; exact (hp rfl).elim
    · split at hc
      · simp only [Option.pure_def, Option.bind_eq_bind, Option.bind_eq_some_iff, Option.some.injEq] at hc; obtain ⟨_, _, _, _, rfl⟩ := hc; exact (hp rfl).elim
      · split at hc
        · simp only [Option.pure_def, Option.bind_eq_bind, Option.bind_eq_some_iff, Option.some.injEq] at hc; obtain ⟨_, _, rfl⟩ := hc; exact (hp rfl).elim
        · simp only [Option.pure_def, Option.bind_eq_bind, Option.bind_eq_some_iff, Option.some.injEq] at hc; obtain ⟨_, _, _, _, rfl⟩ := hc; exact (hp rfl).elim
  case unOp op xt x => simp only [Option.pure_def, Option.bind_eq_bind, Option.bind_eq_some_iff, Option.some.injEq] at hc; obtain ⟨_, _, rfl⟩ := hc; exact (hp rfl).elim
  case convert sT dT x =>
    split at hc
    · simp only [Option.map_eq_some_iff] at hc
      obtain ⟨_, _, rfl⟩ := hc
      cases own <;> exact (hp rfl).elim
    · split at hc
      · simp only [Option.map_eq_some_iff] at hc; obtain ⟨_, _, rfl⟩ := hc; exact (hp rfl).elim
      · simp only [Option.pure_def, Option.bind_eq_bind, Option.bind_eq_some_iff, Option.some.injEq] at hc; obtain ⟨_, _, _, _, rfl⟩ := hc; exact (hp rfl).elim
  case makeSlice t l c =>
    have hc' : cOp P own (.makeSlice t l c) = some vo := by simp only [cOp]; exact hc
    obtain ⟨elem, e, z, hu, hi, hz, hzl, hsz, hm⟩ := mk_inv' hc'
    rcases hm with ⟨k, x', lx, cxx, hlc, rfl⟩ | ⟨k, x', lx, hlc, rfl⟩
    · simp only [vop] at h
      unfold vmks at h
      split at h
      · rename_i k' n hn
        obtain ⟨k1, k2, k3, k4⟩ := h
        have hev : a.eval l = .int k' n ∧ a.eval c = .int k' n := by
          have r1 := lx (A := A) (a := a) (G := G) (hr.mono fun t ht => by simpa [VOp.reads] using ht)
          have r2 := cxx (A := A) (a := a) (G := G) (hr.mono fun t ht => by simpa [VOp.reads] using ht)
          rw [hn] at r1 r2
          exact ⟨r1.sc_inv, r2.sc_inv⟩
        obtain ⟨w', hrun, hw'⟩ := mks_sound (P := P) hw hu hi hz hzl hsz (k := k') k1 k2 k3
        refine wp_value (w' := w') ?_ (hn' _ _ _ _ G (k4 w.heap.size hw.sz) (.sc _ rfl) (.refl G) hw')
        unfold execOp
        simp only [hop, hev.1, hev.2]
        exact run_v hrun
      · exact h.elim
    · simp only [vop] at h
      unfold vmko at h
      split at h
      · rename_i k' n hn
        obtain ⟨k1, k2, k3, k4⟩ := h
        have r1 := lx (A := A) (a := a) (G := G) (hr.mono fun t ht => by simpa [VOp.reads] using ht)
        rw [hn] at r1
        rcases k4 with k4 | k4
        · obtain ⟨r, w', G', hrun, j1, j2, j3⟩ := mko_sound (P := P) hw hu hi hz (k := k') (k' := .i64) k1 k2 k3
          refine wp_value (w' := w') ?_ (hn' _ _ _ _ G' (k4 w.heap.size hw.sz) j1 j2 j3)
          unfold execOp
          simp only [hop, r1.sc_inv, hlc]
          exact run_v hrun
        · obtain ⟨w', hrun, hw'⟩ := mkb_sound (P := P) hw hu hi hz hzl hsz (k := k') (k' := .i64) (Int.le_refl _) k1 k2 k3
          refine wp_value (w' := w') ?_ (hn' _ _ _ _ G (k4 w.heap.size hw.sz) (.sc _ rfl) (.refl G) hw')
          unfold execOp
          simp only [hop, r1.sc_inv, hlc]
          exact run_v hrun
      · exact h.elim
  case load t x => simp only [Option.pure_def, Option.bind_eq_bind, Option.bind_eq_some_iff, Option.some.injEq] at hc; obtain ⟨_, _, _, _, rfl⟩ := hc; exact (hp rfl).elim
  case nilCheck x => simp only [Option.map_eq_some_iff] at hc; obtain ⟨_, _, rfl⟩ := hc; exact (hp rfl).elim
  case extract x i => simp only [Option.map_eq_some_iff] at hc; obtain ⟨_, _, rfl⟩ := hc; exact (hp rfl).elim
  case build t parts => simp only [Option.pure_def, Option.bind_eq_bind, Option.bind_eq_some_iff, Option.some.injEq] at hc; obtain ⟨_, _, _, _, _, _, rfl⟩ := hc; exact (hp rfl).elim
  case fieldAddr sT x f =>
    split at hc
    · split at hc
      · split at hc
        · split at hc
          · cases hc
          · simp only [Option.map_eq_some_iff] at hc; obtain ⟨_, _, rfl⟩ := hc; exact (hp rfl).elim
        · cases hc
      · cases hc
    · cases hc
  case indexAddr t x i =>
    split at hc
    · split at hc
      · simp only [Option.pure_def, Option.bind_eq_bind, Option.bind_eq_some_iff, Option.some.injEq] at hc; obtain ⟨_, _, _, _, rfl⟩ := hc; exact (hp rfl).elim
      · cases hc
    · split at hc
      · simp only [Option.pure_def, Option.bind_eq_bind, Option.bind_eq_some_iff, Option.some.injEq] at hc; obtain ⟨_, _, _, _, rfl⟩ := hc; exact (hp rfl).elim
      · cases hc
    · cases hc
  case index t x i =>
    split at hc
    · simp only [Option.pure_def, Option.bind_eq_bind, Option.bind_eq_some_iff, Option.some.injEq] at hc; obtain ⟨_, _, _, _, rfl⟩ := hc; exact (hp rfl).elim
    · split at hc
      · split at hc
        · simp only [Option.pure_def, Option.bind_eq_bind, Option.bind_eq_some_iff, Option.some.injEq] at hc; obtain ⟨_, _, _, _, rfl⟩ := hc; exact (hp rfl).elim
        · cases hc
      · cases hc
    · cases hc
  case slice t x lo hi mx =>
    split at hc
    · split at hc
      · simp only [Option.pure_def, Option.bind_eq_bind, Option.bind_eq_some_iff, Option.some.injEq] at hc; obtain ⟨_, _, _, _, _, _, rfl⟩ := hc; exact (hp rfl).elim
      · cases hc
    · simp only [Option.pure_def, Option.bind_eq_bind, Option.bind_eq_some_iff, Option.some.injEq] at hc; obtain ⟨_, _, _, _, _, _, rfl⟩ := hc; exact (hp rfl).elim
    · split at hc
      · simp only [Option.pure_def, Option.bind_eq_bind, Option.bind_eq_some_iff, Option.some.injEq] at hc; obtain ⟨_, _, _, _, _, _, rfl⟩ := hc; exact (hp rfl).elim
      · cases hc
    · split at hc
      · simp only [Option.pure_def, Option.bind_eq_bind, Option.bind_eq_some_iff, Option.some.injEq] at hc; obtain ⟨_, _, _, _, _, _, _, _, rfl⟩ := hc; exact (hp rfl).elim
      · cases hc
    · cases hc
  case sliceToArrayPointer arr x =>
    split at hc
    · split at hc
      · split at hc
        · simp only [Option.map_eq_some_iff] at hc; obtain ⟨_, _, rfl⟩ := hc; exact (hp rfl).elim
        · cases hc
      · cases hc
    · cases hc
  case alloc t =>
    simp only [Option.map_eq_some_iff] at hc
    obtain ⟨z, hz, rfl⟩ := hc
    obtain ⟨us, h1, h2⟩ := alc_sound hw hz
    refine wp_value (by unfold execOp; simp only [hop]; exact run_v h1) (hn' _ _ _ _ G (h w.heap.size hw.sz) (.sc _ rfl) (.refl G) h2)
  case box t x =>
    simp only [Option.map_eq_some_iff] at hc
    obtain ⟨x', hx, rfl⟩ := hc
    obtain ⟨h0, h⟩ := h
    obtain ⟨h1, h2⟩ := box_sound (P := P) hw (cx_rep hx hr (fun t h => h)) h0 t
    refine wp_value (by unfold execOp; simp only [hop]; exact run_v h1) (hn' _ _ _ _ G (h w.heap.size hw.sz) (.sc _ rfl) (.refl G) h2)
  case store t x y =>
    simp only [Option.pure_def, Option.bind_eq_bind, Option.bind_eq_some_iff, Option.some.injEq] at hc
    obtain ⟨⟨n, size⟩, h0, x', h1, y', h2, rfl⟩ := hc
    have r1 := cx_rep h1 hr (by simp only [VOp.reads, List.mem_append]; exact fun t h => .inl h)
    have r2 := cx_rep h2 hr (by simp only [VOp.reads, List.mem_append]; exact fun t h => .inr h)
    simp only [vop] at h
    unfold vstore at h
    split at h
    · rename_i b off hb
      rw [hb] at r1
      split at h
      · rename_i cs hcs
        obtain ⟨k1, k2, k3, kmo, k4⟩ := h
        obtain ⟨w', hrun, hw'⟩ := store_sound hw h0 hcs r2 k1 k2 k3 kmo
        refine wp_skip' (w' := w') ?_ (hn' _ _ _ _ G k4 .und (.refl G) hw')
        unfold execOp
        simp only [hop, r1.sc_inv, Sem.run_bind, hrun, Result.andThen_ok, Sem.run_pure]
      · exact h.elim
    · exact h.elim
  case buildSlice t len parts =>
    split at hc
    · rename_i elem hu
      split at hc
      · rename_i e he
        split at hc
        · rename_i hcond
          simp only [Option.pure_def, Option.bind_eq_bind, Option.bind_eq_some_iff] at hc
          obtain ⟨xs, hxs, z, hz, hc⟩ := hc
          split at hc
          · rename_i hzl
            cases own
            · simp only [Bool.false_eq_true, if_false, Option.some.injEq] at hc
              subst hc
              exact (hp rfl).elim
            · simp only [if_true, Option.some.injEq] at hc
              subst hc
              obtain ⟨hal, h⟩ := h
              obtain ⟨hlen, hget⟩ := mapM_get hxs
              have hpl : parts.toList.length = len := by have := congrArg List.length hcond.1; simpa using this
              have ee : (parts.map fun x => (x.1, a.eval x.2)) = ((parts.toList.map fun x => (x.1, a.eval x.2))).toArray := by rw [← Array.toList_map, Array.toArray_toList]
              have hreps : ∀ (i : Nat) (d : V) (q : Nat × Value), (xs.map fun x => strip (x.ev A))[i]? = some d → (parts.toList.map fun x => (x.1, a.eval x.2))[i]? = some q → Rep1 G d q.2 := fun i d q hd hq => by
                simp only [List.getElem?_map, Option.map_eq_some_iff] at hd hq
                obtain ⟨x', hx', rfl⟩ := hd
                obtain ⟨q', hq', rfl⟩ := hq
                refine strip_rep (cx_rep (hget i q' x' hq' hx') hr (fun t ht => ?_))
                simp only [VOp.reads, List.mem_flatMap]
                exact ⟨_, List.mem_of_getElem? hx', ht⟩
              rcases h with h | h
              · obtain ⟨r, w', G', h1, h2, h3, h4⟩ := bslo_sound (P := P) hw hu he hcond.2.2 hcond.2.1 hz hzl (parts := parts.toList.map fun x => (x.1, a.eval x.2)) (by rw [List.map_map]; exact hcond.1) (ds := xs.map fun x => strip (x.ev A)) (by simp [hlen, hpl]) hreps hal
                rw [← ee] at h1
                have hk := h w.heap.size hw.sz
                rw [show xs.length = len by rw [hlen, hpl]] at hk
                exact wp_value (by unfold execOp; simp only [hop]; exact run_v h1) (hn' _ _ _ _ G' hk h2 h3 h4)
              · obtain ⟨w', h1, h2⟩ := bslb_sound (P := P) hw hu he hcond.2.2 hcond.2.1 hz hzl (parts := parts.toList.map fun x => (x.1, a.eval x.2)) (by rw [List.map_map]; exact hcond.1) (ds := xs.map fun x => strip (x.ev A)) (by simp [hlen, hpl]) hreps hal
                rw [← ee] at h1
                have hk := h w.heap.size hw.sz
                rw [show xs.length = len by rw [hlen, hpl]] at hk
                exact wp_value (by unfold execOp; simp only [hop]; exact run_v h1) (hn' _ _ _ _ G hk (.sc _ rfl) (.refl G) h2)
          · cases hc
        · cases hc
      · cases hc
    · cases hc
  case call c =>
    obtain ⟨cal, args, tys⟩ := c
    simp only at hc
    split at hc
    · rename_i f
      split at hc
      · rename_i hcall
        simp only [Option.pure_def, Option.bind_eq_bind, Option.bind_eq_some_iff, Option.some.injEq] at hc
        obtain ⟨xs, hxs, rfl⟩ := hc
        obtain ⟨hlen, hget⟩ := mapM_get hxs
        simp only [vop] at h
        have hcalls := h w0 G w (args.map a.eval) hw (by simp [hlen]) (fun i d u hd hu => by
          simp only [List.getElem?_map, Option.map_eq_some_iff] at hd
          obtain ⟨x', hx', rfl⟩ := hd
          simp only [Array.getElem?_map, Option.map_eq_some_iff] at hu
          obtain ⟨o', ho', rfl⟩ := hu
          refine cx_rep (hget i o' x' (by simpa using ho') hx') hr (fun t ht => ?_)
          simp only [VOp.reads, List.mem_flatMap]
          exact ⟨_, List.mem_of_getElem? hx', ht⟩)
        unfold Oper.wp
        have hrun : (execOp a.eval o).run P w = .ok (.enter f (args.map a.eval)) w := by
          unfold execOp
          simp only [hop, resolve, Act.eval, Deferred.ofValue, Sem.run_bind, Sem.run_pure, Result.andThen_ok, invoke, Array.append_empty, Array.empty_append]
          exact callable_run hcall _ w
        rw [hrun, Oper.upon_enter]
        refine hcalls.mono ?_
        rintro e w' ⟨u, r, st', G', rfl, hq, h2, h3, h4⟩
        exact hn' _ _ _ _ G' (hq h2.ok) h2 h3 h4
      · cases hc
    · rename_i tt
      simp only [Option.pure_def, Option.bind_eq_bind, Option.bind_eq_some_iff, Option.some.injEq] at hc
      obtain ⟨xs, hxs, rfl⟩ := hc
      obtain ⟨hlen, hget⟩ := mapM_get hxs
      simp only [vop] at h
      unfold vcalv at h
      split at h
      · rename_i f first cap hfx
        obtain ⟨hcall, hone, h⟩ := h
        have hfv : a.tmps.getD tt undef = .func (.func f) first cap := by
          have h0 := hr tt (by simp [VOp.reads, X.reads])
          have h1 : A tt = .sc (.func (.func f) first cap) := hfx
          rw [h1] at h0
          exact h0.sc_inv
        have hargs : ∀ (i : Nat) (d : V) (u : Value), (xs.map fun x => x.ev A)[i]? = some d → (args.toList.map a.eval)[i]? = some u → Rep1 G d u := mapM_reps (G := G) (A := A) (a := a) hxs (fun t ht => hr t (by simp only [VOp.reads, List.mem_append]; exact .inr ht))
        have hsc : ∀ (l : List Value), (∀ v ∈ l, v.oneCell' = true) → ∀ (i : Nat) (d : V) (u : Value), (l.map V.sc)[i]? = some d → l[i]? = some u → Rep1 G d u := fun l hl i d u hd hu => by
          simp only [List.getElem?_map, hu, Option.map_some, Option.some.injEq] at hd
          subst hd
          exact .sc _ (hl u (List.mem_of_getElem? hu))
        have happ : ∀ {l1 l2 : List V} {u1 u2 : List Value}, u1.length = l1.length → (∀ (i : Nat) (d : V) (u : Value), l1[i]? = some d → u1[i]? = some u → Rep1 G d u) → (∀ (i : Nat) (d : V) (u : Value), l2[i]? = some d → u2[i]? = some u → Rep1 G d u) → ∀ (i : Nat) (d : V) (u : Value), (l1 ++ l2)[i]? = some d → (u1 ++ u2)[i]? = some u → Rep1 G d u := fun {l1 l2 u1 u2} hl h1 h2 i d u hd hu => by
          rw [List.getElem?_append] at hd hu
          rw [hl] at hu
          split at hd
          · rename_i hlt; rw [if_pos hlt] at hu; exact h1 i d u hd hu
          · rename_i hlt; rw [if_neg hlt] at hu; exact h2 _ d u hd hu
        have hus : (first ++ args.map a.eval ++ cap).toList = first.toList ++ args.toList.map a.eval ++ cap.toList := by simp
        have hcalls := h w0 G w (first ++ args.map a.eval ++ cap) hw (by simp [hlen]) (fun i d u hd hu => by
          refine happ (l1 := first.toList.map V.sc ++ xs.map fun x => x.ev A) (l2 := cap.toList.map V.sc) (u1 := first.toList ++ args.toList.map a.eval) (u2 := cap.toList) (by simp [hlen]) ?_ (hsc _ fun v hv => hone v (List.mem_append_right _ hv)) i d u hd (by rw [← hus, Array.getElem?_toList]; exact hu)
          exact happ (by simp) (hsc _ fun v hv => hone v (List.mem_append_left _ hv)) hargs)
        unfold Oper.wp
        have hrun : (execOp a.eval o).run P w = .ok (.enter f (first ++ args.map a.eval ++ cap)) w := by
          unfold execOp
          simp only [hop, resolve, Act.eval, hfv, Deferred.ofValue, Sem.run_bind, Sem.run_pure, Result.andThen_ok, invoke]
          exact callable_run hcall _ w
        rw [hrun, Oper.upon_enter]
        refine hcalls.mono ?_
        rintro e w' ⟨u, r, st', G', rfl, hq, h2, h3, h4⟩
        exact hn' _ _ _ _ G' (hq h2.ok) h2 h3 h4
      · exact h.elim
    · split at hc
      · split at hc
        · simp only [Option.map_eq_some_iff] at hc; obtain ⟨_, _, rfl⟩ := hc; exact (hp rfl).elim
        · simp only [Option.map_eq_some_iff] at hc; obtain ⟨_, _, rfl⟩ := hc; exact (hp rfl).elim
        · simp only [Option.map_eq_some_iff] at hc; obtain ⟨_, _, rfl⟩ := hc; exact (hp rfl).elim
        · cases hc
      · cases hc
    · split at hc
      · simp only [Option.pure_def, Option.bind_eq_bind, Option.bind_eq_some_iff, Option.some.injEq] at hc; obtain ⟨_, _, _, _, rfl⟩ := hc; exact (hp rfl).elim
      · cases hc
    · split at hc
      · simp only [Option.pure_def, Option.bind_eq_bind, Option.bind_eq_some_iff, Option.some.injEq] at hc; obtain ⟨_, _, _, _, rfl⟩ := hc; exact (hp rfl).elim
      · cases hc
    · split at hc
      · rename_i x y t t' hx ht
        split at hc
        · rename_i elem hu
          split at hc
          · rename_i e he
            split at hc
            · rename_i z hz
              split at hc
              · rename_i hcond
                obtain ⟨hzs, hsz, hz1⟩ := hcond
                have hx' : args = #[x, y] := by cases args; simp at hx; simp [hx]
                have ht' : tys = #[t, t'] := by cases tys; simp at ht; simp [ht]
                subst hx' ht'
                have fin : ∀ {r : Value} {w' : World}, (Builtin.append_ #[t, t'] o.type #[a.eval x, a.eval y]).run P w = .ok r w' → (execOp a.eval o).run P w = .ok (.value r) w' := by
                  intro r w' hrun
                  unfold execOp
                  simp [hop, resolve, invoke, builtin, hrun]
                split at hc
                · rename_i hsrc
                  simp only [Option.pure_def, Option.bind_eq_bind, Option.bind_eq_some_iff, Option.some.injEq] at hc
                  obtain ⟨x', h1, y', h2, rfl⟩ := hc
                  have r1 := cx_rep h1 hr (by simp only [VOp.reads, List.mem_append]; exact fun t h => .inl h)
                  have r2 := cx_rep h2 hr (by simp only [VOp.reads, List.mem_append]; exact fun t h => .inr h)
                  have htt : t = t' := by
                    unfold appSrc at hsrc
                    split at hsrc
                    · assumption
                    · split at hsrc
                      · split at hsrc <;> simp at hsrc
                      · split at hsrc <;> simp at hsrc
                      · cases hsrc
                  subst htt
                  simp only [vop] at h
                  obtain ⟨r, w', G', rv, st', hrun, hK, j1, j2, j3⟩ := vapp_sound (P := P) (ty := o.type) (v := a.eval y) hw hu he hz hzs hz1 hsz r1 (fun ys k2 k3 _ _ => by
                    rcases k2 with ⟨tk, k2⟩ | ⟨b, o', c, cs, k2, kb, kf, ke, kmo⟩
                    · rw [k2] at r2; exact r2.src hw hu he hz k3
                    · rw [k2] at r2; rw [r2.sc_inv]; exact box_src hw hu he hz kb kf k3 ke kmo) h
                  exact wp_value (fin hrun) (hn' _ _ _ _ G' hK j1 j2 j3)
                · rename_i k hsrc
                  simp only [Option.pure_def, Option.bind_eq_bind, Option.bind_eq_some_iff, Option.some.injEq] at hc
                  obtain ⟨x', h1, y', h2, rfl⟩ := hc
                  have r1 := cx_rep h1 hr (by simp only [VOp.reads, List.mem_append]; exact fun t h => .inl h)
                  have r2 := cx_rep h2 hr (by simp only [VOp.reads, List.mem_append]; exact fun t h => .inr h)
                  simp only [vop] at h
                  obtain ⟨hs, h⟩ := h
                  obtain ⟨r, w', G', rv, st', hrun, hK, j1, j2, j3⟩ := vapp_sound (P := P) (t2 := t') (ty := o.type) (v := a.eval y) hw hu he hz hzs hz1 hsz r1 (fun ys k2 k3 k4 k5 => by
                    unfold appSrc at hsrc
                    split at hsrc
                    · cases hsrc
                    · split at hsrc
                      · rename_i hu2
                        split at hsrc
                        · rename_i he1
                          simp only [Option.some.injEq] at hsrc
                          subst hsrc
                          obtain ⟨s, hy⟩ := srcX_str hs
                          rw [hy] at k2 r2
                          rcases k2 with ⟨tk, k2⟩ | ⟨b, o', c, cs, k2, _⟩
                          · cases k2
                            rw [r2.sc_inv]
                            exact str_src hu hu2 he hz he1 s
                          · cases k2
                        · cases hsrc
                      · rename_i kk hu2
                        split at hsrc
                        · rename_i v hzc
                          simp only [Option.some.injEq] at hsrc
                          subst hsrc
                          obtain ⟨kn, n, hy, h0⟩ := srcX_zero hs
                          rw [hy] at k2 r2
                          rcases k2 with ⟨tk, k2⟩ | ⟨b, o', c, cs, k2, _⟩
                          · cases k2
                            rw [r2.sc_inv]
                            rw [List.length_replicate] at k4 k5
                            have hn : n = (n.toNat : Int) := by omega
                            have hzz := zeroCells'_sc (G := G) he hz hzc
                            have := zero_src (P := P) (G := G) (w := w) (k' := kn) hu hu2 he hz hzs hsz hzz (n := n.toNat) (by unfold maxLen at k4; omega) (by omega)
                            rw [← hn] at this
                            exact this
                          · cases k2
                        · cases hsrc
                      · cases hsrc) h
                  exact wp_value (fin hrun) (hn' _ _ _ _ G' hK j1 j2 j3)
                · cases hc
              · cases hc
            · cases hc
          · cases hc
        · cases hc
      · cases hc
    · split at hc
      · rename_i x y t tl hx ht
        simp only [Option.pure_def, Option.bind_eq_bind, Option.bind_eq_some_iff, Option.some.injEq] at hc
        obtain ⟨m, hm, x', h1, k', h2, rfl⟩ := hc
        obtain ⟨kt, et, hu, hl, hag⟩ := mapK_inv hm
        have r1 := cx_rep h1 hr (by simp only [VOp.reads, List.mem_append]; exact fun t h => .inl h)
        have r2 := cx_rep h2 hr (by simp only [VOp.reads, List.mem_append]; exact fun t h => .inr h)
        have hx' : args = #[x, y] := by cases args; simp at hx; simp [hx]
        subst hx'
        have fin : ∀ {r : Value} {w' : World}, (Builtin.delete_ tys o.type #[a.eval x, a.eval y]).run P w = .ok r w' → (execOp a.eval o).run P w = .ok (.value r) w' := by
          intro r w' hrun
          unfold execOp
          simp [hop, resolve, invoke, builtin, hrun]
        have hty : ∀ (u v : Value), Builtin.delete_ tys o.type #[u, v] = Builtin.delete_ #[t, t] o.type #[u, v] := fun u v => by
          unfold Builtin.delete_
          have : tys[0]? = some t := by rw [← Array.getElem?_toList, ht]; rfl
          simp [this]
        simp only [vop] at h
        unfold vmdel at h
        split at h
        · rename_i hxx
          rw [hxx] at r1
          rw [hag] at h
          exact wp_value (fin (by rw [hty, r1.sc_inv]; exact mdel_nil hu hl r2 h.1 w)) (hn' _ _ _ _ G h.2 (.tup _ _ rfl fun i c v hc => by simp at hc) (.refl G) hw)
        · rename_i b hxx
          rw [hxx] at r1
          split at h
          · rename_i ag' lf' es c hb
            obtain ⟨rfl, rfl, k1, k2⟩ := h
            rw [hag] at hb k1 k2
            obtain ⟨w', hrun, hw'⟩ := mdel_sound (P := P) (ty := o.type) (t2 := t) hu hl hw hb r2 k1
            exact wp_value (fin (by rw [hty, r1.sc_inv]; exact hrun)) (hn' _ _ _ _ G k2 (.tup _ _ rfl fun i c v hc => by simp at hc) (.refl G) hw')
          · exact h.elim
        · exact h.elim
      · cases hc
    · split at hc
      · rename_i x t hx ht
        have hx' : args = #[x] := by cases args; simp at hx; simp [hx]
        have ht' : tys = #[t] := by cases tys; simp at ht; simp [ht]
        subst hx' ht'
        split at hc
        · rename_i elem hu
          split at hc
          · rename_i e z he hz
            split at hc
            · rename_i hzl
              simp only [Option.map_eq_some_iff] at hc
              obtain ⟨x', hx1, rfl⟩ := hc
              have r1 := cx_rep hx1 hr (fun t h => h)
              have fin : ∀ {r : Value} {w' : World}, (Builtin.clear_ #[t] o.type #[a.eval x]).run P w = .ok r w' → (execOp a.eval o).run P w = .ok (.value r) w' := by
                intro r w' hrun
                unfold execOp
                simp [hop, resolve, invoke, builtin, hrun]
              simp only [vop] at h
              unfold vclr at h
              split at h
              · rename_i own hxx
                rw [hxx] at r1
                obtain ⟨A0, c, hu0, _⟩ := r1.slLen
                refine wp_value (fin (w' := w) (r := .tuple #[]) ?_) (hn' _ _ _ _ G h (.tup _ _ rfl fun i c v hc => by simp at hc) (.refl G) hw)
                rw [hu0]
                cases A0 <;> simp [Builtin.clear_, run_underlying hu]
              · rename_i b o' n c hxx
                rw [hxx] at r1
                split at h
                · rename_i cs hb
                  obtain ⟨k1, k2, k3⟩ := h
                  obtain ⟨w', hrun, hw'⟩ := clr_sound (P := P) (ty := o.type) (c := c) hw hu he hz hzl.1 hzl.2 hb k1 k2
                  exact wp_value (fin (by rw [r1.sc_inv]; exact hrun)) (hn' _ _ _ _ G k3 (.tup _ _ rfl fun i c v hc => by simp at hc) (.refl G) hw')
                · exact h.elim
              · exact h.elim
            · cases hc
          · cases hc
        · cases hc
      · cases hc
    · cases hc
  case lookup t x k ok => simp only [Option.pure_def, Option.bind_eq_bind, Option.bind_eq_some_iff, Option.some.injEq] at hc; obtain ⟨_, _, _, _, _, _, _, _, rfl⟩ := hc; exact (hp rfl).elim
  case entry x => simp only [Option.map_eq_some_iff] at hc; obtain ⟨_, _, rfl⟩ := hc; exact (hp rfl).elim
  case makeFunc f fs cs => simp only [Option.pure_def, Option.bind_eq_bind, Option.bind_eq_some_iff, Option.some.injEq] at hc; obtain ⟨_, _, _, _, rfl⟩ := hc; exact (hp rfl).elim
  case makeMap t r =>
    cases r with
    | some r => simp only at hc; cases hc
    | none =>
    simp only [Option.pure_def, Option.bind_eq_bind, Option.bind_eq_some_iff, Option.some.injEq] at hc
    obtain ⟨m, hm, rfl⟩ := hc
    obtain ⟨h1, h2⟩ := mkm_sound (P := P) (t := t) m.1 m.2 hw
    exact wp_value (by unfold execOp; simp only [hop]; exact run_v h1) (hn' _ _ _ _ G (h w.heap.size hw.sz) (.sc _ rfl) (.refl G) h2)
  case mapUpdate t x k v =>
    simp only [Option.pure_def, Option.bind_eq_bind, Option.bind_eq_some_iff, Option.some.injEq] at hc
    obtain ⟨m, hm, x', h1, k', h2, v', h3, rfl⟩ := hc
    obtain ⟨kt, et, hu, hl, hag⟩ := mapK_inv hm
    have r1 := cx_rep h1 hr (by simp only [VOp.reads, List.mem_append]; exact fun t h => .inl (.inl h))
    have r2 := cx_rep h2 hr (by simp only [VOp.reads, List.mem_append]; exact fun t h => .inl (.inr h))
    have r3 := cx_rep h3 hr (by simp only [VOp.reads, List.mem_append]; exact fun t h => .inr h)
    simp only [vop] at h
    unfold vmup at h
    split at h
    · rename_i b hxx
      rw [hxx] at r1
      split at h
      · rename_i ag' lf' es c hb
        obtain ⟨rfl, rfl, k1, k2⟩ := h
        rw [hag] at hb k1 k2
        obtain ⟨w', hrun, hw'⟩ := mup_sound (P := P) hu hl hw hb r2 r3 k1
        refine wp_skip' (w' := w') ?_ (hn' _ _ _ _ G k2 .und (.refl G) hw')
        unfold execOp
        simp only [hop, r1.sc_inv, Sem.run_bind, hrun, Result.andThen_ok, Sem.run_pure]
      · exact h.elim
    · exact h.elim
  case insert t x k v =>
    simp only [Option.pure_def, Option.bind_eq_bind, Option.bind_eq_some_iff, Option.some.injEq] at hc
    obtain ⟨m, hm, x', h1, k', h2, v', h3, rfl⟩ := hc
    obtain ⟨kt, et, hu, hl, hag⟩ := mapK_inv hm
    have r1 := cx_rep h1 hr (by simp only [VOp.reads, List.mem_append]; exact fun t h => .inl (.inl h))
    have r2 := cx_rep h2 hr (by simp only [VOp.reads, List.mem_append]; exact fun t h => .inl (.inr h))
    have r3 := cx_rep h3 hr (by simp only [VOp.reads, List.mem_append]; exact fun t h => .inr h)
    simp only [vop] at h
    unfold vmup at h
    split at h
    · rename_i b hxx
      rw [hxx] at r1
      split at h
      · rename_i ag' lf' es c hb
        obtain ⟨rfl, rfl, k1, k2⟩ := h
        rw [hag] at hb k1 k2
        obtain ⟨w', hrun, hw'⟩ := mup_sound (P := P) hu hl hw hb r2 r3 k1
        refine wp_skip' (w' := w') ?_ (hn' _ _ _ _ G k2 .und (.refl G) hw')
        unfold execOp
        simp only [hop, r1.sc_inv, Sem.run_bind, hrun, Result.andThen_ok, Sem.run_pure]
      · exact h.elim
    · exact h.elim
  case mapEntry t x k =>
    simp only [Option.pure_def, Option.bind_eq_bind, Option.bind_eq_some_iff, Option.some.injEq] at hc
    obtain ⟨m, hm, z, hz, x', h1, k', h2, rfl⟩ := hc
    obtain ⟨kt, et, hu, hl, hag⟩ := mapK_inv hm
    have r1 := cx_rep h1 hr (by simp only [VOp.reads, List.mem_append]; exact fun t h => .inl h)
    have r2 := cx_rep h2 hr (by simp only [VOp.reads, List.mem_append]; exact fun t h => .inr h)
    simp only [vop] at h
    unfold vment at h
    split at h
    · rename_i b hxx
      rw [hxx] at r1
      split at h
      · rename_i ag' lf' es c hb
        obtain ⟨rfl, rfl, k1, k2⟩ := h
        rw [hag] at hb k1 k2
        obtain ⟨r, w', hrun, hrep, hw'⟩ := ment_sound (P := P) hu hl (mapZ_inv hu hz) hw hb r2 k1
        refine wp_value (w' := w') ?_ (hn' _ _ _ _ G k2 hrep (.refl G) hw')
        unfold execOp
        simp only [hop, r1.sc_inv]
        exact run_v hrun
      · exact h.elim
    · exact h.elim
  case entryStore t x s v =>
    simp only [Option.pure_def, Option.bind_eq_bind, Option.bind_eq_some_iff, Option.some.injEq] at hc
    obtain ⟨x', h1, s', h2, v', h3, rfl⟩ := hc
    have r1 := cx_rep h1 hr (by simp only [VOp.reads, List.mem_append]; exact fun t h => .inl (.inl h))
    have r2 := cx_rep h2 hr (by simp only [VOp.reads, List.mem_append]; exact fun t h => .inl (.inr h))
    have r3 := cx_rep h3 hr (by simp only [VOp.reads, List.mem_append]; exact fun t h => .inr h)
    simp only [vop] at h
    unfold vest at h
    split at h
    · rename_i b n hxx hss
      rw [hxx] at r1
      rw [hss] at r2
      obtain ⟨k0, h⟩ := h
      split at h
      · rename_i ag lf es c hb
        obtain ⟨k1, k2⟩ := h
        obtain ⟨w', hrun, hw'⟩ := est_sound (P := P) (t := t) hw hb r3 k1
        refine wp_skip' (w' := w') ?_ (hn' _ _ _ _ G k2 .und (.refl G) hw')
        rw [Int.toNat_of_nonneg k0] at hrun
        unfold execOp
        simp only [hop, r1.sc_inv, r2.sc_inv, Sem.run_bind, hrun, Result.andThen_ok, Sem.run_pure]
      · exact h.elim
    · exact h.elim
  case range t x =>
    split at hc
    · rename_i kt et hu
      simp only [Option.map_eq_some_iff] at hc
      obtain ⟨x', hx, rfl⟩ := hc
      have r1 := cx_rep hx hr (fun t h => h)
      simp only [vop] at h
      unfold vrng at h
      split at h
      · rename_i hxx
        rw [hxx] at r1
        obtain ⟨w', hrun, hw'⟩ := rng_nil (P := P) hu hw
        refine wp_value (w' := w') ?_ (hn' _ _ _ _ G (h w.heap.size hw.sz) (.sc _ rfl) (.refl G) hw')
        unfold execOp
        simp only [hop, r1.sc_inv]
        exact run_v hrun
      · rename_i b hxx
        rw [hxx] at r1
        split at h
        · rename_i ag lf es c hb
          obtain ⟨w', hrun, hw'⟩ := rng_sound (P := P) hu hw hb
          refine wp_value (w' := w') ?_ (hn' _ _ _ _ G (h w.heap.size hw.sz) (.sc _ rfl) (.refl G) hw')
          unfold execOp
          simp only [hop, r1.sc_inv]
          exact run_v hrun
        · exact h.elim
      · exact h.elim
    · cases hc
  case next x str =>
    split at hc
    · cases hc
    · rename_i hstr
      have hstr' : str = false := by simpa using hstr
      subst hstr'
      simp only [Option.map_eq_some_iff] at hc
      obtain ⟨x', hx, rfl⟩ := hc
      have r1 := cx_rep hx hr (fun t h => h)
      have rf : Rep1 G (.tup [.sc (.bool false)]) (.tuple #[.bool false]) := .tup _ _ rfl fun i c v hc hv => by
        match i with
        | 0 => simp at hc hv; subst hc; subst hv; exact .sc _ rfl
        | i + 1 => simp at hc
      simp only [vop] at h
      unfold vnxt at h
      split at h
      · rename_i r hxx
        rw [hxx] at r1
        split at h
        · rename_i since seen last hr'
          have hrun := nxt_nil (P := P) (ty := o.type) hw hr'
          refine wp_value (w' := w) ?_ (hn' _ _ _ _ G h rf (.refl G) hw)
          unfold execOp
          simp only [hop, r1.sc_inv]
          exact run_v hrun
        · rename_i m since seen last hr'
          split at h
          · rename_i ag lf es c hb
            obtain ⟨k1, k2, k3, k4⟩ := h
            rcases nxt_sound (P := P) (ty := o.type) hw hr' hb k1 k2 with ⟨j1, hrun⟩ | ⟨e, he, hns, u, w', hrun, hrep, hw'⟩
            · refine wp_value (w' := w) ?_ (hn' _ _ _ _ G (k3 j1) rf (.refl G) hw)
              unfold execOp
              simp only [hop, r1.sc_inv]
              exact run_v hrun
            · refine wp_value (w' := w') ?_ (hn' _ _ _ _ G (k4 e he hns) hrep (.refl G) hw')
              unfold execOp
              simp only [hop, r1.sc_inv]
              exact run_v hrun
          · exact h.elim
        · exact h.elim
      · exact h.elim
end
end Go.Proofs.Ytlngegoamfklgaa
