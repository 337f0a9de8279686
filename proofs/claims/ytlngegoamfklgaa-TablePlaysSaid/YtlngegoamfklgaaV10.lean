/- Code and functions: the abstract wp is sound. -/
import Derived.Test.YtlngegoamfklgaaV9
namespace Go.Proofs.Ytlngegoamfklgaa
open Go Go.RowKit
section
variable {P : Program} {w0 : Fr} {G : Gh} {st : St} {w : World} {A : Nat → V} {a : Act} {N : Nat}

def cReg (P : Program) (N : Nat) (ops : Array Oper) (draw : Bool) : Option (List VO) :=
  if draw then (if P.follows .mixedOrders then cDraw P N ops else none) else ops.toList.mapM (cOper P N ops)
def cCode (P : Program) (N : Nat) : Code → Option VC
  | .skip => some .skip
  | .label _ => some .skip
  | .region _ ops draw => (cReg P N ops draw).map .reg
  | .seq a b => match cCode P N a, cCode P N b with
    | some a, some b => some (.seq a b)
    | _, _ => none
  | .cond c a b => match cx c, cCode P N a, cCode P N b with
    | some c, some a, some b => some (.cond c a b)
    | _, _, _ => none
  | .block id c => (cCode P N c).map (.blk id)
  | .loop c => (cCode P N c).map .loop
  | .scope c => cCode P N c
  | .exit id => some (.exit id)
  | .ret => some .ret
  | _ => none
def exOf : VEx → Exit
  | .normal => .normal
  | .exit id => .exit id
  | .ret => .ret
theorem reg_sound {ops : Array Oper} {draw : Bool} {vs : List VO} (hc : cReg P N ops draw = some vs) (id : Nat) {Q' : Exit → Act → World → Prop} {K : (Nat → V) → St → Prop} (hr : RelAll N G A a) (hw : RepW w0 G st w) (h : vops P K vs A st)
    (hk : ∀ A' a' st' w' G', K A' st' → G.le G' → RelAll N G' A' a' → RepW w0 G' st' w' → Q' .normal a' w') : (Code.region id ops draw).wp P Q' a w := by
  unfold cReg at hc
  split at hc
  · rename_i hd
    subst hd
    split at hc
    · rename_i hm
      exact draw_sound hm hc id hr hw h hk
    · cases hc
  · rename_i hd
    have : draw = false := by simpa using hd
    subst this
    exact wp_region_list (vops_sound ops.toList vs hc hr hw h hk)
theorem vwp_sound : ∀ (c : Code) (vc : VC), cCode P N c = some vc → ∀ {G : Gh} {A : Nat → V} {a : Act} {st : St} {w : World} {Q : VQ} {Q' : Exit → Act → World → Prop}, RelAll N G A a → RepW w0 G st w → vwp P vc Q A st →
    (∀ ve A' a' st' w' G', Q ve A' st' → G.le G' → RelAll N G' A' a' → RepW w0 G' st' w' → Q' (exOf ve) a' w') → c.wp P Q' a w := by
  intro c
  induction c with
  | skip =>
    intro vc hc G A a st w Q Q' hr hw h hk
    simp only [cCode, Option.some.injEq] at hc; subst hc
    exact wp_skip (hk .normal A a st w G h (.refl G) hr hw)
  | label l =>
    intro vc hc G A a st w Q Q' hr hw h hk
    simp only [cCode, Option.some.injEq] at hc; subst hc
    exact wp_label (hk .normal A a st w G h (.refl G) hr hw)
  | region id ops draw =>
    intro vc hc G A a st w Q Q' hr hw h hk
    simp only [cCode, Option.map_eq_some_iff] at hc
    obtain ⟨vs, hvs, rfl⟩ := hc
    exact reg_sound hvs id hr hw h fun A' a' st' w' G' => hk .normal A' a' st' w' G'
  | seq x y ihx ihy =>
    intro vc hc G A a st w Q Q' hr hw h hk
    simp only [cCode] at hc
    split at hc
    · rename_i vx vy hx hy
      simp only [Option.some.injEq] at hc; subst hc
      refine wp_seq (ihx vx hx hr hw h fun ve A' a' st' w' G' hq hle hr' hw' => ?_)
      cases ve with
      | normal => exact ihy vy hy hr' hw' hq fun ve A2 a2 st2 w2 G2 k1 k2 k3 k4 => hk ve A2 a2 st2 w2 G2 k1 (hle.trans k2) k3 k4
      | exit id => exact hk (.exit id) A' a' st' w' G' hq hle hr' hw'
      | ret => exact hk .ret A' a' st' w' G' hq hle hr' hw'
    · cases hc
  | cond cc x y ihx ihy =>
    intro vc hc G A a st w Q Q' hr hw h hk
    simp only [cCode] at hc
    split at hc
    · rename_i c' vx vy hcx hx hy
      simp only [Option.some.injEq] at hc; subst hc
      simp only [vwp] at h
      have hcr := cx_rep hcx (hr.on c'.reads) (fun t h => h)
      split at h
      · rename_i t ht
        rw [ht] at hcr
        cases t
        · exact wp_cond_false hcr.sc_inv (ihy vy hy hr hw (h.2 rfl) hk)
        · exact wp_cond_true hcr.sc_inv (ihx vx hx hr hw (h.1 rfl) hk)
      · exact h.elim
    · cases hc
  | block id c ih =>
    intro vc hc G A a st w Q Q' hr hw h hk
    simp only [cCode, Option.map_eq_some_iff] at hc
    obtain ⟨v, hv, rfl⟩ := hc
    refine wp_block (ih v hv hr hw h fun ve A' a' st' w' G' hq hle hr' hw' => ?_)
    cases ve with
    | normal => exact hk .normal A' a' st' w' G' hq hle hr' hw'
    | ret => exact hk .ret A' a' st' w' G' hq hle hr' hw'
    | exit i =>
      simp only [VQ.blk] at hq
      simp only [exOf, Exit.inBlock]
      by_cases e : i = id
      · rw [if_pos e] at hq ⊢; exact hk .normal A' a' st' w' G' hq hle hr' hw'
      · rw [if_neg e] at hq ⊢; exact hk (.exit i) A' a' st' w' G' hq hle hr' hw'
  | loop c ih =>
    intro vc hc G A a st w Q Q' hr hw h hk
    simp only [cCode, Option.map_eq_some_iff] at hc
    obtain ⟨v, hv, rfl⟩ := hc
    obtain ⟨I, μ, h0, hround⟩ := h
    refine wp_loop_ghost (fun n a w => ∃ G' A st, G.le G' ∧ I A st ∧ μ A st = n ∧ RelAll N G' A a ∧ RepW w0 G' st w) (μ A st) ⟨G, A, st, .refl G, h0, rfl, hr, hw⟩ ?_
    rintro n a1 w1 ⟨G1, A1, st1, hle1, hI1, rfl, hr1, hw1⟩
    refine ih v hv hr1 hw1 (hround A1 st1 hI1) fun ve A' a' st' w' G' hq hle hr' hw' => ?_
    cases ve with
    | normal => exact ⟨μ A' st', hq.2, G', A', st', hle1.trans hle, hq.1, rfl, hr', hw'⟩
    | exit id => exact hk (.exit id) A' a' st' w' G' hq (hle1.trans hle) hr' hw'
    | ret => exact hk .ret A' a' st' w' G' hq (hle1.trans hle) hr' hw'
  | scope c ih =>
    intro vc hc G A a st w Q Q' hr hw h hk
    simp only [cCode] at hc
    refine wp_scope_straight (ih vc hc hr hw h fun ve A' a' st' w' G' hq hle hr' hw' => ?_)
    have := hk ve A' a' st' w' G' hq hle hr' hw'
    cases ve <;> exact this
  | exit id =>
    intro vc hc G A a st w Q Q' hr hw h hk
    simp only [cCode, Option.some.injEq] at hc; subst hc
    exact wp_exit (hk (.exit id) A a st w G h (.refl G) hr hw)
  | ret =>
    intro vc hc G A a st w Q Q' hr hw h hk
    simp only [cCode, Option.some.injEq] at hc; subst hc
    exact wp_ret (hk .ret A a st w G h (.refl G) hr hw)
  | _ => intro vc hc; simp [cCode] at hc

/-! ### Functions -/
inductive RV where
  | tmp (t : Nat)
  | cell (t : Nat) (n : Option Nat)
structure FC where
  n : Nat
  body : VC
  res : List RV
def cRes (P : Program) : ResultVar → Option RV
  | .tmp t => some (.tmp t)
  | .cell t ty => (layout P ty).map fun l => .cell t l.1
def cFun (P : Program) (f : FuncId) : Option FC :=
  match P.funcs[f]? with
  | some fn => match fn.body with
    | some c => match cCode P fn.ntmps c, fn.results.toList.mapM (cRes P) with
      | some b, some r => some ⟨fn.ntmps, b, r⟩
      | _, _ => none
    | none => none
  | none => none
def rvVal (st : St) (A : Nat → V) : RV → Prop × V
  | .tmp t => (True, A t)
  | .cell t n => vload st n (A t)
def rvAll (st : St) (A : Nat → V) : List RV → Prop
  | [] => True
  | r :: rs => (rvVal st A r).1 ∧ rvAll st A rs
def resV (st : St) (A : Nat → V) (res : List RV) : V :=
  match res with
  | [r] => (rvVal st A r).2
  | rs => .tup (rs.map fun r => (rvVal st A r).2)
/-- An abstract value that says less. -/
def Wk (d d' : V) : Prop := ∀ G v, Rep1 G d v → Rep1 G d' v
theorem Wk.refl (d : V) : Wk d d := fun _ _ h => h
def vret (res : List RV) (Q : V → St → Prop) (A : Nat → V) (st : St) : Prop :=
  rvAll st A res ∧ ∃ r st', Wk (resV st A res) r ∧ st'.weak st ∧ Q r st'
def finQ (res : List RV) (Q : V → St → Prop) : VQ
  | .normal, A, st => vret res Q A st
  | .ret, A, st => vret res Q A st
  | .exit _, _, _ => False
def args0 (args : List V) : Nat → V := fun t => args.getD t .und
def resF (tmps : Array Value) : ResultVar → Sem Value
  | .tmp t => pure (tmps.getD t undef)
  | .cell c t => do loadVar t (← asAddr (tmps.getD c undef))
theorem results_eq (fn : Func) (tmps : Array Value) : results fn tmps = (do let vs ← fn.results.mapM (resF tmps); pure (if h : vs.size = 1 then vs[0] else .tuple vs)) := rfl
theorem res_run {rs : List RV} : ∀ {l : List ResultVar} (_ : l.mapM (cRes P) = some rs) (_ : RelAll N G A a) (_ : RepW w0 G st w) (_ : rvAll st A rs),
    ∃ us, (l.mapM (resF a.tmps)).run P w = .ok us w ∧ us.length = rs.length ∧
      ∀ (i : Nat) (r : RV) (u : Value), rs[i]? = some r → us[i]? = some u → Rep1 G (rvVal st A r).2 u := by
  induction rs with
  | nil =>
    intro l hc hr hw h
    have hl : l = [] := List.eq_nil_of_length_eq_zero (by have := (mapM_get hc).1; simpa using this.symm)
    subst hl
    exact ⟨[], by simp, rfl, fun i r u hi => by simp at hi⟩
  | cons r rs ih =>
    intro l hc hr hw h
    cases l with
    | nil => simp at hc
    | cons x l =>
      simp only [List.mapM_cons, Option.pure_def, Option.bind_eq_bind, Option.bind_eq_some_iff, Option.some.injEq, List.cons.injEq] at hc
      obtain ⟨r', hr', rs', hrs', rfl, rfl⟩ := hc
      obtain ⟨us, h1, h2, h3⟩ := ih hrs' hr hw h.2
      have hx : ∃ u, (resF a.tmps x).run P w = .ok u w ∧ Rep1 G (rvVal st A r').2 u := by
        cases x with
        | tmp t =>
          simp only [cRes, Option.some.injEq] at hr'; subst hr'
          exact ⟨_, rfl, hr.rep t⟩
        | cell c t =>
          simp only [cRes, Option.map_eq_some_iff] at hr'
          obtain ⟨⟨n, size⟩, hl, rfl⟩ := hr'
          obtain ⟨u, k1, k2⟩ := vload_sound hl hw (hr.rep c) h.1
          refine ⟨u, ?_, k2⟩
          have hp : ∃ ad, a.tmps.getD c undef = .pointer (some ad) := by
            have h0 := h.1
            simp only [rvVal] at h0
            have h4 := hr.rep c
            unfold vload at h0
            split at h0
            · rename_i hc'
              rw [hc'] at h4
              generalize a.tmps.getD c undef = z at h4
              cases h4; exact ⟨_, rfl⟩
            · rename_i hc'
              rw [hc'] at h4
              exact ⟨_, h4.sc_inv⟩
            · exact h0.elim
          obtain ⟨ad, had⟩ := hp
          rw [had] at k1
          simp only [resF, had]
          simpa [Instr.loadAt, Instr.sureAddr, asAddr] using k1
      obtain ⟨u, k1, k2⟩ := hx
      refine ⟨u :: us, ?_, by simp [h2], fun i r u' hi hu => ?_⟩
      · simp only [List.mapM_cons, Sem.run_bind, k1, Result.andThen_ok, h1, Sem.run_pure]
      · cases i with
        | zero => simp at hi hu; subst hi; subst hu; exact k2
        | succ i => exact h3 i r u' (by simpa using hi) (by simpa using hu)
/-- All that the state speaks of lies below its bound. -/
structure St.Wf (s : St) : Prop where
  box : ∀ b cs, s.box b = some cs → b < s.sz
  own : ∀ g m, s.own g = some m → g < s.sz
  ok : ∀ b cs, s.box b = some cs → ∀ c ∈ cs, c.Ok
theorem vcalls_enter {f : FuncId} {F : FC} (hf : cFun P f = some F) {args : List V} {Q : V → St → Prop} (hn : args.length ≤ F.n) (h : st.Wf → (∀ d ∈ args, d.Ok) → vwp P F.body (finQ F.res Q) (args0 args) st) : VCalls P f args st Q := by
  intro w0 G w us hw hl hrep
  unfold cFun at hf
  split at hf
  · rename_i fn hfn
    split at hf
    · rename_i c hc
      split at hf
      · rename_i b r hb hres
        simp only [Option.some.injEq] at hf; subst hf
        simp only at h hn
        refine calls_of_wp hfn hc (vwp_sound (N := fn.ntmps) c b hb (G := G) (A := args0 args) ?_ hw (h ⟨fun b cs hb => (hw.box b cs hb).1, fun g m hg => (hw.own g m hg).1, fun b cs hb => (hw.box b cs hb).2.2.2.2.ok⟩ fun d hd => ?_) ?_)
        · refine ⟨by simp; omega, rfl, fun t => ?_⟩
          simp only [args0]
          by_cases ht : t < us.size
          · have h1 : args[t]? = some (args[t]'(by omega)) := List.getElem?_eq_getElem _
            have h2 : us[t]? = some us[t] := Array.getElem?_eq_getElem ht
            have := hrep t _ _ h1 h2
            rw [List.getD_eq_getElem?_getD, h1, Array.getD_eq_getD_getElem?, Array.getElem?_append_left ht, h2]
            exact this
          · have h1 : args[t]? = none := List.getElem?_eq_none (by omega)
            rw [List.getD_eq_getElem?_getD, h1, Array.getD_eq_getD_getElem?, Array.getElem?_append_right (by omega)]
            have : ((Array.replicate (fn.ntmps - us.size) undef)[t - us.size]?).getD undef = undef := by
              rw [Array.getElem?_replicate]; split <;> rfl
            rw [this]
            exact .und
        · obtain ⟨i, hi, rfl⟩ := List.mem_iff_getElem.1 hd
          exact (hrep i _ _ (List.getElem?_eq_getElem hi) (Array.getElem?_eq_getElem (by omega))).ok
        · intro ve A' a' st' w' G' hq hle hr' hw'
          have fin : vret r Q A' st' → a'.defers = [] ∧ ∃ v, (results fn a'.tmps).run P w' = .ok v w' ∧ ∃ u r st2 G2, Ending.returned v = .returned u ∧ Q r st2 ∧ Rep1 G2 r u ∧ G.le G2 ∧ RepW w0 G2 st2 w' := fun hv => by
            obtain ⟨h1, r', st2, h2, h3, h4⟩ := hv
            obtain ⟨vs, k1, k2, k3⟩ := res_run hres hr' hw' h1
            have hm : (fn.results.mapM (resF a'.tmps)).run P w' = .ok vs.toArray w' := by
              rw [Array.mapM_eq_mapM_toList, Sem.run_map, k1]; rfl
            refine ⟨hr'.defers, (if h : vs.toArray.size = 1 then vs.toArray[0] else .tuple vs.toArray), ?_, _, r', st2, G', rfl, h4, h2 _ _ ?_, hle, hw'.weak h3⟩
            · rw [results_eq, Sem.run_bind, hm]
              rfl
            · unfold resV
              split
              · rename_i r1
                have hl1 : vs.length = 1 := by simpa using k2
                rw [dif_pos (by simpa using hl1)]
                exact k3 0 r1 _ rfl (by simp)
              · rename_i hne
                have hl1 : ¬ vs.length = 1 := fun e => by
                  rw [k2] at e
                  match r, e with
                  | [x], _ => exact hne x rfl
                rw [dif_neg (by simpa using hl1)]
                refine .tup _ _ (by simp [k2]) (fun i c v hc hv => ?_)
                simp only [List.getElem?_map, Option.map_eq_some_iff] at hc
                obtain ⟨rr, hrr, rfl⟩ := hc
                exact k3 i rr v hrr (by simpa using hv)
          cases ve with
          | normal => exact fin hq
          | ret => exact fin hq
          | exit id => exact hq.elim
      · cases hf
    · cases hf
  · cases hf
end
end Go.Proofs.Ytlngegoamfklgaa
