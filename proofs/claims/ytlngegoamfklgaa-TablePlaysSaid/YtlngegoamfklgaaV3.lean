/- The operations that turn nothing do what the compiled ones say. -/
import Derived.Test.YtlngegoamfklgaaV2
import Derived.Laws.Cells
import Derived.Laws.Small
namespace Go.Proofs.Ytlngegoamfklgaa
open Go Go.RowKit

section
variable {P : Program} {w0 : Fr} {G : Gh} {st : St} {w : World} {A : Nat → V} {a : Act}

theorem Rep1.int_inv {k : IntKind} {n : Int} {v : Value} (h : Rep1 G (.sc (.int k n)) v) : v = .int k n := by cases h; rfl
theorem Rep1.sc_inv {u v : Value} (h : Rep1 G (.sc u) v) : v = u := by cases h; rfl

theorem bits_ok (op : BinOp) (k : IntKind) (x y : Int) (h : op = .and ∨ op = .or ∨ op = .xor ∨ op = .andNot) (w : World) : (Op.intBits op k x y).run P w = .ok (.int k (ibit op k x y)) w := by
  rcases h with rfl | rfl | rfl | rfl <;> rfl
theorem tdiv_pos {x y : Int} (hx : 0 ≤ x) : x.tdiv y = x / y := Int.tdiv_eq_ediv_of_nonneg hx
theorem vbinI_sound {op : BinOp} {k k' : IntKind} {x y : Int} (t : TypeId) (h : (vbinI op k x k' y).1) (w : World) :
    ∃ u, (binOp op t (.int k x) (.int k' y)).run P w = .ok u w ∧ (vbinI op k x k' y).2 = .sc u ∧ u.oneCell' = true := by
  cases op <;> simp only [vbinI] at h ⊢
  case add => obtain ⟨rfl, h⟩ := h; exact ⟨.int k (k.wrap (x + y)), by simp [binOp, Op.intArith], norm_wrap h, rfl⟩
  case sub => obtain ⟨rfl, h⟩ := h; exact ⟨.int k (k.wrap (x - y)), by simp [binOp, Op.intArith], norm_wrap h, rfl⟩
  case mul => obtain ⟨rfl, h⟩ := h; exact ⟨.int k (k.wrap (x * y)), by simp [binOp, Op.intArith], norm_wrap h, rfl⟩
  case quo =>
    obtain ⟨rfl, h0, h1, h⟩ := h
    refine ⟨.int k (k.wrap (x / y)), ?_, norm_wrap h, rfl⟩
    simp [binOp, Op.intDiv, show y ≠ 0 by omega, tdiv_pos h0]
  case rem =>
    obtain ⟨rfl, h0, h1⟩ := h
    refine ⟨.int k (x % y), ?_, rfl, rfl⟩
    simp [binOp, Op.intDiv, show y ≠ 0 by omega, Int.tmod_eq_emod_of_nonneg h0]
  case and => subst h; exact ⟨_, by simp only [binOp, ne_eq, not_true, if_false]; exact bits_ok .and k x y (by simp) w, rfl, rfl⟩
  case or => subst h; exact ⟨_, by simp only [binOp, ne_eq, not_true, if_false]; exact bits_ok .or k x y (by simp) w, rfl, rfl⟩
  case xor => subst h; exact ⟨_, by simp only [binOp, ne_eq, not_true, if_false]; exact bits_ok .xor k x y (by simp) w, rfl, rfl⟩
  case andNot => subst h; exact ⟨_, by simp only [binOp, ne_eq, not_true, if_false]; exact bits_ok .andNot k x y (by simp) w, rfl, rfl⟩
  case shl =>
    obtain ⟨h0, h⟩ := h
    refine ⟨.int k (k.wrap (x * 2 ^ shAmt k y)), ?_, norm_wrap h, rfl⟩
    simp [binOp, Op.shift, show ¬ y < 0 by omega, shAmt]
  case shr =>
    refine ⟨.int k (x / 2 ^ shAmt k y), ?_, rfl, rfl⟩
    have : (0 : Int) ≤ 2 ^ shAmt k y := Int.pow_nonneg (by omega)
    have e : x.fdiv (2 ^ shAmt k y) = x / 2 ^ shAmt k y := Int.fdiv_eq_ediv_of_nonneg _ this
    unfold shAmt at e ⊢
    simp only [binOp, Op.shift, show ¬ y < 0 by omega, if_false, Sem.run_pure, e]
  case eql => subst h; exact ⟨_, by simp only [binOp, ne_eq, not_true, if_false, Op.intCmp, Sem.run_pure]; rfl, rfl, rfl⟩
  case neq => subst h; exact ⟨.bool (decide (x ≠ y)), by simp only [binOp, ne_eq, not_true, if_false, Op.intCmp, Sem.run_pure, bne]; rw [show (x == y) = decide (x = y) from rfl]; simp, rfl, rfl⟩
  case lss => subst h; exact ⟨_, by simp only [binOp, ne_eq, not_true, if_false, Op.intCmp, Sem.run_pure], rfl, rfl⟩
  case leq => subst h; exact ⟨_, by simp only [binOp, ne_eq, not_true, if_false, Op.intCmp, Sem.run_pure], rfl, rfl⟩
  case gtr => subst h; exact ⟨_, by simp only [binOp, ne_eq, not_true, if_false, Op.intCmp, Sem.run_pure], rfl, rfl⟩
  case geq => subst h; exact ⟨_, by simp only [binOp, ne_eq, not_true, if_false, Op.intCmp, Sem.run_pure], rfl, rfl⟩
theorem vbinS_sound {op : BinOp} {x y : ByteArray} (t : TypeId) (h : (vbinS op x y).1) (w : World) :
    ∃ u, (binOp op t (.string x) (.string y)).run P w = .ok u w ∧ (vbinS op x y).2 = .sc u ∧ u.oneCell' = true := by
  cases op <;> simp only [vbinS] at h ⊢
  case add => exact ⟨.string (x ++ y), by simp [binOp, Op.stringOp, IntKind.max, IntKind.signed, IntKind.bits]; omega, rfl, rfl⟩
  case eql => exact ⟨_, by simp only [binOp, Op.stringOp, string_beq]; rfl, rfl, rfl⟩
  case neq => exact ⟨.bool (decide (x ≠ y)), by simp [binOp, Op.stringOp, string_beq], rfl, rfl⟩
  case lss => exact ⟨_, by simp only [binOp, Op.stringOp]; rfl, rfl, rfl⟩
  case leq => exact ⟨_, by simp only [binOp, Op.stringOp, string_beq]; rfl, rfl, rfl⟩
  case gtr => exact ⟨_, by simp only [binOp, Op.stringOp, string_beq]; rfl, rfl, rfl⟩
  case geq => exact ⟨_, by simp only [binOp, Op.stringOp]; rfl, rfl, rfl⟩
theorem eqGuard_plain (op : BinOp) (t : TypeId) (x y : Operand) (u v : Value) (h : (∃ k n, u = .int k n) ∨ ∃ s, u = .string s) (w : World) : (eqGuard op t x y u v).run P w = .ok () w := by
  unfold eqGuard
  rcases h with ⟨k, n, rfl⟩ | ⟨s, rfl⟩ <;> (split <;> simp)
theorem vbin_sound {op : BinOp} {x y : V} {u v : Value} (t : TypeId) (ox oy : Operand) (hx : Rep1 G x u) (hy : Rep1 G y v) (h : (vbin op x y).1) (w : World) :
    ∃ r, (do eqGuard op t ox oy u v; binOp op t u v : Sem Value).run P w = .ok r w ∧ Rep1 G (vbin op x y).2 r := by
  unfold vbin at h ⊢
  split at h
  · rename_i k a k' b
    cases hx; cases hy
    obtain ⟨r, h1, h2, h3⟩ := vbinI_sound (P := P) t h w
    exact ⟨r, by simp [eqGuard_plain op t ox oy _ _ (.inl ⟨_, _, rfl⟩), h1], by rw [h2]; exact .sc r h3⟩
  · rename_i a b
    cases hx; cases hy
    obtain ⟨r, h1, h2, h3⟩ := vbinS_sound (P := P) t h w
    exact ⟨r, by simp [eqGuard_plain op t ox oy _ _ (.inr ⟨_, rfl⟩), h1], by rw [h2]; exact .sc r h3⟩
  · exact h.elim
theorem vun_sound {op : UnOp} {x : V} {u : Value} (hx : Rep1 G x u) (h : (vun op x).1) (w : World) : ∃ r, (Op.unary op u).run P w = .ok r w ∧ Rep1 G (vun op x).2 r := by
  unfold vun at h ⊢
  split at h
  · rename_i k n
    cases hx
    cases op <;> simp only at h ⊢
    case neg => exact ⟨.int k (k.wrap (0 - n)), by simp [Op.unary, Op.intArith], by rw [norm_wrap h]; exact .sc _ rfl⟩
    case xor => exact ⟨_, by simp only [Op.unary]; exact bits_ok .xor k _ n (by simp) w, .sc _ rfl⟩
  · rename_i b
    cases hx
    cases op <;> simp only at h ⊢
    case not => exact ⟨.bool (!b), by simp [Op.unary], .sc _ rfl⟩
  · exact h.elim

/-! ### Loads -/
def aggB : TypeDesc → Bool
  | .struct _ | .array _ _ => true
  | _ => false
theorem layout_inv {t : TypeId} {n : Option Nat} {size : Nat} (h : layout P t = some (n, size)) : ∃ d i, P.underlying t = some d ∧ P.info? t = some i ∧ i.size = size ∧
    ((n = some size ∧ aggB d = true) ∨ (n = none ∧ size = 1 ∧ aggB d = false)) := by
  unfold layout at h
  split at h
  · rename_i fs i hu hi
    simp only [Option.some.injEq, Prod.mk.injEq] at h
    exact ⟨_, i, hu, hi, h.2, .inl ⟨by rw [← h.1, h.2], rfl⟩⟩
  · rename_i m e i hu hi
    simp only [Option.some.injEq, Prod.mk.injEq] at h
    exact ⟨_, i, hu, hi, h.2, .inl ⟨by rw [← h.1, h.2], rfl⟩⟩
  · rename_i d i h1 h2 hu hi
    split at h
    · rename_i hs
      simp only [Option.some.injEq, Prod.mk.injEq] at h
      refine ⟨_, i, hu, hi, by omega, .inr ⟨h.1.symm, h.2.symm, ?_⟩⟩
      cases d <;> first | rfl | exact absurd rfl (h1 _) | exact absurd rfl (h2 _ _)
    · cases h
  · cases h
theorem run_isAgg {t : TypeId} {d : TypeDesc} (h : P.underlying t = some d) (w : World) : (isAgg t).run P w = .ok (aggB d) w := by
  simp only [isAgg, Sem.run_bind, run_underlying h, Result.andThen_ok]
  cases d <;> simp [aggB]
theorem run_sizeOf' {t : TypeId} {i : TypeInfo} (h : P.info? t = some i) (w : World) : (sizeOf t).run P w = .ok i.size w := by
  simp [sizeOf, typeInfo, h]
theorem addr_add (b o n : Nat) : (⟨b, o, none⟩ : Addr).add n = ⟨b, o + n, none⟩ := by
  unfold Addr.add; split
  · rename_i h; subst h; rfl
  · rfl
theorem takeV_sound {t : TypeId} {n : Option Nat} {size : Nat} (hl : layout P t = some (n, size)) {cs : List V} {b o off : Nat} {u : Nat → Value} (hc : ∀ j, j < cs.length → w.cell? ⟨b, o + j, none⟩ = some (u j))
    (h1 : ∀ j, j < cs.length → (u j).oneCell' = true) (hr : ∀ (j : Nat) (c : V), cs[j]? = some c → Rep1 G c (u j)) (h : (takeV cs off n).1) :
    ∃ r, (loadVar t ⟨b, o + off, none⟩).run P w = .ok r w ∧ Rep1 G (takeV cs off n).2 r := by
  obtain ⟨d, i, hu, hi, hs, hk⟩ := layout_inv hl
  rcases hk with ⟨rfl, hd⟩ | ⟨rfl, rfl, hd⟩
  · simp only [takeV] at h ⊢
    have hcells := run_loadCells (P := P) w ⟨b, o + off, none⟩ size (fun j => u (off + j)) (fun j hj => by rw [addr_add, Nat.add_assoc]; exact hc _ (by omega))
    refine ⟨.agg ((List.range size).map fun j => u (off + j)).toArray, ?_, ?_⟩
    · simp only [loadVar, Sem.run_bind, run_isAgg hu, hd, Result.andThen_ok, if_true, run_sizeOf' hi, hs, hcells, Sem.run_pure]
    · refine .agg _ _ (by simp; omega) (fun i v hv => ?_) (fun i c v hcc hv => ?_)
      · simp [List.getElem?_range] at hv
        obtain ⟨j, hj, rfl⟩ := hv
        have := (List.getElem?_eq_some_iff.1 hj).1
        simp at this
        rw [List.getElem?_range this] at hj
        cases hj
        exact h1 _ (by omega)
      · rw [List.getElem?_take] at hcc
        split at hcc
        · rename_i hlt
          rw [List.getElem?_drop] at hcc
          simp [List.getElem?_range hlt] at hv
          subst hv
          exact hr _ _ hcc
        · cases hcc
  · simp only [takeV] at h ⊢
    split at h
    · rename_i c hcc
      have hlt := (List.getElem?_eq_some_iff.1 hcc).1
      refine ⟨u off, ?_, hr _ _ hcc⟩
      simp only [loadVar, Sem.run_bind, run_isAgg hu, hd, Result.andThen_ok, Bool.false_eq_true, if_false, run_load, hc _ hlt]
    · exact h.elim
/-- What a box's block holds, as a function. -/
theorem RepW.boxCells (hw : RepW w0 G st w) {b : Nat} {cs : List V} (hb : st.box b = some cs) (hm : mono cs) : ∃ (u : Nat → Value), (∀ j, j < cs.length → w.cell? ⟨b, 0 + j, none⟩ = some (u j)) ∧ (∀ j, j < cs.length → (u j).oneCell' = true) ∧ ∀ (j : Nat) (c : V), cs[j]? = some c → Rep1 G c (u j) := by
  obtain ⟨vs, e, hh, hl, h1, hr⟩ := (hw.box b cs hb).2.2.2.2.row hm
  refine ⟨fun j => vs.getD j undef, fun j hj => ?_, fun j hj => ?_, fun j c hc => ?_⟩
  · rw [Nat.zero_add, cell_of_row w b j vs e _ hh]
    simp [Array.getElem?_eq_getElem (show j < vs.size by omega)]
  · exact h1 j _ (by simp [Array.getElem?_eq_getElem (show j < vs.size by omega)])
  · have hlt := (List.getElem?_eq_some_iff.1 hc).1
    exact hr j c _ hc (by simp [Array.getElem?_eq_getElem (show j < vs.size by omega)])
theorem takeB_spec {cs : List V} {off : Nat} {n : Option Nat} (h : (takeB cs off n).1) : mono cs ∧ (takeV cs off n).1 ∧ (takeB cs off n).2 = (takeV cs off n).2 := by
  cases n with
  | some n => exact ⟨h.2, h.1, rfl⟩
  | none =>
    refine ⟨?_, h, rfl⟩
    simp only [takeB, takeV] at h
    split at h
    · rename_i c hc
      unfold mono
      split
      · rename_i d
        have : c = d := by
          cases off with
          | zero => simpa using hc.symm
          | succ o => simp at hc
        subst this
        cases c <;> first | rfl | (simp [V.cells] at h; done)
      · trivial
    · exact h.elim
theorem vload_sound {t : TypeId} {n : Option Nat} {size : Nat} (hl : layout P t = some (n, size)) (hw : RepW w0 G st w) {x : V} {v : Value} (hx : Rep1 G x v) (h : (vload st n x).1) :
    ∃ r, (Instr.loadAt t v).run P w = .ok r w ∧ Rep1 G (vload st n x).2 r := by
  unfold vload at h ⊢
  split at h
  · rename_i cs off
    cases hx with
    | ep _ _ b o u hF h1 hr =>
      obtain ⟨r, hr1, hr2⟩ := takeV_sound hl (w := w) (b := b) (o := o) (u := u) (fun j hj => hw.F _ _ _ (hF j hj)) h1 hr h
      exact ⟨r, by simpa [Instr.loadAt, Instr.sureAddr] using hr1, hr2⟩
  · rename_i b o
    cases hx
    split at h
    · rename_i cs hb
      obtain ⟨hm, h, e2⟩ := takeB_spec h
      rw [e2]
      obtain ⟨u, hc, h1, hr⟩ := hw.boxCells hb hm
      obtain ⟨r, hr1, hr2⟩ := takeV_sound hl (w := w) (b := b) (o := 0) (off := o) hc h1 hr h
      rw [Nat.zero_add] at hr1
      exact ⟨r, by simpa [Instr.loadAt, Instr.sureAddr] using hr1, hr2⟩
    · exact h.elim
  · exact h.elim

/-! ### Addresses, lengths, parts -/
theorem vix_sound {t : TypeId} {e : TypeId} {i : TypeInfo} (hu : P.underlying t = some (.slice e)) (hi : P.info? e = some i) {x y : V} {u v : Value} (hx : Rep1 G x u) (hy : Rep1 G y v) (h : (vix i.size x y).1) :
    ∃ r, (Instr.indexAt t u v).run P w = .ok r w ∧ Rep1 G (vix i.size x y).2 r := by
  unfold vix at h ⊢
  split at h
  · rename_i own l k n
    cases hy
    split at h
    · rename_i d hd
      have hlt := (List.getElem?_eq_some_iff.1 hd).1
      simp only at h
      cases hx with
      | nil => simp at hd
      | emp => simp at hd
      | sl _ _ b o kk cap uu hk hF h1 hr =>
        have e1 := hk _ _ hd
        have e2 : kk = i.size := by omega
        subst e2
        refine ⟨.pointer (some ⟨b, (o + n.toNat * i.size) + 0, none⟩), ?_, .ep d.cells 0 b (o + n.toNat * i.size) (uu n.toNat) (fun j hj => hF _ _ hlt (by omega)) (fun j hj => h1 _ _ hlt (by omega)) (fun j c hc => hr _ _ _ _ hd hc)⟩
        have hin : 0 ≤ n ∧ n < (l.length : Int) := ⟨h.1, by omega⟩
        simp [Instr.indexAt, asIntOf, run_underlying hu, hin, run_sizeOf' hi, addr_add]
    · exact h.elim
  · rename_i b o m c k n
    cases hy; cases hx
    simp only at h
    exact ⟨_, by simp [Instr.indexAt, asIntOf, run_underlying hu, h, run_sizeOf' hi, addr_add], .sc _ rfl⟩
  · exact h.elim
theorem vixa_sound {t e len : Nat} {i : TypeInfo} (hu : P.underlying t = some (.array len e)) (hi : P.info? e = some i) {x y : V} {u v : Value} (hx : Rep1 G x u) (hy : Rep1 G y v) (h : (vixa len i.size x y).1) :
    ∃ r, (Instr.indexAt t u v).run P w = .ok r w ∧ Rep1 G (vixa len i.size x y).2 r := by
  unfold vixa at h ⊢
  split at h
  · rename_i b o k n
    cases hy; cases hx
    simp only at h
    exact ⟨_, by simp [Instr.indexAt, asIntOf, run_underlying hu, h, run_sizeOf' hi, addr_add, Instr.sureAddr], .sc _ rfl⟩
  · rename_i cs off k n
    cases hy
    simp only at h
    cases hx with
    | ep _ _ b o uu hF h1 hr =>
      refine ⟨.pointer (some ⟨b, o + (off + n.toNat * i.size), none⟩), ?_, .ep cs _ b o uu hF h1 hr⟩
      simp [Instr.indexAt, asIntOf, run_underlying hu, h, run_sizeOf' hi, addr_add, Instr.sureAddr, Nat.add_assoc]
  · exact h.elim
theorem vfld_sound {s f : Nat} {fields : Array Field} {fd : Field} {i : TypeInfo} (hu : P.underlying s = some (.struct fields)) (hf : fields[f]? = some fd) (hi : P.info? fd.type = some i) (h0 : i.size ≠ 0) {x : V} {u : Value} (hx : Rep1 G x u) (h : (vfld fd.offset x).1) :
    ∃ r, (Instr.fieldAt s u f).run P w = .ok r w ∧ Rep1 G (vfld fd.offset x).2 r := by
  unfold vfld at h ⊢
  split at h
  · rename_i b o
    cases hx
    exact ⟨_, by simp [Instr.fieldAt, run_underlying hu, hf, Instr.sureAddr, fieldPlace, run_sizeOf' hi, h0, addr_add], .sc _ rfl⟩
  · rename_i cs off
    cases hx with
    | ep _ _ b o uu hF h1 hr =>
      refine ⟨.pointer (some ⟨b, o + (off + fd.offset), none⟩), ?_, .ep cs _ b o uu hF h1 hr⟩
      simp [Instr.fieldAt, run_underlying hu, hf, Instr.sureAddr, fieldPlace, run_sizeOf' hi, h0, addr_add, Nat.add_assoc]
  · exact h.elim
theorem vlen_sound {t ty e : TypeId} {ts : Array TypeId} (ht : ts[0]? = some t) (hu : P.underlying t = some (.slice e)) {x : V} {u : Value} {us : Array Value} (hus : us[0]? = some u) (hx : Rep1 G x u) (h : (vlen x).1) :
    ∃ r, (Builtin.len_ ts ty us).run P w = .ok r w ∧ Rep1 G (vlen x).2 r := by
  unfold vlen at h ⊢
  split at h
  · rename_i o l
    cases hx with
    | nil => exact ⟨.int .i64 0, by simp [Builtin.len_, ht, hus, run_underlying hu, goInt], .sc _ rfl⟩
    | emp => exact ⟨.int .i64 0, by simp [Builtin.len_, ht, hus, run_underlying hu, goInt], .sc _ rfl⟩
    | sl _ _ b oo kk cap uu => exact ⟨.int .i64 l.length, by simp [Builtin.len_, ht, hus, run_underlying hu, goInt], .sc _ rfl⟩
  · rename_i A0 n c
    cases hx
    exact ⟨.int .i64 n, by simp [Builtin.len_, ht, hus, run_underlying hu, goInt], .sc _ rfl⟩
  · exact h.elim
theorem vslen_sound {t ty : TypeId} {ts : Array TypeId} (ht : ts[0]? = some t) (hu : P.underlying t = some .string) {x : V} {u : Value} {us : Array Value} (hus : us[0]? = some u) (hx : Rep1 G x u) (h : (vslen x).1) :
    ∃ r, (Builtin.len_ ts ty us).run P w = .ok r w ∧ Rep1 G (vslen x).2 r := by
  unfold vslen at h ⊢
  split at h
  · rename_i s
    cases hx
    exact ⟨.int .i64 s.size, by simp [Builtin.len_, ht, hus, run_underlying hu, goInt], .sc _ rfl⟩
  · exact h.elim
theorem vext_sound {x : V} {u : Value} {i : Nat} (hx : Rep1 G x u) (h : (vext i x).1) : ∃ r, (Instr.extract u i).run P w = .ok r w ∧ Rep1 G (vext i x).2 r := by
  unfold vext at h ⊢
  split at h
  · rename_i cs
    split at h
    · rename_i c hc
      have hlt := (List.getElem?_eq_some_iff.1 hc).1
      cases hx with
      | tup _ vs hl hr =>
        have hv : vs[i]? = some (vs[i]'(by omega)) := Array.getElem?_eq_getElem _
        exact ⟨_, by simp only [Instr.extract, hv]; rfl, hr _ _ _ hc hv⟩
    · exact h.elim
  · exact h.elim
theorem vmm_sound {mx : Bool} {x y : V} {u v : Value} (hx : Rep1 G x u) (hy : Rep1 G y v) (h : (vmm mx x y).1) (ts : Array TypeId) (t : TypeId) :
    ∃ r, (if mx then Builtin.max_ ts t #[u, v] else Builtin.min_ ts t #[u, v]).run P w = .ok r w ∧ Rep1 G (vmm mx x y).2 r := by
  unfold vmm at h ⊢
  split at h
  · rename_i k a k' b
    cases hx; cases hy
    cases mx
    · refine ⟨.int k (min a b), ?_, .sc _ rfl⟩
      simp only [Bool.false_eq_true, if_false, run_min_int2]
      congr 2
      split <;> omega
    · refine ⟨.int k (max a b), ?_, .sc _ rfl⟩
      simp only [if_true, run_max_int2]
      congr 2
      split <;> omega
  · exact h.elim
theorem vconv_sound {s t : TypeId} {k : IntKind} {sd : TypeDesc} (hs : P.underlying s = some sd) (hu : P.underlying t = some (.int k)) {x : V} {u : Value} (hx : Rep1 G x u) (h : (vconv k x).1) : ∃ r, (convert s t u).run P w = .ok r w ∧ Rep1 G (vconv k x).2 r := by
  unfold vconv at h ⊢
  split at h
  · rename_i k' n
    cases hx
    refine ⟨.int k (k.wrap n), ?_, by rw [norm_wrap h]; exact .sc _ rfl⟩
    simp only [convert, Sem.run_bind, run_underlying hs, run_underlying hu, Result.andThen_ok]
    rfl
  · exact h.elim

/-! ### Cuts -/
theorem Rep1.cut {own : Tk} {l : List V} {A0 : Option Addr} {n c : Nat} (h : Rep1 G (.sl own l) (.slice A0 n c)) (x y size : Nat) (hxy : x ≤ y) (hy : y ≤ l.length) (hs : ∀ (i : Nat) (d : V), l[i]? = some d → d.cells.length = size) :
    Rep1 G (.sl .no ((l.take y).drop x)) (.slice (if c = x then A0 else A0.map (·.add (x * size))) (y - x) (c - x)) := by
  cases h with
  | nil =>
    simp at hy; subst hy
    simp at hxy; subst hxy
    simpa using Rep1.nil .no (fun g k e => by cases e)
  | emp a cap hm =>
    simp at hy; subst hy
    simp at hxy; subst hxy
    simp only [List.take_zero, List.drop_zero, Nat.sub_zero, Option.map_some]
    split <;> exact .emp _ _ hm
  | sl _ _ b o k cap u hk hF h1 hr hcap hm ho hown =>
    by_cases hc : c = x
    · have : y = x := by omega
      subst this
      rw [if_pos hc]
      have e : ((l.take y).drop y) = [] := by simp
      rw [e, show y - y = ([] : List V).length by simp]
      exact .sl .no [] b o k _ u (fun i d hd => by simp at hd) (fun i j hi => by simp at hi) (fun i j hi => by simp at hi) (fun i d j c hd => by simp at hd) (by simp) (by omega) (by simp) (fun g k e => by cases e)
    · rw [if_neg hc]
      have hlen : ((l.take y).drop x).length = y - x := by simp; omega
      rw [← hlen]
      have hget : ∀ i d, ((l.take y).drop x)[i]? = some d → l[x + i]? = some d ∧ x + i < y := fun i d hd => by
        rw [List.getElem?_drop, List.getElem?_take] at hd
        split at hd
        · rename_i hlt; exact ⟨hd, hlt⟩
        · cases hd
      have hsz : ∀ i, i < y - x → k = size := fun i hi => by
        have := List.getElem?_eq_getElem (show x + i < l.length by omega)
        rw [← hk _ _ this, hs _ _ this]
      have e : (Option.map (fun a => a.add (x * size)) (some (⟨b, o, none⟩ : Addr))) = some ⟨b, o + x * size, none⟩ := by simp [addr_add]
      rw [e]
      refine .sl .no _ b (o + x * size) k (c - x) (fun i j => u (x + i) j) (fun i d hd => hk _ _ (hget i d hd).1) (fun i j hi hj => ?_) (fun i j hi hj => h1 _ _ (by omega) hj) (fun i d j c hd hc => hr _ _ _ _ (hget i d hd).1 hc) (by omega) (by omega) (by simp) (fun g k e => by cases e)
      have := hsz i (by omega)
      subst this
      rw [show o + x * k + i * k + j = o + (x + i) * k + j by rw [Nat.add_mul]; omega]
      exact hF _ _ (by omega) hj

def oRep (G : Gh) : Option V → Option Value → Prop
  | none, none => True
  | some x, some v => Rep1 G x v
  | _, _ => False
theorem run_bound {k : IntKind} {n : Int} {y : Nat} (h0 : 0 ≤ n) (h1 : n ≤ y) (c : BoundsCode) (w : World) : (Instr.sliceBound (.int k n) y c).run P w = .ok n.toNat w := by
  simp [Instr.sliceBound, asIntOf, h0, h1]
theorem vslc_sound {t e : TypeId} {i : TypeInfo} (hu : P.underlying t = some (.slice e)) (hi : P.info? e = some i) {x : V} {u : Value} {lo hi' : Option V} {ulo uhi : Option Value} (hx : Rep1 G x u) (hlo : oRep G lo ulo) (hhi : oRep G hi' uhi) (h : (vslc i.size x lo hi').1) :
    ∃ r, (Instr.sliceAt t u ulo uhi none).run P w = .ok r w ∧ Rep1 G (vslc i.size x lo hi').2 r := by
  unfold vslc at h ⊢
  split at h
  · rename_i own l
    have hsl : ∃ A0 c, u = .slice A0 l.length c ∧ l.length ≤ c := by
      cases hx with
      | nil => exact ⟨none, 0, rfl, Nat.le_refl _⟩
      | emp a cap hm => exact ⟨some a, cap, rfl, Nat.zero_le _⟩
      | sl _ _ b o k cap uu hk hF h1 hr hcap => exact ⟨some ⟨b, o, none⟩, cap, rfl, hcap⟩
    obtain ⟨A0, c, rfl, hc⟩ := hsl
    have key : ∀ x y : Nat, x ≤ y → y ≤ l.length → allSz i.size l → Rep1 G (.sl .no ((l.take y).drop x)) (.slice (if c = x then A0 else A0.map (·.add (x * i.size))) (y - x) (c - x)) := fun x y h1 h2 h3 => hx.cut x y i.size h1 h2 (fun j d hd => h3 d (List.mem_of_getElem? hd))
    split at h
    · cases ulo <;> cases uhi <;> simp only [oRep] at hlo hhi
      refine ⟨_, by simp [Instr.sliceAt, Instr.slice, run_underlying hu, Instr.sliceBounds, run_sizeOf' hi]; rfl, ?_⟩
      simpa using key 0 l.length (by omega) (Nat.le_refl _) h
    · cases ulo <;> cases uhi <;> simp only [oRep] at hlo hhi
      rename_i k a v
      cases hlo
      refine ⟨_, by simp [Instr.sliceAt, Instr.slice, run_underlying hu, Instr.sliceBounds, run_sizeOf' hi, run_bound h.2.1 (show a ≤ (l.length : Nat) by omega)]; rfl, ?_⟩
      simpa using key a.toNat l.length h.2.2 (Nat.le_refl _) h.1
    · cases ulo <;> cases uhi <;> simp only [oRep] at hlo hhi
      rename_i k a v
      cases hhi
      refine ⟨_, by simp [Instr.sliceAt, Instr.slice, run_underlying hu, Instr.sliceBounds, run_sizeOf' hi, run_bound h.2.1 (show a ≤ (c : Nat) by omega)]; rfl, ?_⟩
      simpa using key 0 a.toNat (by omega) h.2.2 h.1
    · cases ulo <;> cases uhi <;> simp only [oRep] at hlo hhi
      rename_i k a k' b v v'
      cases hlo; cases hhi
      refine ⟨_, by simp [Instr.sliceAt, Instr.slice, run_underlying hu, Instr.sliceBounds, run_sizeOf' hi, run_bound (show 0 ≤ b by omega) (show b ≤ (c : Nat) by omega), run_bound h.2.1 (show a ≤ (b.toNat : Nat) by omega)]; rfl, ?_⟩
      simpa using key a.toNat b.toNat (by omega) h.2.2.2 h.1
    · exact h.elim
  · rename_i b0 o n c
    cases hx with
    | sc _ _ =>
    have key : ∀ x y : Nat, (x = 0 ∨ x < c) → (if c = x then some (⟨b0, o, none⟩ : Addr) else (some ⟨b0, o, none⟩ : Option Addr).map (·.add (x * i.size))) = some ⟨b0, o + x * i.size, none⟩ := fun x y hx => by
      split
      · rename_i e
        rcases hx with rfl | hx
        · simp
        · omega
      · simp only [Option.map_some, addr_add]
    split at h
    · cases ulo <;> cases uhi <;> simp only [oRep] at hlo hhi
      refine ⟨_, by simp [Instr.sliceAt, Instr.slice, run_underlying hu, Instr.sliceBounds, run_sizeOf' hi]; rfl, ?_⟩
      have := key 0 0 (.inl rfl)
      simp at this ⊢
      first | exact .sc _ rfl | (rw [this]; exact .sc _ rfl) | (rw [show (⟨b0, o, none⟩ : Addr).add 0 = ⟨b0, o, none⟩ from rfl]; simp only [ite_self]; exact .sc _ rfl)
    · cases ulo <;> cases uhi <;> simp only [oRep] at hlo hhi
      rename_i k a v
      cases hlo
      refine ⟨_, by simp [Instr.sliceAt, Instr.slice, run_underlying hu, Instr.sliceBounds, run_sizeOf' hi, run_bound h.1 (show a ≤ (n : Nat) by omega)]; rfl, ?_⟩
      have := key a.toNat 0 (by omega)
      simp at this ⊢
      first | exact .sc _ rfl | (rw [this]; exact .sc _ rfl) | (rw [show (⟨b0, o, none⟩ : Addr).add 0 = ⟨b0, o, none⟩ from rfl]; simp only [ite_self]; exact .sc _ rfl)
    · cases ulo <;> cases uhi <;> simp only [oRep] at hlo hhi
      rename_i k a v
      cases hhi
      refine ⟨_, by simp [Instr.sliceAt, Instr.slice, run_underlying hu, Instr.sliceBounds, run_sizeOf' hi, run_bound h.1 (show a ≤ (c : Nat) by omega)]; rfl, ?_⟩
      have := key 0 0 (.inl rfl)
      simp at this ⊢
      first | exact .sc _ rfl | (rw [this]; exact .sc _ rfl) | (rw [show (⟨b0, o, none⟩ : Addr).add 0 = ⟨b0, o, none⟩ from rfl]; simp only [ite_self]; exact .sc _ rfl)
    · cases ulo <;> cases uhi <;> simp only [oRep] at hlo hhi
      rename_i k a k' b v v'
      cases hlo; cases hhi
      refine ⟨_, by simp [Instr.sliceAt, Instr.slice, run_underlying hu, Instr.sliceBounds, run_sizeOf' hi, run_bound (show 0 ≤ b by omega) (show b ≤ (c : Nat) by omega), run_bound h.1 (show a ≤ (b.toNat : Nat) by omega)]; rfl, ?_⟩
      have := key a.toNat 0 (by omega)
      simp at this ⊢
      first | exact .sc _ rfl | (rw [this]; exact .sc _ rfl) | (rw [show (⟨b0, o, none⟩ : Addr).add 0 = ⟨b0, o, none⟩ from rfl]; simp only [ite_self]; exact .sc _ rfl)
    · exact h.elim
  · exact h.elim
theorem Rep1.recap {own : Tk} {l : List V} {A0 : Option Addr} {n c : Nat} (h : Rep1 G (.sl own l) (.slice A0 n c)) (m : Nat) (hm : m ≤ l.length) : Rep1 G (.sl .no (l.take m)) (.slice A0 m m) := by
  cases h with
  | nil => 
    have : m = 0 := by simpa using hm
    subst this
    exact .nil .no (fun g k e => by cases e)
  | emp a cap hc =>
    have : m = 0 := by simpa using hm
    subst this
    exact .emp a 0 (Nat.zero_le _)
  | sl own l b o k cap u hk hF h1 hr hcap hmx ho hown =>
    have hl : (l.take m).length = m := by simp; omega
    have := Rep1.sl (G := G) .no (l.take m) b o k m u (fun i d hd => hk i d (by
      rw [List.getElem?_take] at hd
      split at hd
      · exact hd
      · cases hd)) (fun i j hi hj => hF i j (by omega) hj) (fun i j hi hj => h1 i j (by omega) hj) (fun i d j c hd hc => hr i d j c (by
      rw [List.getElem?_take] at hd
      split at hd
      · exact hd
      · cases hd) hc) (by omega) (by omega) (by simp) (fun g k' e => by cases e)
    rw [hl] at this
    exact this
theorem Rep1.slLen {own : Tk} {l : List V} {u : Value} (hx : Rep1 G (.sl own l) u) : ∃ A0 c, u = .slice A0 l.length c ∧ l.length ≤ c := by
  cases hx with
  | nil => exact ⟨none, 0, rfl, Nat.le_refl _⟩
  | emp a cap hm => exact ⟨some a, cap, rfl, Nat.zero_le _⟩
  | sl _ _ b o k cap uu hk hF h1 hr hcap => exact ⟨some ⟨b, o, none⟩, cap, rfl, hcap⟩
theorem vslc3_sound {t e : TypeId} {i : TypeInfo} (hu : P.underlying t = some (.slice e)) (hi : P.info? e = some i) {x : V} {u : Value} {lo : Option V} {hb mb : V} {ulo : Option Value} {uh um : Value} (hx : Rep1 G x u) (hlo : oRep G lo ulo) (hhi : Rep1 G hb uh) (hmx : Rep1 G mb um) (h : (vslc3 i.size x lo hb mb).1) :
    ∃ r, (Instr.sliceAt t u ulo (some uh) (some um)).run P w = .ok r w ∧ Rep1 G (vslc3 i.size x lo hb mb).2 r := by
  unfold vslc3 at h ⊢
  split at h
  · rename_i own l k b k' m
    obtain ⟨A0, c, rfl, hc⟩ := hx.slLen
    cases hhi; cases hmx
    have key : ∀ x y : Nat, x ≤ y → y ≤ m.toNat → m.toNat ≤ l.length → allSz i.size l → Rep1 G (.sl .no ((l.take y).drop x)) (.slice (if m.toNat = x then A0 else A0.map (·.add (x * i.size))) (y - x) (m.toNat - x)) := fun x y h1 h2 h3 h4 => by
      have := (hx.recap m.toNat h3).cut x y i.size h1 (by simp; omega) (fun j d hd => h4 d (List.mem_of_mem_take (List.mem_of_getElem? hd)))
      rw [List.take_take, Nat.min_eq_left h2] at this
      exact this
    split at h
    · cases ulo <;> simp only [oRep] at hlo
      refine ⟨_, by simp [Instr.sliceAt, Instr.slice, run_underlying hu, Instr.sliceBounds, run_sizeOf' hi, run_bound (show 0 ≤ m by omega) (show m ≤ (c : Nat) by omega), run_bound h.2.1 (show b ≤ (m.toNat : Nat) by omega)]; rfl, ?_⟩
      simpa using key 0 b.toNat (by omega) (by omega) h.2.2.2 h.1
    · cases ulo <;> simp only [oRep] at hlo
      rename_i k a v
      cases hlo
      refine ⟨_, by simp [Instr.sliceAt, Instr.slice, run_underlying hu, Instr.sliceBounds, run_sizeOf' hi, run_bound (show 0 ≤ m by omega) (show m ≤ (c : Nat) by omega), run_bound (show 0 ≤ b by omega) (show b ≤ (m.toNat : Nat) by omega), run_bound h.2.1 (show a ≤ (b.toNat : Nat) by omega)]; rfl, ?_⟩
      simpa using key a.toNat b.toNat (by omega) (by omega) h.2.2.2.2 h.1
    · exact h.elim
  · rename_i b0 o n c k b k' m
    cases hhi; cases hmx
    cases hx with
    | sc _ _ =>
    have key : ∀ x : Nat, (x = 0 ∨ x < m.toNat) → (if m.toNat = x then some (⟨b0, o, none⟩ : Addr) else (some ⟨b0, o, none⟩ : Option Addr).map (·.add (x * i.size))) = some ⟨b0, o + x * i.size, none⟩ := fun x hx => by
      split
      · rename_i e
        rcases hx with rfl | hx
        · simp
        · omega
      · simp only [Option.map_some, addr_add]
    split at h
    · cases ulo <;> simp only [oRep] at hlo
      refine ⟨_, by simp [Instr.sliceAt, Instr.slice, run_underlying hu, Instr.sliceBounds, run_sizeOf' hi, run_bound (show 0 ≤ m by omega) (show m ≤ (c : Nat) by omega), run_bound h.1 (show b ≤ (m.toNat : Nat) by omega)]; rfl, ?_⟩
      have := key 0 (.inl rfl)
      simp at this ⊢
      first | exact .sc _ rfl | (rw [this]; exact .sc _ rfl) | (rw [show (⟨b0, o, none⟩ : Addr).add 0 = ⟨b0, o, none⟩ from rfl]; simp only [ite_self]; exact .sc _ rfl)
    · cases ulo <;> simp only [oRep] at hlo
      rename_i k a v
      cases hlo
      refine ⟨_, by simp [Instr.sliceAt, Instr.slice, run_underlying hu, Instr.sliceBounds, run_sizeOf' hi, run_bound (show 0 ≤ m by omega) (show m ≤ (c : Nat) by omega), run_bound (show 0 ≤ b by omega) (show b ≤ (m.toNat : Nat) by omega), run_bound h.1 (show a ≤ (b.toNat : Nat) by omega)]; rfl, ?_⟩
      have := key a.toNat (by omega)
      simp at this ⊢
      first | exact .sc _ rfl | (rw [this]; exact .sc _ rfl) | (rw [show (⟨b0, o, none⟩ : Addr).add 0 = ⟨b0, o, none⟩ from rfl]; simp only [ite_self]; exact .sc _ rfl)
    · exact h.elim
  · exact h.elim
theorem vslcA_sound {t e : TypeId} {i : TypeInfo} {n : Nat} (hu : P.underlying t = some (.array n e)) (hi : P.info? e = some i) {x : V} {u : Value} {lo hi' : Option V} {ulo uhi : Option Value} (hx : Rep1 G x u) (hlo : oRep G lo ulo) (hhi : oRep G hi' uhi) (h : (vslcA n i.size x lo hi').1) :
    ∃ r, (Instr.sliceAt t u ulo uhi none).run P w = .ok r w ∧ Rep1 G (vslcA n i.size x lo hi').2 r := by
  unfold vslcA at h ⊢
  split at h
  · rename_i b0 o
    cases hx with
    | sc _ _ =>
    have key : ∀ x : Nat, (x = 0 ∨ x < n) → (if n = x then (⟨b0, o, none⟩ : Addr) else (⟨b0, o, none⟩ : Addr).add (x * i.size)) = ⟨b0, o + x * i.size, none⟩ := fun x hx => by
      split
      · rename_i e
        rcases hx with rfl | hx
        · simp
        · omega
      · rw [addr_add]
    unfold vslc at h ⊢
    simp only at h ⊢
    split at h
    · cases ulo <;> cases uhi <;> simp only [oRep] at hlo hhi
      refine ⟨_, by simp [Instr.sliceAt, Instr.sureAddr, run_underlying hu, Instr.sliceBounds, run_sizeOf' hi]; rfl, ?_⟩
      have := key 0 (.inl rfl)
      simp at this ⊢
      first | exact .sc _ rfl | (rw [this]; exact .sc _ rfl) | (rw [show (⟨b0, o, none⟩ : Addr).add 0 = ⟨b0, o, none⟩ from rfl]; simp only [ite_self]; exact .sc _ rfl)
    · cases ulo <;> cases uhi <;> simp only [oRep] at hlo hhi
      rename_i k a v
      cases hlo
      refine ⟨_, by simp [Instr.sliceAt, Instr.sureAddr, run_underlying hu, Instr.sliceBounds, run_sizeOf' hi, run_bound h.1 (show a ≤ (n : Nat) by omega)]; rfl, ?_⟩
      have := key a.toNat (by omega)
      rw [this]
      exact .sc _ rfl
    · cases ulo <;> cases uhi <;> simp only [oRep] at hlo hhi
      rename_i k a v
      cases hhi
      refine ⟨_, by simp [Instr.sliceAt, Instr.sureAddr, run_underlying hu, Instr.sliceBounds, run_sizeOf' hi, run_bound h.1 (show a ≤ (n : Nat) by omega)]; rfl, ?_⟩
      have := key 0 (.inl rfl)
      simp at this ⊢
      first | exact .sc _ rfl | (rw [this]; exact .sc _ rfl) | (rw [show (⟨b0, o, none⟩ : Addr).add 0 = ⟨b0, o, none⟩ from rfl]; simp only [ite_self]; exact .sc _ rfl)
    · cases ulo <;> cases uhi <;> simp only [oRep] at hlo hhi
      rename_i k a k' b v v'
      cases hlo; cases hhi
      refine ⟨_, by simp [Instr.sliceAt, Instr.sureAddr, run_underlying hu, Instr.sliceBounds, run_sizeOf' hi, run_bound (show 0 ≤ b by omega) (show b ≤ (n : Nat) by omega), run_bound h.1 (show a ≤ (b.toNat : Nat) by omega)]; rfl, ?_⟩
      have := key a.toNat (by omega)
      rw [this]
      exact .sc _ rfl
    · exact h.elim
  · exact h.elim
theorem vsslc_sound {t : TypeId} (hu : P.underlying t = some .string) {x : V} {u : Value} {lo hi' : Option V} {ulo uhi : Option Value} (hx : Rep1 G x u) (hlo : oRep G lo ulo) (hhi : oRep G hi' uhi) (h : (vsslc x lo hi').1) :
    ∃ r, (Instr.sliceAt t u ulo uhi none).run P w = .ok r w ∧ Rep1 G (vsslc x lo hi').2 r := by
  unfold vsslc at h ⊢
  split at h
  · rename_i s
    cases hx
    split at h
    · cases ulo <;> cases uhi <;> simp only [oRep] at hlo hhi
      exact ⟨_, by simp [Instr.sliceAt, Instr.slice, run_underlying hu, Instr.sliceBounds], .sc _ rfl⟩
    · cases ulo <;> cases uhi <;> simp only [oRep] at hlo hhi
      rename_i k a v
      cases hlo
      exact ⟨_, by simp [Instr.sliceAt, Instr.slice, run_underlying hu, Instr.sliceBounds, run_bound h.1 (show a ≤ (s.size : Nat) by omega)], .sc _ rfl⟩
    · cases ulo <;> cases uhi <;> simp only [oRep] at hlo hhi
      rename_i k a v
      cases hhi
      exact ⟨_, by simp [Instr.sliceAt, Instr.slice, run_underlying hu, Instr.sliceBounds, run_bound h.1 (show a ≤ (s.size : Nat) by omega)], .sc _ rfl⟩
    · cases ulo <;> cases uhi <;> simp only [oRep] at hlo hhi
      rename_i k a k' b v v'
      cases hlo; cases hhi
      exact ⟨_, by simp [Instr.sliceAt, Instr.slice, run_underlying hu, Instr.sliceBounds, run_bound (show 0 ≤ b by omega) (show b ≤ (s.size : Nat) by omega), run_bound h.1 (show a ≤ (b.toNat : Nat) by omega)], .sc _ rfl⟩
    · exact h.elim
  · exact h.elim

/-! ### Rows of cells -/
/-- The cells vs stand for the abstract ones. -/
structure RepL (G : Gh) (cs : List V) (vs : Array Value) : Prop where
  len : vs.size = cs.length
  one : ∀ (i : Nat) (v : Value), vs[i]? = some v → v.oneCell' = true
  rep : ∀ (i : Nat) (c : V) (v : Value), cs[i]? = some c → vs[i]? = some v → Rep1 G c v
theorem Rep1.cells {d : V} {v : Value} (h : Rep1 G d v) (h0 : d.cells.length ≠ 0) : RepL G d.cells v.cells := by
  have one : ∀ {d : V} {v : Value}, Rep1 G d v → v.oneCell' = true → d.cells = [d] → v.cells = #[v] → RepL G d.cells v.cells := fun {d v} h h1 e1 e2 => by
    rw [e1, e2]
    refine ⟨rfl, fun i u hu => ?_, fun i c u hc hu => ?_⟩
    · cases i <;> simp at hu
      subst hu; exact h1
    · cases i <;> simp at hu hc
      subst hu; subst hc; exact h
  cases h with
  | any => simp [V.cells] at h0
  | und => simp [V.cells] at h0
  | sc _ h1 => exact one (.sc _ h1) h1 rfl (by cases v <;> first | rfl | simp [Value.oneCell'] at h1)
  | agg cs vs hl h1 hr => exact ⟨hl, h1, hr⟩
  | tup => simp [V.cells] at h0
  | nil own ho => exact one (.nil own ho) rfl rfl rfl
  | emp a cap hm => exact one (.emp a cap hm) rfl rfl rfl
  | sl own l b o k cap u hk hF h1 hr hcap hm ho hown => exact one (.sl own l b o k cap u hk hF h1 hr hcap hm ho hown) rfl rfl rfl
  | ep cs off b o u hF h1 hr => exact one (.ep cs off b o u hF h1 hr) rfl rfl rfl
theorem fold_get (off : Nat) : ∀ (ds : List Value) (n : Nat) (vs : Array Value) (i : Nat), ((ds.zipIdx n).foldl (fun cs (p : Value × Nat) => cs.setIfInBounds (off + p.2) p.1) vs)[i]? =
    if off + n ≤ i ∧ i < off + n + ds.length ∧ i < vs.size then ds[i - (off + n)]? else vs[i]?
  | [], n, vs, i => by simp; intro h1 h2; omega
  | d :: ds, n, vs, i => by
    rw [List.zipIdx_cons, List.foldl_cons, fold_get off ds (n + 1)]
    simp only [Array.size_setIfInBounds, List.length_cons, Array.getElem?_setIfInBounds]
    by_cases h : off + n = i
    · subst h
      rw [if_neg (by omega)]
      by_cases h2 : off + n < vs.size
      · simp [h2]
      · have hn : vs[off + n]? = none := Array.getElem?_eq_none (by omega)
        simp [h2, hn]
    · by_cases h2 : off + (n + 1) ≤ i ∧ i < off + (n + 1) + ds.length ∧ i < vs.size
      · rw [if_pos h2, if_pos (by omega), show i - (off + n) = (i - (off + (n + 1))) + 1 by omega, List.getElem?_cons_succ]
      · rw [if_neg h2, if_neg h, if_neg (by omega)]
theorem fold_size (off : Nat) : ∀ (ds : List Value) (n : Nat) (vs : Array Value), ((ds.zipIdx n).foldl (fun cs (p : Value × Nat) => cs.setIfInBounds (off + p.2) p.1) vs).size = vs.size
  | [], n, vs => rfl
  | d :: ds, n, vs => by rw [List.zipIdx_cons, List.foldl_cons, fold_size off ds (n + 1)]; simp
theorem RepL.splice {cs ds : List V} {vs us : Array Value} (h : RepL G cs vs) (hd : RepL G ds us) {off : Nat} (hb : off + ds.length ≤ cs.length) :
    RepL G (splice cs off ds) (us.zipIdx.foldl (fun cs (p : Value × Nat) => cs.setIfInBounds (off + p.2) p.1) vs) := by
  have e : us.zipIdx.foldl (fun cs (p : Value × Nat) => cs.setIfInBounds (off + p.2) p.1) vs = (us.toList.zipIdx 0).foldl (fun cs (p : Value × Nat) => cs.setIfInBounds (off + p.2) p.1) vs := by
    rw [← Array.foldl_toList]; simp
  rw [e]
  have hl := h.len
  have hl2 := hd.len
  have get := fold_get off us.toList 0 vs
  have slen : (Proofs.Ytlngegoamfklgaa.splice cs off ds).length = cs.length := by simp [Proofs.Ytlngegoamfklgaa.splice]; omega
  have sget : ∀ i, (Proofs.Ytlngegoamfklgaa.splice cs off ds)[i]? = if off ≤ i ∧ i < off + ds.length then ds[i - off]? else cs[i]? := fun i => by
    unfold Proofs.Ytlngegoamfklgaa.splice
    rw [List.append_assoc, List.getElem?_append]
    have ht : (cs.take off).length = off := by simp; omega
    rw [ht]
    by_cases h1 : i < off
    · rw [if_pos h1, if_neg (by omega), List.getElem?_take, if_pos h1]
    · rw [if_neg h1, List.getElem?_append]
      by_cases h2 : i - off < ds.length
      · rw [if_pos h2, if_pos (by omega)]
      · rw [if_neg h2, if_neg (by omega), List.getElem?_drop]
        congr 1; omega
  refine ⟨by rw [fold_size, slen, hl], fun i v hv => ?_, fun i c v hc hv => ?_⟩
  · rw [get] at hv
    split at hv
    · exact hd.one _ v (by simpa using hv)
    · exact h.one _ v hv
  · rw [get] at hv
    rw [sget] at hc
    by_cases h2 : off ≤ i ∧ i < off + ds.length
    · rw [if_pos h2] at hc
      rw [if_pos (by simp; omega)] at hv
      exact hd.rep _ c v hc (by simpa using hv)
    · rw [if_neg h2] at hc
      rw [if_neg (by simp; omega)] at hv
      exact h.rep _ c v hc hv

theorem vbinb_sound {neg : Bool} {t : TypeId} (hu : P.underlying t = some .bool) {x y : V} {u v : Value} (ox oy : Operand) (hx : Rep1 G x u) (hy : Rep1 G y v) (h : (vbinb neg x y).1) (w : World) :
    ∃ r, (do eqGuard (if neg then .neq else .eql) t ox oy u v; binOp (if neg then .neq else .eql) t u v : Sem Value).run P w = .ok r w ∧ Rep1 G (vbinb neg x y).2 r := by
  unfold vbinb at h ⊢
  split at h
  · rename_i a b
    cases hx; cases hy
    cases neg
    · exact ⟨.bool (a == b), by simp [eqGuard, run_eql_bool w t a b hu], .sc _ rfl⟩
    · exact ⟨.bool (!(a == b)), by simp [eqGuard, run_neq_bool w t a b hu], .sc _ rfl⟩
  · exact h.elim
theorem equalIn_slice {t e : TypeId} (hu : P.underlying t = some (.slice e)) (d : Nat) (A0 : Option Addr) (n c : Nat) (w : World) : (Op.equalIn (d + 1) t (.slice A0 n c) (.slice none 0 0)).run P w = .ok A0.isNone w := by
  cases A0 <;> simp [Op.equalIn, run_underlying hu]
theorem equal_slice {t e : TypeId} (hu : P.underlying t = some (.slice e)) (A0 : Option Addr) (n c : Nat) (w : World) : (Op.equal t (.slice A0 n c) (.slice none 0 0)).run P w = .ok A0.isNone w := equalIn_slice hu 9999 A0 n c w
theorem equalIn_ptr {t e : TypeId} (hu : P.underlying t = some (.pointer e)) (d : Nat) (A0 : Option Addr) (w : World) : (Op.equalIn (d + 1) t (.pointer A0) (.pointer none)).run P w = .ok A0.isNone w := by
  cases A0 <;> simp [Op.equalIn, run_underlying hu]
theorem equal_ptr {t e : TypeId} (hu : P.underlying t = some (.pointer e)) (A0 : Option Addr) (w : World) : (Op.equal t (.pointer A0) (.pointer none)).run P w = .ok A0.isNone w := equalIn_ptr hu 9999 A0 w
theorem isnil_run {t e : TypeId} (hu : P.underlying t = some (.slice e)) (A0 : Option Addr) (n c : Nat) (neg : Bool) (ox oy : Operand) (w : World) :
    (do eqGuard (if neg then .neq else .eql) t ox oy (.slice A0 n c) (.slice none 0 0); binOp (if neg then .neq else .eql) t (.slice A0 n c) (.slice none 0 0) : Sem Value).run P w = .ok (.bool (if neg then !A0.isNone else A0.isNone)) w := by
  cases neg
  · have := equal_slice hu A0 n c w
    simp only [Bool.false_eq_true, if_false, binOp]
    simp [eqGuard, this]
  · have := equal_slice hu A0 n c w
    simp only [if_true, binOp]
    simp [eqGuard, this]
theorem visnil_sound {neg : Bool} {t e : TypeId} (hu : P.underlying t = some (.slice e)) {x : V} {u : Value} (ox oy : Operand) (hx : Rep1 G x u) (h : (visnil neg x).1) (w : World) :
    ∃ r, (do eqGuard (if neg then .neq else .eql) t ox oy u (.slice none 0 0); binOp (if neg then .neq else .eql) t u (.slice none 0 0) : Sem Value).run P w = .ok r w ∧ Rep1 G (visnil neg x).2 r := by
  unfold visnil at h ⊢
  split at h
  · cases hx with
    | nil => exact ⟨_, isnil_run hu none 0 0 neg ox oy w, by cases neg <;> exact .sc _ rfl⟩
    | sl _ _ _ _ _ _ _ _ _ _ _ _ _ ho => exact absurd rfl ho
  · cases hx with
    | nil _ ho => exact absurd rfl (ho _ _)
    | sl _ _ b o k cap => exact ⟨_, isnil_run hu _ _ _ neg ox oy w, by cases neg <;> exact .sc _ rfl⟩
  · cases hx with
    | sl _ _ b o k cap => exact ⟨_, isnil_run hu _ _ _ neg ox oy w, by cases neg <;> exact .sc _ rfl⟩
  · cases hx with
    | sc _ _ => exact ⟨_, isnil_run hu _ _ _ neg ox oy w, by cases neg <;> exact .sc _ rfl⟩
  · exact h.elim
theorem pnil_run {t e : TypeId} (hu : P.underlying t = some (.pointer e)) (A0 : Option Addr) (neg : Bool) (ox oy : Operand) (w : World) :
    (do eqGuard (if neg then .neq else .eql) t ox oy (.pointer A0) (.pointer none); binOp (if neg then .neq else .eql) t (.pointer A0) (.pointer none) : Sem Value).run P w = .ok (.bool (if neg then !A0.isNone else A0.isNone)) w := by
  cases neg
  · have := equal_ptr hu A0 w
    simp only [Bool.false_eq_true, if_false, binOp]
    simp [eqGuard, this]
  · have := equal_ptr hu A0 w
    simp only [if_true, binOp]
    simp [eqGuard, this]
theorem vpnil_sound {neg : Bool} {t e : TypeId} (hu : P.underlying t = some (.pointer e)) {x : V} {u : Value} (ox oy : Operand) (hx : Rep1 G x u) (h : (vpnil neg x).1) (w : World) :
    ∃ r, (do eqGuard (if neg then .neq else .eql) t ox oy u (.pointer none); binOp (if neg then .neq else .eql) t u (.pointer none) : Sem Value).run P w = .ok r w ∧ Rep1 G (vpnil neg x).2 r := by
  unfold vpnil at h ⊢
  split at h
  · cases hx; exact ⟨_, pnil_run hu none neg ox oy w, by cases neg <;> exact .sc _ rfl⟩
  · cases hx; exact ⟨_, pnil_run hu _ neg ox oy w, by cases neg <;> exact .sc _ rfl⟩
  · cases hx; exact ⟨_, pnil_run hu _ neg ox oy w, by cases neg <;> exact .sc _ rfl⟩
  · exact h.elim
end
end Go.Proofs.Ytlngegoamfklgaa
