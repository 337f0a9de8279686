/- Maps that one call makes, or that it turns: what the model's operations do with them. -/
import Derived.Test.YtlngegoamfklgaaV5
import Derived.Test.YtlngegoamfklgaaVEq
import Derived.Maps.RangeRun
import Derived.Maps.OwnSet
import Derived.Laws.StructEq
namespace Go.Proofs.Ytlngegoamfklgaa
open Go Go.RowKit
open Go.ChangeMaps (setBlock)

section
variable {P : Program} {w0 : Fr} {G : Gh} {st : St} {w : World}

/-! ### Keys -/
theorem leafs_isA {t : TypeId} {l : List Lf} (h : leafs P 8 t = some l) : (isA P t = false ∧ ∃ a, l = [a] ∧ ((∃ k, a = .int k ∧ P.underlying t = some (.int k)) ∨ (a = .bool ∧ P.underlying t = some .bool) ∨ (a = .str ∧ P.underlying t = some .string))) ∨
    (isA P t = true ∧ ((∃ fs, P.underlying t = some (.struct fs)) ∨ ∃ n e, P.underlying t = some (.array n e))) := by
  have hu := leafs_u h
  unfold leafsU at hu
  split at hu
  · rename_i k hk; cases hu; exact .inl ⟨by simp [isA, hk], _, rfl, .inl ⟨k, rfl, hk⟩⟩
  · rename_i hk; cases hu; exact .inl ⟨by simp [isA, hk], _, rfl, .inr (.inl ⟨rfl, hk⟩)⟩
  · rename_i hk; cases hu; exact .inl ⟨by simp [isA, hk], _, rfl, .inr (.inr ⟨rfl, hk⟩)⟩
  · rename_i fs hk; exact .inr ⟨by simp [isA, hk], .inl ⟨fs, hk⟩⟩
  · rename_i m e hk; exact .inr ⟨by simp [isA, hk], .inr ⟨m, e, hk⟩⟩
  · cases hu
/-- A key as the model has it. -/
structure KeyW (P : Program) (t : TypeId) (l : List Lf) (d : V) (v : Value) : Prop where
  xs : ∃ xs : List Value, v = packW P t xs ∧ FitL l xs ∧ xs.length = d.cells.length ∧ fitsV l d.cells ∧ ∀ G, ∀ (i : Nat) (c : V) (u : Value), d.cells[i]? = some c → xs[i]? = some u → Rep1 G c u
theorem fits_rep {G H : Gh} : ∀ {l : List Lf} {cs : List V} {us : List Value}, fitsV l cs → us.length = cs.length → (∀ (i : Nat) (c : V) (v : Value), cs[i]? = some c → us[i]? = some v → Rep1 G c v) →
    ∀ (i : Nat) (c : V) (v : Value), cs[i]? = some c → us[i]? = some v → Rep1 H c v
  | [], [], us, _, hl, _, i, c, v, hc, hv => by simp at hc
  | a :: l, c :: cs, [], _, hl, _, i, _, _, _, hv => by simp at hl
  | a :: l, c :: cs, u :: us, h, hl, hr, 0, c', v, hc, hv => by
    have h0 := hr 0 c u rfl rfl
    simp at hc hv
    subst hc; subst hv
    unfold fitsV at h
    split at h
    · rename_i e1 e2; cases e1
    · rename_i e1 e2; cases e1; cases e2; rw [h0.sc_inv]; exact .sc _ rfl
    · rename_i e1 e2; cases e1; cases e2; rw [h0.sc_inv]; exact .sc _ rfl
    · rename_i e1 e2; cases e1; cases e2; rw [h0.sc_inv]; exact .sc _ rfl
    · exact h.elim
  | a :: l, c :: cs, u :: us, h, hl, hr, i + 1, c', v, hc, hv => by
    have hrest := fun (h' : fitsV l cs) => fits_rep (H := H) h' (by simpa using hl : us.length = cs.length) (fun i c v hc hv => hr (i + 1) c v (by simpa using hc) (by simpa using hv)) i c' v (by simpa using hc) (by simpa using hv)
    unfold fitsV at h
    split at h
    · rename_i e1 e2; cases e1
    · rename_i e1 e2; cases e1; cases e2; exact hrest h.2
    · rename_i e1 e2; cases e1; cases e2; exact hrest h
    · rename_i e1 e2; cases e1; cases e2; exact hrest h
    · exact h.elim
  | [], _ :: _, _, h, _, _, _, _, _, _, _ => by simp [fitsV] at h
  | a :: _, [], _, h, _, _, _, _, _, _, _ => by cases a <;> simp [fitsV] at h
theorem keyW {t : TypeId} {l : List Lf} {d : V} {v : Value} (hk : kOk (isA P t) l d) (hr : Rep1 G d v) : KeyW P t l d v := by
  unfold kOk at hk
  split at hk
  · rename_i u
    have := hr.sc_inv
    subst this
    refine ⟨[v], by simp [packW, hk.1], fitsV_fit (G := G) hk.2 rfl (fun i c w' hc hv => ?_), rfl, hk.2, fun H => fits_rep (G := G) hk.2 rfl (fun i c w' hc hv => ?_)⟩
    all_goals
      cases i with
      | zero => simp [V.cells] at hc hv; subst hc; subst hv; exact hr
      | succ i => simp at hv
  · rename_i cs
    cases hr with
    | agg _ vs hl h1 hr =>
      exact ⟨vs.toList, by simp [packW, hk.1], fitsV_fit (G := G) hk.2 (by simp [hl]) (fun i c w' hc hv => hr i c w' hc (by simpa using hv)), (Array.length_toList.trans hl : vs.toList.length = cs.length), hk.2,
        fun H => fits_rep (G := G) hk.2 (Array.length_toList.trans hl : vs.toList.length = cs.length) (fun i c w' hc hv => hr i c w' hc (by simpa using hv))⟩
  · exact hk.elim

theorem checkKey_leafs (w : World) (em : Bool) : ∀ (n d : Nat) {t : TypeId} {l : List Lf}, leafs P n t = some l → ∀ xs : List Value, FitL l xs → (Instr.checkKey em (d + n) t (packW P t xs)).run P w = .ok () w
  | 0, d, t, l, h, xs, hx => by simp [leafs] at h
  | n + 1, d, t, l, h, xs, hx => by
    have hu := leafs_u h
    obtain ⟨hl, _⟩ := leafs_len h
    rw [← Nat.add_assoc]
    unfold leafsU at hu
    split at hu
    · rename_i k hk
      cases hu
      obtain ⟨a, rfl⟩ := List.length_eq_one_iff.1 (show xs.length = 1 by rw [hx.len]; rfl)
      have ha := hx.1
      cases a <;> simp only [Lf.fit] at ha
      simp [Instr.checkKey, run_underlying hk, packW, isA, hk]
    · rename_i hk
      cases hu
      obtain ⟨a, rfl⟩ := List.length_eq_one_iff.1 (show xs.length = 1 by rw [hx.len]; rfl)
      have ha := hx.1
      cases a <;> simp only [Lf.fit] at ha
      simp [Instr.checkKey, run_underlying hk, packW, isA, hk]
    · rename_i hk
      cases hu
      obtain ⟨a, rfl⟩ := List.length_eq_one_iff.1 (show xs.length = 1 by rw [hx.len]; rfl)
      have ha := hx.1
      cases a <;> simp only [Lf.fit] at ha
      simp [Instr.checkKey, run_underlying hk, packW, isA, hk]
    · rename_i fs hk
      split at hu
      · have hloop : ∀ (gs : List Field) (o : Nat) (l' : List Lf), leafsF P (leafs P n) o gs = some l' → FitL l' (xs.drop o) →
            (forIn (m := Sem) gs (⟨⟩ : PUnit) fun f r => do
              if f.name ≠ "_" then Instr.checkKey em (d + n) f.type (← part f.type xs.toArray f.offset)
              pure (ForInStep.yield ⟨⟩)).run P w = .ok ⟨⟩ w := by
          intro gs
          induction gs with
          | nil => intro o l' _ _; simp
          | cons f gs ih =>
            intro o l' hl' hf
            simp only [leafsF] at hl'
            split at hl'
            · rename_i hof
              simp only [Option.bind_eq_some_iff, Option.map_eq_some_iff] at hl'
              obtain ⟨a, ha, b, hb, rfl⟩ := hl'
              obtain ⟨hal, _⟩ := leafs_len ha
              obtain ⟨x1, x2⟩ := hf.split
              rw [hal] at x1 x2
              rw [List.drop_drop] at x2
              have p1 := part_leafs w ha xs.toArray o (by simpa using x1)
              have p2 := checkKey_leafs w em n d ha _ x1
              have p3 := ih _ b hb x2
              simp only [List.forIn_cons, Sem.run_bind, hof.2, ne_eq, not_false_eq_true, if_true, hof.1, p1, Result.andThen_ok, p2, Sem.run_pure]
              simpa using p3
            · cases hl'
        have := hloop fs.toList 0 l hu (by simpa using hx)
        simp only [Instr.checkKey, Sem.run_bind, run_underlying hk, Result.andThen_ok, packW, isA, hk, if_true]
        rw [← Array.forIn_toList]
        simp only [Sem.run_bind] at this ⊢
        simp at this ⊢
        rw [this]
        rfl
      · cases hu
    · rename_i m e hk
      simp only [Option.map_eq_some_iff] at hu
      obtain ⟨l', hl', rfl⟩ := hu
      obtain ⟨hll, _⟩ := leafs_len hl'
      have hie : ∃ i, P.info? e = some i := by
        cases n with
        | zero => simp [leafs] at hl'
        | succ n =>
          have := leafs_u hl'
          unfold leafsU at this
          cases hue : P.underlying e with
          | none => rw [hue] at this; cases this
          | some d => exact info_of_underlying hue
      obtain ⟨i, hi⟩ := hie
      have hsz := run_sizeOf w hi
      have hloop : ∀ (q j : Nat), FitL (List.replicate q l').flatten (xs.drop (j * P.cellsOf e)) →
          (forIn (m := Sem) (List.range' j q) (⟨⟩ : PUnit) fun i r => do
            Instr.checkKey em (d + n) e (← part e xs.toArray (i * (← sizeOf e)))
            pure (ForInStep.yield ⟨⟩)).run P w = .ok ⟨⟩ w := by
        intro q
        induction q with
        | zero => intro j _; simp
        | succ q ih =>
          intro j hf
          rw [List.replicate_succ, List.flatten_cons] at hf
          obtain ⟨x1, x2⟩ := hf.split
          rw [hll] at x1 x2
          rw [List.drop_drop, show j * P.cellsOf e + P.cellsOf e = (j + 1) * P.cellsOf e by rw [Nat.add_mul, Nat.one_mul]] at x2
          have p1 := part_leafs w hl' xs.toArray (j * P.cellsOf e) (by simpa using x1)
          have p2 := checkKey_leafs w em n d hl' _ x1
          have p3 := ih _ x2
          simp only [List.range'_succ, List.forIn_cons, Sem.run_bind, hsz, p1, Result.andThen_ok, p2, Sem.run_pure]
          simpa using p3
      have := hloop m 0 (by simpa using hx)
      simp only [Instr.checkKey, Sem.run_bind, run_underlying hk, Result.andThen_ok, packW, isA, hk, if_true]
      simp [Std.Legacy.Range.forIn_eq_forIn_range', Std.Legacy.Range.size] at this ⊢
      rw [this]
      rfl
    · cases hu

/-! ### Looking for a key -/
def mfi (k : V) : List (V × V × Nat) → Option Nat
  | [] => none
  | e :: es => if eqV k.cells e.1.cells = true then some 0 else (mfi k es).map (· + 1)
theorem mfi_find (k : V) : ∀ es : List (V × V × Nat), mfind k es = (mfi k es).bind fun j => (es[j]?).map (·.2.1)
  | [] => rfl
  | e :: es => by
    simp only [mfind, mfi]
    split
    · rfl
    · rw [mfi_find k es]
      cases mfi k es <;> rfl
theorem mfi_set (k v : V) (c : Nat) : ∀ es : List (V × V × Nat), mset k v c es = match mfi k es with | some j => es.modify j (fun e => (k, v, e.2.2)) | none => es ++ [(k, v, c)]
  | [] => rfl
  | e :: es => by
    simp only [mset, mfi]
    split
    · rfl
    · rw [mfi_set k v c es]
      cases mfi k es <;> rfl
theorem mfi_del (k : V) : ∀ es : List (V × V × Nat), mdel k es = match mfi k es with | some j => es.eraseIdx j | none => es
  | [] => rfl
  | e :: es => by
    simp only [mdel, mfi]
    split
    · rfl
    · rw [mfi_del k es]
      cases mfi k es <;> rfl
theorem mfi_lt {k : V} : ∀ {es : List (V × V × Nat)} {j : Nat}, mfi k es = some j → ∃ e, es[j]? = some e ∧ eqV k.cells e.1.cells = true
  | [], j, h => by cases h
  | e :: es, j, h => by
    simp only [mfi] at h
    split at h
    · rename_i hc
      simp only [Option.some.injEq] at h
      subst h
      exact ⟨e, rfl, hc⟩
    · simp only [Option.map_eq_some_iff] at h
      obtain ⟨i, hi, rfl⟩ := h
      obtain ⟨e', h1, h2⟩ := mfi_lt hi
      exact ⟨e', by simpa using h1, h2⟩
theorem keyW_eq {t : TypeId} {l : List Lf} {d e : V} {u v : Value} (h : KeyW P t l d u) (k : KeyW P t l e v) : ∃ xs ys, u = packW P t xs ∧ v = packW P t ys ∧ FitL l xs ∧ FitL l ys ∧ eqV d.cells e.cells = eqW xs ys := by
  obtain ⟨xs, h1, h2, h3, h4, h5⟩ := h.xs
  obtain ⟨ys, k1, k2, k3, k4, k5⟩ := k.xs
  exact ⟨xs, ys, h1, k1, h2, k2, eqV_eqW (G := ⟨fun _ _ => none, fun _ => none⟩) h4 k4 h3 k3 (h5 _) (k5 _)⟩
theorem eqW_true : ∀ {l : List Lf} {xs ys : List Value}, FitL l xs → FitL l ys → eqW xs ys = true → xs = ys
  | [], [], [], _, _, _ => rfl
  | a :: l, x :: xs, y :: ys, hx, hy, h => by
    simp only [eqW, Bool.and_eq_true] at h
    rw [eqW_true hx.2 hy.2 h.2]
    congr 1
    have h1 := hx.1
    have h2 := hy.1
    cases a <;> cases x <;> simp only [Lf.fit] at h1 <;> cases y <;> simp only [Lf.fit] at h2 <;> have h3 := h.1 <;> simp only [eqW1] at h3
    · subst h1; subst h2; rw [eq_of_beq h3]
    · rw [eq_of_beq h3]
    · rw [string_beq, decide_eq_true_eq] at h3; rw [h3]
theorem fit_same (n : Nat) : ∀ {l : List Lf} {xs : List Value}, FitL l xs → ∀ x ∈ xs, Instr.sameBits n x x = true
  | [], [], _, x, hx => by cases hx
  | a :: l, y :: xs, h, x, hx => by
    rcases List.mem_cons.1 hx with e | e
    · subst e
      have h1 := h.1
      cases a <;> cases x <;> simp only [Lf.fit] at h1 <;> cases n <;> simp [Instr.sameBits, beq_toListBytes]
    · exact fit_same n h.2 x e
theorem stays_leafs {t : TypeId} {l : List Lf} {xs : List Value} (hl : leafs P 8 t = some l) (hx : FitL l xs) (w : World) : (Instr.keyThatStays (packW P t xs) (packW P t xs)).run P w = .ok (packW P t xs) w := by
  have : Instr.sameBits 10000 (packW P t xs) (packW P t xs) = true := by
    unfold packW
    split
    · simp only [Instr.sameBits, beq_self_eq_true, Bool.true_and, List.all_eq_true]
      rintro ⟨a, b⟩ hab
      have := List.of_mem_zip hab
      obtain ⟨i, hi⟩ := List.mem_iff_getElem?.1 hab
      rw [List.getElem?_zip_eq_some] at hi
      have e : a = b := by have := hi.1.symm.trans hi.2; simpa using this
      subst e
      exact fit_same 9999 hx a (by simpa using this.1)
    · obtain ⟨hll, hpos⟩ := leafs_len hl
      cases xs with
      | nil => have := hx.len; simp at this; omega
      | cons x xs => exact fit_same 10000 hx x (by simp)
  unfold Instr.keyThatStays
  rw [if_pos this]
  rfl
theorem findAsking_leafs {t : TypeId} {l : List Lf} (hl : leafs P 8 t = some l) {k : V} {kv : Value} (hk : KeyW P t l k kv) (w : World) : ∀ (es : List (V × V × Nat)) (ms : List MapEntry) (i : Nat), ms.length = es.length → (∀ (j : Nat) (e : V × V × Nat) (m : MapEntry), es[j]? = some e → ms[j]? = some m → KeyW P t l e.1 m.key) →
    (Instr.findAsking t kv ms i).run P w = .ok ((mfi k es).bind fun j => (ms[j]?).map fun m => (i + j, m.val)) w
  | [], [], i, _, _ => by simp [Instr.findAsking, mfi]
  | e :: es, m :: ms, i, hlen, hks => by
    obtain ⟨xs, ys, h1, h2, h3, h4, h5⟩ := keyW_eq hk (hks 0 e m rfl rfl)
    have hE : (Op.equal t kv m.key).run P w = .ok (eqW xs ys) w := by rw [h1, h2]; exact equalIn_leafs (P := P) w 8 9992 hl xs ys h3 h4
    have ih := findAsking_leafs hl hk w es ms (i + 1) (by simpa using hlen) (fun j e m he hm => hks (j + 1) e m (by simpa using he) (by simpa using hm))
    simp only [Instr.findAsking, Sem.run_bind, hE, Result.andThen_ok, mfi, h5]
    cases eqW xs ys with
    | true => simp
    | false =>
      simp only [Bool.false_eq_true, if_false]
      rw [ih]
      cases mfi k es with
      | none => rfl
      | some j =>
        simp only [Option.map_some, Option.bind_some, List.getElem?_cons_succ]
        cases ms[j]? with
        | none => rfl
        | some m' => simp only [Option.map_some]; rw [show i + 1 + j = i + (j + 1) by omega]
theorem sameNow_leafs {t : TypeId} {l : List Lf} (hl : leafs P 8 t = some l) (hA : isA P t = false) {d : TypeDesc} (hd : P.underlying t = some d) {xs ys : List Value} (hx : FitL l xs) (hy : FitL l ys) : Instr.sameNow d (packW P t xs) (packW P t ys) = some (eqW xs ys) := by
  rcases leafs_isA hl with ⟨_, a, rfl, h⟩ | ⟨h, _⟩
  · obtain ⟨x, rfl⟩ := List.length_eq_one_iff.1 (show xs.length = 1 by rw [hx.len]; rfl)
    obtain ⟨y, rfl⟩ := List.length_eq_one_iff.1 (show ys.length = 1 by rw [hy.len]; rfl)
    have h1 := hx.1
    have h2 := hy.1
    rcases h with ⟨k, rfl, hk⟩ | ⟨rfl, hk⟩ | ⟨rfl, hk⟩
    all_goals
      rw [hd] at hk; cases hk
      cases x <;> simp only [Lf.fit] at h1
      cases y <;> simp only [Lf.fit] at h2
    · subst h1; subst h2
      simp [packW, hA, Instr.sameNow, eqW, eqW1]
    · simp [packW, hA, Instr.sameNow, eqW, eqW1]
    · rename_i a b
      simp only [packW, hA, Bool.false_eq_true, if_false, List.headD_cons, Instr.sameNow, eqW, eqW1, Bool.and_true, string_beq]
      rw [beq_toListBytes, string_beq]
  · rw [hA] at h; cases h
theorem findNow_leafs {t : TypeId} {l : List Lf} (hl : leafs P 8 t = some l) (hA : isA P t = false) {d : TypeDesc} (hd : P.underlying t = some d) {k : V} {kv : Value} (hk : KeyW P t l k kv) : ∀ (es : List (V × V × Nat)) (ms : List MapEntry) (i : Nat), ms.length = es.length → (∀ (j : Nat) (e : V × V × Nat) (m : MapEntry), es[j]? = some e → ms[j]? = some m → KeyW P t l e.1 m.key) →
    Instr.findNow d kv ms i = some ((mfi k es).bind fun j => (ms[j]?).map fun m => (i + j, m.val))
  | [], [], i, _, _ => by simp [Instr.findNow, mfi]
  | e :: es, m :: ms, i, hlen, hks => by
    obtain ⟨xs, ys, h1, h2, h3, h4, h5⟩ := keyW_eq hk (hks 0 e m rfl rfl)
    have hE : Instr.sameNow d kv m.key = some (eqW xs ys) := by rw [h1, h2]; exact sameNow_leafs hl hA hd h3 h4
    have ih := findNow_leafs hl hA hd hk es ms (i + 1) (by simpa using hlen) (fun j e m he hm => hks (j + 1) e m (by simpa using he) (by simpa using hm))
    simp only [Instr.findNow, hE, mfi, h5]
    cases eqW xs ys with
    | true => simp
    | false =>
      simp only [Bool.false_eq_true, if_false]
      rw [ih]
      cases mfi k es with
      | none => rfl
      | some j =>
        simp only [Option.map_some, Option.bind_some, List.getElem?_cons_succ]
        cases ms[j]? with
        | none => rfl
        | some m' => simp only [Option.map_some]; rw [show i + 1 + j = i + (j + 1) by omega]
theorem findKey_leafs {t : TypeId} {l : List Lf} (hl : leafs P 8 t = some l) {k : V} {kv : Value} (hk : KeyW P t l k kv) (w : World) (es : List (V × V × Nat)) (ms : List MapEntry) (hlen : ms.length = es.length) (hks : ∀ (j : Nat) (e : V × V × Nat) (m : MapEntry), es[j]? = some e → ms[j]? = some m → KeyW P t l e.1 m.key) :
    (Instr.findKey t kv ms).run P w = .ok ((mfi k es).bind fun j => (ms[j]?).map fun m => (j, m.val)) w := by
  have hask := findAsking_leafs hl hk w es ms 0 hlen hks
  simp only [Nat.zero_add] at hask
  rcases leafs_isA hl with ⟨hA, a, _, h⟩ | ⟨hA, h⟩
  · obtain ⟨d, hd⟩ : ∃ d, P.underlying t = some d := by rcases h with ⟨_, _, h⟩ | ⟨_, h⟩ | ⟨_, h⟩ <;> exact ⟨_, h⟩
    have := findNow_leafs hl hA hd hk es ms 0 hlen hks
    simp only [Nat.zero_add] at this
    simp only [Instr.findKey, Sem.run_bind, run_underlying hd, Result.andThen_ok, this, Sem.run_pure]
  · obtain ⟨d, hd, hn⟩ : ∃ d, P.underlying t = some d ∧ ∀ a b, Instr.sameNow d a b = none := by
      rcases h with ⟨fs, h⟩ | ⟨n, e, h⟩
      · exact ⟨_, h, fun a b => by cases a <;> cases b <;> rfl⟩
      · exact ⟨_, h, fun a b => by cases a <;> cases b <;> rfl⟩
    cases ms with
    | nil =>
      have : es = [] := List.eq_nil_of_length_eq_zero (by simpa using hlen.symm)
      subst this
      simp [Instr.findKey, Sem.run_bind, run_underlying hd, Instr.findNow, mfi]
    | cons m ms =>
      simp only [Instr.findKey, Sem.run_bind, run_underlying hd, Result.andThen_ok, Instr.findNow, hn]
      exact hask
theorem RepM.keys {t : TypeId} {l : List Lf} {es : List (V × V × Nat)} {ms : Array MapEntry} (h : RepM G (isA P t) l es ms) : ∀ (j : Nat) (e : V × V × Nat) (m : MapEntry), es[j]? = some e → ms.toList[j]? = some m → KeyW P t l e.1 m.key :=
  fun j e m he hm => by
    obtain ⟨h1, h2, _⟩ := h.rep j e m he (by simpa using hm)
    exact keyW h1 h2

/-! ### The operations -/
theorem zeroV_sound {t : TypeId} {z : V} (h : zeroV P t = some z) (w : World) : ∃ v, (zeroValue t).run P w = .ok v w ∧ Rep1 G z v := by
  unfold zeroV at h
  split at h
  · rename_i i hi
    split at h
    · rename_i v hv
      split at h
      · rename_i hc
        simp only [Option.some.injEq] at h
        subst h
        exact ⟨v, by simp [zeroValue, typeInfo, Sem.run, hi, hv], ofVal_rep G hc⟩
      · cases h
    · cases h
  · cases h
/-- A map that the state knows. -/
theorem RepW.map (hw : RepW w0 G st w) {b : Nat} {ag : Bool} {lf : List Lf} {es : List (V × V × Nat)} {c : Nat} (hb : st.box b = some [.mp ag lf es c]) : ∃ ms, w.heap[b]? = some (.map ms c) ∧ RepM G ag lf es ms := by
  have h := (hw.box b _ hb).2.2.2.2
  generalize w.heap[b]? = o at h
  cases h with
  | cells vs e cs hl h1 hr =>
    obtain ⟨v, hv⟩ : ∃ v, vs[0]? = some v := ⟨_, Array.getElem?_eq_getElem (by simp at hl; omega)⟩
    have := hr 0 _ v rfl hv
    cases this
  | map _ _ _ _ ms h => exact ⟨ms, rfl, h⟩
theorem RepW.iter (hw : RepW w0 G st w) {b : Nat} {m : Option Nat} {since : Nat} {seen : List Nat} {last : Nat} (hb : st.box b = some [.it m since seen last]) : w.heap[b]? = some (.mapIter m since seen.toArray last) := by
  have h := (hw.box b _ hb).2.2.2.2
  generalize w.heap[b]? = o at h
  cases h with
  | cells vs e cs hl h1 hr =>
    obtain ⟨v, hv⟩ : ∃ v, vs[0]? = some v := ⟨_, Array.getElem?_eq_getElem (by simp at hl; omega)⟩
    have := hr 0 _ v rfl hv
    cases this
  | iter _ _ _ _ => rfl
theorem RepW.setAt (hw : RepW w0 G st w) {b : Nat} {cs : List V} (hb : st.box b = some cs) (o : Obj) {cs' : List V} (hr : RepB G (some o) cs') : RepW w0 G (st.put b cs') { w with heap := w.heap.setIfInBounds b o } := by
  have hlt : b < w.heap.size := Nat.lt_of_lt_of_le (hw.box b cs hb).1 hw.sz
  refine hw.setObj hb _ cs' (fun k hk => ?_) (by simp) rfl rfl rfl ?_
  · simp only [Array.getElem?_setIfInBounds]
    rw [if_neg (fun e => hk e.symm)]
  · simp only [Array.getElem?_setIfInBounds]
    rw [if_pos trivial, if_pos hlt]
    exact hr
theorem mlk_sound {t kt et : TypeId} (hu : P.underlying t = some (.map kt et)) {l : List Lf} (hl : leafs P 8 kt = some l) {z : V} (hz : zeroV P et = some z) (ok : Bool) {x k : V} {u kv : Value} (hw : RepW w0 G st w) (hx : Rep1 G x u) (hk : Rep1 G k kv) (h : (vmlk st.box (isA P kt) l z ok x k).1) :
    ∃ r, (Instr.lookup t u kv ok).run P w = .ok r w ∧ Rep1 G (vmlk st.box (isA P kt) l z ok x k).2 r := by
  obtain ⟨zv, hzv, hzr⟩ := zeroV_sound (G := G) hz w
  have two : ∀ (a : V) (v : Value) (b : Bool), Rep1 G a v → Rep1 G (if ok = true then .tup [a, .sc (.bool b)] else a) (if ok = true then .tuple #[v, .bool b] else v) := fun a v b ha => by
    cases ok
    · exact ha
    · refine .tup _ _ rfl fun i c v' hc hv => ?_
      match i with
      | 0 => simp at hc hv; subst hc; subst hv; exact ha
      | 1 => simp at hc hv; subst hc; subst hv; exact .sc _ rfl
      | i + 2 => simp at hc
  unfold vmlk at h ⊢
  split at h
  · rw [hx.sc_inv]
    obtain ⟨xs, hkv, hf, _⟩ := (keyW h hk).xs
    have hc := checkKey_leafs (P := P) w true 8 9992 hl xs hf
    have hfk := findKey_leafs hl (keyW h hk) w [] [] rfl (fun j e m he => by simp at he)
    refine ⟨_, ?_, two z zv false hzr⟩
    rw [hkv] at hfk ⊢
    have hc' : (Instr.checkKey true 10000 kt (packW P kt xs)).run P w = .ok () w := hc
    simp only [Instr.lookup, Sem.run_bind, run_underlying hu, Result.andThen_ok, Sem.run_pure, List.isEmpty_toArray, List.isEmpty_nil, hc', hfk, mfi, Option.bind_none, hzv]
  · rename_i b
    split at h
    · rename_i ag' lf' es c hb
      obtain ⟨rfl, rfl, h⟩ := h
      obtain ⟨ms, hh, hm⟩ := hw.map hb
      rw [hx.sc_inv]
      have hkw := keyW h hk
      obtain ⟨xs, hkv, hf, _⟩ := hkw.xs
      have hfk := findKey_leafs hl hkw w es ms.toList (by simp [hm.len]) hm.keys
      have hc' : ∀ em, (Instr.checkKey em 10000 kt kv).run P w = .ok () w := fun em => by rw [hkv]; exact checkKey_leafs (P := P) w em 8 9992 hl xs hf
      simp only [Instr.lookup, Sem.run_bind, run_underlying hu, Result.andThen_ok, Sem.run_pure, MapKept.run_getObj_map hh, hc', hfk]
      rw [mfi_find]
      cases hj : mfi k es with
      | none => 
        simp only [Option.bind_none, Sem.run_bind, hzv, Result.andThen_ok, Sem.run_pure, Option.getD_none, Option.isSome_none]
        exact ⟨_, rfl, two z zv false hzr⟩
      | some j =>
        obtain ⟨e, he, _⟩ := mfi_lt hj
        obtain ⟨m, hmj⟩ : ∃ m, ms.toList[j]? = some m := ⟨_, List.getElem?_eq_getElem (by have := (List.getElem?_eq_some_iff.1 he).1; simp [hm.len]; exact this)⟩
        simp only [Option.bind_some, hmj, he, Option.map_some, Sem.run_pure, Option.getD_some, Option.isSome_some, Result.andThen_ok]
        exact ⟨_, rfl, two _ _ true (hm.rep j e m he (by simpa using hmj)).2.2.1⟩
    · exact h.elim
  · exact h.elim
theorem mlen_sound {t kt et ty : TypeId} (hu : P.underlying t = some (.map kt et)) {x : V} {u : Value} (hw : RepW w0 G st w) (hx : Rep1 G x u) (h : (vmlen st.box x).1) :
    ∃ r, (Builtin.len_ #[t] ty #[u]).run P w = .ok r w ∧ Rep1 G (vmlen st.box x).2 r := by
  unfold vmlen at h ⊢
  split at h
  · rw [hx.sc_inv]
    exact ⟨_, Maps.len_nil hu ty, .sc _ rfl⟩
  · split at h
    · rename_i b ag lf es c hb
      obtain ⟨ms, hh, hm⟩ := hw.map hb
      rw [hx.sc_inv]
      refine ⟨.int .i64 ms.size, ?_, by rw [hm.len]; exact .sc _ rfl⟩
      simp [Builtin.len_, run_underlying hu, MapKept.run_getObj_map hh, goInt]
    · exact h.elim
  · exact h.elim
theorem mkm_sound {t : TypeId} (ag : Bool) (lf : List Lf) (hw : RepW w0 G st w) :
    (Instr.makeMap t none).run P w = .ok (.map (some w.heap.size)) (w.alloc (.map #[] 0)) ∧ RepW w0 G (st.put w.heap.size [.mp ag lf [] 0]) (w.alloc (.map #[] 0)) := by
  refine ⟨run_makeMap .., hw.newObj _ _ (.map ag lf [] 0 #[] ⟨rfl, fun i e m he => by simp at he⟩)⟩
theorem mup_sound {t kt et : TypeId} (hu : P.underlying t = some (.map kt et)) {l : List Lf} (hl : leafs P 8 kt = some l) {b : Nat} {es : List (V × V × Nat)} {c : Nat} {k v : V} {kv vv : Value} (hw : RepW w0 G st w) (hb : st.box b = some [.mp (isA P kt) l es c]) (hk : Rep1 G k kv) (hv : Rep1 G v vv) (h : kOk (isA P kt) l k) :
    ∃ w', (Instr.mapUpdate t (.map (some b)) kv vv).run P w = .ok () w' ∧ RepW w0 G (st.put b [.mp (isA P kt) l (mset k v c es) (mclk es k c)]) w' := by
  obtain ⟨ms, hh, hm⟩ := hw.map hb
  have hkw := keyW h hk
  obtain ⟨xs, hkv, hf, _⟩ := hkw.xs
  have hfk := findKey_leafs hl hkw w es ms.toList (by simp [hm.len]) hm.keys
  have hc' : (Instr.checkKey false 10000 kt kv).run P w = .ok () w := by rw [hkv]; exact checkKey_leafs (P := P) w false 8 9992 hl xs hf
  simp only [Instr.mapUpdate, Sem.run_bind, run_underlying hu, Result.andThen_ok, MapKept.run_getObj_map hh, hc', hfk]
  rw [mfi_set]
  unfold mclk
  rw [mfi_find]
  cases hj : mfi k es with
  | none =>
    simp only [Option.bind_none, Option.isSome_none, Bool.false_eq_true, if_false]
    rw [MapKept.run_setObj_map _ hh]
    refine ⟨_, rfl, hw.setAt hb _ (.map _ _ _ _ _ ⟨by simp [hm.len], fun i e m he hm' => ?_⟩)⟩
    rw [List.getElem?_append] at he
    rw [Array.getElem?_push] at hm'
    split at he
    · rename_i hlt
      rw [if_neg (by rw [hm.len]; omega)] at hm'
      exact hm.rep i e m he hm'
    · rename_i hge
      have hi : i = es.length := by
        have := (List.getElem?_eq_some_iff.1 he).1
        simp at this; omega
      subst hi
      rw [if_pos hm.len.symm] at hm'
      simp at he hm'
      subst he; subst hm'
      exact ⟨h, hk, hv, rfl⟩
  | some j =>
    obtain ⟨e0, he0, heq⟩ := mfi_lt hj
    obtain ⟨m0, hm0⟩ : ∃ m, ms.toList[j]? = some m := ⟨_, List.getElem?_eq_getElem (by have := (List.getElem?_eq_some_iff.1 he0).1; simp [hm.len]; exact this)⟩
    have hm0' : ms[j]? = some m0 := by simpa using hm0
    have hkeq : m0.key = kv := by
      obtain ⟨xs, ys, h1, h2, h3, h4, h5⟩ := keyW_eq hkw (hm.keys j e0 m0 he0 hm0)
      rw [heq] at h5
      rw [h1, h2, eqW_true h3 h4 h5.symm]
    have hst : (Instr.keyThatStays kv kv).run P w = .ok kv w := by rw [hkv]; exact stays_leafs hl hf w
    simp only [Option.bind_some, hm0, he0, Option.map_some, Option.isSome_some, if_true, hm0', Option.getD_some, hkeq, Sem.run_bind, hst, Result.andThen_ok]
    rw [MapKept.run_setObj_map _ hh]
    refine ⟨_, rfl, hw.setAt hb _ (.map _ _ _ _ _ ⟨by simp [hm.len], fun i e m he hm' => ?_⟩)⟩
    rw [List.getElem?_modify] at he
    rw [Array.getElem?_modify] at hm'
    by_cases hij : j = i
    · subst hij
      simp only [if_true, he0, hm0', Option.map_eq_map, Option.map_some, Option.some.injEq] at he hm'
      subst he; subst hm'
      exact ⟨h, hk, hv, (hm.rep j e0 m0 he0 hm0').2.2.2⟩
    · simp only [if_neg hij, Option.map_eq_map, Option.map_id'] at he hm'
      exact hm.rep i e m (by simpa using he) (by simpa using hm')
theorem mdel_sound {t kt et t2 ty : TypeId} (hu : P.underlying t = some (.map kt et)) {l : List Lf} (hl : leafs P 8 kt = some l) {b : Nat} {es : List (V × V × Nat)} {c : Nat} {k : V} {kv : Value} (hw : RepW w0 G st w) (hb : st.box b = some [.mp (isA P kt) l es c]) (hk : Rep1 G k kv) (h : kOk (isA P kt) l k) :
    ∃ w', (Builtin.delete_ #[t, t2] ty #[.map (some b), kv]).run P w = .ok (.tuple #[]) w' ∧ RepW w0 G (st.put b [.mp (isA P kt) l (mdel k es) c]) w' := by
  obtain ⟨ms, hh, hm⟩ := hw.map hb
  have hkw := keyW h hk
  obtain ⟨xs, hkv, hf, _⟩ := hkw.xs
  have hfk := findKey_leafs hl hkw w es ms.toList (by simp [hm.len]) hm.keys
  have hc' : ∀ em, (Instr.checkKey em 10000 kt kv).run P w = .ok () w := fun em => by rw [hkv]; exact checkKey_leafs (P := P) w em 8 9992 hl xs hf
  simp only [Builtin.delete_, List.getElem?_toArray, List.getElem?_cons_zero, List.getElem?_cons_succ, Sem.run_bind, run_underlying hu, Result.andThen_ok, MapKept.run_getObj_map hh, hc', hfk]
  rw [mfi_del]
  cases hj : mfi k es with
  | none =>
    simp only [Option.bind_none]
    simp only [Sem.run_bind, MapKept.run_setObj_map _ hh, Result.andThen_ok, Sem.run_pure]
    exact ⟨_, rfl, hw.setAt hb _ (.map _ _ _ _ _ hm)⟩
  | some j =>
    obtain ⟨e0, he0, heq⟩ := mfi_lt hj
    have hlt := (List.getElem?_eq_some_iff.1 he0).1
    obtain ⟨m0, hm0⟩ : ∃ m, ms.toList[j]? = some m := ⟨_, List.getElem?_eq_getElem (by simp [hm.len]; exact hlt)⟩
    simp only [Option.bind_some, hm0, Option.map_some]
    simp only [Sem.run_bind, MapKept.run_setObj_map _ hh, Result.andThen_ok, Sem.run_pure]
    have hltm : j < ms.size := by rw [hm.len]; exact hlt
    have e : ms.eraseIdxIfInBounds j = (ms.toList.eraseIdx j).toArray := by
      unfold Array.eraseIdxIfInBounds
      rw [dif_pos hltm]
      apply Array.toList_inj.1
      simp
    rw [e]
    refine ⟨_, rfl, hw.setAt hb _ (.map _ _ _ _ _ ⟨?_, fun i e m he hm' => ?_⟩)⟩
    · simp [List.length_eraseIdx, hm.len, hltm]
    · simp only [List.getElem?_toArray] at hm'
      rw [List.getElem?_eraseIdx] at he hm'
      split at he
      · rename_i hi
        rw [if_pos hi] at hm'
        exact hm.rep i e m he (by simpa using hm')
      · rename_i hi
        rw [if_neg hi] at hm'
        exact hm.rep (i + 1) e m he (by simpa using hm')
theorem mdel_nil {t kt et t2 ty : TypeId} (hu : P.underlying t = some (.map kt et)) {l : List Lf} (hl : leafs P 8 kt = some l) {k : V} {kv : Value} (hk : Rep1 G k kv) (h : kOk (isA P kt) l k) (w : World) : (Builtin.delete_ #[t, t2] ty #[.map none, kv]).run P w = .ok (.tuple #[]) w := by
  obtain ⟨xs, hkv, hf, _⟩ := (keyW h hk).xs
  have hc' : ∀ em, (Instr.checkKey em 10000 kt kv).run P w = .ok () w := fun em => by rw [hkv]; exact checkKey_leafs (P := P) w em 8 9992 hl xs hf
  simp only [Builtin.delete_, List.getElem?_toArray, List.getElem?_cons_zero, List.getElem?_cons_succ, Sem.run_bind, run_underlying hu, Result.andThen_ok, hc', Sem.run_pure]
theorem rng_sound {t kt et : TypeId} (hu : P.underlying t = some (.map kt et)) {b : Nat} {ag : Bool} {l : List Lf} {es : List (V × V × Nat)} {c : Nat} (hw : RepW w0 G st w) (hb : st.box b = some [.mp ag l es c]) :
    ∃ w', (Instr.range t (.map (some b))).run P w = .ok (.pointer (some ⟨w.heap.size, 0, none⟩)) w' ∧ RepW w0 G (st.put w.heap.size [.it (some b) c [] c]) w' := by
  obtain ⟨ms, hh, hm⟩ := hw.map hb
  refine ⟨w.alloc (.mapIter (some b) c #[] c), ?_, hw.newObj _ _ (.iter (some b) c [] c)⟩
  simp [Instr.range, run_underlying hu, MapKept.run_getObj_map hh]
theorem rng_nil {t kt et : TypeId} (hu : P.underlying t = some (.map kt et)) (hw : RepW w0 G st w) :
    ∃ w', (Instr.range t (.map none)).run P w = .ok (.pointer (some ⟨w.heap.size, 0, none⟩)) w' ∧ RepW w0 G (st.put w.heap.size [.it none 0 [] 0]) w' := by
  refine ⟨w.alloc (.mapIter none 0 #[] 0), ?_, hw.newObj _ _ (.iter none 0 [] 0)⟩
  simp [Instr.range, run_underlying hu]
theorem nxt_nil {r since last : Nat} {seen : List Nat} {ty : TypeId} (hw : RepW w0 G st w) (hr : st.box r = some [.it none since seen last]) :
    (Instr.next (.pointer (some ⟨r, 0, none⟩)) false ty).run P w = .ok (.tuple #[.bool false]) w := by
  have hh := hw.iter hr
  simp [Instr.next, getObj, Sem.run, hh]
theorem nxt_sound {r m since last c : Nat} {seen : List Nat} {ag : Bool} {l : List Lf} {es : List (V × V × Nat)} {ty : TypeId} (hw : RepW w0 G st w) (hr : st.box r = some [.it (some m) since seen last]) (hb : st.box m = some [.mp ag l es c])
    (hold : ∀ e ∈ es, e.2.2 < since) (hsl : since ≤ last) :
    ((∀ e ∈ es, e.2.2 ∈ seen) ∧ (Instr.next (.pointer (some ⟨r, 0, none⟩)) false ty).run P w = .ok (.tuple #[.bool false]) w) ∨
    ∃ e ∈ es, e.2.2 ∉ seen ∧ ∃ u w', (Instr.next (.pointer (some ⟨r, 0, none⟩)) false ty).run P w = .ok u w' ∧ Rep1 G (.tup [.sc (.bool true), e.1, e.2.1]) u ∧ RepW w0 G (st.put r [.it (some m) since (seen ++ [e.2.2]) c]) w' := by
  obtain ⟨ms, hh, hm⟩ := hw.map hb
  have hi := hw.iter hr
  have born : ∀ x ∈ ms.toList, ∃ (e : V × V × Nat), e ∈ es ∧ x.born = e.2.2 ∧ Rep1 G e.1 x.key ∧ Rep1 G e.2.1 x.val := fun x hx => by
    obtain ⟨i, hi, rfl⟩ := List.mem_iff_getElem.1 hx
    have hie : i < es.length := by rw [← hm.len]; simpa using hi
    obtain ⟨h1, h2, h3, h4⟩ := hm.rep i _ _ (List.getElem?_eq_getElem hie) (Array.getElem?_eq_getElem (by simpa using hi))
    exact ⟨es[i], List.getElem_mem hie, by simpa using h4, by simpa using h2, by simpa using h3⟩
  have hold' : ∀ x ∈ ms.toList, x.born < since := fun x hx => by
    obtain ⟨e, he, hb, _⟩ := born x hx
    rw [hb]; exact hold e he
  rcases run_next_at (P := P) w ty r m since last seen.toArray ms c hi hh hold' hsl with ⟨h0, h1⟩ | ⟨x, hx, w1, hw1, hrun⟩
  · refine .inl ⟨fun e he => ?_, h1⟩
    obtain ⟨i, hi, rfl⟩ := List.mem_iff_getElem.1 he
    have him : i < ms.size := by rw [hm.len]; exact hi
    have h4 := (hm.rep i _ _ (List.getElem?_eq_getElem hi) (Array.getElem?_eq_getElem him)).2.2.2
    unfold leftOf at h0
    have : ms.filter (fun e => !seen.toArray.contains e.born) = #[] := Array.eq_empty_of_size_eq_zero h0
    rw [Array.filter_eq_empty_iff] at this
    have := this _ (Array.getElem_mem him)
    rw [h4] at this
    simpa using this
  · right
    unfold leftOf at hx
    simp only [Array.toList_filter, List.mem_filter] at hx
    obtain ⟨e, he, hb', hk, hv⟩ := born x hx.1
    refine ⟨e, he, ?_, _, _, hrun, ?_, ?_⟩
    · have := hx.2
      rw [hb'] at this
      simpa using this
    · refine .tup _ _ rfl fun i cc v hcc hvv => ?_
      match i with
      | 0 => simp at hcc hvv; subst hcc; subst hvv; exact .sc _ rfl
      | 1 => simp at hcc hvv; subst hcc; subst hvv; exact hk
      | 2 => simp at hcc hvv; subst hcc; subst hvv; exact hv
      | i + 3 => simp at hcc
    · rw [hb']
      have hw1' : RepW w0 G st w1 := by
        rcases hw1 with rfl | rfl
        · exact hw
        · exact hw.drew
      have := hw1'.setAt hr (.mapIter (some m) since (seen ++ [e.2.2]).toArray c) (.iter (some m) since (seen ++ [e.2.2]) c)
      simpa [setBlock] using this
theorem ent_sound {x : V} {u : Value} (hw : RepW w0 G st w) (hx : Rep1 G x u) (h : (vent st.box x).1) : ∃ r, (Instr.entry u).run P w = .ok r w ∧ Rep1 G (vent st.box x).2 r := by
  unfold vent at h ⊢
  split at h
  · rename_i r
    split at h
    · rename_i m since seen last hr
      split at h
      · rename_i ag lf es c hb
        split at h
        · rename_i e he
          simp only [hr, hb, he] at h ⊢
          subst h
          obtain ⟨ms, hh, hm⟩ := hw.map hb
          have hi := hw.iter hr
          rw [hx.sc_inv]
          obtain ⟨s, hs⟩ : ∃ s, seen.getLast? = some s := by
            have h1 := List.find?_some he
            cases hl : seen.getLast? with
            | none => rw [hl] at h1; simp at h1
            | some s => exact ⟨s, rfl⟩
          have hback : seen.toArray.back? = some s := by
            rw [← hs]
            simp [Array.back?, List.getLast?_eq_getElem?]
          have hfind : ∃ q, ms.find? (·.born == s) = some q ∧ Rep1 G e.1 q.key ∧ Rep1 G e.2.1 q.val := by
            rw [hs] at he
            obtain ⟨i, hi1, hi2, hi3⟩ := List.find?_eq_some_iff_getElem.1 he |>.2
            have him : i < ms.size := by rw [hm.len]; exact hi1
            have hrep := fun j hj => hm.rep j _ _ (List.getElem?_eq_getElem (show j < es.length from hj)) (Array.getElem?_eq_getElem (by rw [hm.len]; exact hj))
            refine ⟨ms[i], ?_, by have := (hrep i hi1).2.1; rw [hi2] at this; exact this, by have := (hrep i hi1).2.2.1; rw [hi2] at this; exact this⟩
            rw [← Array.find?_toList]
            refine List.find?_eq_some_iff_getElem.2 ⟨?_, i, by simpa using him, by simp, fun j hj => ?_⟩
            · have h1 := (List.find?_eq_some_iff_getElem.1 he).1
              have h2 := (hrep i hi1).2.2.2
              rw [hi2] at h2
              rw [h2]
              simpa using h1
            · have h1 := hi3 j hj
              have h2 := (hrep j (by omega)).2.2.2
              simp only [Array.getElem_toList]
              rw [h2]
              simpa using h1
          obtain ⟨q, hq, k1, k2⟩ := hfind
          refine ⟨.tuple #[q.key, q.val], ?_, .tup _ _ rfl fun i cc v hcc hvv => ?_⟩
          · have g1 : (getObj r).run P w = .ok (.mapIter (some m) since seen.toArray c) w := by simp [getObj, Sem.run, hi]
            simp only [Instr.entry, Sem.run_bind, g1, Result.andThen_ok, hback, MapKept.run_getObj_map hh, bne_self_eq_false, Bool.false_eq_true, if_false, hq]
            rfl
          · match i with
            | 0 => simp at hcc hvv; subst hcc; subst hvv; exact k1
            | 1 => simp at hcc hvv; subst hcc; subst hvv; exact k2
            | i + 2 => simp at hcc
        · exact h.elim
      · exact h.elim
    · exact h.elim
  · exact h.elim
/-- The entry's place: an old value, or zero. -/
def mborn (k : V) (c : Nat) : List (V × V × Nat) → Nat
  | [] => c
  | e :: es => if eqV k.cells e.1.cells = true then e.2.2 else mborn k c es
theorem mfi_born (k : V) (c : Nat) : ∀ es : List (V × V × Nat), mborn k c es = match mfi k es with | some j => ((es[j]?).map (·.2.2)).getD c | none => c
  | [] => rfl
  | e :: es => by
    simp only [mborn, mfi]
    split
    · rfl
    · rw [mfi_born k c es]
      cases mfi k es <;> rfl
theorem ment_sound {t kt et : TypeId} (hu : P.underlying t = some (.map kt et)) {l : List Lf} (hl : leafs P 8 kt = some l) {z : V} (hz : zeroV P et = some z) {b : Nat} {es : List (V × V × Nat)} {c : Nat} {k : V} {kv : Value} (hw : RepW w0 G st w) (hb : st.box b = some [.mp (isA P kt) l es c]) (hk : Rep1 G k kv) (h : kOk (isA P kt) l k) :
    ∃ r w', (Instr.mapEntry t (.map (some b)) kv).run P w = .ok r w' ∧ Rep1 G (.tup [(mfind k es).getD z, .sc (.int .i64 (mborn k c es))]) r ∧ RepW w0 G (st.put b [.mp (isA P kt) l (mset k ((mfind k es).getD z) c es) (mclk es k c)]) w' := by
  obtain ⟨zv, hzv, hzr⟩ := zeroV_sound (G := G) hz w
  obtain ⟨ms, hh, hm⟩ := hw.map hb
  have hkw := keyW h hk
  obtain ⟨xs, hkv, hf, _⟩ := hkw.xs
  have two : ∀ (a : V) (v : Value) (n : Nat), Rep1 G a v → Rep1 G (.tup [a, .sc (.int .i64 n)]) (.tuple #[v, .int .i64 n]) := fun a v b ha => by
    refine .tup _ _ rfl fun i c v' hc hv => ?_
    match i with
    | 0 => simp at hc hv; subst hc; subst hv; exact ha
    | 1 => simp at hc hv; subst hc; subst hv; exact .sc _ rfl
    | i + 2 => simp at hc
  have hfk := findKey_leafs hl hkw w es ms.toList (by simp [hm.len]) hm.keys
  have hc' : (Instr.checkKey false 10000 kt kv).run P w = .ok () w := by rw [hkv]; exact checkKey_leafs (P := P) w false 8 9992 hl xs hf
  simp only [Instr.mapEntry, Sem.run_bind, run_underlying hu, Result.andThen_ok, MapKept.run_getObj_map hh, hc', hfk]
  rw [mfi_set, mfi_born]
  unfold mclk
  rw [mfi_find]
  cases hj : mfi k es with
  | none =>
    simp only [Option.bind_none, Option.isSome_none, Bool.false_eq_true, if_false, Option.getD_none, Sem.run_bind, hzv, Result.andThen_ok, MapKept.run_setObj_map _ hh, Sem.run_pure]
    refine ⟨_, _, rfl, two z zv c hzr, hw.setAt hb _ (.map _ _ _ _ _ ⟨by simp [hm.len], fun i e m he hm' => ?_⟩)⟩
    rw [List.getElem?_append] at he
    rw [Array.getElem?_push] at hm'
    split at he
    · rename_i hlt
      rw [if_neg (by rw [hm.len]; omega)] at hm'
      exact hm.rep i e m he hm'
    · rename_i hge
      have hi : i = es.length := by
        have := (List.getElem?_eq_some_iff.1 he).1
        simp at this; omega
      subst hi
      rw [if_pos hm.len.symm] at hm'
      simp at he hm'
      subst he; subst hm'
      exact ⟨h, hk, hzr, rfl⟩
  | some j =>
    obtain ⟨e0, he0, heq⟩ := mfi_lt hj
    obtain ⟨m0, hm0⟩ : ∃ m, ms.toList[j]? = some m := ⟨_, List.getElem?_eq_getElem (by have := (List.getElem?_eq_some_iff.1 he0).1; simp [hm.len]; exact this)⟩
    have hm0' : ms[j]? = some m0 := by simpa using hm0
    have hkeq : m0.key = kv := by
      obtain ⟨xs, ys, h1, h2, h3, h4, h5⟩ := keyW_eq hkw (hm.keys j e0 m0 he0 hm0)
      rw [heq] at h5
      rw [h1, h2, eqW_true h3 h4 h5.symm]
    obtain ⟨_, _, hv0, hb0⟩ := hm.rep j e0 m0 he0 hm0'
    have hst : (Instr.keyThatStays kv kv).run P w = .ok kv w := by rw [hkv]; exact stays_leafs hl hf w
    simp only [Option.bind_some, hm0, he0, Option.map_some, Option.isSome_some, if_true, hm0', Option.getD_some, hkeq, Sem.run_bind, hst, Result.andThen_ok, MapKept.run_setObj_map _ hh, Sem.run_pure]
    refine ⟨_, _, rfl, by rw [← hb0]; exact two _ _ _ hv0, hw.setAt hb _ (.map _ _ _ _ _ ⟨by simp [hm.len], fun i e m he hm' => ?_⟩)⟩
    rw [List.getElem?_modify] at he
    rw [Array.getElem?_modify] at hm'
    by_cases hij : j = i
    · subst hij
      simp only [if_true, he0, hm0', Option.map_eq_map, Option.map_some, Option.some.injEq] at he hm'
      subst he; subst hm'
      exact ⟨h, hk, hv0, hb0⟩
    · simp only [if_neg hij, Option.map_eq_map, Option.map_id'] at he hm'
      exact hm.rep i e m (by simpa using he) (by simpa using hm')
/-- A value is laid at the entry that was born then. -/
def mstamp (s : Nat) (v : V) : List (V × V × Nat) → List (V × V × Nat)
  | [] => []
  | e :: es => if e.2.2 = s then (e.1, v, e.2.2) :: es else e :: mstamp s v es
theorem est_sound {t : TypeId} {b s : Nat} {ag : Bool} {lf : List Lf} {es : List (V × V × Nat)} {c : Nat} {v : V} {vv : Value} (hw : RepW w0 G st w) (hb : st.box b = some [.mp ag lf es c]) (hv : Rep1 G v vv) (h : ∃ e ∈ es, e.2.2 = s) :
    ∃ w', (Instr.entryStore t (.map (some b)) (.int .i64 s) vv).run P w = .ok () w' ∧ RepW w0 G (st.put b [.mp ag lf (mstamp s v es) c]) w' := by
  obtain ⟨ms, hh, hm⟩ := hw.map hb
  have hidx : ∀ (es : List (V × V × Nat)) (ms : List MapEntry), ms.length = es.length → (∀ (i : Nat) (e : V × V × Nat) (m : MapEntry), es[i]? = some e → ms[i]? = some m → m.born = e.2.2) → (∃ e ∈ es, e.2.2 = s) →
      ∃ j, j < es.length ∧ ms.findIdx? (fun e => (e.born : Int) == (s : Int)) = some j ∧ mstamp s v es = es.modify j (fun e => (e.1, v, e.2.2)) := by
    intro es
    induction es with
    | nil => rintro ms _ _ ⟨e, he, _⟩; cases he
    | cons e es ih =>
      intro ms hl hb' hex
      cases ms with
      | nil => simp at hl
      | cons m ms =>
        have h0 := hb' 0 e m rfl rfl
        by_cases hc : e.2.2 = s
        · exact ⟨0, by simp, by simp [List.findIdx?_cons, h0, hc], by simp [mstamp, hc]⟩
        · obtain ⟨j, j1, j2, j3⟩ := ih ms (by simpa using hl) (fun i e m he hm => hb' (i + 1) e m (by simpa using he) (by simpa using hm)) (by
            obtain ⟨e', he', hs⟩ := hex
            rcases List.mem_cons.1 he' with rfl | he'
            · exact absurd hs hc
            · exact ⟨e', he', hs⟩)
          refine ⟨j + 1, by simp; exact j1, ?_, by simp [mstamp, hc, j3]⟩
          rw [List.findIdx?_cons, if_neg (by rw [h0]; simp; omega), j2]
          rfl
  obtain ⟨j, j1, j2, j3⟩ := hidx es ms.toList (by simp [hm.len]) (fun i e m he hm' => (hm.rep i e m he (by simpa using hm')).2.2.2) h
  have j2' : ms.findIdx? (fun e => (e.born : Int) == (s : Int)) = some j := by
    rw [← Array.toArray_toList (xs := ms), List.findIdx?_toArray]; exact j2
  refine ⟨{ w with heap := w.heap.setIfInBounds b (.map (ms.modify j fun e => { e with val := vv }) c) }, ?_, ?_⟩
  · simp only [Instr.entryStore, Sem.run_bind, Sem.run_pure, MapKept.run_getObj_map hh, Result.andThen_ok, asInt, asIntOf, j2', MapKept.run_setObj_map _ hh]
  · rw [j3]
    refine hw.setAt hb _ (.map _ _ _ _ _ ⟨by simp [hm.len], fun i e m he hm' => ?_⟩)
    obtain ⟨e0, he0⟩ : ∃ e, es[j]? = some e := ⟨_, List.getElem?_eq_getElem j1⟩
    obtain ⟨m0, hm0'⟩ : ∃ m, ms[j]? = some m := ⟨_, Array.getElem?_eq_getElem (by rw [hm.len]; exact j1)⟩
    rw [List.getElem?_modify] at he
    rw [Array.getElem?_modify] at hm'
    by_cases hij : j = i
    · subst hij
      simp only [if_true, he0, hm0', Option.map_eq_map, Option.map_some, Option.some.injEq] at he hm'
      subst he; subst hm'
      have := hm.rep j e0 m0 he0 hm0'
      exact ⟨this.1, this.2.1, hv, this.2.2.2⟩
    · simp only [if_neg hij, Option.map_eq_map, Option.map_id'] at he hm'
      exact hm.rep i e m (by simpa using he) (by simpa using hm')
theorem mnilOf_inv {op : BinOp} {t : TypeId} {y : Operand} {neg : Bool} (h : mnilOf P op t y = some neg) : op = (if neg then .neq else .eql) ∧ ∃ k e, P.underlying t = some (.map k e) ∧ y = .const (.map none) := by
  unfold mnilOf at h
  split at h <;> simp only [Option.some.injEq, reduceCtorEq] at h
  · subst h; exact ⟨rfl, _, _, by assumption, rfl⟩
  · subst h; exact ⟨rfl, _, _, by assumption, rfl⟩
theorem equalIn_map {t k e : TypeId} (hu : P.underlying t = some (.map k e)) (d : Nat) (m : Option Nat) (w : World) : (Op.equalIn (d + 1) t (.map m) (.map none)).run P w = .ok m.isNone w := by
  cases m <;> simp [Op.equalIn, run_underlying hu]
theorem vmnil_sound {neg : Bool} {t k e : TypeId} (hu : P.underlying t = some (.map k e)) {x : V} {u : Value} (ox oy : Operand) (hx : Rep1 G x u) (h : (vmnil neg x).1) (w : World) :
    ∃ r, (do eqGuard (if neg then .neq else .eql) t ox oy u (.map none); binOp (if neg then .neq else .eql) t u (.map none) : Sem Value).run P w = .ok r w ∧ Rep1 G (vmnil neg x).2 r := by
  have run : ∀ m : Option Nat, (do eqGuard (if neg then .neq else .eql) t ox oy (.map m) (.map none); binOp (if neg then .neq else .eql) t (.map m) (.map none) : Sem Value).run P w = .ok (.bool (if neg then !m.isNone else m.isNone)) w := fun m => by
    have : (Op.equal t (.map m) (.map none)).run P w = .ok m.isNone w := equalIn_map hu 9999 m w
    cases neg
    · simp only [Bool.false_eq_true, if_false, binOp]
      simp [eqGuard, this]
    · simp only [if_true, binOp]
      simp [eqGuard, this]
  unfold vmnil at h ⊢
  split at h
  · rw [hx.sc_inv, run]
    exact ⟨_, rfl, by cases neg <;> exact .sc _ rfl⟩
  · rw [hx.sc_inv, run]
    exact ⟨_, rfl, by cases neg <;> exact .sc _ rfl⟩
  · exact h.elim
end
end Go.Proofs.Ytlngegoamfklgaa
