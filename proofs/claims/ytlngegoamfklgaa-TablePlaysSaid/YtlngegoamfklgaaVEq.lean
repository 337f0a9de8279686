/- Values that are compared cell by cell. -/
import Derived.Test.YtlngegoamfklgaaV3
import Derived.ChangeKeysEq
namespace Go.Proofs.Ytlngegoamfklgaa
open Go Go.RowKit

def Lf.fit : Lf → Value → Prop
  | .int k, .int k' _ => k = k'
  | .bool, .bool _ => True
  | .str, .string _ => True
  | _, _ => False
def FitL : List Lf → List Value → Prop
  | [], [] => True
  | a :: l, x :: m => a.fit x ∧ FitL l m
  | _, _ => False
def eqW1 : Value → Value → Bool
  | .int _ a, .int _ b => a == b
  | .bool a, .bool b => a == b
  | .string a, .string b => a.toList == b.toList
  | _, _ => false
def eqW : List Value → List Value → Bool
  | a :: l, b :: m => eqW1 a b && eqW l m
  | _, _ => true
theorem FitL.len : ∀ {l : List Lf} {m : List Value}, FitL l m → m.length = l.length
  | [], [], _ => rfl
  | _ :: _, _ :: _, h => by simp [FitL.len h.2]
  | [], _ :: _, h => h.elim
  | _ :: _, [], h => h.elim
theorem FitL.split : ∀ {a b : List Lf} {m : List Value}, FitL (a ++ b) m → FitL a (m.take a.length) ∧ FitL b (m.drop a.length)
  | [], b, m, h => by simpa [FitL] using h
  | x :: a, b, [], h => h.elim
  | x :: a, b, y :: m, h => by
    obtain ⟨h1, h2⟩ := FitL.split h.2
    exact ⟨⟨h.1, by simpa using h1⟩, by simpa using h2⟩
theorem eqW_split : ∀ (n : Nat) (x y : List Value), x.length = y.length → eqW x y = (eqW (x.take n) (y.take n) && eqW (x.drop n) (y.drop n))
  | 0, x, y, _ => by simp [eqW]
  | n + 1, [], [], _ => by simp [eqW]
  | n + 1, [], _ :: _, h => by simp at h
  | n + 1, _ :: _, [], h => by simp at h
  | n + 1, a :: x, b :: y, h => by
    simp only [eqW, List.take_succ_cons, List.drop_succ_cons, eqW_split n x y (by simpa using h), Bool.and_assoc]
def packW (P : Program) (t : TypeId) (xs : List Value) : Value := if isA P t = true then .agg xs.toArray else xs.headD undef

section
variable {P : Program}
theorem leafs_len {n : Nat} {t : TypeId} {l : List Lf} (h : leafs P n t = some l) : l.length = P.cellsOf t ∧ 0 < l.length := by
  cases n with
  | zero => simp [leafs] at h
  | succ n =>
    simp only [leafs, Option.bind_eq_some_iff] at h
    obtain ⟨l', _, h2⟩ := h
    split at h2
    · rename_i hh; cases h2; exact hh
    · cases h2
theorem leafs_u {n : Nat} {t : TypeId} {l : List Lf} (h : leafs P (n + 1) t = some l) : leafsU P (leafs P n) t = some l := by
  simp only [leafs, Option.bind_eq_some_iff] at h
  obtain ⟨l', h1, h2⟩ := h
  split at h2
  · cases h2; exact h1
  · cases h2
/-- A part, cut out. -/
theorem part_leafs (w : World) {n : Nat} {t : TypeId} {l : List Lf} (h : leafs P n t = some l) (xs : Array Value) (off : Nat) (hf : FitL l ((xs.toList.drop off).take (P.cellsOf t))) :
    (part t xs off).run P w = .ok (packW P t ((xs.toList.drop off).take (P.cellsOf t))) w := by
  obtain ⟨hl, hpos⟩ := leafs_len h
  cases n with
  | zero => simp [leafs] at h
  | succ n =>
    have hu := leafs_u h
    unfold leafsU at hu
    have hx : (xs.extract off (off + P.cellsOf t)) = ((xs.toList.drop off).take (P.cellsOf t)).toArray := by
      apply Array.toList_inj.1
      rw [Array.toList_extract]
      simp [List.extract]
    have one : l.length = 1 → ∃ v, xs[off]? = some v ∧ (xs.toList.drop off).take (P.cellsOf t) = [v] := fun h1 => by
      have := hf.len
      have hlen : ((xs.toList.drop off).take (P.cellsOf t)).length = 1 := by omega
      obtain ⟨v, hv⟩ := List.length_eq_one_iff.1 hlen
      refine ⟨v, ?_, hv⟩
      have : ((xs.toList.drop off).take (P.cellsOf t))[0]? = some v := by rw [hv]; rfl
      rw [List.getElem?_take, if_pos (by omega), List.getElem?_drop] at this
      simpa using this
    split at hu
    · rename_i k hk
      cases hu
      obtain ⟨v, hv, e⟩ := one rfl
      rw [e]
      simp [part, isAgg, run_underlying hk, hv, packW, isA, hk]
    · rename_i hk
      cases hu
      obtain ⟨v, hv, e⟩ := one rfl
      rw [e]
      simp [part, isAgg, run_underlying hk, hv, packW, isA, hk]
    · rename_i hk
      cases hu
      obtain ⟨v, hv, e⟩ := one rfl
      rw [e]
      simp [part, isAgg, run_underlying hk, hv, packW, isA, hk]
    · rename_i fs hk
      obtain ⟨i, hi⟩ := info_of_underlying hk
      simp [part, isAgg, run_underlying hk, run_sizeOf w hi, packW, isA, hk, hx]
    · rename_i m e hk
      obtain ⟨i, hi⟩ := info_of_underlying hk
      simp [part, isAgg, run_underlying hk, run_sizeOf w hi, packW, isA, hk, hx]
    · cases hu
theorem eqF_leafs (w : World) {n d : Nat} (IH : ∀ {t : TypeId} {l : List Lf}, leafs P n t = some l → ∀ (xs ys : List Value), FitL l xs → FitL l ys → (Op.equalIn d t (packW P t xs) (packW P t ys)).run P w = .ok (eqW xs ys) w)
    (xs ys : Array Value) : ∀ (fs : List Field) (o : Nat) (l : List Lf), leafsF P (leafs P n) o fs = some l → FitL l (xs.toList.drop o) → FitL l (ys.toList.drop o) → (Op.eqFields d xs ys fs).run P w = .ok (eqW (xs.toList.drop o) (ys.toList.drop o)) w
  | [], o, l, h, hx, hy => by
    simp only [leafsF, Option.some.injEq] at h
    subst h
    have := hx.len
    have hx0 := List.eq_nil_of_length_eq_zero (by simpa using hx.len : (xs.toList.drop o).length = 0)
    rw [hx0]
    simp [Op.eqFields, eqW]
  | f :: fs, o, l, h, hx, hy => by
    simp only [leafsF] at h
    split at h
    · rename_i hof
      simp only [Option.bind_eq_some_iff, Option.map_eq_some_iff] at h
      obtain ⟨a, ha, b, hb, rfl⟩ := h
      obtain ⟨hal, _⟩ := leafs_len ha
      obtain ⟨x1, x2⟩ := hx.split
      obtain ⟨y1, y2⟩ := hy.split
      rw [hal] at x1 x2 y1 y2
      rw [List.drop_drop] at x2 y2
      have p1 := part_leafs w ha xs o x1
      have p2 := part_leafs w ha ys o y1
      have p3 := IH ha _ _ x1 y1
      have p4 := eqF_leafs w IH xs ys fs _ b hb x2 y2
      rw [eqW_split (P.cellsOf f.type) (xs.toList.drop o) _ (by rw [hx.len, hy.len]), List.drop_drop, List.drop_drop]
      simp only [Op.eqFields, hof.2, ne_eq, not_false_eq_true, if_true, Sem.run_bind, hof.1, p1, p2, p3, Result.andThen_ok]
      cases eqW (List.take (P.cellsOf f.type) (List.drop o xs.toList)) (List.take (P.cellsOf f.type) (List.drop o ys.toList)) with
      | false => simp
      | true => simp [p4]
    · cases h
theorem eqI_leafs (w : World) {n d : Nat} {e : TypeId} {l : List Lf} (hl : leafs P n e = some l) (IH : ∀ (xs ys : List Value), FitL l xs → FitL l ys → (Op.equalIn d e (packW P e xs) (packW P e ys)).run P w = .ok (eqW xs ys) w)
    (xs ys : Array Value) : ∀ (m i : Nat), FitL (List.replicate m l).flatten (xs.toList.drop (i * P.cellsOf e)) → FitL (List.replicate m l).flatten (ys.toList.drop (i * P.cellsOf e)) →
      (Op.eqItems d e (P.cellsOf e) xs ys (List.range' i m)).run P w = .ok (eqW (xs.toList.drop (i * P.cellsOf e)) (ys.toList.drop (i * P.cellsOf e))) w
  | 0, i, hx, hy => by
    have hx0 := List.eq_nil_of_length_eq_zero (by simpa using hx.len : (xs.toList.drop (i * P.cellsOf e)).length = 0)
    rw [hx0]
    simp [Op.eqItems, eqW]
  | m + 1, i, hx, hy => by
    obtain ⟨hll, _⟩ := leafs_len hl
    rw [List.replicate_succ, List.flatten_cons] at hx hy
    obtain ⟨x1, x2⟩ := hx.split
    obtain ⟨y1, y2⟩ := hy.split
    rw [hll] at x1 x2 y1 y2
    rw [List.drop_drop, show i * P.cellsOf e + P.cellsOf e = (i + 1) * P.cellsOf e by rw [Nat.add_mul, Nat.one_mul]] at x2 y2
    have p1 := part_leafs w hl xs (i * P.cellsOf e) x1
    have p2 := part_leafs w hl ys (i * P.cellsOf e) y1
    have p3 := IH _ _ x1 y1
    have p4 := eqI_leafs w hl IH xs ys m (i + 1) x2 y2
    rw [eqW_split (P.cellsOf e) (xs.toList.drop (i * P.cellsOf e)) _ (by rw [hx.len, hy.len]), List.drop_drop, List.drop_drop, show i * P.cellsOf e + P.cellsOf e = (i + 1) * P.cellsOf e by rw [Nat.add_mul, Nat.one_mul]]
    simp only [List.range'_succ, Op.eqItems, Sem.run_bind, p1, p2, p3, Result.andThen_ok]
    cases eqW (List.take (P.cellsOf e) (List.drop (i * P.cellsOf e) xs.toList)) (List.take (P.cellsOf e) (List.drop (i * P.cellsOf e) ys.toList)) with
    | false => simp
    | true => simp [p4]
/-- The model's own comparison. -/
theorem equalIn_leafs (w : World) : ∀ (n d : Nat) {t : TypeId} {l : List Lf}, leafs P n t = some l → ∀ (xs ys : List Value), FitL l xs → FitL l ys → (Op.equalIn (d + n) t (packW P t xs) (packW P t ys)).run P w = .ok (eqW xs ys) w
  | 0, d, t, l, h, xs, ys, hx, hy => by simp [leafs] at h
  | n + 1, d, t, l, h, xs, ys, hx, hy => by
    have hu := leafs_u h
    obtain ⟨hl, _⟩ := leafs_len h
    unfold leafsU at hu
    have one : l.length = 1 → (∃ v, xs = [v]) ∧ ∃ v, ys = [v] := fun h1 => ⟨List.length_eq_one_iff.1 (by rw [hx.len, h1]), List.length_eq_one_iff.1 (by rw [hy.len, h1])⟩
    split at hu
    · rename_i k hk
      cases hu
      obtain ⟨⟨a, rfl⟩, ⟨b, rfl⟩⟩ := one rfl
      have ha := hx.1
      have hb := hy.1
      cases a <;> simp only [Lf.fit] at ha
      cases b <;> simp only [Lf.fit] at hb
      subst ha; subst hb
      simp only [packW, isA, hk, Bool.false_eq_true, if_false, List.headD_cons]
      rw [← Nat.add_assoc, run_equalIn_int w _ t _ _ _ _ hk]
      simp [eqW, eqW1]
    · rename_i hk
      cases hu
      obtain ⟨⟨a, rfl⟩, ⟨b, rfl⟩⟩ := one rfl
      have ha := hx.1
      have hb := hy.1
      cases a <;> simp only [Lf.fit] at ha
      cases b <;> simp only [Lf.fit] at hb
      simp only [packW, isA, hk, Bool.false_eq_true, if_false, List.headD_cons]
      rw [← Nat.add_assoc, run_equalIn_bool' w _ t _ _ hk]
      simp [eqW, eqW1]
    · rename_i hk
      cases hu
      obtain ⟨⟨a, rfl⟩, ⟨b, rfl⟩⟩ := one rfl
      have ha := hx.1
      have hb := hy.1
      cases a <;> simp only [Lf.fit] at ha
      cases b <;> simp only [Lf.fit] at hb
      simp only [packW, isA, hk, Bool.false_eq_true, if_false, List.headD_cons]
      rw [← Nat.add_assoc, run_equalIn_string w _ t _ _ hk]
      simp [eqW, eqW1]
    · rename_i fs hk
      split at hu
      · rename_i hst
        have hf : P.fieldsOf t = fs := by simp [Program.fieldsOf, hk]
        simp only [packW, isA, hk, if_true]
        rw [← Nat.add_assoc, run_equalIn_struct w _ t _ _ (by rw [hf]; exact hk) hst, hf]
        have := eqF_leafs w (n := n) (d := d + n) (fun {t l} h xs ys hx hy => equalIn_leafs w n d h xs ys hx hy) xs.toArray ys.toArray fs.toList 0 l hu (by simpa using hx) (by simpa using hy)
        simpa using this
      · cases hu
    · rename_i m e hk
      simp only [Option.map_eq_some_iff] at hu
      obtain ⟨l', hl', rfl⟩ := hu
      have hie : ∃ i, P.info? e = some i := by
        cases n with
        | zero => simp [leafs] at hl'
        | succ n =>
          have := leafs_u hl'
          unfold leafsU at this
          cases hue : P.underlying e with
          | none => rw [hue] at this; cases this
          | some d => exact info_of_underlying hue
      obtain ⟨i, hi⟩ := hie
      simp only [packW, isA, hk, if_true]
      rw [← Nat.add_assoc, run_equalIn_array w _ _ _ hk hi, List.range_eq_range']
      have := eqI_leafs w hl' (d := d + n) (fun xs ys hx hy => equalIn_leafs w n d hl' xs ys hx hy) xs.toArray ys.toArray m 0 (by simpa using hx) (by simpa using hy)
      simpa using this
    · cases hu
variable {G : Gh}
theorem fitsV_fit : ∀ {l : List Lf} {cs : List V} {us : List Value}, fitsV l cs → us.length = cs.length → (∀ (i : Nat) (c : V) (v : Value), cs[i]? = some c → us[i]? = some v → Rep1 G c v) → FitL l us
  | [], [], us, _, hl, _ => by simp at hl; subst hl; trivial
  | a :: l, c :: cs, [], _, hl, _ => by simp at hl
  | a :: l, c :: cs, u :: us, h, hl, hr => by
    have h0 := hr 0 c u rfl rfl
    have hrest := fun (h' : fitsV l cs) => fitsV_fit h' (by simpa using hl : us.length = cs.length) (fun i c v hc hv => hr (i + 1) c v (by simpa using hc) (by simpa using hv))
    unfold fitsV at h
    split at h
    · rename_i e1 e2; cases e1
    · rename_i k l' k' n m e1 e2
      cases e1; cases e2
      rw [h0.sc_inv]
      exact ⟨h.1, hrest h.2⟩
    · rename_i l' b m e1 e2
      cases e1; cases e2
      rw [h0.sc_inv]
      exact ⟨trivial, hrest h⟩
    · rename_i l' b m e1 e2
      cases e1; cases e2
      rw [h0.sc_inv]
      exact ⟨trivial, hrest h⟩
    · exact h.elim
  | [], _ :: _, _, h, _, _ => by simp [fitsV] at h
  | a :: _, [], _, h, _, _ => by cases a <;> simp [fitsV] at h
theorem eqV_eqW : ∀ {l : List Lf} {cs ds : List V} {us vs : List Value}, fitsV l cs → fitsV l ds → us.length = cs.length → vs.length = ds.length → (∀ (i : Nat) (c : V) (v : Value), cs[i]? = some c → us[i]? = some v → Rep1 G c v) → (∀ (i : Nat) (c : V) (v : Value), ds[i]? = some c → vs[i]? = some v → Rep1 G c v) → eqV cs ds = eqW us vs
  | [], [], [], us, vs, _, _, hl, hl', _, _ => by
    simp at hl hl'; subst hl; subst hl'; simp [eqV, eqW]
  | a :: l, c :: cs, d :: ds, [], vs, _, _, hl, _, _, _ => by simp at hl
  | a :: l, c :: cs, d :: ds, _ :: _, [], _, _, _, hl, _, _ => by simp at hl
  | a :: l, c :: cs, d :: ds, u :: us, v :: vs, h, h', hl, hl', hr, hr' => by
    have h0 := hr 0 c u rfl rfl
    have h0' := hr' 0 d v rfl rfl
    have hrest := fun (k : fitsV l cs) (k' : fitsV l ds) => eqV_eqW k k' (by simpa using hl : us.length = cs.length) (by simpa using hl' : vs.length = ds.length) (fun i c v hc hv => hr (i + 1) c v (by simpa using hc) (by simpa using hv)) (fun i c v hc hv => hr' (i + 1) c v (by simpa using hc) (by simpa using hv))
    unfold fitsV at h h'
    split at h
    · rename_i e1 e2; cases e1
    · rename_i k l' k' n m e1 e2
      cases e1; cases e2
      split at h'
      · rename_i e1 e2; cases e1
      · rename_i k l' k' n m e1 e2
        cases e1; cases e2
        rw [h0.sc_inv, h0'.sc_inv]
        simp only [eqV, eqW, eqW1, hrest h.2 h'.2]
        congr 1
      · rename_i e1 e2; cases e1
      · rename_i e1 e2; cases e1
      · exact h'.elim
    · rename_i l' b m e1 e2
      cases e1; cases e2
      split at h'
      · rename_i e1 e2; cases e1
      · rename_i e1 e2; cases e1
      · rename_i l' b m e1 e2
        cases e1; cases e2
        rw [h0.sc_inv, h0'.sc_inv]
        simp only [eqV, eqW, eqW1, hrest h h']
      · rename_i e1 e2; cases e1
      · exact h'.elim
    · rename_i l' b m e1 e2
      cases e1; cases e2
      split at h'
      · rename_i e1 e2; cases e1
      · rename_i e1 e2; cases e1
      · rename_i e1 e2; cases e1
      · rename_i l' b m e1 e2
        cases e1; cases e2
        rw [h0.sc_inv, h0'.sc_inv]
        simp only [eqV, eqW, eqW1, hrest h h', string_beq]
      · exact h'.elim
    · exact h.elim
  | [], [], _ :: _, _, _, _, h, _, _, _, _ => by simp [fitsV] at h
  | [], _ :: _, _, _, _, h, _, _, _, _, _ => by simp [fitsV] at h
  | a :: _, [], _, _, _, h, _, _, _, _, _ => by cases a <;> simp [fitsV] at h
  | a :: _, _ :: _, [], _, _, _, h, _, _, _, _ => by cases a <;> simp [fitsV] at h
theorem veqs_sound {op : BinOp} {t : TypeId} {neg : Bool} {l : List Lf} (hs : eqSpec P op t = some (neg, l)) {x y : V} {u v : Value} (ox oy : Operand) (hx : Rep1 G x u) (hy : Rep1 G y v) (h : (veqs neg l x y).1) (w : World) :
    ∃ r, (do eqGuard op t ox oy u v; binOp op t u v : Sem Value).run P w = .ok r w ∧ Rep1 G (veqs neg l x y).2 r := by
  unfold eqSpec at hs
  split at hs
  · rename_i hA
    simp only [Option.bind_eq_some_iff, Option.map_eq_some_iff, Prod.mk.injEq] at hs
    obtain ⟨neg', hop, l', hl', rfl, rfl⟩ := hs
    unfold veqs at h ⊢
    split at h
    · rename_i cs ds
      obtain ⟨us, rfl, hul, _, hur⟩ : ∃ us, u = .agg us ∧ cs.length = us.size ∧ True ∧ ∀ (i : Nat) (c : V) (v : Value), cs[i]? = some c → us[i]? = some v → Rep1 G c v := by
        cases hx with
        | agg _ us h1 h2 h3 => exact ⟨us, rfl, h1.symm, trivial, h3⟩
      obtain ⟨vs, rfl, hvl, _, hvr⟩ : ∃ us, v = .agg us ∧ ds.length = us.size ∧ True ∧ ∀ (i : Nat) (c : V) (v : Value), ds[i]? = some c → us[i]? = some v → Rep1 G c v := by
        cases hy with
        | agg _ us h1 h2 h3 => exact ⟨us, rfl, h1.symm, trivial, h3⟩
      have f1 := fitsV_fit (G := G) (us := us.toList) h.1 (by simp [hul]) (fun i c v hc hv => hur i c v hc (by simpa using hv))
      have f2 := fitsV_fit (G := G) (us := vs.toList) h.2 (by simp [hvl]) (fun i c v hc hv => hvr i c v hc (by simpa using hv))
      have e := eqV_eqW (G := G) (us := us.toList) (vs := vs.toList) h.1 h.2 (by simp [hul]) (by simp [hvl]) (fun i c v hc hv => hur i c v hc (by simpa using hv)) (fun i c v hc hv => hvr i c v hc (by simpa using hv))
      have hE := equalIn_leafs (P := P) w 8 9992 hl' us.toList vs.toList f1 f2
      simp only [packW, hA.1, if_true, Array.toArray_toList, ← e] at hE
      have hE' : (Op.equalIn 10000 t (.agg us) (.agg vs)).run P w = .ok (eqV cs ds) w := hE
      unfold eqNeg at hop
      split at hop
      · cases hop
        refine ⟨.bool (eqV cs ds), ?_, .sc _ rfl⟩
        rw [Sem.run_bind, run_eqGuard_agg w _ t ox oy us vs hA.2, Result.andThen_ok, run_eql_struct, hE']
        rfl
      · cases hop
        refine ⟨.bool (!(eqV cs ds)), ?_, .sc _ rfl⟩
        rw [Sem.run_bind, run_eqGuard_agg w _ t ox oy us vs hA.2, Result.andThen_ok, run_neq_struct, hE']
        rfl
      · cases hop
    · exact h.elim
  · cases hs
end
end Go.Proofs.Ytlngegoamfklgaa
