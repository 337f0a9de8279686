/- Steps of the proof, joined: VSortLaw, VSortC0, V12, V13, VSortW, VSortC1, VSortC2, VSortLaw2, VSortC3, VSortC4, VSortC5, VSortC6, VSortB0, VSortB, VSortC7. -/
import Derived.Test.YtlngegoamfklgaaZeb
import Derived.Test.YtlngegoamfklgaaVc
namespace Go.Proofs.Ytlngegoamfklgaa
open Go
attribute [local go_sem] run_skip run_reg run_seq run_blk run_exit run_ret run_cond if_true if_false at_code_n at_code_x at_code_r at_blk_n at_blk_x at_blk_r at_rnd_n at_rnd_x at_rnd_r at_fin_n at_fin_r ops_nil ops_grd grd_und grd_tt grd_ff grd_tf grd_ft ops_mv ops_pick ops_bin ops_un ops_binb ops_eqs ops_isnil ops_pnil ops_b2s ops_s2b ops_b2sB ops_s2a ops_slcA ops_aidx vaidx vb2sB vs2a vslcA ops_sidx vs2b vsidx srcX ops_appx apx_mk ops_mks ops_mko mks_int mko_int vbinb veqs visnil vpnil vb2s ops_conv ops_fld ops_ix ops_ixa ops_load ops_nilck ops_ext ops_len ops_slen ops_mn ops_mx ops_bld ops_bsl ops_slc ops_sslc ops_box ops_alc ops_alcX ops_boxX ops_bslo ops_store ops_app ops_call ev_t ev_c put_get put_none opv_mk stb_some sto_ptr over_get rel_mk vnat Bx Stp vbld vbsl put_box_same put_box_ne put_sz put_own use_box use_sz put_put args0 List.getD_cons_zero List.getD_cons_succ List.getD_nil vpick vbin vbinI vbinS vun vconv norm vfld vnil vlen vslen vext vmm vix vixa vload takeV takeB mono_nil mono_two mono_sc mono_any mono_und mono_sl mono_agg mono_ep vmlk vmlen vmnil vent vmfn allSc vslc3 kOk fitsV ops_mlk ops_mlen ops_mnil ops_ent ops_mfn ops_slc3 ops_mkm ops_mup mup_map mub_some ops_mdel mdl_nil mdl_map mdb_some ops_rng rng_none rng_map rgb_some ops_nxt ops_ment met_map meb_some ops_est est_map esb_some ops_clr clr_nil clr_box clb_some ops_calv clv_func vslc vsslc fillV splice V.cells strip strip1 allLen ptrV obsOk shAmt IntKind.bits List.map_cons List.map_nil List.length_cons List.length_nil List.getElem?_cons_zero List.getElem?_cons_succ List.take_succ_cons List.take_zero List.drop_succ_cons List.drop_zero List.cons_append List.nil_append List.append_nil List.take_nil List.drop_nil Option.map_some Option.map_none and_true true_and Int.toNat_natCast Nat.min_def Nat.zero_add Nat.add_zero Nat.zero_mul Nat.mul_one Nat.one_mul vret rvAll rvVal resv_1 resv_2 decide_true decide_false Int.lt_irrefl Bool.not_true Bool.not_false ne_eq not_true_eq_false not_false_eq_true eq_self Bool.true_eq_false Bool.false_eq_true List.contains_cons List.contains_nil Bool.false_or Bool.true_or Bool.or_false Bool.or_true List.mem_cons List.not_mem_nil or_false or_true true_or false_or ops_aidxn vaidxn ops_mki vmki ops_inv ops_cpy cpy_box cpb_some
section

section
variable {α : Type}
theorem set_perm_cons {x y : α} : ∀ {L : List α} {j : Nat}, L[j]? = some y → (y :: L.set j x).Perm (x :: L)
  | [], j, h => by simp at h
  | z :: L, 0, h => by
    simp at h
    subst h
    exact List.Perm.swap _ _ _
  | z :: L, j + 1, h => by
    have ih := set_perm_cons (x := x) (L := L) (j := j) (by simpa using h)
    simp only [List.set_cons_succ]
    exact (List.Perm.swap _ _ _).trans ((ih.cons z).trans (List.Perm.swap _ _ _))
theorem set2_perm {L : List α} {i j : Nat} {x y : α} (hi : L[i]? = some x) (hj : L[j]? = some y) : ((L.set i y).set j x).Perm L := by
  induction L generalizing i j with
  | nil => simp at hi
  | cons z L ih =>
    cases i with
    | zero =>
      simp at hi
      subst hi
      cases j with
      | zero => simp at hj; subst hj; simp
      | succ j =>
        simp only [List.set_cons_zero, List.set_cons_succ]
        exact set_perm_cons (by simpa using hj)
    | succ i =>
      cases j with
      | zero =>
        simp at hj
        subst hj
        simp only [List.set_cons_zero, List.set_cons_succ]
        exact set_perm_cons (by simpa using hi)
      | succ j =>
        simp only [List.set_cons_succ]
        exact (ih (by simpa using hi) (by simpa using hj)).cons z
/-- An order, by 'less'. -/
structure Ord' (lt : α → α → Bool) : Prop where
  asymm : ∀ {x y}, lt x y = true → lt y x = false
  trans : ∀ {x y z}, lt y x = false → lt z y = false → lt z x = false
theorem Ord'.irr {lt : α → α → Bool} (h : Ord' lt) (x : α) : lt x x = false := by
  cases e : lt x x with
  | false => rfl
  | true => have := h.asymm e; rw [e] at this; cases this
/-- Two lists of the same elements in order are one, where no two can't be told apart. -/
theorem srt_eq {lt : α → α → Bool} (O : Ord' lt) (hT : ∀ x y, lt x y = false → lt y x = false → x = y) : ∀ {L M : List α}, L.Perm M → L.Pairwise (fun x y => lt y x = false) → M.Pairwise (fun x y => lt y x = false) → L = M
  | [], M, hp, _, _ => by rw [hp.nil_eq]
  | x :: L, [], hp, _, _ => by have := hp.length_eq; simp at this
  | x :: L, y :: M, hp, h1, h2 => by
    rw [List.pairwise_cons] at h1 h2
    have exy : x = y := by
      have hx := hp.mem_iff.1 (List.mem_cons_self (a := x) (l := L))
      have hy := hp.mem_iff.2 (List.mem_cons_self (a := y) (l := M))
      rcases List.mem_cons.1 hx with e | hx
      · exact e
      · rcases List.mem_cons.1 hy with e | hy
        · exact e.symm
        · exact hT x y (h2.1 x hx) (h1.1 y hy)
    subst exy
    rw [srt_eq O hT (List.Perm.cons_inv hp) h1.2 h2.2]
end
section
variable {α : Type} [Inhabited α]
theorem bang_get {L : List α} {i : Nat} (h : i < L.length) : L[i]? = some L[i]! := by
  rw [List.getElem?_eq_getElem h, getElem!_pos L i h]
theorem bang_eq {L : List α} {i : Nat} {x : α} (h : L[i]? = some x) : L[i]! = x := by
  obtain ⟨h1, h2⟩ := List.getElem?_eq_some_iff.1 h
  rw [getElem!_pos L i h1]; exact h2
theorem ext_bang {L M : List α} (h : L.length = M.length) (he : ∀ i, i < L.length → L[i]! = M[i]!) : L = M := by
  refine List.ext_getElem h fun i h1 h2 => ?_
  have := he i h1
  rwa [getElem!_pos L i h1, getElem!_pos M i h2] at this
/-- Two elements exchanged. -/
def exch (L : List α) (i j : Nat) : List α := (L.set i L[j]!).set j L[i]!
theorem exch_len {L : List α} {i j : Nat} : (exch L i j).length = L.length := by simp [exch]
theorem exch_get {L : List α} {i j : Nat} (hi : i < L.length) (hj : j < L.length) (k : Nat) : (exch L i j)[k]! = if k = j then L[i]! else if k = i then L[j]! else L[k]! := by
  by_cases hk : k < L.length
  · rw [getElem!_pos (exch L i j) k (by rw [exch_len]; exact hk)]
    have e : (exch L i j)[k]'(by rw [exch_len]; exact hk) = if j = k then L[i]! else if i = k then L[j]! else L[k] := by
      unfold exch
      rw [List.getElem_set, List.getElem_set]
    rw [e, getElem!_pos L k hk]
    by_cases e1 : j = k
    · rw [if_pos e1, if_pos e1.symm]
    · rw [if_neg e1]
      by_cases e2 : i = k
      · rw [if_pos e2, if_neg (show ¬ k = j from fun h => e1 h.symm), if_pos e2.symm]
      · rw [if_neg e2, if_neg (show ¬ k = j from fun h => e1 h.symm), if_neg (show ¬ k = i from fun h => e2 h.symm)]
  · rw [if_neg (by omega), if_neg (by omega), getElem!_neg (exch L i j) k (by rw [exch_len]; exact hk), getElem!_neg L k hk]
theorem exch_perm {L : List α} {i j : Nat} (hi : i < L.length) (hj : j < L.length) : (exch L i j).Perm L := set2_perm (bang_get hi) (bang_get hj)
/-- The same elements, turned about from a to b alone. -/
structure Mix (a b : Nat) (L M : List α) : Prop where
  perm : M.Perm L
  out : ∀ k, k < a ∨ b ≤ k → M[k]! = L[k]!
theorem Mix.len {a b : Nat} {L M : List α} (h : Mix a b L M) : M.length = L.length := h.perm.length_eq
theorem Mix.refl {a b : Nat} {L : List α} : Mix a b L L := ⟨.refl _, fun _ _ => rfl⟩
theorem Mix.trans {a b : Nat} {L M N : List α} (h : Mix a b L M) (k : Mix a b M N) : Mix a b L N := ⟨k.perm.trans h.perm, fun i hi => (k.out i hi).trans (h.out i hi)⟩
theorem Mix.wide {a b a' b' : Nat} {L M : List α} (h : Mix a b L M) (h1 : a' ≤ a) (h2 : b ≤ b') : Mix a' b' L M := ⟨h.perm, fun k hk => h.out k (by omega)⟩
theorem Mix.exch {a b i j : Nat} {L M : List α} (h : Mix a b L M) (h1 : a ≤ i) (h2 : i < b) (h3 : a ≤ j) (h4 : j < b) (hb : b ≤ L.length) : Mix a b L (exch M i j) := by
  have hl := h.len
  refine ⟨(exch_perm (by omega) (by omega)).trans h.perm, fun k hk => ?_⟩
  rw [exch_get (by omega) (by omega), if_neg (by omega), if_neg (by omega)]
  exact h.out k hk
theorem Mix.mid {a b : Nat} {L M : List α} (h : Mix a b L M) (hab : a ≤ b) (hb : b ≤ L.length) : ((M.drop a).take (b - a)).Perm ((L.drop a).take (b - a)) := by
  have hl := h.len
  have split : ∀ X : List α, X = X.take a ++ ((X.drop a).take (b - a) ++ X.drop b) := fun X => by
    have h1 : (X.drop a).take (b - a) ++ X.drop b = X.drop a := by
      have : X.drop b = (X.drop a).drop (b - a) := by rw [List.drop_drop]; congr 1; omega
      rw [this, List.take_append_drop]
    rw [h1, List.take_append_drop]
  have h1 : M.take a = L.take a := by
    refine ext_bang (by simp [hl]) fun i hi => ?_
    simp at hi
    have := h.out i (by omega)
    rw [getElem!_pos (M.take a) i (by simp; omega), getElem!_pos (L.take a) i (by simp; omega)]
    rw [getElem!_pos M i (by omega), getElem!_pos L i (by omega)] at this
    simpa using this
  have h2 : M.drop b = L.drop b := by
    refine ext_bang (by simp [hl]) fun i hi => ?_
    simp at hi
    have := h.out (b + i) (by omega)
    rw [getElem!_pos (M.drop b) i (by simp; omega), getElem!_pos (L.drop b) i (by simp; omega)]
    rw [getElem!_pos M (b + i) (by omega), getElem!_pos L (b + i) (by omega)] at this
    simpa using this
  have hp := h.perm
  rw [split M, split L, h1, h2] at hp
  exact (List.perm_append_right_iff _).1 ((List.perm_append_left_iff _).1 hp)
theorem Mix.all {a b : Nat} {L M : List α} (h : Mix a b L M) (hb : b ≤ L.length) {Q : α → Prop} (hq : ∀ k, a ≤ k → k < b → Q L[k]!) : ∀ k, a ≤ k → k < b → Q M[k]! := fun k h1 h2 => by
  have hl := h.len
  have hp := h.mid (by omega) hb
  have hm : M[k]! ∈ (M.drop a).take (b - a) := by
    rw [getElem!_pos M k (by omega)]
    refine List.mem_iff_getElem.2 ⟨k - a, by simp; omega, ?_⟩
    simp only [List.getElem_take, List.getElem_drop]
    congr 1; omega
  have := hp.mem_iff.1 hm
  obtain ⟨i, hi, he⟩ := List.mem_iff_getElem.1 this
  simp at hi
  simp only [List.getElem_take, List.getElem_drop] at he
  rw [← he, ← getElem!_pos L (a + i) (by omega)]
  exact hq (a + i) (by omega) (by omega)
/-- In order from a to b. -/
def Srt (lt : α → α → Bool) (a b : Nat) (L : List α) : Prop := ∀ i j, a ≤ i → i < j → j < b → lt L[j]! L[i]! = false
variable {lt : α → α → Bool}
theorem Srt.one {a b : Nat} {L : List α} (h : b ≤ a + 1) : Srt lt a b L := fun i j h1 h2 h3 => by omega
/-- All but the element at j in order; what stands behind j is not less. -/
structure Ins (lt : α → α → Bool) (a i j : Nat) (L : List α) : Prop where
  ord : ∀ p q, a ≤ p → p < q → q ≤ i → p ≠ j → q ≠ j → lt L[q]! L[p]! = false
  up : ∀ q, j < q → q ≤ i → lt L[q]! L[j]! = false
theorem Ins.start {a i : Nat} {L : List α} (h : Srt lt a i L) : Ins lt a i i L := ⟨fun p q h1 h2 h3 h4 h5 => h p q h1 h2 (by omega), fun q h1 h2 => by omega⟩
theorem Ins.done (O : Ord' lt) {a i j : Nat} {L : List α} (h : Ins lt a i j L) (hj : j ≤ i) (hs : j = a ∨ (a < j ∧ lt L[j]! L[j - 1]! = false)) : Srt lt a (i + 1) L := fun p q h1 h2 h3 => by
  by_cases e1 : q = j
  · subst e1
    rcases hs with e | ⟨h4, h5⟩
    · omega
    · by_cases e2 : p = q - 1
      · subst e2; exact h5
      · exact O.trans (h.ord p (q - 1) h1 (by omega) (by omega) (by omega) (by omega)) h5
  · by_cases e2 : p = j
    · subst e2; exact h.up q h2 (by omega)
    · exact h.ord p q h1 h2 (by omega) e2 e1
theorem Ins.step (O : Ord' lt) {a i j : Nat} {L : List α} (h : Ins lt a i j L) (hj : a < j) (hji : j ≤ i) (hi : i < L.length) (hl : lt L[j]! L[j - 1]! = true) : Ins lt a i (j - 1) (exch L j (j - 1)) := by
  have g := fun k => exch_get (L := L) (i := j) (j := j - 1) (by omega) (by omega) k
  refine ⟨fun p q h1 h2 h3 h4 h5 => ?_, fun q h1 h2 => ?_⟩
  · rw [g q, g p, if_neg h5, if_neg h4]
    by_cases e1 : q = j
    · rw [if_pos e1, if_neg (by omega)]
      exact h.ord p (j - 1) h1 (by omega) (by omega) (by omega) (by omega)
    · rw [if_neg e1]
      by_cases e2 : p = j
      · rw [if_pos e2]; exact h.ord (j - 1) q (by omega) (by omega) h3 (by omega) e1
      · rw [if_neg e2]; exact h.ord p q h1 h2 h3 e2 e1
  · rw [g q, g (j - 1), if_neg (by omega), if_pos rfl]
    by_cases e1 : q = j
    · rw [if_pos e1]; exact O.asymm hl
    · rw [if_neg e1]; exact h.up q (by omega) h2
/-! ### Heaps -/
def kid (r c : Nat) : Prop := c = 2 * r + 1 ∨ c = 2 * r + 2
def Heap (lt : α → α → Bool) (f lo hi : Nat) (L : List α) : Prop := ∀ r c, lo ≤ r → kid r c → c < hi → lt L[f + r]! L[f + c]! = false
structure Sift (lt : α → α → Bool) (f lo hi root : Nat) (L : List α) : Prop where
  own : ∀ r c, lo ≤ r → r ≠ root → kid r c → c < hi → lt L[f + r]! L[f + c]! = false
  up : ∀ p c, lo ≤ p → kid p root → kid root c → c < hi → lt L[f + p]! L[f + c]! = false
theorem Sift.start {f lo hi : Nat} {L : List α} (h : Heap lt f (lo + 1) hi L) : Sift lt f lo hi lo L :=
  ⟨fun r c h1 h2 h3 h4 => h r c (by omega) h3 h4, fun p c h1 h2 h3 h4 => by rcases h2 with h2 | h2 <;> omega⟩
theorem Sift.done {f lo hi root : Nat} {L : List α} (h : Sift lt f lo hi root L) (hr : ∀ c, kid root c → c < hi → lt L[f + root]! L[f + c]! = false) : Heap lt f lo hi L := fun r c h1 h2 h3 => by
  by_cases e : r = root
  · subst e; exact hr c h2 h3
  · exact h.own r c h1 e h2 h3
theorem Sift.step (O : Ord' lt) {f lo hi root ch : Nat} {L : List α} (h : Sift lt f lo hi root L) (hk : kid root ch) (hc : ch < hi) (hlo : lo ≤ root) (hL : f + hi ≤ L.length) (hbig : ∀ c, kid root c → c < hi → lt L[f + ch]! L[f + c]! = false) (hl : lt L[f + root]! L[f + ch]! = true) :
    Sift lt f lo hi ch (exch L (f + root) (f + ch)) := by
  have hrc : root < ch := by rcases hk with h | h <;> omega
  have g := fun k => exch_get (L := L) (i := f + root) (j := f + ch) (by omega) (by omega) k
  refine ⟨fun r c h1 h2 h3 h4 => ?_, fun p c h1 h2 h3 h4 => ?_⟩
  · have hrc' : r < c := by rcases h3 with h | h <;> omega
    rw [g (f + r), g (f + c), if_neg (by omega)]
    by_cases e1 : r = root
    · subst e1
      rw [if_pos rfl]
      by_cases e2 : c = ch
      · subst e2; rw [if_pos rfl]; exact O.asymm hl
      · rw [if_neg (by omega), if_neg (by omega)]; exact hbig c h3 h4
    · rw [if_neg (by omega)]
      have e2 : c ≠ ch := fun e => by subst e; rcases hk with h | h <;> rcases h3 with h' | h' <;> omega
      rw [if_neg (by omega)]
      by_cases e3 : c = root
      · subst e3
        rw [if_pos rfl]
        exact h.up r ch h1 h3 hk hc
      · rw [if_neg (by omega)]; exact h.own r c h1 e1 h3 h4
  · have e : p = root := by rcases hk with h | h <;> rcases h2 with h' | h' <;> omega
    have h5 : ch < c := by rcases h3 with h | h <;> omega
    subst e
    rw [g (f + p), g (f + c), if_neg (by omega), if_pos rfl, if_neg (by omega), if_neg (by omega)]
    exact h.own ch c (by omega) (by omega) h3 h4
theorem Heap.top (O : Ord' lt) {f hi : Nat} {L : List α} (h : Heap lt f 0 hi L) : ∀ k, k < hi → lt L[f]! L[f + k]! = false := by
  intro k
  induction k using Nat.strongRecOn with
  | _ k ih =>
    intro hk
    by_cases e : k = 0
    · subst e; exact O.irr _
    · have hp : kid ((k - 1) / 2) k := by unfold kid; omega
      have h1 := ih ((k - 1) / 2) (by omega) (by omega)
      exact O.trans (h _ _ (by omega) hp hk) h1
/-! ### Fences: what lies outside the range that is left is where it belongs -/
structure Fence (lt : α → α → Bool) (a b x y : Nat) (L : List α) : Prop where
  lo : ∀ i j, a ≤ i → i < x → i < j → j < b → lt L[j]! L[i]! = false
  hi : ∀ i j, a ≤ j → j < i → y ≤ i → i < b → lt L[i]! L[j]! = false
theorem Fence.nil {a b : Nat} {L : List α} : Fence lt a b a b L := ⟨fun i j h1 h2 => by omega, fun i j h1 h2 h3 h4 => by omega⟩
theorem Fence.mix {a b x y : Nat} {L M : List α} (h : Fence lt a b x y L) (hm : Mix x y L M) (hax : a ≤ x) (hyb : y ≤ b) (hb : b ≤ L.length) : Fence lt a b x y M := by
  refine ⟨fun i j h1 h2 h3 h4 => ?_, fun i j h1 h2 h3 h4 => ?_⟩
  · rw [hm.out i (by omega)]
    by_cases hj : j < x ∨ y ≤ j
    · rw [hm.out j hj]; exact h.lo i j h1 h2 h3 h4
    · exact hm.all (by omega) (Q := fun v => lt v L[i]! = false) (fun k k1 k2 => h.lo i k h1 h2 (by omega) (by omega)) j (by omega) (by omega)
  · rw [hm.out i (by omega)]
    by_cases hj : j < x ∨ y ≤ j
    · rw [hm.out j hj]; exact h.hi i j h1 h2 h3 h4
    · exact hm.all (by omega) (Q := fun v => lt L[i]! v = false) (fun k k1 k2 => h.hi i k (by omega) (by omega) h3 h4) j (by omega) (by omega)
theorem Fence.done {a b x y : Nat} {L : List α} (h : Fence lt a b x y L) (hs : Srt lt x y L) : Srt lt a b L := fun i j h1 h2 h3 => by
  by_cases e1 : i < x
  · exact h.lo i j h1 e1 h2 h3
  · by_cases e2 : y ≤ j
    · exact h.hi j i h1 h2 e2 h3
    · exact hs i j (by omega) h2 (by omega)
/-- The pivot in its place, what lies left of it in order: go on behind it. -/
theorem Fence.left (O : Ord' lt) {a b x y m : Nat} {L : List α} (h : Fence lt a b x y L) (hax : a ≤ x) (hyb : y ≤ b) (hxm : x ≤ m) (hmy : m < y) (h1 : ∀ k, x ≤ k → k < m → lt L[m]! L[k]! = false) (h2 : ∀ k, m < k → k < y → lt L[k]! L[m]! = false) (hs : Srt lt x m L) : Fence lt a b (m + 1) y L := by
  refine ⟨fun i j k1 k2 k3 k4 => ?_, h.hi⟩
  by_cases e1 : i < x
  · exact h.lo i j k1 e1 k3 k4
  · by_cases e2 : y ≤ j
    · exact h.hi j i k1 k3 e2 k4
    · by_cases e3 : i = m
      · subst e3; exact h2 j k3 (by omega)
      · by_cases e4 : j < m
        · exact hs i j (by omega) k3 e4
        · by_cases e5 : j = m
          · subst e5; exact h1 i (by omega) k3
          · exact O.trans (h1 i (by omega) (by omega)) (h2 j (by omega) (by omega))
theorem Fence.right (O : Ord' lt) {a b x y m : Nat} {L : List α} (h : Fence lt a b x y L) (hax : a ≤ x) (hyb : y ≤ b) (hxm : x ≤ m) (hmy : m < y) (h1 : ∀ k, x ≤ k → k < m → lt L[m]! L[k]! = false) (h2 : ∀ k, m < k → k < y → lt L[k]! L[m]! = false) (hs : Srt lt (m + 1) y L) : Fence lt a b x m L := by
  refine ⟨h.lo, fun i j k1 k2 k3 k4 => ?_⟩
  by_cases e1 : y ≤ i
  · exact h.hi i j k1 k2 e1 k4
  · by_cases e2 : j < x
    · exact h.lo j i k1 e2 k2 k4
    · by_cases e3 : i = m
      · subst e3; exact h1 j (by omega) k2
      · by_cases e4 : m < j
        · exact hs j i (by omega) k2 (by omega)
        · by_cases e5 : j = m
          · subst e5; exact h2 i (by omega) (by omega)
          · exact O.trans (h1 j (by omega) (by omega)) (h2 i (by omega) (by omega))
/-- The least ones in front: go on behind them. -/
theorem Fence.least {a b x y m : Nat} {L : List α} (h : Fence lt a b x y L) (hax : a ≤ x) (hyb : y ≤ b) (hxm : x ≤ m) (hmy : m ≤ y) (h1 : ∀ k j, x ≤ k → k < m → x ≤ j → j < y → lt L[j]! L[k]! = false) : Fence lt a b m y L := by
  refine ⟨fun i j k1 k2 k3 k4 => ?_, h.hi⟩
  by_cases e1 : i < x
  · exact h.lo i j k1 e1 k3 k4
  · by_cases e2 : y ≤ j
    · exact h.hi j i k1 k3 e2 k4
    · exact h1 i j (by omega) k2 (by omega) (by omega)
/-- No element from a to b is less than the one ahead of a. -/
def LB (lt : α → α → Bool) (a b : Nat) (L : List α) : Prop := 0 < a → ∀ k, a ≤ k → k < b → lt L[k]! L[a - 1]! = false
theorem LB.mix {a b : Nat} {L M : List α} (h : LB lt a b L) (hm : Mix a b L M) (hb : b ≤ L.length) : LB lt a b M := fun h0 => by
  rw [hm.out (a - 1) (by omega)]
  exact hm.all hb (Q := fun v => lt v L[a - 1]! = false) (h h0)
theorem Fence.lb {a b x y : Nat} {L : List α} (h : Fence lt a b x y L) (hl : LB lt a b L) (hax : a ≤ x) (hyb : y ≤ b) : LB lt x y L := fun h0 k h1 h2 => by
  by_cases e : x = a
  · subst e; exact hl h0 k h1 (by omega)
  · exact h.lo (x - 1) k (by omega) (by omega) (by omega) (by omega)
theorem Srt.pw {L : List α} (h : Srt lt 0 L.length L) : L.Pairwise (fun x y => lt y x = false) := by
  rw [List.pairwise_iff_getElem]
  intro i j hi hj hij
  have := h i j (by omega) hij hj
  rwa [getElem!_pos L j hj, getElem!_pos L i hi] at this
end
end
section
open Go

def CIns : FC := ⟨53, .seq (.reg [⟨some 10, .mv (.t 1), none, []⟩, ⟨some 11, .bin .add (.t 10) (.c (.sc (.int .i64 1))), none, []⟩, ⟨some 8, .mv (.t 11), none, []⟩]) (.blk 0 (.loop (.seq (.seq (.reg [⟨some 12, .mv (.t 8), none, []⟩, ⟨some 13, .mv (.t 2), none, []⟩, ⟨some 14, .bin .lss (.t 12) (.t 13), none, []⟩]) (.cond (.t 14) .skip (.exit 0))) (.seq (.blk 1 (.seq (.reg [⟨some 17, .mv (.t 8), none, []⟩, ⟨some 9, .mv (.t 17), none, []⟩]) (.blk 2 (.loop (.seq (.seq (.reg [⟨some 18, .mv (.t 9), none, []⟩, ⟨some 19, .mv (.t 1), none, []⟩, ⟨some 20, .bin .gtr (.t 18) (.t 19), none, []⟩, ⟨some 21, .mv (.t 20), none, []⟩, ⟨some 22, .mv (.t 3), some (21, true), []⟩, ⟨some 23, .mv (.t 0), some (21, true), []⟩, ⟨some 24, .mv (.t 9), some (21, true), []⟩, ⟨some 25, .ix 2 (.t 23) (.t 24), some (21, true), []⟩, ⟨some 26, .load (some 2) (.t 25), some (21, true), []⟩, ⟨some 27, .mv (.t 0), some (21, true), []⟩, ⟨some 28, .mv (.t 9), some (21, true), []⟩, ⟨some 29, .bin .sub (.t 28) (.c (.sc (.int .i64 1))), some (21, true), []⟩, ⟨some 30, .ix 2 (.t 27) (.t 29), some (21, true), []⟩, ⟨some 31, .load (some 2) (.t 30), some (21, true), []⟩, ⟨some 32, .calv (.t 22) [.t 26, .t 31], some (21, true), []⟩, ⟨some 33, .bin .lss (.t 32) (.c (.sc (.int .i64 0))), some (21, true), []⟩, ⟨some 34, .pick (.t 21) (.t 33) (.c (.sc (.bool false))), none, []⟩]) (.cond (.t 34) .skip (.exit 2))) (.seq (.blk 3 (.reg [⟨some 37, .mv (.t 0), none, []⟩, ⟨some 38, .mv (.t 9), none, []⟩, ⟨some 39, .mv (.t 0), none, []⟩, ⟨some 40, .mv (.t 9), none, []⟩, ⟨some 41, .bin .sub (.t 40) (.c (.sc (.int .i64 1))), none, []⟩, ⟨some 42, .mv (.t 0), none, []⟩, ⟨some 43, .mv (.t 9), none, []⟩, ⟨some 44, .bin .sub (.t 43) (.c (.sc (.int .i64 1))), none, []⟩, ⟨some 45, .ix 2 (.t 42) (.t 44), none, []⟩, ⟨some 46, .load (some 2) (.t 45), none, []⟩, ⟨some 47, .mv (.t 0), none, []⟩, ⟨some 48, .mv (.t 9), none, []⟩, ⟨some 49, .ix 2 (.t 47) (.t 48), none, []⟩, ⟨some 50, .load (some 2) (.t 49), none, []⟩, ⟨some 51, .ix 2 (.t 37) (.t 38), none, []⟩, ⟨none, .store 2 (.t 51) (.t 46), none, []⟩, ⟨some 52, .ix 2 (.t 39) (.t 41), none, []⟩, ⟨none, .store 2 (.t 52) (.t 50), none, []⟩])) (.reg [⟨some 35, .mv (.t 9), none, []⟩, ⟨some 36, .bin .sub (.t 35) (.c (.sc (.int .i64 1))), none, []⟩, ⟨some 9, .mv (.t 36), none, []⟩]))))))) (.reg [⟨some 15, .mv (.t 8), none, []⟩, ⟨some 16, .bin .add (.t 15) (.c (.sc (.int .i64 1))), none, []⟩, ⟨some 8, .mv (.t 16), none, []⟩]))))), []⟩
def CSift : FC := ⟨82, .seq (.reg [⟨some 12, .mv (.t 1), none, []⟩, ⟨some 10, .mv (.t 12), none, []⟩]) (.blk 0 (.loop (.blk 1 (.seq (.reg [⟨some 13, .mv (.t 10), none, []⟩, ⟨some 14, .bin .mul (.c (.sc (.int .i64 2))) (.t 13), none, []⟩, ⟨some 15, .bin .add (.t 14) (.c (.sc (.int .i64 1))), none, []⟩, ⟨some 11, .mv (.t 15), none, []⟩]) (.seq (.seq (.reg [⟨some 16, .mv (.t 11), none, []⟩, ⟨some 17, .mv (.t 2), none, []⟩, ⟨some 18, .bin .geq (.t 16) (.t 17), none, []⟩]) (.cond (.t 18) (.exit 0) .skip)) (.seq (.seq (.reg [⟨some 19, .mv (.t 11), none, []⟩, ⟨some 20, .bin .add (.t 19) (.c (.sc (.int .i64 1))), none, []⟩, ⟨some 21, .mv (.t 2), none, []⟩, ⟨some 22, .bin .lss (.t 20) (.t 21), none, []⟩, ⟨some 23, .mv (.t 22), none, []⟩, ⟨some 24, .mv (.t 4), some (23, true), []⟩, ⟨some 25, .mv (.t 0), some (23, true), []⟩, ⟨some 26, .mv (.t 3), some (23, true), []⟩, ⟨some 27, .mv (.t 11), some (23, true), []⟩, ⟨some 28, .bin .add (.t 26) (.t 27), some (23, true), []⟩, ⟨some 29, .ix 2 (.t 25) (.t 28), some (23, true), []⟩, ⟨some 30, .load (some 2) (.t 29), some (23, true), []⟩, ⟨some 31, .mv (.t 0), some (23, true), []⟩, ⟨some 32, .mv (.t 3), some (23, true), []⟩, ⟨some 33, .mv (.t 11), some (23, true), []⟩, ⟨some 34, .bin .add (.t 32) (.t 33), some (23, true), []⟩, ⟨some 35, .bin .add (.t 34) (.c (.sc (.int .i64 1))), some (23, true), []⟩, ⟨some 36, .ix 2 (.t 31) (.t 35), some (23, true), []⟩, ⟨some 37, .load (some 2) (.t 36), some (23, true), []⟩, ⟨some 38, .calv (.t 24) [.t 30, .t 37], some (23, true), []⟩, ⟨some 39, .bin .lss (.t 38) (.c (.sc (.int .i64 0))), some (23, true), []⟩, ⟨some 40, .pick (.t 23) (.t 39) (.c (.sc (.bool false))), none, []⟩]) (.cond (.t 40) (.reg [⟨some 41, .mv (.t 11), none, []⟩, ⟨some 42, .bin .add (.t 41) (.c (.sc (.int .i64 1))), none, []⟩, ⟨some 11, .mv (.t 42), none, []⟩]) .skip)) (.seq (.seq (.reg [⟨some 43, .mv (.t 4), none, []⟩, ⟨some 44, .mv (.t 0), none, []⟩, ⟨some 45, .mv (.t 3), none, []⟩, ⟨some 46, .mv (.t 10), none, []⟩, ⟨some 47, .bin .add (.t 45) (.t 46), none, []⟩, ⟨some 48, .ix 2 (.t 44) (.t 47), none, []⟩, ⟨some 49, .load (some 2) (.t 48), none, []⟩, ⟨some 50, .mv (.t 0), none, []⟩, ⟨some 51, .mv (.t 3), none, []⟩, ⟨some 52, .mv (.t 11), none, []⟩, ⟨some 53, .bin .add (.t 51) (.t 52), none, []⟩, ⟨some 54, .ix 2 (.t 50) (.t 53), none, []⟩, ⟨some 55, .load (some 2) (.t 54), none, []⟩, ⟨some 56, .calv (.t 43) [.t 49, .t 55], none, []⟩, ⟨some 57, .bin .lss (.t 56) (.c (.sc (.int .i64 0))), none, []⟩, ⟨some 58, .un .not (.t 57), none, []⟩]) (.cond (.t 58) .ret .skip)) (.seq (.reg [⟨some 59, .mv (.t 0), none, []⟩, ⟨some 60, .mv (.t 3), none, []⟩, ⟨some 61, .mv (.t 10), none, []⟩, ⟨some 62, .bin .add (.t 60) (.t 61), none, []⟩, ⟨some 63, .mv (.t 0), none, []⟩, ⟨some 64, .mv (.t 3), none, []⟩, ⟨some 65, .mv (.t 11), none, []⟩, ⟨some 66, .bin .add (.t 64) (.t 65), none, []⟩, ⟨some 67, .mv (.t 0), none, []⟩, ⟨some 68, .mv (.t 3), none, []⟩, ⟨some 69, .mv (.t 11), none, []⟩, ⟨some 70, .bin .add (.t 68) (.t 69), none, []⟩, ⟨some 71, .ix 2 (.t 67) (.t 70), none, []⟩, ⟨some 72, .load (some 2) (.t 71), none, []⟩, ⟨some 73, .mv (.t 0), none, []⟩, ⟨some 74, .mv (.t 3), none, []⟩, ⟨some 75, .mv (.t 10), none, []⟩, ⟨some 76, .bin .add (.t 74) (.t 75), none, []⟩, ⟨some 77, .ix 2 (.t 73) (.t 76), none, []⟩, ⟨some 78, .load (some 2) (.t 77), none, []⟩, ⟨some 79, .ix 2 (.t 59) (.t 62), none, []⟩, ⟨none, .store 2 (.t 79) (.t 72), none, []⟩, ⟨some 80, .ix 2 (.t 63) (.t 66), none, []⟩, ⟨none, .store 2 (.t 80) (.t 78), none, []⟩]) (.reg [⟨some 81, .mv (.t 11), none, []⟩, ⟨some 10, .mv (.t 81), none, []⟩]))))))))), []⟩
def CHeap (fsift : FuncId) : FC := ⟨60, .seq (.reg [⟨some 13, .mv (.t 1), none, []⟩, ⟨some 8, .mv (.t 13), none, []⟩]) (.seq (.reg [⟨some 9, .mv (.c (.sc (.int .i64 0))), none, []⟩]) (.seq (.reg [⟨some 14, .mv (.t 2), none, []⟩, ⟨some 15, .mv (.t 1), none, []⟩, ⟨some 16, .bin .sub (.t 14) (.t 15), none, []⟩, ⟨some 10, .mv (.t 16), none, []⟩]) (.seq (.seq (.reg [⟨some 17, .mv (.t 10), none, []⟩, ⟨some 18, .bin .sub (.t 17) (.c (.sc (.int .i64 1))), none, []⟩, ⟨some 19, .bin .quo (.t 18) (.c (.sc (.int .i64 2))), none, []⟩, ⟨some 11, .mv (.t 19), none, []⟩]) (.blk 0 (.loop (.seq (.seq (.reg [⟨some 20, .mv (.t 11), none, []⟩, ⟨some 21, .bin .geq (.t 20) (.c (.sc (.int .i64 0))), none, []⟩]) (.cond (.t 21) .skip (.exit 0))) (.seq (.blk 1 (.reg [⟨some 24, .mv (.t 0), none, []⟩, ⟨some 25, .mv (.t 11), none, []⟩, ⟨some 26, .mv (.t 10), none, []⟩, ⟨some 27, .mv (.t 8), none, []⟩, ⟨some 28, .mv (.t 3), none, []⟩, ⟨some 29, .call fsift [.t 24, .t 25, .t 26, .t 27, .t 28], none, []⟩])) (.reg [⟨some 22, .mv (.t 11), none, []⟩, ⟨some 23, .bin .sub (.t 22) (.c (.sc (.int .i64 1))), none, []⟩, ⟨some 11, .mv (.t 23), none, []⟩])))))) (.seq (.reg [⟨some 30, .mv (.t 10), none, []⟩, ⟨some 31, .bin .sub (.t 30) (.c (.sc (.int .i64 1))), none, []⟩, ⟨some 12, .mv (.t 31), none, []⟩]) (.blk 2 (.loop (.seq (.seq (.reg [⟨some 32, .mv (.t 12), none, []⟩, ⟨some 33, .bin .geq (.t 32) (.c (.sc (.int .i64 0))), none, []⟩]) (.cond (.t 33) .skip (.exit 2))) (.seq (.blk 3 (.seq (.reg [⟨some 36, .mv (.t 0), none, []⟩, ⟨some 37, .mv (.t 8), none, []⟩, ⟨some 38, .mv (.t 0), none, []⟩, ⟨some 39, .mv (.t 8), none, []⟩, ⟨some 40, .mv (.t 12), none, []⟩, ⟨some 41, .bin .add (.t 39) (.t 40), none, []⟩, ⟨some 42, .mv (.t 0), none, []⟩, ⟨some 43, .mv (.t 8), none, []⟩, ⟨some 44, .mv (.t 12), none, []⟩, ⟨some 45, .bin .add (.t 43) (.t 44), none, []⟩, ⟨some 46, .ix 2 (.t 42) (.t 45), none, []⟩, ⟨some 47, .load (some 2) (.t 46), none, []⟩, ⟨some 48, .mv (.t 0), none, []⟩, ⟨some 49, .mv (.t 8), none, []⟩, ⟨some 50, .ix 2 (.t 48) (.t 49), none, []⟩, ⟨some 51, .load (some 2) (.t 50), none, []⟩, ⟨some 52, .ix 2 (.t 36) (.t 37), none, []⟩, ⟨none, .store 2 (.t 52) (.t 47), none, []⟩, ⟨some 53, .ix 2 (.t 38) (.t 41), none, []⟩, ⟨none, .store 2 (.t 53) (.t 51), none, []⟩]) (.reg [⟨some 54, .mv (.t 0), none, []⟩, ⟨some 55, .mv (.t 9), none, []⟩, ⟨some 56, .mv (.t 12), none, []⟩, ⟨some 57, .mv (.t 8), none, []⟩, ⟨some 58, .mv (.t 3), none, []⟩, ⟨some 59, .call fsift [.t 54, .t 55, .t 56, .t 57, .t 58], none, []⟩]))) (.reg [⟨some 34, .mv (.t 12), none, []⟩, ⟨some 35, .bin .sub (.t 34) (.c (.sc (.int .i64 1))), none, []⟩, ⟨some 12, .mv (.t 35), none, []⟩]))))))))), []⟩
def CBreak (fpow fnext : FuncId) : FC := ⟨67, .seq (.reg [⟨some 13, .mv (.t 2), none, []⟩, ⟨some 14, .mv (.t 1), none, []⟩, ⟨some 15, .bin .sub (.t 13) (.t 14), none, []⟩, ⟨some 8, .mv (.t 15), none, []⟩]) (.seq (.reg [⟨some 16, .mv (.t 8), none, []⟩, ⟨some 17, .bin .geq (.t 16) (.c (.sc (.int .i64 8))), none, []⟩]) (.cond (.t 17) (.seq (.reg [⟨some 18, .mv (.t 8), none, []⟩, ⟨some 19, .conv .u64 (.t 18), none, []⟩, ⟨some 9, .alc [.sc (.int .u64 0)], none, []⟩, ⟨none, .store 1 (.t 9) (.t 19), none, []⟩]) (.seq (.reg [⟨some 20, .mv (.t 8), none, []⟩, ⟨some 21, .call fpow [.t 20], none, []⟩, ⟨some 10, .mv (.t 21), none, []⟩]) (.seq (.reg [⟨some 22, .mv (.t 1), none, []⟩, ⟨some 23, .mv (.t 8), none, []⟩, ⟨some 24, .bin .quo (.t 23) (.c (.sc (.int .i64 4))), none, []⟩, ⟨some 25, .bin .mul (.t 24) (.c (.sc (.int .i64 2))), none, []⟩, ⟨some 26, .bin .add (.t 22) (.t 25), none, []⟩, ⟨some 27, .bin .sub (.t 26) (.c (.sc (.int .i64 1))), none, []⟩, ⟨some 11, .mv (.t 27), none, []⟩]) (.blk 0 (.loop (.seq (.seq (.reg [⟨some 28, .mv (.t 11), none, []⟩, ⟨some 29, .mv (.t 1), none, []⟩, ⟨some 30, .mv (.t 8), none, []⟩, ⟨some 31, .bin .quo (.t 30) (.c (.sc (.int .i64 4))), none, []⟩, ⟨some 32, .bin .mul (.t 31) (.c (.sc (.int .i64 2))), none, []⟩, ⟨some 33, .bin .add (.t 29) (.t 32), none, []⟩, ⟨some 34, .bin .add (.t 33) (.c (.sc (.int .i64 1))), none, []⟩, ⟨some 35, .bin .leq (.t 28) (.t 34), none, []⟩]) (.cond (.t 35) .skip (.exit 0))) (.seq (.blk 1 (.seq (.reg [⟨some 38, .call fnext [.t 9], none, []⟩, ⟨some 39, .mv (.t 10), none, []⟩, ⟨some 40, .bin .sub (.t 39) (.c (.sc (.int .u64 1))), none, []⟩, ⟨some 41, .bin .and (.t 38) (.t 40), none, []⟩, ⟨some 42, .conv .i64 (.t 41), none, []⟩, ⟨some 12, .mv (.t 42), none, []⟩]) (.seq (.seq (.reg [⟨some 43, .mv (.t 12), none, []⟩, ⟨some 44, .mv (.t 8), none, []⟩, ⟨some 45, .bin .geq (.t 43) (.t 44), none, []⟩]) (.cond (.t 45) (.reg [⟨some 46, .mv (.t 12), none, []⟩, ⟨some 47, .mv (.t 8), none, []⟩, ⟨some 48, .bin .sub (.t 46) (.t 47), none, []⟩, ⟨some 12, .mv (.t 48), none, []⟩]) .skip)) (.reg [⟨some 49, .mv (.t 0), none, []⟩, ⟨some 50, .mv (.t 11), none, []⟩, ⟨some 51, .mv (.t 0), none, []⟩, ⟨some 52, .mv (.t 1), none, []⟩, ⟨some 53, .mv (.t 12), none, []⟩, ⟨some 54, .bin .add (.t 52) (.t 53), none, []⟩, ⟨some 55, .mv (.t 0), none, []⟩, ⟨some 56, .mv (.t 1), none, []⟩, ⟨some 57, .mv (.t 12), none, []⟩, ⟨some 58, .bin .add (.t 56) (.t 57), none, []⟩, ⟨some 59, .ix 2 (.t 55) (.t 58), none, []⟩, ⟨some 60, .load (some 2) (.t 59), none, []⟩, ⟨some 61, .mv (.t 0), none, []⟩, ⟨some 62, .mv (.t 11), none, []⟩, ⟨some 63, .ix 2 (.t 61) (.t 62), none, []⟩, ⟨some 64, .load (some 2) (.t 63), none, []⟩, ⟨some 65, .ix 2 (.t 49) (.t 50), none, []⟩, ⟨none, .store 2 (.t 65) (.t 60), none, []⟩, ⟨some 66, .ix 2 (.t 51) (.t 54), none, []⟩, ⟨none, .store 2 (.t 66) (.t 64), none, []⟩])))) (.reg [⟨some 36, .mv (.t 11), none, []⟩, ⟨some 37, .bin .add (.t 36) (.c (.sc (.int .i64 1))), none, []⟩, ⟨some 11, .mv (.t 37), none, []⟩])))))))) .skip)), []⟩
def CPivot (fmeda fmed : FuncId) : FC := ⟨63, .seq (.reg [⟨some 8, .mv (.c (.sc (.int .i64 0))), none, []⟩, ⟨some 9, .mv (.c (.sc (.int .i64 0))), none, []⟩]) (.seq (.reg [⟨some 15, .mv (.t 2), none, []⟩, ⟨some 16, .mv (.t 1), none, []⟩, ⟨some 17, .bin .sub (.t 15) (.t 16), none, []⟩, ⟨some 10, .mv (.t 17), none, []⟩]) (.seq (.reg [⟨some 11, .alc [.sc (.int .i64 0)], none, []⟩]) (.seq (.reg [⟨some 18, .mv (.t 1), none, []⟩, ⟨some 19, .mv (.t 10), none, []⟩, ⟨some 20, .bin .quo (.t 19) (.c (.sc (.int .i64 4))), none, []⟩, ⟨some 21, .bin .mul (.t 20) (.c (.sc (.int .i64 1))), none, []⟩, ⟨some 22, .bin .add (.t 18) (.t 21), none, []⟩, ⟨some 12, .mv (.t 22), none, []⟩]) (.seq (.reg [⟨some 23, .mv (.t 1), none, []⟩, ⟨some 24, .mv (.t 10), none, []⟩, ⟨some 25, .bin .quo (.t 24) (.c (.sc (.int .i64 4))), none, []⟩, ⟨some 26, .bin .mul (.t 25) (.c (.sc (.int .i64 2))), none, []⟩, ⟨some 27, .bin .add (.t 23) (.t 26), none, []⟩, ⟨some 13, .mv (.t 27), none, []⟩]) (.seq (.reg [⟨some 28, .mv (.t 1), none, []⟩, ⟨some 29, .mv (.t 10), none, []⟩, ⟨some 30, .bin .quo (.t 29) (.c (.sc (.int .i64 4))), none, []⟩, ⟨some 31, .bin .mul (.t 30) (.c (.sc (.int .i64 3))), none, []⟩, ⟨some 32, .bin .add (.t 28) (.t 31), none, []⟩, ⟨some 14, .mv (.t 32), none, []⟩]) (.seq (.seq (.reg [⟨some 33, .mv (.t 10), none, []⟩, ⟨some 34, .bin .geq (.t 33) (.c (.sc (.int .i64 8))), none, []⟩]) (.cond (.t 34) (.seq (.seq (.reg [⟨some 35, .mv (.t 10), none, []⟩, ⟨some 36, .bin .geq (.t 35) (.c (.sc (.int .i64 50))), none, []⟩]) (.cond (.t 36) (.seq (.reg [⟨some 37, .mv (.t 0), none, []⟩, ⟨some 38, .mv (.t 12), none, []⟩, ⟨some 39, .mv (.t 3), none, []⟩, ⟨some 40, .call fmeda [.t 37, .t 38, .t 11, .t 39], none, []⟩, ⟨some 12, .mv (.t 40), none, []⟩]) (.seq (.reg [⟨some 41, .mv (.t 0), none, []⟩, ⟨some 42, .mv (.t 13), none, []⟩, ⟨some 43, .mv (.t 3), none, []⟩, ⟨some 44, .call fmeda [.t 41, .t 42, .t 11, .t 43], none, []⟩, ⟨some 13, .mv (.t 44), none, []⟩]) (.reg [⟨some 45, .mv (.t 0), none, []⟩, ⟨some 46, .mv (.t 14), none, []⟩, ⟨some 47, .mv (.t 3), none, []⟩, ⟨some 48, .call fmeda [.t 45, .t 46, .t 11, .t 47], none, []⟩, ⟨some 14, .mv (.t 48), none, []⟩]))) .skip)) (.reg [⟨some 49, .mv (.t 0), none, []⟩, ⟨some 50, .mv (.t 12), none, []⟩, ⟨some 51, .mv (.t 13), none, []⟩, ⟨some 52, .mv (.t 14), none, []⟩, ⟨some 53, .mv (.t 3), none, []⟩, ⟨some 54, .call fmed [.t 49, .t 50, .t 51, .t 52, .t 11, .t 53], none, []⟩, ⟨some 13, .mv (.t 54), none, []⟩])) .skip)) (.seq (.reg [⟨some 55, .load none (.t 11), none, []⟩]) (.blk 0 (.seq (.reg [⟨some 58, .bin .eql (.t 55) (.c (.sc (.int .i64 0))), none, []⟩, ⟨some 57, .mv (.t 58), none, []⟩]) (.cond (.t 57) (.seq (.reg [⟨some 59, .mv (.t 13), none, []⟩, ⟨some 8, .mv (.t 59), none, []⟩, ⟨some 9, .mv (.c (.sc (.int .i64 1))), none, []⟩]) .ret) (.seq (.reg [⟨some 61, .bin .eql (.t 55) (.c (.sc (.int .i64 12))), none, []⟩, ⟨some 60, .mv (.t 61), none, []⟩]) (.cond (.t 60) (.seq (.reg [⟨some 62, .mv (.t 13), none, []⟩, ⟨some 8, .mv (.t 62), none, []⟩, ⟨some 9, .mv (.c (.sc (.int .i64 2))), none, []⟩]) .ret) (.seq (.reg [⟨some 56, .mv (.t 13), none, []⟩, ⟨some 8, .mv (.t 56), none, []⟩, ⟨some 9, .mv (.c (.sc (.int .i64 0))), none, []⟩]) .ret))))))))))))), [.tmp 8, .tmp 9]⟩
def CRev : FC := ⟨34, .seq (.reg [⟨some 10, .mv (.t 1), none, []⟩, ⟨some 8, .mv (.t 10), none, []⟩]) (.seq (.reg [⟨some 11, .mv (.t 2), none, []⟩, ⟨some 12, .bin .sub (.t 11) (.c (.sc (.int .i64 1))), none, []⟩, ⟨some 9, .mv (.t 12), none, []⟩]) (.blk 0 (.loop (.seq (.seq (.reg [⟨some 13, .mv (.t 8), none, []⟩, ⟨some 14, .mv (.t 9), none, []⟩, ⟨some 15, .bin .lss (.t 13) (.t 14), none, []⟩]) (.cond (.t 15) .skip (.exit 0))) (.blk 1 (.seq (.reg [⟨some 16, .mv (.t 0), none, []⟩, ⟨some 17, .mv (.t 8), none, []⟩, ⟨some 18, .mv (.t 0), none, []⟩, ⟨some 19, .mv (.t 9), none, []⟩, ⟨some 20, .mv (.t 0), none, []⟩, ⟨some 21, .mv (.t 9), none, []⟩, ⟨some 22, .ix 2 (.t 20) (.t 21), none, []⟩, ⟨some 23, .load (some 2) (.t 22), none, []⟩, ⟨some 24, .mv (.t 0), none, []⟩, ⟨some 25, .mv (.t 8), none, []⟩, ⟨some 26, .ix 2 (.t 24) (.t 25), none, []⟩, ⟨some 27, .load (some 2) (.t 26), none, []⟩, ⟨some 28, .ix 2 (.t 16) (.t 17), none, []⟩, ⟨none, .store 2 (.t 28) (.t 23), none, []⟩, ⟨some 29, .ix 2 (.t 18) (.t 19), none, []⟩, ⟨none, .store 2 (.t 29) (.t 27), none, []⟩]) (.seq (.reg [⟨some 30, .mv (.t 8), none, []⟩, ⟨some 31, .bin .add (.t 30) (.c (.sc (.int .i64 1))), none, []⟩, ⟨some 8, .mv (.t 31), none, []⟩]) (.reg [⟨some 32, .mv (.t 9), none, []⟩, ⟨some 33, .bin .sub (.t 32) (.c (.sc (.int .i64 1))), none, []⟩, ⟨some 9, .mv (.t 33), none, []⟩])))))))), []⟩
def CPart : FC := ⟨141, .seq (.reg [⟨some 8, .mv (.c (.sc (.bool false))), none, []⟩]) (.seq (.reg [⟨some 13, .mv (.t 1), none, []⟩, ⟨some 14, .bin .add (.t 13) (.c (.sc (.int .i64 1))), none, []⟩, ⟨some 9, .mv (.t 14), none, []⟩]) (.seq (.seq (.reg [⟨some 10, .mv (.c (.sc (.int .i64 0))), none, []⟩]) (.blk 0 (.loop (.seq (.seq (.reg [⟨some 15, .mv (.t 10), none, []⟩, ⟨some 16, .bin .lss (.t 15) (.c (.sc (.int .i64 5))), none, []⟩]) (.cond (.t 16) .skip (.exit 0))) (.seq (.blk 1 (.seq (.blk 2 (.loop (.seq (.seq (.reg [⟨some 19, .mv (.t 9), none, []⟩, ⟨some 20, .mv (.t 2), none, []⟩, ⟨some 21, .bin .lss (.t 19) (.t 20), none, []⟩, ⟨some 22, .mv (.t 21), none, []⟩, ⟨some 23, .mv (.t 3), some (22, true), []⟩, ⟨some 24, .mv (.t 0), some (22, true), []⟩, ⟨some 25, .mv (.t 9), some (22, true), []⟩, ⟨some 26, .ix 2 (.t 24) (.t 25), some (22, true), []⟩, ⟨some 27, .load (some 2) (.t 26), some (22, true), []⟩, ⟨some 28, .mv (.t 0), some (22, true), []⟩, ⟨some 29, .mv (.t 9), some (22, true), []⟩, ⟨some 30, .bin .sub (.t 29) (.c (.sc (.int .i64 1))), some (22, true), []⟩, ⟨some 31, .ix 2 (.t 28) (.t 30), some (22, true), []⟩, ⟨some 32, .load (some 2) (.t 31), some (22, true), []⟩, ⟨some 33, .calv (.t 23) [.t 27, .t 32], some (22, true), []⟩, ⟨some 34, .bin .lss (.t 33) (.c (.sc (.int .i64 0))), some (22, true), []⟩, ⟨some 35, .un .not (.t 34), some (22, true), []⟩, ⟨some 36, .pick (.t 22) (.t 35) (.c (.sc (.bool false))), none, []⟩]) (.cond (.t 36) .skip (.exit 2))) (.blk 3 (.reg [⟨some 37, .mv (.t 9), none, []⟩, ⟨some 38, .bin .add (.t 37) (.c (.sc (.int .i64 1))), none, []⟩, ⟨some 9, .mv (.t 38), none, []⟩]))))) (.seq (.seq (.reg [⟨some 39, .mv (.t 9), none, []⟩, ⟨some 40, .mv (.t 2), none, []⟩, ⟨some 41, .bin .eql (.t 39) (.t 40), none, []⟩]) (.cond (.t 41) (.seq (.reg [⟨some 8, .mv (.c (.sc (.bool true))), none, []⟩]) .ret) .skip)) (.seq (.seq (.reg [⟨some 42, .mv (.t 2), none, []⟩, ⟨some 43, .mv (.t 1), none, []⟩, ⟨some 44, .bin .sub (.t 42) (.t 43), none, []⟩, ⟨some 45, .bin .lss (.t 44) (.c (.sc (.int .i64 50))), none, []⟩]) (.cond (.t 45) (.seq (.reg [⟨some 8, .mv (.c (.sc (.bool false))), none, []⟩]) .ret) .skip)) (.seq (.reg [⟨some 46, .mv (.t 0), none, []⟩, ⟨some 47, .mv (.t 9), none, []⟩, ⟨some 48, .mv (.t 0), none, []⟩, ⟨some 49, .mv (.t 9), none, []⟩, ⟨some 50, .bin .sub (.t 49) (.c (.sc (.int .i64 1))), none, []⟩, ⟨some 51, .mv (.t 0), none, []⟩, ⟨some 52, .mv (.t 9), none, []⟩, ⟨some 53, .bin .sub (.t 52) (.c (.sc (.int .i64 1))), none, []⟩, ⟨some 54, .ix 2 (.t 51) (.t 53), none, []⟩, ⟨some 55, .load (some 2) (.t 54), none, []⟩, ⟨some 56, .mv (.t 0), none, []⟩, ⟨some 57, .mv (.t 9), none, []⟩, ⟨some 58, .ix 2 (.t 56) (.t 57), none, []⟩, ⟨some 59, .load (some 2) (.t 58), none, []⟩, ⟨some 60, .ix 2 (.t 46) (.t 47), none, []⟩, ⟨none, .store 2 (.t 60) (.t 55), none, []⟩, ⟨some 61, .ix 2 (.t 48) (.t 50), none, []⟩, ⟨none, .store 2 (.t 61) (.t 59), none, []⟩]) (.seq (.seq (.reg [⟨some 62, .mv (.t 9), none, []⟩, ⟨some 63, .mv (.t 1), none, []⟩, ⟨some 64, .bin .sub (.t 62) (.t 63), none, []⟩, ⟨some 65, .bin .geq (.t 64) (.c (.sc (.int .i64 2))), none, []⟩]) (.cond (.t 65) (.seq (.reg [⟨some 66, .mv (.t 9), none, []⟩, ⟨some 67, .bin .sub (.t 66) (.c (.sc (.int .i64 1))), none, []⟩, ⟨some 11, .mv (.t 67), none, []⟩]) (.blk 4 (.loop (.seq (.seq (.reg [⟨some 68, .mv (.t 11), none, []⟩, ⟨some 69, .bin .geq (.t 68) (.c (.sc (.int .i64 1))), none, []⟩]) (.cond (.t 69) .skip (.exit 4))) (.seq (.blk 5 (.seq (.seq (.reg [⟨some 72, .mv (.t 3), none, []⟩, ⟨some 73, .mv (.t 0), none, []⟩, ⟨some 74, .mv (.t 11), none, []⟩, ⟨some 75, .ix 2 (.t 73) (.t 74), none, []⟩, ⟨some 76, .load (some 2) (.t 75), none, []⟩, ⟨some 77, .mv (.t 0), none, []⟩, ⟨some 78, .mv (.t 11), none, []⟩, ⟨some 79, .bin .sub (.t 78) (.c (.sc (.int .i64 1))), none, []⟩, ⟨some 80, .ix 2 (.t 77) (.t 79), none, []⟩, ⟨some 81, .load (some 2) (.t 80), none, []⟩, ⟨some 82, .calv (.t 72) [.t 76, .t 81], none, []⟩, ⟨some 83, .bin .lss (.t 82) (.c (.sc (.int .i64 0))), none, []⟩, ⟨some 84, .un .not (.t 83), none, []⟩]) (.cond (.t 84) (.exit 4) .skip)) (.reg [⟨some 85, .mv (.t 0), none, []⟩, ⟨some 86, .mv (.t 11), none, []⟩, ⟨some 87, .mv (.t 0), none, []⟩, ⟨some 88, .mv (.t 11), none, []⟩, ⟨some 89, .bin .sub (.t 88) (.c (.sc (.int .i64 1))), none, []⟩, ⟨some 90, .mv (.t 0), none, []⟩, ⟨some 91, .mv (.t 11), none, []⟩, ⟨some 92, .bin .sub (.t 91) (.c (.sc (.int .i64 1))), none, []⟩, ⟨some 93, .ix 2 (.t 90) (.t 92), none, []⟩, ⟨some 94, .load (some 2) (.t 93), none, []⟩, ⟨some 95, .mv (.t 0), none, []⟩, ⟨some 96, .mv (.t 11), none, []⟩, ⟨some 97, .ix 2 (.t 95) (.t 96), none, []⟩, ⟨some 98, .load (some 2) (.t 97), none, []⟩, ⟨some 99, .ix 2 (.t 85) (.t 86), none, []⟩, ⟨none, .store 2 (.t 99) (.t 94), none, []⟩, ⟨some 100, .ix 2 (.t 87) (.t 89), none, []⟩, ⟨none, .store 2 (.t 100) (.t 98), none, []⟩]))) (.reg [⟨some 70, .mv (.t 11), none, []⟩, ⟨some 71, .bin .sub (.t 70) (.c (.sc (.int .i64 1))), none, []⟩, ⟨some 11, .mv (.t 71), none, []⟩])))))) .skip)) (.seq (.reg [⟨some 101, .mv (.t 2), none, []⟩, ⟨some 102, .mv (.t 9), none, []⟩, ⟨some 103, .bin .sub (.t 101) (.t 102), none, []⟩, ⟨some 104, .bin .geq (.t 103) (.c (.sc (.int .i64 2))), none, []⟩]) (.cond (.t 104) (.seq (.reg [⟨some 105, .mv (.t 9), none, []⟩, ⟨some 106, .bin .add (.t 105) (.c (.sc (.int .i64 1))), none, []⟩, ⟨some 12, .mv (.t 106), none, []⟩]) (.blk 6 (.loop (.seq (.seq (.reg [⟨some 107, .mv (.t 12), none, []⟩, ⟨some 108, .mv (.t 2), none, []⟩, ⟨some 109, .bin .lss (.t 107) (.t 108), none, []⟩]) (.cond (.t 109) .skip (.exit 6))) (.seq (.blk 7 (.seq (.seq (.reg [⟨some 112, .mv (.t 3), none, []⟩, ⟨some 113, .mv (.t 0), none, []⟩, ⟨some 114, .mv (.t 12), none, []⟩, ⟨some 115, .ix 2 (.t 113) (.t 114), none, []⟩, ⟨some 116, .load (some 2) (.t 115), none, []⟩, ⟨some 117, .mv (.t 0), none, []⟩, ⟨some 118, .mv (.t 12), none, []⟩, ⟨some 119, .bin .sub (.t 118) (.c (.sc (.int .i64 1))), none, []⟩, ⟨some 120, .ix 2 (.t 117) (.t 119), none, []⟩, ⟨some 121, .load (some 2) (.t 120), none, []⟩, ⟨some 122, .calv (.t 112) [.t 116, .t 121], none, []⟩, ⟨some 123, .bin .lss (.t 122) (.c (.sc (.int .i64 0))), none, []⟩, ⟨some 124, .un .not (.t 123), none, []⟩]) (.cond (.t 124) (.exit 6) .skip)) (.reg [⟨some 125, .mv (.t 0), none, []⟩, ⟨some 126, .mv (.t 12), none, []⟩, ⟨some 127, .mv (.t 0), none, []⟩, ⟨some 128, .mv (.t 12), none, []⟩, ⟨some 129, .bin .sub (.t 128) (.c (.sc (.int .i64 1))), none, []⟩, ⟨some 130, .mv (.t 0), none, []⟩, ⟨some 131, .mv (.t 12), none, []⟩, ⟨some 132, .bin .sub (.t 131) (.c (.sc (.int .i64 1))), none, []⟩, ⟨some 133, .ix 2 (.t 130) (.t 132), none, []⟩, ⟨some 134, .load (some 2) (.t 133), none, []⟩, ⟨some 135, .mv (.t 0), none, []⟩, ⟨some 136, .mv (.t 12), none, []⟩, ⟨some 137, .ix 2 (.t 135) (.t 136), none, []⟩, ⟨some 138, .load (some 2) (.t 137), none, []⟩, ⟨some 139, .ix 2 (.t 125) (.t 126), none, []⟩, ⟨none, .store 2 (.t 139) (.t 134), none, []⟩, ⟨some 140, .ix 2 (.t 127) (.t 129), none, []⟩, ⟨none, .store 2 (.t 140) (.t 138), none, []⟩]))) (.reg [⟨some 110, .mv (.t 12), none, []⟩, ⟨some 111, .bin .add (.t 110) (.c (.sc (.int .i64 1))), none, []⟩, ⟨some 12, .mv (.t 111), none, []⟩])))))) .skip)))))))) (.reg [⟨some 17, .mv (.t 10), none, []⟩, ⟨some 18, .bin .add (.t 17) (.c (.sc (.int .i64 1))), none, []⟩, ⟨some 10, .mv (.t 18), none, []⟩])))))) (.seq (.reg [⟨some 8, .mv (.c (.sc (.bool false))), none, []⟩]) .ret))), [.tmp 8]⟩
def CEqual : FC := ⟨90, .seq (.reg [⟨some 10, .mv (.c (.sc (.int .i64 0))), none, []⟩]) (.seq (.reg [⟨some 13, .mv (.t 0), none, []⟩, ⟨some 14, .mv (.t 1), none, []⟩, ⟨some 15, .mv (.t 0), none, []⟩, ⟨some 16, .mv (.t 3), none, []⟩, ⟨some 17, .mv (.t 0), none, []⟩, ⟨some 18, .mv (.t 3), none, []⟩, ⟨some 19, .ix 2 (.t 17) (.t 18), none, []⟩, ⟨some 20, .load (some 2) (.t 19), none, []⟩, ⟨some 21, .mv (.t 0), none, []⟩, ⟨some 22, .mv (.t 1), none, []⟩, ⟨some 23, .ix 2 (.t 21) (.t 22), none, []⟩, ⟨some 24, .load (some 2) (.t 23), none, []⟩, ⟨some 25, .ix 2 (.t 13) (.t 14), none, []⟩, ⟨none, .store 2 (.t 25) (.t 20), none, []⟩, ⟨some 26, .ix 2 (.t 15) (.t 16), none, []⟩, ⟨none, .store 2 (.t 26) (.t 24), none, []⟩]) (.seq (.reg [⟨some 27, .mv (.t 1), none, []⟩, ⟨some 28, .bin .add (.t 27) (.c (.sc (.int .i64 1))), none, []⟩, ⟨some 29, .mv (.t 2), none, []⟩, ⟨some 30, .bin .sub (.t 29) (.c (.sc (.int .i64 1))), none, []⟩, ⟨some 11, .mv (.t 28), none, []⟩, ⟨some 12, .mv (.t 30), none, []⟩]) (.seq (.blk 0 (.loop (.blk 1 (.seq (.blk 2 (.loop (.seq (.seq (.reg [⟨some 31, .mv (.t 11), none, []⟩, ⟨some 32, .mv (.t 12), none, []⟩, ⟨some 33, .bin .leq (.t 31) (.t 32), none, []⟩, ⟨some 34, .mv (.t 33), none, []⟩, ⟨some 35, .mv (.t 4), some (34, true), []⟩, ⟨some 36, .mv (.t 0), some (34, true), []⟩, ⟨some 37, .mv (.t 1), some (34, true), []⟩, ⟨some 38, .ix 2 (.t 36) (.t 37), some (34, true), []⟩, ⟨some 39, .load (some 2) (.t 38), some (34, true), []⟩, ⟨some 40, .mv (.t 0), some (34, true), []⟩, ⟨some 41, .mv (.t 11), some (34, true), []⟩, ⟨some 42, .ix 2 (.t 40) (.t 41), some (34, true), []⟩, ⟨some 43, .load (some 2) (.t 42), some (34, true), []⟩, ⟨some 44, .calv (.t 35) [.t 39, .t 43], some (34, true), []⟩, ⟨some 45, .bin .lss (.t 44) (.c (.sc (.int .i64 0))), some (34, true), []⟩, ⟨some 46, .un .not (.t 45), some (34, true), []⟩, ⟨some 47, .pick (.t 34) (.t 46) (.c (.sc (.bool false))), none, []⟩]) (.cond (.t 47) .skip (.exit 2))) (.blk 3 (.reg [⟨some 48, .mv (.t 11), none, []⟩, ⟨some 49, .bin .add (.t 48) (.c (.sc (.int .i64 1))), none, []⟩, ⟨some 11, .mv (.t 49), none, []⟩]))))) (.seq (.blk 4 (.loop (.seq (.seq (.reg [⟨some 50, .mv (.t 11), none, []⟩, ⟨some 51, .mv (.t 12), none, []⟩, ⟨some 52, .bin .leq (.t 50) (.t 51), none, []⟩, ⟨some 53, .mv (.t 52), none, []⟩, ⟨some 54, .mv (.t 4), some (53, true), []⟩, ⟨some 55, .mv (.t 0), some (53, true), []⟩, ⟨some 56, .mv (.t 1), some (53, true), []⟩, ⟨some 57, .ix 2 (.t 55) (.t 56), some (53, true), []⟩, ⟨some 58, .load (some 2) (.t 57), some (53, true), []⟩, ⟨some 59, .mv (.t 0), some (53, true), []⟩, ⟨some 60, .mv (.t 12), some (53, true), []⟩, ⟨some 61, .ix 2 (.t 59) (.t 60), some (53, true), []⟩, ⟨some 62, .load (some 2) (.t 61), some (53, true), []⟩, ⟨some 63, .calv (.t 54) [.t 58, .t 62], some (53, true), []⟩, ⟨some 64, .bin .lss (.t 63) (.c (.sc (.int .i64 0))), some (53, true), []⟩, ⟨some 65, .pick (.t 53) (.t 64) (.c (.sc (.bool false))), none, []⟩]) (.cond (.t 65) .skip (.exit 4))) (.blk 5 (.reg [⟨some 66, .mv (.t 12), none, []⟩, ⟨some 67, .bin .sub (.t 66) (.c (.sc (.int .i64 1))), none, []⟩, ⟨some 12, .mv (.t 67), none, []⟩]))))) (.seq (.seq (.reg [⟨some 68, .mv (.t 11), none, []⟩, ⟨some 69, .mv (.t 12), none, []⟩, ⟨some 70, .bin .gtr (.t 68) (.t 69), none, []⟩]) (.cond (.t 70) (.exit 0) .skip)) (.seq (.reg [⟨some 71, .mv (.t 0), none, []⟩, ⟨some 72, .mv (.t 11), none, []⟩, ⟨some 73, .mv (.t 0), none, []⟩, ⟨some 74, .mv (.t 12), none, []⟩, ⟨some 75, .mv (.t 0), none, []⟩, ⟨some 76, .mv (.t 12), none, []⟩, ⟨some 77, .ix 2 (.t 75) (.t 76), none, []⟩, ⟨some 78, .load (some 2) (.t 77), none, []⟩, ⟨some 79, .mv (.t 0), none, []⟩, ⟨some 80, .mv (.t 11), none, []⟩, ⟨some 81, .ix 2 (.t 79) (.t 80), none, []⟩, ⟨some 82, .load (some 2) (.t 81), none, []⟩, ⟨some 83, .ix 2 (.t 71) (.t 72), none, []⟩, ⟨none, .store 2 (.t 83) (.t 78), none, []⟩, ⟨some 84, .ix 2 (.t 73) (.t 74), none, []⟩, ⟨none, .store 2 (.t 84) (.t 82), none, []⟩]) (.seq (.reg [⟨some 85, .mv (.t 11), none, []⟩, ⟨some 86, .bin .add (.t 85) (.c (.sc (.int .i64 1))), none, []⟩, ⟨some 11, .mv (.t 86), none, []⟩]) (.reg [⟨some 87, .mv (.t 12), none, []⟩, ⟨some 88, .bin .sub (.t 87) (.c (.sc (.int .i64 1))), none, []⟩, ⟨some 12, .mv (.t 88), none, []⟩]))))))))) (.seq (.reg [⟨some 89, .mv (.t 11), none, []⟩, ⟨some 10, .mv (.t 89), none, []⟩]) .ret)))), [.tmp 10]⟩
def CSplit : FC := ⟨178, .seq (.reg [⟨some 10, .mv (.c (.sc (.int .i64 0))), none, []⟩, ⟨some 11, .mv (.c (.sc (.bool false))), none, []⟩]) (.seq (.reg [⟨some 14, .mv (.t 0), none, []⟩, ⟨some 15, .mv (.t 1), none, []⟩, ⟨some 16, .mv (.t 0), none, []⟩, ⟨some 17, .mv (.t 3), none, []⟩, ⟨some 18, .mv (.t 0), none, []⟩, ⟨some 19, .mv (.t 3), none, []⟩, ⟨some 20, .ix 2 (.t 18) (.t 19), none, []⟩, ⟨some 21, .load (some 2) (.t 20), none, []⟩, ⟨some 22, .mv (.t 0), none, []⟩, ⟨some 23, .mv (.t 1), none, []⟩, ⟨some 24, .ix 2 (.t 22) (.t 23), none, []⟩, ⟨some 25, .load (some 2) (.t 24), none, []⟩, ⟨some 26, .ix 2 (.t 14) (.t 15), none, []⟩, ⟨none, .store 2 (.t 26) (.t 21), none, []⟩, ⟨some 27, .ix 2 (.t 16) (.t 17), none, []⟩, ⟨none, .store 2 (.t 27) (.t 25), none, []⟩]) (.seq (.reg [⟨some 28, .mv (.t 1), none, []⟩, ⟨some 29, .bin .add (.t 28) (.c (.sc (.int .i64 1))), none, []⟩, ⟨some 30, .mv (.t 2), none, []⟩, ⟨some 31, .bin .sub (.t 30) (.c (.sc (.int .i64 1))), none, []⟩, ⟨some 12, .mv (.t 29), none, []⟩, ⟨some 13, .mv (.t 31), none, []⟩]) (.seq (.blk 0 (.loop (.seq (.seq (.reg [⟨some 32, .mv (.t 12), none, []⟩, ⟨some 33, .mv (.t 13), none, []⟩, ⟨some 34, .bin .leq (.t 32) (.t 33), none, []⟩, ⟨some 35, .mv (.t 34), none, []⟩, ⟨some 36, .mv (.t 4), some (35, true), []⟩, ⟨some 37, .mv (.t 0), some (35, true), []⟩, ⟨some 38, .mv (.t 12), some (35, true), []⟩, ⟨some 39, .ix 2 (.t 37) (.t 38), some (35, true), []⟩, ⟨some 40, .load (some 2) (.t 39), some (35, true), []⟩, ⟨some 41, .mv (.t 0), some (35, true), []⟩, ⟨some 42, .mv (.t 1), some (35, true), []⟩, ⟨some 43, .ix 2 (.t 41) (.t 42), some (35, true), []⟩, ⟨some 44, .load (some 2) (.t 43), some (35, true), []⟩, ⟨some 45, .calv (.t 36) [.t 40, .t 44], some (35, true), []⟩, ⟨some 46, .bin .lss (.t 45) (.c (.sc (.int .i64 0))), some (35, true), []⟩, ⟨some 47, .pick (.t 35) (.t 46) (.c (.sc (.bool false))), none, []⟩]) (.cond (.t 47) .skip (.exit 0))) (.blk 1 (.reg [⟨some 48, .mv (.t 12), none, []⟩, ⟨some 49, .bin .add (.t 48) (.c (.sc (.int .i64 1))), none, []⟩, ⟨some 12, .mv (.t 49), none, []⟩]))))) (.seq (.blk 2 (.loop (.seq (.seq (.reg [⟨some 50, .mv (.t 12), none, []⟩, ⟨some 51, .mv (.t 13), none, []⟩, ⟨some 52, .bin .leq (.t 50) (.t 51), none, []⟩, ⟨some 53, .mv (.t 52), none, []⟩, ⟨some 54, .mv (.t 4), some (53, true), []⟩, ⟨some 55, .mv (.t 0), some (53, true), []⟩, ⟨some 56, .mv (.t 13), some (53, true), []⟩, ⟨some 57, .ix 2 (.t 55) (.t 56), some (53, true), []⟩, ⟨some 58, .load (some 2) (.t 57), some (53, true), []⟩, ⟨some 59, .mv (.t 0), some (53, true), []⟩, ⟨some 60, .mv (.t 1), some (53, true), []⟩, ⟨some 61, .ix 2 (.t 59) (.t 60), some (53, true), []⟩, ⟨some 62, .load (some 2) (.t 61), some (53, true), []⟩, ⟨some 63, .calv (.t 54) [.t 58, .t 62], some (53, true), []⟩, ⟨some 64, .bin .lss (.t 63) (.c (.sc (.int .i64 0))), some (53, true), []⟩, ⟨some 65, .un .not (.t 64), some (53, true), []⟩, ⟨some 66, .pick (.t 53) (.t 65) (.c (.sc (.bool false))), none, []⟩]) (.cond (.t 66) .skip (.exit 2))) (.blk 3 (.reg [⟨some 67, .mv (.t 13), none, []⟩, ⟨some 68, .bin .sub (.t 67) (.c (.sc (.int .i64 1))), none, []⟩, ⟨some 13, .mv (.t 68), none, []⟩]))))) (.seq (.seq (.reg [⟨some 69, .mv (.t 12), none, []⟩, ⟨some 70, .mv (.t 13), none, []⟩, ⟨some 71, .bin .gtr (.t 69) (.t 70), none, []⟩]) (.cond (.t 71) (.seq (.reg [⟨some 72, .mv (.t 0), none, []⟩, ⟨some 73, .mv (.t 13), none, []⟩, ⟨some 74, .mv (.t 0), none, []⟩, ⟨some 75, .mv (.t 1), none, []⟩, ⟨some 76, .mv (.t 0), none, []⟩, ⟨some 77, .mv (.t 1), none, []⟩, ⟨some 78, .ix 2 (.t 76) (.t 77), none, []⟩, ⟨some 79, .load (some 2) (.t 78), none, []⟩, ⟨some 80, .mv (.t 0), none, []⟩, ⟨some 81, .mv (.t 13), none, []⟩, ⟨some 82, .ix 2 (.t 80) (.t 81), none, []⟩, ⟨some 83, .load (some 2) (.t 82), none, []⟩, ⟨some 84, .ix 2 (.t 72) (.t 73), none, []⟩, ⟨none, .store 2 (.t 84) (.t 79), none, []⟩, ⟨some 85, .ix 2 (.t 74) (.t 75), none, []⟩, ⟨none, .store 2 (.t 85) (.t 83), none, []⟩]) (.seq (.reg [⟨some 86, .mv (.t 13), none, []⟩, ⟨some 10, .mv (.t 86), none, []⟩, ⟨some 11, .mv (.c (.sc (.bool true))), none, []⟩]) .ret)) .skip)) (.seq (.reg [⟨some 87, .mv (.t 0), none, []⟩, ⟨some 88, .mv (.t 12), none, []⟩, ⟨some 89, .mv (.t 0), none, []⟩, ⟨some 90, .mv (.t 13), none, []⟩, ⟨some 91, .mv (.t 0), none, []⟩, ⟨some 92, .mv (.t 13), none, []⟩, ⟨some 93, .ix 2 (.t 91) (.t 92), none, []⟩, ⟨some 94, .load (some 2) (.t 93), none, []⟩, ⟨some 95, .mv (.t 0), none, []⟩, ⟨some 96, .mv (.t 12), none, []⟩, ⟨some 97, .ix 2 (.t 95) (.t 96), none, []⟩, ⟨some 98, .load (some 2) (.t 97), none, []⟩, ⟨some 99, .ix 2 (.t 87) (.t 88), none, []⟩, ⟨none, .store 2 (.t 99) (.t 94), none, []⟩, ⟨some 100, .ix 2 (.t 89) (.t 90), none, []⟩, ⟨none, .store 2 (.t 100) (.t 98), none, []⟩]) (.seq (.reg [⟨some 101, .mv (.t 12), none, []⟩, ⟨some 102, .bin .add (.t 101) (.c (.sc (.int .i64 1))), none, []⟩, ⟨some 12, .mv (.t 102), none, []⟩]) (.seq (.reg [⟨some 103, .mv (.t 13), none, []⟩, ⟨some 104, .bin .sub (.t 103) (.c (.sc (.int .i64 1))), none, []⟩, ⟨some 13, .mv (.t 104), none, []⟩]) (.seq (.blk 4 (.loop (.blk 5 (.seq (.blk 6 (.loop (.seq (.seq (.reg [⟨some 105, .mv (.t 12), none, []⟩, ⟨some 106, .mv (.t 13), none, []⟩, ⟨some 107, .bin .leq (.t 105) (.t 106), none, []⟩, ⟨some 108, .mv (.t 107), none, []⟩, ⟨some 109, .mv (.t 4), some (108, true), []⟩, ⟨some 110, .mv (.t 0), some (108, true), []⟩, ⟨some 111, .mv (.t 12), some (108, true), []⟩, ⟨some 112, .ix 2 (.t 110) (.t 111), some (108, true), []⟩, ⟨some 113, .load (some 2) (.t 112), some (108, true), []⟩, ⟨some 114, .mv (.t 0), some (108, true), []⟩, ⟨some 115, .mv (.t 1), some (108, true), []⟩, ⟨some 116, .ix 2 (.t 114) (.t 115), some (108, true), []⟩, ⟨some 117, .load (some 2) (.t 116), some (108, true), []⟩, ⟨some 118, .calv (.t 109) [.t 113, .t 117], some (108, true), []⟩, ⟨some 119, .bin .lss (.t 118) (.c (.sc (.int .i64 0))), some (108, true), []⟩, ⟨some 120, .pick (.t 108) (.t 119) (.c (.sc (.bool false))), none, []⟩]) (.cond (.t 120) .skip (.exit 6))) (.blk 7 (.reg [⟨some 121, .mv (.t 12), none, []⟩, ⟨some 122, .bin .add (.t 121) (.c (.sc (.int .i64 1))), none, []⟩, ⟨some 12, .mv (.t 122), none, []⟩]))))) (.seq (.blk 8 (.loop (.seq (.seq (.reg [⟨some 123, .mv (.t 12), none, []⟩, ⟨some 124, .mv (.t 13), none, []⟩, ⟨some 125, .bin .leq (.t 123) (.t 124), none, []⟩, ⟨some 126, .mv (.t 125), none, []⟩, ⟨some 127, .mv (.t 4), some (126, true), []⟩, ⟨some 128, .mv (.t 0), some (126, true), []⟩, ⟨some 129, .mv (.t 13), some (126, true), []⟩, ⟨some 130, .ix 2 (.t 128) (.t 129), some (126, true), []⟩, ⟨some 131, .load (some 2) (.t 130), some (126, true), []⟩, ⟨some 132, .mv (.t 0), some (126, true), []⟩, ⟨some 133, .mv (.t 1), some (126, true), []⟩, ⟨some 134, .ix 2 (.t 132) (.t 133), some (126, true), []⟩, ⟨some 135, .load (some 2) (.t 134), some (126, true), []⟩, ⟨some 136, .calv (.t 127) [.t 131, .t 135], some (126, true), []⟩, ⟨some 137, .bin .lss (.t 136) (.c (.sc (.int .i64 0))), some (126, true), []⟩, ⟨some 138, .un .not (.t 137), some (126, true), []⟩, ⟨some 139, .pick (.t 126) (.t 138) (.c (.sc (.bool false))), none, []⟩]) (.cond (.t 139) .skip (.exit 8))) (.blk 9 (.reg [⟨some 140, .mv (.t 13), none, []⟩, ⟨some 141, .bin .sub (.t 140) (.c (.sc (.int .i64 1))), none, []⟩, ⟨some 13, .mv (.t 141), none, []⟩]))))) (.seq (.seq (.reg [⟨some 142, .mv (.t 12), none, []⟩, ⟨some 143, .mv (.t 13), none, []⟩, ⟨some 144, .bin .gtr (.t 142) (.t 143), none, []⟩]) (.cond (.t 144) (.exit 4) .skip)) (.seq (.reg [⟨some 145, .mv (.t 0), none, []⟩, ⟨some 146, .mv (.t 12), none, []⟩, ⟨some 147, .mv (.t 0), none, []⟩, ⟨some 148, .mv (.t 13), none, []⟩, ⟨some 149, .mv (.t 0), none, []⟩, ⟨some 150, .mv (.t 13), none, []⟩, ⟨some 151, .ix 2 (.t 149) (.t 150), none, []⟩, ⟨some 152, .load (some 2) (.t 151), none, []⟩, ⟨some 153, .mv (.t 0), none, []⟩, ⟨some 154, .mv (.t 12), none, []⟩, ⟨some 155, .ix 2 (.t 153) (.t 154), none, []⟩, ⟨some 156, .load (some 2) (.t 155), none, []⟩, ⟨some 157, .ix 2 (.t 145) (.t 146), none, []⟩, ⟨none, .store 2 (.t 157) (.t 152), none, []⟩, ⟨some 158, .ix 2 (.t 147) (.t 148), none, []⟩, ⟨none, .store 2 (.t 158) (.t 156), none, []⟩]) (.seq (.reg [⟨some 159, .mv (.t 12), none, []⟩, ⟨some 160, .bin .add (.t 159) (.c (.sc (.int .i64 1))), none, []⟩, ⟨some 12, .mv (.t 160), none, []⟩]) (.reg [⟨some 161, .mv (.t 13), none, []⟩, ⟨some 162, .bin .sub (.t 161) (.c (.sc (.int .i64 1))), none, []⟩, ⟨some 13, .mv (.t 162), none, []⟩]))))))))) (.seq (.reg [⟨some 163, .mv (.t 0), none, []⟩, ⟨some 164, .mv (.t 13), none, []⟩, ⟨some 165, .mv (.t 0), none, []⟩, ⟨some 166, .mv (.t 1), none, []⟩, ⟨some 167, .mv (.t 0), none, []⟩, ⟨some 168, .mv (.t 1), none, []⟩, ⟨some 169, .ix 2 (.t 167) (.t 168), none, []⟩, ⟨some 170, .load (some 2) (.t 169), none, []⟩, ⟨some 171, .mv (.t 0), none, []⟩, ⟨some 172, .mv (.t 13), none, []⟩, ⟨some 173, .ix 2 (.t 171) (.t 172), none, []⟩, ⟨some 174, .load (some 2) (.t 173), none, []⟩, ⟨some 175, .ix 2 (.t 163) (.t 164), none, []⟩, ⟨none, .store 2 (.t 175) (.t 170), none, []⟩, ⟨some 176, .ix 2 (.t 165) (.t 166), none, []⟩, ⟨none, .store 2 (.t 176) (.t 174), none, []⟩]) (.seq (.reg [⟨some 177, .mv (.t 13), none, []⟩, ⟨some 10, .mv (.t 177), none, []⟩, ⟨some 11, .mv (.c (.sc (.bool false))), none, []⟩]) .ret))))))))))), [.tmp 10, .tmp 11]⟩
def CMedA (fmed : FuncId) : FC := ⟨18, .seq (.reg [⟨some 8, .mv (.c (.sc (.int .i64 0))), none, []⟩]) (.seq (.reg [⟨some 9, .mv (.t 0), none, []⟩, ⟨some 10, .mv (.t 1), none, []⟩, ⟨some 11, .bin .sub (.t 10) (.c (.sc (.int .i64 1))), none, []⟩, ⟨some 12, .mv (.t 1), none, []⟩, ⟨some 13, .mv (.t 1), none, []⟩, ⟨some 14, .bin .add (.t 13) (.c (.sc (.int .i64 1))), none, []⟩, ⟨some 15, .mv (.t 2), none, []⟩, ⟨some 16, .mv (.t 3), none, []⟩, ⟨some 17, .call fmed [.t 9, .t 11, .t 12, .t 14, .t 15, .t 16], none, []⟩, ⟨some 8, .mv (.t 17), none, []⟩]) .ret), [.tmp 8]⟩
def CMed (ford2 : FuncId) : FC := ⟨41, .seq (.reg [⟨some 12, .mv (.c (.sc (.int .i64 0))), none, []⟩]) (.seq (.reg [⟨some 14, .mv (.t 0), none, []⟩, ⟨some 15, .mv (.t 1), none, []⟩, ⟨some 16, .mv (.t 2), none, []⟩, ⟨some 17, .mv (.t 4), none, []⟩, ⟨some 18, .mv (.t 5), none, []⟩, ⟨some 19, .call ford2 [.t 14, .t 15, .t 16, .t 17, .t 18], none, []⟩, ⟨some 13, .mv (.t 19), none, []⟩, ⟨some 20, .ext (.t 13) 0, none, []⟩, ⟨some 21, .ext (.t 13) 1, none, []⟩, ⟨some 1, .mv (.t 20), none, []⟩, ⟨some 2, .mv (.t 21), none, []⟩]) (.seq (.reg [⟨some 23, .mv (.t 0), none, []⟩, ⟨some 24, .mv (.t 2), none, []⟩, ⟨some 25, .mv (.t 3), none, []⟩, ⟨some 26, .mv (.t 4), none, []⟩, ⟨some 27, .mv (.t 5), none, []⟩, ⟨some 28, .call ford2 [.t 23, .t 24, .t 25, .t 26, .t 27], none, []⟩, ⟨some 22, .mv (.t 28), none, []⟩, ⟨some 29, .ext (.t 22) 0, none, []⟩, ⟨some 30, .ext (.t 22) 1, none, []⟩, ⟨some 2, .mv (.t 29), none, []⟩, ⟨some 3, .mv (.t 30), none, []⟩]) (.seq (.reg [⟨some 32, .mv (.t 0), none, []⟩, ⟨some 33, .mv (.t 1), none, []⟩, ⟨some 34, .mv (.t 2), none, []⟩, ⟨some 35, .mv (.t 4), none, []⟩, ⟨some 36, .mv (.t 5), none, []⟩, ⟨some 37, .call ford2 [.t 32, .t 33, .t 34, .t 35, .t 36], none, []⟩, ⟨some 31, .mv (.t 37), none, []⟩, ⟨some 38, .ext (.t 31) 0, none, []⟩, ⟨some 39, .ext (.t 31) 1, none, []⟩, ⟨some 1, .mv (.t 38), none, []⟩, ⟨some 2, .mv (.t 39), none, []⟩]) (.seq (.reg [⟨some 40, .mv (.t 2), none, []⟩, ⟨some 12, .mv (.t 40), none, []⟩]) .ret)))), [.tmp 12]⟩
def COrd2 : FC := ⟨32, .seq (.reg [⟨some 10, .mv (.c (.sc (.int .i64 0))), none, []⟩, ⟨some 11, .mv (.c (.sc (.int .i64 0))), none, []⟩]) (.seq (.seq (.reg [⟨some 12, .mv (.t 4), none, []⟩, ⟨some 13, .mv (.t 0), none, []⟩, ⟨some 14, .mv (.t 2), none, []⟩, ⟨some 15, .ix 2 (.t 13) (.t 14), none, []⟩, ⟨some 16, .load (some 2) (.t 15), none, []⟩, ⟨some 17, .mv (.t 0), none, []⟩, ⟨some 18, .mv (.t 1), none, []⟩, ⟨some 19, .ix 2 (.t 17) (.t 18), none, []⟩, ⟨some 20, .load (some 2) (.t 19), none, []⟩, ⟨some 21, .calv (.t 12) [.t 16, .t 20], none, []⟩, ⟨some 22, .bin .lss (.t 21) (.c (.sc (.int .i64 0))), none, []⟩]) (.cond (.t 22) (.seq (.reg [⟨some 23, .mv (.t 3), none, []⟩, ⟨some 24, .nilck (.t 23), none, []⟩, ⟨some 25, .load none (.t 24), none, []⟩, ⟨some 26, .bin .add (.t 25) (.c (.sc (.int .i64 1))), none, []⟩, ⟨some 27, .nilck (.t 23), none, []⟩, ⟨none, .store 1 (.t 27) (.t 26), none, []⟩]) (.seq (.reg [⟨some 28, .mv (.t 2), none, []⟩, ⟨some 29, .mv (.t 1), none, []⟩, ⟨some 10, .mv (.t 28), none, []⟩, ⟨some 11, .mv (.t 29), none, []⟩]) .ret)) .skip)) (.seq (.reg [⟨some 30, .mv (.t 1), none, []⟩, ⟨some 31, .mv (.t 2), none, []⟩, ⟨some 10, .mv (.t 30), none, []⟩, ⟨some 11, .mv (.t 31), none, []⟩]) .ret)), [.tmp 10, .tmp 11]⟩
def CPdq (fins fheap fbreak fpivot frev fpart fequal fsplit fpdq : FuncId) : FC := ⟨148, .seq (.reg [⟨some 10, .mv (.c (.sc (.bool true))), none, []⟩]) (.seq (.reg [⟨some 11, .mv (.c (.sc (.bool true))), none, []⟩]) (.blk 0 (.loop (.blk 1 (.seq (.reg [⟨some 21, .mv (.t 2), none, []⟩, ⟨some 22, .mv (.t 1), none, []⟩, ⟨some 23, .bin .sub (.t 21) (.t 22), none, []⟩, ⟨some 12, .mv (.t 23), none, []⟩]) (.seq (.seq (.reg [⟨some 24, .mv (.t 12), none, []⟩, ⟨some 25, .bin .leq (.t 24) (.c (.sc (.int .i64 12))), none, []⟩]) (.cond (.t 25) (.seq (.reg [⟨some 26, .mv (.t 0), none, []⟩, ⟨some 27, .mv (.t 1), none, []⟩, ⟨some 28, .mv (.t 2), none, []⟩, ⟨some 29, .mv (.t 4), none, []⟩, ⟨some 30, .call fins [.t 26, .t 27, .t 28, .t 29], none, []⟩]) .ret) .skip)) (.seq (.seq (.reg [⟨some 31, .mv (.t 3), none, []⟩, ⟨some 32, .bin .eql (.t 31) (.c (.sc (.int .i64 0))), none, []⟩]) (.cond (.t 32) (.seq (.reg [⟨some 33, .mv (.t 0), none, []⟩, ⟨some 34, .mv (.t 1), none, []⟩, ⟨some 35, .mv (.t 2), none, []⟩, ⟨some 36, .mv (.t 4), none, []⟩, ⟨some 37, .call fheap [.t 33, .t 34, .t 35, .t 36], none, []⟩]) .ret) .skip)) (.seq (.seq (.reg [⟨some 38, .mv (.t 10), none, []⟩, ⟨some 39, .un .not (.t 38), none, []⟩]) (.cond (.t 39) (.seq (.reg [⟨some 40, .mv (.t 0), none, []⟩, ⟨some 41, .mv (.t 1), none, []⟩, ⟨some 42, .mv (.t 2), none, []⟩, ⟨some 43, .mv (.t 4), none, []⟩, ⟨some 44, .call fbreak [.t 40, .t 41, .t 42, .t 43], none, []⟩]) (.reg [⟨some 45, .mv (.t 3), none, []⟩, ⟨some 46, .bin .sub (.t 45) (.c (.sc (.int .i64 1))), none, []⟩, ⟨some 3, .mv (.t 46), none, []⟩])) .skip)) (.seq (.reg [⟨some 48, .mv (.t 0), none, []⟩, ⟨some 49, .mv (.t 1), none, []⟩, ⟨some 50, .mv (.t 2), none, []⟩, ⟨some 51, .mv (.t 4), none, []⟩, ⟨some 52, .call fpivot [.t 48, .t 49, .t 50, .t 51], none, []⟩, ⟨some 47, .mv (.t 52), none, []⟩, ⟨some 53, .ext (.t 47) 0, none, []⟩, ⟨some 54, .ext (.t 47) 1, none, []⟩, ⟨some 13, .mv (.t 53), none, []⟩, ⟨some 14, .mv (.t 54), none, []⟩]) (.seq (.seq (.reg [⟨some 55, .mv (.t 14), none, []⟩, ⟨some 56, .bin .eql (.t 55) (.c (.sc (.int .i64 2))), none, []⟩]) (.cond (.t 56) (.seq (.reg [⟨some 57, .mv (.t 0), none, []⟩, ⟨some 58, .mv (.t 1), none, []⟩, ⟨some 59, .mv (.t 2), none, []⟩, ⟨some 60, .mv (.t 4), none, []⟩, ⟨some 61, .call frev [.t 57, .t 58, .t 59, .t 60], none, []⟩]) (.seq (.reg [⟨some 62, .mv (.t 2), none, []⟩, ⟨some 63, .bin .sub (.t 62) (.c (.sc (.int .i64 1))), none, []⟩, ⟨some 64, .mv (.t 13), none, []⟩, ⟨some 65, .mv (.t 1), none, []⟩, ⟨some 66, .bin .sub (.t 64) (.t 65), none, []⟩, ⟨some 67, .bin .sub (.t 63) (.t 66), none, []⟩, ⟨some 13, .mv (.t 67), none, []⟩]) (.reg [⟨some 14, .mv (.c (.sc (.int .i64 1))), none, []⟩]))) .skip)) (.seq (.seq (.reg [⟨some 68, .mv (.t 10), none, []⟩, ⟨some 69, .mv (.t 68), none, []⟩, ⟨some 70, .mv (.t 11), some (69, true), []⟩, ⟨some 71, .pick (.t 69) (.t 70) (.c (.sc (.bool false))), none, []⟩, ⟨some 72, .mv (.t 71), none, []⟩, ⟨some 73, .mv (.t 14), some (72, true), []⟩, ⟨some 74, .bin .eql (.t 73) (.c (.sc (.int .i64 1))), some (72, true), []⟩, ⟨some 75, .pick (.t 72) (.t 74) (.c (.sc (.bool false))), none, []⟩]) (.cond (.t 75) (.seq (.reg [⟨some 76, .mv (.t 0), none, []⟩, ⟨some 77, .mv (.t 1), none, []⟩, ⟨some 78, .mv (.t 2), none, []⟩, ⟨some 79, .mv (.t 4), none, []⟩, ⟨some 80, .call fpart [.t 76, .t 77, .t 78, .t 79], none, []⟩]) (.cond (.t 80) .ret .skip)) .skip)) (.seq (.seq (.reg [⟨some 81, .mv (.t 1), none, []⟩, ⟨some 82, .bin .gtr (.t 81) (.c (.sc (.int .i64 0))), none, []⟩, ⟨some 83, .mv (.t 82), none, []⟩, ⟨some 84, .mv (.t 4), some (83, true), []⟩, ⟨some 85, .mv (.t 0), some (83, true), []⟩, ⟨some 86, .mv (.t 1), some (83, true), []⟩, ⟨some 87, .bin .sub (.t 86) (.c (.sc (.int .i64 1))), some (83, true), []⟩, ⟨some 88, .ix 2 (.t 85) (.t 87), some (83, true), []⟩, ⟨some 89, .load (some 2) (.t 88), some (83, true), []⟩, ⟨some 90, .mv (.t 0), some (83, true), []⟩, ⟨some 91, .mv (.t 13), some (83, true), []⟩, ⟨some 92, .ix 2 (.t 90) (.t 91), some (83, true), []⟩, ⟨some 93, .load (some 2) (.t 92), some (83, true), []⟩, ⟨some 94, .calv (.t 84) [.t 89, .t 93], some (83, true), []⟩, ⟨some 95, .bin .lss (.t 94) (.c (.sc (.int .i64 0))), some (83, true), []⟩, ⟨some 96, .un .not (.t 95), some (83, true), []⟩, ⟨some 97, .pick (.t 83) (.t 96) (.c (.sc (.bool false))), none, []⟩]) (.cond (.t 97) (.seq (.reg [⟨some 98, .mv (.t 0), none, []⟩, ⟨some 99, .mv (.t 1), none, []⟩, ⟨some 100, .mv (.t 2), none, []⟩, ⟨some 101, .mv (.t 13), none, []⟩, ⟨some 102, .mv (.t 4), none, []⟩, ⟨some 103, .call fequal [.t 98, .t 99, .t 100, .t 101, .t 102], none, []⟩, ⟨some 15, .mv (.t 103), none, []⟩]) (.seq (.reg [⟨some 104, .mv (.t 15), none, []⟩, ⟨some 1, .mv (.t 104), none, []⟩]) (.exit 1))) .skip)) (.seq (.reg [⟨some 106, .mv (.t 0), none, []⟩, ⟨some 107, .mv (.t 1), none, []⟩, ⟨some 108, .mv (.t 2), none, []⟩, ⟨some 109, .mv (.t 13), none, []⟩, ⟨some 110, .mv (.t 4), none, []⟩, ⟨some 111, .call fsplit [.t 106, .t 107, .t 108, .t 109, .t 110], none, []⟩, ⟨some 105, .mv (.t 111), none, []⟩, ⟨some 112, .ext (.t 105) 0, none, []⟩, ⟨some 113, .ext (.t 105) 1, none, []⟩, ⟨some 16, .mv (.t 112), none, []⟩, ⟨some 17, .mv (.t 113), none, []⟩]) (.seq (.reg [⟨some 114, .mv (.t 17), none, []⟩, ⟨some 11, .mv (.t 114), none, []⟩]) (.seq (.reg [⟨some 115, .mv (.t 16), none, []⟩, ⟨some 116, .mv (.t 1), none, []⟩, ⟨some 117, .bin .sub (.t 115) (.t 116), none, []⟩, ⟨some 118, .mv (.t 2), none, []⟩, ⟨some 119, .mv (.t 16), none, []⟩, ⟨some 120, .bin .sub (.t 118) (.t 119), none, []⟩, ⟨some 18, .mv (.t 117), none, []⟩, ⟨some 19, .mv (.t 120), none, []⟩]) (.seq (.reg [⟨some 121, .mv (.t 12), none, []⟩, ⟨some 122, .bin .quo (.t 121) (.c (.sc (.int .i64 8))), none, []⟩, ⟨some 20, .mv (.t 122), none, []⟩]) (.seq (.reg [⟨some 123, .mv (.t 18), none, []⟩, ⟨some 124, .mv (.t 19), none, []⟩, ⟨some 125, .bin .lss (.t 123) (.t 124), none, []⟩]) (.cond (.t 125) (.seq (.reg [⟨some 126, .mv (.t 18), none, []⟩, ⟨some 127, .mv (.t 20), none, []⟩, ⟨some 128, .bin .geq (.t 126) (.t 127), none, []⟩, ⟨some 10, .mv (.t 128), none, []⟩]) (.seq (.reg [⟨some 129, .mv (.t 0), none, []⟩, ⟨some 130, .mv (.t 1), none, []⟩, ⟨some 131, .mv (.t 16), none, []⟩, ⟨some 132, .mv (.t 3), none, []⟩, ⟨some 133, .mv (.t 4), none, []⟩, ⟨some 134, .call fpdq [.t 129, .t 130, .t 131, .t 132, .t 133], none, []⟩]) (.reg [⟨some 135, .mv (.t 16), none, []⟩, ⟨some 136, .bin .add (.t 135) (.c (.sc (.int .i64 1))), none, []⟩, ⟨some 1, .mv (.t 136), none, []⟩]))) (.seq (.reg [⟨some 137, .mv (.t 19), none, []⟩, ⟨some 138, .mv (.t 20), none, []⟩, ⟨some 139, .bin .geq (.t 137) (.t 138), none, []⟩, ⟨some 10, .mv (.t 139), none, []⟩]) (.seq (.reg [⟨some 140, .mv (.t 0), none, []⟩, ⟨some 141, .mv (.t 16), none, []⟩, ⟨some 142, .bin .add (.t 141) (.c (.sc (.int .i64 1))), none, []⟩, ⟨some 143, .mv (.t 2), none, []⟩, ⟨some 144, .mv (.t 3), none, []⟩, ⟨some 145, .mv (.t 4), none, []⟩, ⟨some 146, .call fpdq [.t 140, .t 142, .t 143, .t 144, .t 145], none, []⟩]) (.reg [⟨some 147, .mv (.t 16), none, []⟩, ⟨some 2, .mv (.t 147), none, []⟩]))))))))))))))))))))), []⟩
def CSorts (flen fpdq : FuncId) : FC := ⟨14, .seq (.reg [⟨some 5, .mv (.t 0), none, []⟩, ⟨some 6, .len (.t 5), none, []⟩, ⟨some 4, .mv (.t 6), none, []⟩]) (.reg [⟨some 7, .mv (.t 0), none, []⟩, ⟨some 8, .mv (.t 4), none, []⟩, ⟨some 9, .mv (.t 4), none, []⟩, ⟨some 10, .conv .u64 (.t 9), none, []⟩, ⟨some 11, .call flen [.t 10], none, []⟩, ⟨some 12, .mv (.t 1), none, []⟩, ⟨some 13, .call fpdq [.t 7, .c (.sc (.int .i64 0)), .t 8, .t 11, .t 12], none, []⟩]), []⟩
end
section
open Go Go.RowKit

/-- More memory, the old as it was. -/
theorem RepW.below {w0 : Fr} {G : Gh} {s : St} {w w' : World} (h : RepW w0 G s w) (hb : Below w.heap.size w w') : RepW w0 G s w' where
  F b o v hf := by
    have := h.F b o v hf
    rw [hb.cell (p := ⟨b, o, none⟩) (World.block_lt_of_cell? _ _ this)]; exact this
  O g x hx := by have := h.O g x hx; have := hb.size; omega
  box b cs hx := by
    obtain ⟨h1, h2, h3, h4, h5⟩ := h.box b cs hx
    exact ⟨h1, h2, h3, h4, by rw [hb.block b (by have := h.sz; omega)]; exact h5⟩
  own g m hg := by
    obtain ⟨h1, h2, e, size, cap, cur, h3, h4, h5⟩ := h.own g m hg
    exact ⟨h1, h2, e, size, cap, cur, h3, by rw [hb.block g (by have := h.sz; omega)]; exact h4, h5⟩
  sz := by have := h.sz; have := hb.size; omega
  bel := ⟨hb.os.trans h.bel.os, hb.tape.trans h.bel.tape, hb.output.trans h.bel.output, Nat.le_trans h.bel.size hb.size, fun i hi => (hb.block i (by have := h.bel.size; omega)).trans (h.bel.block i hi)⟩
  fr b x hx := ⟨by rw [hb.block b (h.frLt hx)]; exact (h.fr b x hx).1, (h.fr b x hx).2⟩
/-- What an argument reads as. -/
inductive Frz (st : St) : V → V → Prop where
  | same (d : V) : Frz st d d
  | box (b o c size : Nat) (cs l : List V) (hb : st.box b = some cs) (hl : ∀ (i : Nat) (d : V), l[i]? = some d → d.cells.length = size)
      (h : ∀ (i : Nat) (d : V) (j : Nat) (x : V), l[i]? = some d → d.cells[j]? = some x → cs[o + i * size + j]? = some x) (hc : l.length ≤ c) (hm : c ≤ maxLen) (hmo : mono cs) : Frz st (.sc (.slice (some ⟨b, o, none⟩) l.length c)) (.sl .no l)
def ghAll (G : Gh) (w : World) : Gh := ⟨fun b o => w.cell? ⟨b, o, none⟩, G.O⟩
theorem Frz.rep {st : St} {d d' : V} (hf : Frz st d d') {w0 : Fr} {G : Gh} {w : World} (hw : RepW w0 G st w) {v : Value} (h : Rep1 G d v) : Rep1 (ghAll G w) d' v := by
  have hle : G.le (ghAll G w) := ⟨hw.F, fun g x h => h⟩
  cases hf with
  | same d => exact h.mono hle
  | box b o c size cs l hb hl hx hc hm hmo =>
    cases h with
    | sc _ h1 =>
    obtain ⟨vs, e, hh, hsz, hone, hrep⟩ := (hw.box b cs hb).2.2.2.2.row hmo
    have hcell : ∀ k, w.cell? ⟨b, k, none⟩ = vs[k]? := fun k => by simp [World.cell?, hh]
    have get : ∀ i j, i < l.length → j < size → ∃ v x, vs[o + i * size + j]? = some v ∧ cs[o + i * size + j]? = some x ∧ (∃ d, l[i]? = some d ∧ d.cells[j]? = some x) := fun i j hi hj => by
      have hd := List.getElem?_eq_getElem hi
      have hlen := hl i _ hd
      have hjx := List.getElem?_eq_getElem (show j < (l[i]).cells.length by omega)
      have hcs := hx i _ j _ hd hjx
      have hlt : o + i * size + j < vs.size := by rw [hsz]; exact (List.getElem?_eq_some_iff.1 hcs).1
      exact ⟨_, _, Array.getElem?_eq_getElem hlt, hcs, _, hd, hjx⟩
    refine .sl .no l b o size c (fun i j => (vs[o + i * size + j]?).getD default) hl (fun i j hi hj => ?_) (fun i j hi hj => ?_) (fun i d j x hd hj => ?_) hc hm (by simp) (fun g k e => by cases e)
    · obtain ⟨v, x, h1, _⟩ := get i j hi hj
      simp only [ghAll, hcell, h1, Option.getD_some]
    · obtain ⟨v, x, h1, _⟩ := get i j hi hj
      simp only [h1, Option.getD_some]
      exact hone _ _ h1
    · have hi := (List.getElem?_eq_some_iff.1 hd).1
      have hjl : j < size := by rw [← hl i d hd]; exact (List.getElem?_eq_some_iff.1 hj).1
      obtain ⟨v, x', h1, h2, _⟩ := get i j hi hjl
      have hcs := hx i d j x hd hj
      simp only [h1, Option.getD_some]
      exact (hrep _ _ _ hcs h1).mono hle
/-- A callee that needs none of the caller's boxes, and hands back a plain value: the state stays. -/
theorem VCalls.frz {P : Program} {f : FuncId} {args args' : List V} {x : Value} {st : St} (h : ∀ n, VCalls P f args' ⟨fun _ => none, fun _ => none, n⟩ fun r _ => r = .sc x) (hl : args.length = args'.length)
    (hfr : ∀ (i : Nat) (d d' : V), args[i]? = some d → args'[i]? = some d' → Frz st d d') : VCalls P f args st fun r st' => r = .sc x ∧ st = st' := by
  intro w0 G w us hw hus hr
  have hw2 : RepW (Fr.of w) (ghAll G w) ⟨fun _ => none, fun _ => none, w.heap.size⟩ w :=
    ⟨fun _ _ _ h => h, hw.O, fun _ _ h => (by cases h), fun _ _ h => (by cases h), Nat.le_refl _, Below.refl _ _, fun _ _ h => (by cases h)⟩
  refine (h w.heap.size (Fr.of w) (ghAll G w) w us hw2 (by omega) (fun i d' u hd' hu => ?_)).mono fun e w' ⟨u, r, st', G', h1, h2, h3, _, h5⟩ => ?_
  · have hi : i < args.length := by rw [hl]; exact (List.getElem?_eq_some_iff.1 hd').1
    have hd := List.getElem?_eq_getElem hi
    exact (hfr i _ _ hd hd').rep hw (hr i _ u hd hu)
  · subst h2
    cases h3 with
    | sc _ h1' => exact ⟨x, .sc x, st, G, h1, ⟨rfl, rfl⟩, .sc _ h1', .refl G, hw.below h5.bel⟩
end
section
open Go Go.RowKit

section
variable {P : Program} {w0 : Fr} {G : Gh} {st : St} {w : World}
def St.drop (s : St) (b : Nat) : St := { s with box := fun x => if x = b then none else s.box x }
/-- A box is sealed: from now on its cells never turn, and slices of it read as data. -/
theorem RepW.seal (hw : RepW w0 G st w) {b : Nat} {cs : List V} (hb : st.box b = some cs) (hmo : mono cs) : ∃ G', G.le G' ∧ RepW w0 G' (st.drop b) w ∧ ∀ (o c size : Nat) (l : List V), (∀ (i : Nat) (d : V), l[i]? = some d → d.cells.length = size) →
    (∀ (i : Nat) (d : V) (j : Nat) (x : V), l[i]? = some d → d.cells[j]? = some x → cs[o + i * size + j]? = some x) → l.length ≤ c → c ≤ maxLen → Rep1 G' (.sl .no l) (.slice (some ⟨b, o, none⟩) l.length c) := by
  obtain ⟨hlt, hge0, hF, hO, hrb⟩ := hw.box b cs hb
  obtain ⟨cur, te, hh, hcl, hc1, hcr⟩ := hrb.row hmo
  have hle : G.le (G.addF b cur) := ⟨fun b' o v hf => by
    simp only [Gh.addF]
    split
    · rename_i e; subst e; rw [hF] at hf; cases hf
    · exact hf, fun _ _ h => h⟩
  refine ⟨G.addF b cur, hle, ⟨fun b' o v hf => ?_, hw.O, fun b' cs' hx => ?_, fun g m hg => ?_, hw.sz, hw.bel, fun c x hx => ?_⟩, fun o c size l hl hx hc hm => ?_⟩
  · simp only [Gh.addF] at hf
    split at hf
    · rename_i e; subst e; rw [cell_of_row w b' o cur te _ hh]; exact hf
    · exact hw.F b' o v hf
  · simp only [St.drop] at hx ⊢
    split at hx
    · cases hx
    · rename_i hne
      obtain ⟨k1, k2, k3, k4, k5⟩ := hw.box b' cs' hx
      exact ⟨k1, k2, fun o => by simp only [Gh.addF]; rw [if_neg hne]; exact k3 o, k4, k5.mono hle⟩
  · obtain ⟨k1, k2, e, size, cap, cur', k3, k4, k5, k6, k7, k8⟩ := hw.own g m hg
    have hne : g ≠ b := fun e => by subst e; rw [hO] at k3; cases k3
    exact ⟨k1, k2, e, size, cap, cur', k3, k4, k5, k6, k7, fun o ho => by simp only [Gh.addF]; rw [if_neg hne]; exact k8 o ho⟩
  · have hne : c ≠ b := fun e => by subst e; rw [hge0.2] at hx; cases hx
    exact ⟨(hw.fr c x hx).1, fun o => by simp only [Gh.addF]; rw [if_neg hne]; exact (hw.fr c x hx).2.1 o, (hw.fr c x hx).2.2⟩
  · have get : ∀ i j, i < l.length → j < size → ∃ v, cur[o + i * size + j]? = some v := fun i j hi hj => by
      have hd := List.getElem?_eq_getElem hi
      have hlen := hl i _ hd
      have hcs := hx i _ j _ hd (List.getElem?_eq_getElem (show j < (l[i]).cells.length by omega))
      exact ⟨_, Array.getElem?_eq_getElem (by rw [hcl]; exact (List.getElem?_eq_some_iff.1 hcs).1)⟩
    refine .sl .no l b o size c (fun i j => (cur[o + i * size + j]?).getD default) hl (fun i j hi hj => ?_) (fun i j hi hj => ?_) (fun i d j x hd hj => ?_) hc hm (by simp) (fun g k e => by cases e)
    · obtain ⟨v, h1⟩ := get i j hi hj
      simp only [Gh.addF, ↓reduceIte, h1, Option.getD_some]
    · obtain ⟨v, h1⟩ := get i j hi hj
      simp only [h1, Option.getD_some]
      exact hc1 _ _ h1
    · have hi := (List.getElem?_eq_some_iff.1 hd).1
      have hjl : j < size := by rw [← hl i d hd]; exact (List.getElem?_eq_some_iff.1 hj).1
      obtain ⟨v, h1⟩ := get i j hi hjl
      simp only [h1, Option.getD_some]
      exact (hcr _ _ _ (hx i d j x hd hj) h1).mono hle
/-- An argument where a box is read as data. -/
inductive Sld (b : Nat) (cs : List V) : V → V → Prop where
  | same (d : V) : Sld b cs d d
  | box (o c size : Nat) (l : List V) (hl : ∀ (i : Nat) (d : V), l[i]? = some d → d.cells.length = size) (hx : ∀ (i : Nat) (d : V) (j : Nat) (x : V), l[i]? = some d → d.cells[j]? = some x → cs[o + i * size + j]? = some x) (hc : l.length ≤ c) (hm : c ≤ maxLen) :
      Sld b cs (.sc (.slice (some ⟨b, o, none⟩) l.length c)) (.sl .no l)
  | agg (xs ys : List V) (hl : xs.length = ys.length) (h : ∀ (i : Nat) (x y : V), xs[i]? = some x → ys[i]? = some y → Sld b cs x y) : Sld b cs (.agg xs) (.agg ys)
theorem Sld.rep {b : Nat} {cs : List V} {x y : V} (h : Sld b cs x y) {G' : Gh} (hle : G.le G') (hb : ∀ (o c size : Nat) (l : List V), (∀ (i : Nat) (d : V), l[i]? = some d → d.cells.length = size) →
    (∀ (i : Nat) (d : V) (j : Nat) (x : V), l[i]? = some d → d.cells[j]? = some x → cs[o + i * size + j]? = some x) → l.length ≤ c → c ≤ maxLen → Rep1 G' (.sl .no l) (.slice (some ⟨b, o, none⟩) l.length c)) : ∀ {v : Value}, Rep1 G x v → Rep1 G' y v := by
  induction h with
  | same d => exact fun h => h.mono hle
  | box o c size l hl hx hc hm =>
    intro v h
    cases h with
    | sc _ _ => exact hb o c size l hl hx hc hm
  | agg xs ys hl h ih =>
    intro v hv
    cases hv with
    | agg _ vs hvl h1 hr =>
    refine .agg _ vs (by rw [hvl, hl]) h1 fun i y u hy hu => ?_
    have hi : i < xs.length := by rw [hl]; exact (List.getElem?_eq_some_iff.1 hy).1
    have hx := List.getElem?_eq_getElem hi
    exact ih i _ y hx hy (hr i _ u hx hu)
/-- A call ahead of which a box is sealed. -/
theorem VCalls.seal {f : FuncId} {args args' : List V} {Q : V → St → Prop} {b : Nat} {cs : List V} (hb : st.box b = some cs) (hmo : _root_.Go.Proofs.Ytlngegoamfklgaa.mono cs) (h : VCalls P f args' (st.drop b) Q) (hl : args.length = args'.length) (hs : ∀ (i : Nat) (d d' : V), args[i]? = some d → args'[i]? = some d' → Sld b cs d d') : VCalls P f args st Q := by
  intro w0 G w us hw hus hr
  obtain ⟨G', k1, k2, k3⟩ := hw.seal hb hmo
  refine (h w0 G' w us k2 (by omega) (fun i d' u hd' hu => ?_)).mono fun e w' ⟨u, r, st', G2, h1, h2, h3, h4, h5⟩ => ⟨u, r, st', G2, h1, h2, h3, k1.trans h4, h5⟩
  have hi : i < args.length := by rw [hl]; exact (List.getElem?_eq_some_iff.1 hd').1
  have hd := List.getElem?_eq_getElem hi
  exact (hs i _ _ hd hd').rep k1 k3 (hr i _ u hd hu)
end
end
section
open Go

theorem put_swp {st : St} {b c : Nat} {x y z : List V} (h : b ≠ c) : ((st.put b x).put c y).put b z = (st.put b z).put c y := by
  simp only [St.put, St.mk.injEq, true_and]
  refine ⟨funext fun q => ?_, by omega⟩
  by_cases h1 : q = b
  · subst h1; simp [h]
  · by_cases h2 : q = c
    · subst h2; simp [h1]
    · simp [h1, h2]
theorem and_u64 (x : Int) {m : Nat} (h : m < 18446744073709551616) : ∃ z : Nat, ibit .and .u64 x (m : Int) = (z : Int) ∧ z ≤ m := by
  refine ⟨(BitVec.ofInt 64 x &&& BitVec.ofInt 64 (m : Int)).toNat, ?_, ?_⟩
  · show IntKind.wrap .u64 (((BitVec.ofInt 64 x &&& BitVec.ofInt 64 (m : Int)).toNat : Nat) : Int) = _
    have := (BitVec.ofInt 64 x &&& BitVec.ofInt 64 (m : Int)).isLt
    show (((BitVec.ofInt 64 x &&& BitVec.ofInt 64 (m : Int)).toNat : Nat) : Int) % 18446744073709551616 = _
    omega
  · rw [BitVec.toNat_and]
    refine Nat.le_trans Nat.and_le_right ?_
    rw [BitVec.toNat_ofInt]
    omega
def dataV (b n cap : Nat) : V := .sc (.slice (some ⟨b, 0, none⟩) n cap)
theorem weak_re {st : St} {b : Nat} {X Y : List V} (h : (st.put b X).Wf) : (st.put b Y).weak (st.put b Y) := by
  have := (h.lt.put (b := b) (cs := Y)).weak
  rwa [put_put] at this
theorem put_selfR {st : St} {b : Nat} {cs : List V} (hb : st.box b = some cs) (h : b < st.sz) : st.put b cs = st := by
  cases st with
  | mk box own sz =>
    simp only [St.put, St.mk.injEq, true_and]
    simp only at hb h
    refine ⟨?_, by omega⟩
    funext i
    by_cases e : i = b
    · subst e; simp [hb]
    · simp [e]
section
variable {α : Type} [Inhabited α] {lt : α → α → Bool}
theorem Srt.all {L M : List α} (h : Mix 0 L.length L M) (k : Srt lt 0 L.length M) : M.Perm L ∧ M.Pairwise (fun x y => lt y x = false) := ⟨h.perm, Srt.pw (by rw [h.len]; exact k)⟩
end
end
section
open Go

section
variable {α : Type}
def two (p : V × V) : List V := [p.1, p.2]
/-- A row of elements of two cells each, and what lies behind it. -/
def rowc (val : α → V × V) (L : List α) (sp : List V) : List V := L.flatMap (fun x => two (val x)) ++ sp
variable {val : α → V × V} {L M : List α} {sp : List V}
theorem rowc_len : (rowc val L sp).length = L.length * 2 + sp.length := by
  induction L with
  | nil => simp [rowc]
  | cons x L ih =>
    simp only [rowc, List.flatMap_cons, List.append_assoc, List.length_append, List.length_cons] at ih ⊢
    rw [ih]; simp only [two, List.length_cons, List.length_nil]; omega
theorem rowc_cons {x : α} : rowc val (x :: L) sp = (val x).1 :: (val x).2 :: rowc val L sp := by simp [rowc, two]
theorem rowc_set : ∀ {L : List α} {i : Nat} {y : α}, i < L.length → List.take (i * 2) (rowc val L sp) ++ [(val y).1, (val y).2] ++ List.drop (i * 2 + 2) (rowc val L sp) = rowc val (L.set i y) sp
  | [], i, y, h => by simp at h
  | x :: L, 0, y, h => by simp [rowc_cons]
  | x :: L, i + 1, y, h => by
    have ih := rowc_set (L := L) (i := i) (y := y) (by simpa using h)
    rw [rowc_cons, List.set_cons_succ, rowc_cons, ← ih, show (i + 1) * 2 = i * 2 + 1 + 1 by omega, show i * 2 + 1 + 1 + 2 = i * 2 + 2 + 1 + 1 by omega]
    simp only [List.take_succ_cons, List.drop_succ_cons, List.cons_append]
theorem rowc_mono (h : mono (rowc val L sp)) (hl : M.length = L.length) : mono (rowc val M sp) := by
  cases M with
  | nil =>
    have : L = [] := List.eq_nil_of_length_eq_zero (by simpa using hl.symm)
    subst this
    exact h
  | cons x M => rw [rowc_cons]; exact mono_two ▸ trivial
theorem rowc_get [Inhabited α] : ∀ {L : List α} {i : Nat}, i < L.length → List.take 2 (List.drop (i * 2) (rowc val L sp)) = [(val L[i]!).1, (val L[i]!).2]
  | [], i, h => by simp at h
  | x :: L, 0, h => by simp [rowc_cons]
  | x :: L, i + 1, h => by
    have ih := rowc_get (L := L) (i := i) (by simpa using h)
    rw [rowc_cons, show (i + 1) * 2 = i * 2 + 1 + 1 by omega]
    simp only [List.drop_succ_cons]
    rw [ih]
    simp
def cmpV (g : FuncId) : V := .sc (.func (.func g) #[] #[])
/-- Elements, and what compares them. -/
structure EltC (P : Program) (g : FuncId) (val : α → V × V) (lt : α → α → Bool) : Prop where
  less : ∀ (st : St) (x y : α), VCalls P g [.agg [(val x).1, (val x).2], .agg [(val y).1, (val y).2]] st fun r st' => ∃ n : Int, decide (n < 0) = lt x y ∧ r = .sc (.int .i64 n) ∧ st = st'
  call : callable P g = true
  ord : Ord' lt
theorem arr0 : (#[] : Array Value).toList = [] := rfl
theorem all0 : (∀ v ∈ ([] : List Value), v.oneCell' = true) = True := by simp
end
section
variable {P : Program} {α : Type} [Inhabited α] {val : α → V × V} {lt : α → α → Bool} {g f fsift : FuncId} {st : St} {b cap a c : Nat} {L : List α} {sp : List V}
set_option maxRecDepth 100000 in
set_option maxHeartbeats 2000000 in
theorem cins_v (hf : cFun P f = some (CIns)) (E : EltC P g val lt) (hmo : mono (rowc val L sp)) (h1 : a ≤ c) (h2 : c ≤ L.length) (hl : L.length < 4611686018427387904) :
    VCalls P f [dataV b L.length cap, .sc (.int .i64 a), .sc (.int .i64 c), cmpV g] (st.put b (rowc val L sp)) fun _ s => ∃ M, Mix a c L M ∧ Srt lt a c M ∧ s = st.put b (rowc val M sp) := by
  refine vcalls_enter hf (Nat.le_of_ble_eq_true rfl) fun hwf hok => ?_
  show Run _ (CIns).body (.fin (finQ (CIns).res _)) _ _
  unfold CIns
  simp (config := {maxSteps := 3000000}) only [go_sem, Int.reduceNeg, ↓reduceIte, dataV, cmpV]
  repeat (apply And.intro; focus (first | omega | (simp; done)))
  refine run_loop [8, 9, 12, 13, 14, 15, 16, 17, 18, 19, 20, 21, 22, 23, 24, 25, 26, 27, 28, 29, 30, 31, 32, 33, 34, 35, 36, 37, 38, 39, 40, 41, 42, 43, 44, 45, 46, 47, 48, 49, 50, 51, 52] (fun B s => ∃ (i : Nat) (M : List α), (a + 1 ≤ i ∧ (i ≤ c ∨ i = a + 1)) ∧ B 8 = .sc (.int .i64 i) ∧ Mix a c L M ∧ Srt lt a i M ∧ s = st.put b (rowc val M sp)) (fun B _ => c - vnat (B 8)) rfl ?_ ?_
  · simp (config := {maxSteps := 3000000}) only [go_sem, ↓reduceIte]
    exact ⟨a + 1, L, by omega, by simp, .refl, Srt.one (by omega), rfl⟩
  · rintro B s ⟨i, M, hi, h6, hM, hS, rfl⟩
    by_cases c1 : i < c
    · have hlen := hM.len
      simp (config := {maxSteps := 3000000}) only [go_sem, Nat.reduceEqDiff, ↓reduceIte, Nat.reduceBEq, h6, decide_eq_true (show (i : Int) < (c : Int) by omega)]
      refine run_loop [9, 18, 19, 20, 21, 22, 23, 24, 25, 26, 27, 28, 29, 30, 31, 32, 33, 34, 35, 36, 37, 38, 39, 40, 41, 42, 43, 44, 45, 46, 47, 48, 49, 50, 51, 52] (fun C s' => ∃ (j : Nat) (M' : List α), (a ≤ j ∧ j ≤ i) ∧ C 9 = .sc (.int .i64 j) ∧ Mix a c L M' ∧ Ins lt a i j M' ∧ s' = st.put b (rowc val M' sp)) (fun C _ => vnat (C 9)) rfl ?_ ?_
      · simp (config := {maxSteps := 3000000}) only [go_sem, ↓reduceIte]
        exact ⟨i, M, by omega, rfl, hM, Ins.start hS, rfl⟩
      · rintro C s' ⟨j, M', hj, h7, hM', hI, rfl⟩
        have hlen' := hM'.len
        have hmo' := rowc_mono hmo hlen'
        by_cases c2 : a < j
        · have e1 : ((j : Int) - 1).toNat = j - 1 := by omega
          simp (config := {maxSteps := 3000000}) only [go_sem, Nat.reduceEqDiff, Int.reduceNeg, ↓reduceIte, reduceCtorEq, Nat.reduceBEq, h7, decide_eq_true (show (a : Int) < (j : Int) by omega), e1, rowc_get (show j < M'.length by omega), rowc_get (show j - 1 < M'.length by omega), rowc_len, rowc_mono hmo hlen', E.call, List.map_nil]
          repeat (apply And.intro; focus (first | omega | (simp; done)))
          refine Cal.mk (E.less _ _ _) ?_
          rintro _ _ ⟨z1, hz1, rfl, rfl⟩ -
          simp (config := {maxSteps := 3000000}) only [go_sem, Nat.reduceEqDiff, ↓reduceIte, hz1]
          cases c3 : lt M'[j]! M'[j - 1]!
          · simp (config := {maxSteps := 3000000}) only [go_sem, Nat.reduceEqDiff, Int.reduceNeg, ↓reduceIte, Nat.reduceBEq, h6]
            repeat (apply And.intro; focus (first | omega | (simp; done)))
            exact ⟨⟨i + 1, M', by omega, by simp, hM', hI.done E.ord (by omega) (.inr ⟨c2, c3⟩), rfl⟩, by omega⟩
          · have hs1 := rowc_set (val := val) (L := M') (sp := sp) (i := j) (y := M'[j - 1]!) (by omega)
            have hs2 := rowc_set (val := val) (L := M'.set j M'[j - 1]!) (sp := sp) (i := j - 1) (y := M'[j]!) (by simp; omega)
            have hmo2 : mono (rowc val (M'.set j M'[j - 1]!) sp) := rowc_mono hmo (by simp [hlen'])
            have hex := hM'.exch (i := j) (j := j - 1) (by omega) (by omega) (by omega) (by omega) h2
            have hst := hI.step E.ord c2 (by omega) (by omega) c3
            simp (config := {maxSteps := 3000000}) only [go_sem, Nat.reduceEqDiff, Nat.reduceAdd, Nat.reduceLT, Int.reduceNeg, ↓reduceIte, reduceCtorEq, Nat.reduceBEq, h7, e1, rowc_get (show j < M'.length by omega), rowc_get (show j - 1 < M'.length by omega), rowc_len, hmo', hmo2, hs1, hs2, List.length_set, rowc_len]
            repeat (apply And.intro; focus (first | omega | (simp; done)))
            exact ⟨⟨j - 1, exch M' j (j - 1), by omega, by rw [show ((j : Int) - 1) = ((j - 1 : Nat) : Int) by omega], hex, hst, rfl⟩, by omega⟩
        · have ej : j = a := by omega
          subst ej
          simp (config := {maxSteps := 3000000}) only [go_sem, Nat.reduceEqDiff, Int.reduceNeg, ↓reduceIte, Nat.reduceBEq, h7, h6]
          repeat (apply And.intro; focus (first | omega | (simp; done)))
          exact ⟨⟨i + 1, M', by omega, by simp, hM', hI.done E.ord (by omega) (.inl rfl), rfl⟩, by omega⟩
    · simp (config := {maxSteps := 3000000}) only [go_sem, Nat.reduceEqDiff, ↓reduceIte, Nat.reduceBEq, h6, decide_eq_false (show ¬ (i : Int) < (c : Int) by omega)]
      exact ⟨_, _, Wk.refl _, weak_re hwf, M, hM, by
        by_cases e : i = c
        · subst e; exact hS
        · exact Srt.one (by omega), rfl⟩
end
end
section
open Go

section
variable {α : Type} [Inhabited α] {val : α → V × V} {L M : List α} {sp : List V}
/-- What an exchange wants to know. -/
theorem swapC (hmo : mono (rowc val L sp)) (hl : M.length = L.length) {i j : Nat} (hi : i < M.length) (hj : j < M.length) :
    List.take 2 (List.drop (i * 2) (rowc val M sp)) = [(val M[i]!).1, (val M[i]!).2] ∧ List.take 2 (List.drop (j * 2) (rowc val M sp)) = [(val M[j]!).1, (val M[j]!).2] ∧ List.take (i * 2) (rowc val M sp) ++ [(val M[j]!).1, (val M[j]!).2] ++ List.drop (i * 2 + 2) (rowc val M sp) = rowc val (M.set i M[j]!) sp ∧
    List.take (j * 2) (rowc val (M.set i M[j]!) sp) ++ [(val M[i]!).1, (val M[i]!).2] ++ List.drop (j * 2 + 2) (rowc val (M.set i M[j]!) sp) = rowc val (exch M i j) sp ∧ mono (rowc val M sp) ∧ mono (rowc val (M.set i M[j]!) sp) :=
  ⟨rowc_get hi, rowc_get hj, rowc_set hi, rowc_set (by simpa using hj), rowc_mono hmo hl, rowc_mono hmo (by simpa using hl)⟩
end
section
variable {P : Program} {α : Type} [Inhabited α] {val : α → V × V} {lt : α → α → Bool} {g f fsift : FuncId} {st : St} {b cap a c : Nat} {L : List α} {sp : List V}
set_option maxRecDepth 100000 in
set_option maxHeartbeats 4000000 in
theorem csift_v (hf : cFun P f = some (CSift)) (E : EltC P g val lt) (hmo : mono (rowc val L sp)) {lo hi fi : Nat} (h1 : fi + hi ≤ L.length) (hl : L.length < 4611686018427387904) (hlo : lo ≤ hi) (hH : Heap lt fi (lo + 1) hi L) :
    VCalls P f [dataV b L.length cap, .sc (.int .i64 lo), .sc (.int .i64 hi), .sc (.int .i64 fi), cmpV g] (st.put b (rowc val L sp)) fun _ s => ∃ M, Mix fi (fi + hi) L M ∧ Heap lt fi lo hi M ∧ s = st.put b (rowc val M sp) := by
  refine vcalls_enter hf (Nat.le_of_ble_eq_true rfl) fun hwf hok => ?_
  show Run _ (CSift).body (.fin (finQ (CSift).res _)) _ _
  unfold CSift
  simp (config := {maxSteps := 3000000}) only [go_sem, ↓reduceIte, dataV, cmpV]
  refine run_loop [10, 11, 13, 14, 15, 16, 17, 18, 19, 20, 21, 22, 23, 24, 25, 26, 27, 28, 29, 30, 31, 32, 33, 34, 35, 36, 37, 38, 39, 40, 41, 42, 43, 44, 45, 46, 47, 48, 49, 50, 51, 52, 53, 54, 55, 56, 57, 58, 59, 60, 61, 62, 63, 64, 65, 66, 67, 68, 69, 70, 71, 72, 73, 74, 75, 76, 77, 78, 79, 80, 81] (fun B s => ∃ (r : Nat) (M : List α), lo ≤ r ∧ r ≤ hi ∧ B 10 = .sc (.int .i64 r) ∧ Mix fi (fi + hi) L M ∧ Sift lt fi lo hi r M ∧ s = st.put b (rowc val M sp)) (fun B _ => hi - vnat (B 10)) rfl ?_ ?_
  · simp (config := {maxSteps := 3000000}) only [go_sem, ↓reduceIte]
    exact ⟨lo, L, by omega, hlo, rfl, .refl, Sift.start hH, rfl⟩
  · rintro B s ⟨r, M, hr, hrh, h8, hM, hS, rfl⟩
    have hlen := hM.len
    by_cases c1 : hi ≤ 2 * r + 1
    · simp (config := {maxSteps := 3000000}) only [go_sem, Nat.reduceEqDiff, Int.reduceNeg, ↓reduceIte, reduceCtorEq, Nat.reduceBEq, h8, decide_eq_true (show (hi : Int) ≤ 2 * (r : Int) + 1 by omega)]
      repeat (apply And.intro; focus (first | omega | (simp; done)))
      exact ⟨_, _, Wk.refl _, weak_re hwf, M, hM, hS.done (fun ch hk hc => by rcases hk with h | h <;> omega), rfl⟩
    have i1 : ((fi : Int) + (2 * (r : Int) + 1)).toNat = fi + (2 * r + 1) := by omega
    have i2 : ((fi : Int) + (2 * (r : Int) + 1) + 1).toNat = fi + (2 * r + 2) := by omega
    have i3 : ((fi : Int) + (r : Int)).toNat = fi + r := by omega
    have i4 : ((fi : Int) + (2 * (r : Int) + 1 + 1)).toNat = fi + (2 * r + 2) := by omega
    by_cases c2 : 2 * r + 1 + 1 < hi
    · simp (config := {maxSteps := 3000000}) only [go_sem, Nat.reduceEqDiff, Int.reduceNeg, ↓reduceIte, reduceCtorEq, Nat.reduceBEq, h8, decide_eq_false (show ¬ (hi : Int) ≤ 2 * (r : Int) + 1 by omega), decide_eq_true (show 2 * (r : Int) + 1 + 1 < (hi : Int) by omega), i1, i2, rowc_get (show fi + (2 * r + 1) < M.length by omega), rowc_get (show fi + (2 * r + 2) < M.length by omega), rowc_len, rowc_mono hmo hlen, E.call, List.map_nil]
      repeat (apply And.intro; focus (first | omega | (simp; done)))
      refine Cal.mk (E.less _ _ _) ?_
      rintro _ _ ⟨z1, hz1, rfl, rfl⟩ -
      simp (config := {maxSteps := 3000000}) only [go_sem, Nat.reduceEqDiff, ↓reduceIte, hz1]
      cases c3 : lt M[fi + (2 * r + 1)]! M[fi + (2 * r + 2)]!
      · have hbig : ∀ k, kid r k → k < hi → lt M[fi + (2 * r + 1)]! M[fi + k]! = false := fun k hk _ => by
          rcases hk with rfl | rfl
          · exact E.ord.irr _
          · exact c3
        simp (config := {maxSteps := 3000000}) only [go_sem, Nat.reduceEqDiff, Int.reduceNeg, ↓reduceIte, reduceCtorEq, Nat.reduceBEq, h8, i1, i3, rowc_get (show fi + (2 * r + 1) < M.length by omega), rowc_get (show fi + r < M.length by omega), rowc_len, rowc_mono hmo hlen, E.call, List.map_nil]
        repeat (apply And.intro; focus (first | omega | (simp; done)))
        refine Cal.mk (E.less _ _ _) ?_
        rintro _ _ ⟨z2, hz2, rfl, rfl⟩ -
        simp (config := {maxSteps := 3000000}) only [go_sem, ↓reduceIte, hz2]
        cases c4 : lt M[fi + r]! M[fi + (2 * r + 1)]!
        · simp (config := {maxSteps := 3000000}) only [go_sem]
          exact ⟨_, _, Wk.refl _, weak_re hwf, M, hM, hS.done (fun k hk hkh => E.ord.trans (hbig k hk hkh) c4), rfl⟩
        · obtain ⟨g1, g2, s1, s2, m1, m2⟩ := swapC hmo hlen (i := fi + r) (j := fi + (2 * r + 1)) (by omega) (by omega)
          have hex := hM.exch (i := fi + r) (j := fi + (2 * r + 1)) (by omega) (by omega) (by omega) (by omega) h1
          have hst := hS.step E.ord (ch := 2 * r + 1) (by unfold kid; omega) (by omega) hr (by omega) hbig c4
          simp (config := {maxSteps := 3000000}) only [go_sem, Nat.reduceEqDiff, Nat.reduceAdd, Nat.reduceLT, Int.reduceNeg, ↓reduceIte, reduceCtorEq, Nat.reduceBEq, h8, i1, i3, g1, g2, s1, s2, m1, m2, rowc_len, List.length_set]
          repeat (apply And.intro; focus (first | omega | (simp; done)))
          exact ⟨⟨2 * r + 1, _, by omega, by omega, by rw [show (2 * (r : Int) + 1) = ((2 * r + 1 : Nat) : Int) by omega], hex, hst, rfl⟩, by omega⟩
      · have hbig : ∀ k, kid r k → k < hi → lt M[fi + (2 * r + 2)]! M[fi + k]! = false := fun k hk _ => by
          rcases hk with rfl | rfl
          · exact E.ord.asymm c3
          · exact E.ord.irr _
        simp (config := {maxSteps := 3000000}) only [go_sem, Nat.reduceEqDiff, Int.reduceNeg, ↓reduceIte, reduceCtorEq, Nat.reduceBEq, h8, i4, i3, rowc_get (show fi + (2 * r + 2) < M.length by omega), rowc_get (show fi + r < M.length by omega), rowc_len, rowc_mono hmo hlen, E.call, List.map_nil]
        repeat (apply And.intro; focus (first | omega | (simp; done)))
        refine Cal.mk (E.less _ _ _) ?_
        rintro _ _ ⟨z3, hz3, rfl, rfl⟩ -
        simp (config := {maxSteps := 3000000}) only [go_sem, ↓reduceIte, hz3]
        cases c4 : lt M[fi + r]! M[fi + (2 * r + 2)]!
        · simp (config := {maxSteps := 3000000}) only [go_sem]
          exact ⟨_, _, Wk.refl _, weak_re hwf, M, hM, hS.done (fun k hk hkh => E.ord.trans (hbig k hk hkh) c4), rfl⟩
        · obtain ⟨g1, g2, s1, s2, m1, m2⟩ := swapC hmo hlen (i := fi + r) (j := fi + (2 * r + 2)) (by omega) (by omega)
          have hex := hM.exch (i := fi + r) (j := fi + (2 * r + 2)) (by omega) (by omega) (by omega) (by omega) h1
          have hst := hS.step E.ord (ch := 2 * r + 2) (by unfold kid; omega) (by omega) hr (by omega) hbig c4
          simp (config := {maxSteps := 3000000}) only [go_sem, Nat.reduceEqDiff, Nat.reduceAdd, Nat.reduceLT, Int.reduceNeg, ↓reduceIte, reduceCtorEq, Nat.reduceBEq, h8, i4, i3, g1, g2, s1, s2, m1, m2, rowc_len, List.length_set]
          repeat (apply And.intro; focus (first | omega | (simp; done)))
          exact ⟨⟨2 * r + 2, _, by omega, by omega, by rw [show (2 * (r : Int) + 1 + 1) = ((2 * r + 2 : Nat) : Int) by omega], hex, hst, rfl⟩, by omega⟩
    · have hbig : ∀ k, kid r k → k < hi → lt M[fi + (2 * r + 1)]! M[fi + k]! = false := fun k hk hkh => by
        rcases hk with rfl | rfl
        · exact E.ord.irr _
        · omega
      simp (config := {maxSteps := 3000000}) only [go_sem, Nat.reduceEqDiff, Int.reduceNeg, ↓reduceIte, reduceCtorEq, Nat.reduceBEq, h8, decide_eq_false (show ¬ (hi : Int) ≤ 2 * (r : Int) + 1 by omega), decide_eq_false (show ¬ 2 * (r : Int) + 1 + 1 < (hi : Int) by omega), i1, i3, rowc_get (show fi + (2 * r + 1) < M.length by omega), rowc_get (show fi + r < M.length by omega), rowc_len, rowc_mono hmo hlen, E.call, List.map_nil]
      repeat (apply And.intro; focus (first | omega | (simp; done)))
      refine Cal.mk (E.less _ _ _) ?_
      rintro _ _ ⟨z4, hz4, rfl, rfl⟩ -
      simp (config := {maxSteps := 3000000}) only [go_sem, ↓reduceIte, hz4]
      cases c4 : lt M[fi + r]! M[fi + (2 * r + 1)]!
      · simp (config := {maxSteps := 3000000}) only [go_sem]
        exact ⟨_, _, Wk.refl _, weak_re hwf, M, hM, hS.done (fun k hk hkh => E.ord.trans (hbig k hk hkh) c4), rfl⟩
      · obtain ⟨g1, g2, s1, s2, m1, m2⟩ := swapC hmo hlen (i := fi + r) (j := fi + (2 * r + 1)) (by omega) (by omega)
        have hex := hM.exch (i := fi + r) (j := fi + (2 * r + 1)) (by omega) (by omega) (by omega) (by omega) h1
        have hst := hS.step E.ord (ch := 2 * r + 1) (by unfold kid; omega) (by omega) hr (by omega) hbig c4
        simp (config := {maxSteps := 3000000}) only [go_sem, Nat.reduceEqDiff, Nat.reduceAdd, Nat.reduceLT, Int.reduceNeg, ↓reduceIte, reduceCtorEq, Nat.reduceBEq, h8, i1, i3, g1, g2, s1, s2, m1, m2, rowc_len, List.length_set]
        repeat (apply And.intro; focus (first | omega | (simp; done)))
        exact ⟨⟨2 * r + 1, _, by omega, by omega, by rw [show (2 * (r : Int) + 1) = ((2 * r + 1 : Nat) : Int) by omega], hex, hst, rfl⟩, by omega⟩
set_option maxRecDepth 100000 in
set_option maxHeartbeats 4000000 in
theorem crev_v (hf : cFun P f = some CRev) (hmo : mono (rowc val L sp)) (h1 : a < c) (h2 : c ≤ L.length) (hl : L.length < 4611686018427387904) :
    VCalls P f [dataV b L.length cap, .sc (.int .i64 a), .sc (.int .i64 c), cmpV g] (st.put b (rowc val L sp)) fun _ s => ∃ M, Mix a c L M ∧ s = st.put b (rowc val M sp) := by
  refine vcalls_enter hf (Nat.le_of_ble_eq_true rfl) fun hwf hok => ?_
  show Run _ (CRev).body (.fin (finQ (CRev).res _)) _ _
  unfold CRev
  simp (config := {maxSteps := 3000000}) only [go_sem, Nat.reduceEqDiff, Int.reduceNeg, ↓reduceIte, dataV, cmpV]
  repeat (apply And.intro; focus (first | omega | (simp; done)))
  refine run_loop [8, 9, 13, 14, 15, 16, 17, 18, 19, 20, 21, 22, 23, 24, 25, 26, 27, 28, 29, 30, 31, 32, 33] (fun B s => ∃ (i j : Nat) (M : List α), a ≤ i ∧ j < c ∧ i ≤ j + 1 ∧ B 8 = .sc (.int .i64 i) ∧ B 9 = .sc (.int .i64 j) ∧ Mix a c L M ∧ s = st.put b (rowc val M sp)) (fun B _ => vnat (B 9)) rfl ?_ ?_
  · simp (config := {maxSteps := 3000000}) only [go_sem, Nat.reduceEqDiff, ↓reduceIte]
    exact ⟨a, c - 1, L, by omega, by omega, by omega, rfl, by rw [show ((c : Int) - 1) = ((c - 1 : Nat) : Int) by omega], .refl, rfl⟩
  · rintro B s ⟨i, j, M, hi, hj, hij, h6, h7, hM, rfl⟩
    have hlen := hM.len
    by_cases c1 : i < j
    · obtain ⟨g1, g2, s1, s2, m1, m2⟩ := swapC hmo hlen (i := i) (j := j) (by omega) (by omega)
      have hex := hM.exch (i := i) (j := j) (by omega) (by omega) (by omega) (by omega) h2
      simp (config := {maxSteps := 3000000}) only [go_sem, Nat.reduceEqDiff, Nat.reduceAdd, Nat.reduceLT, Int.reduceNeg, ↓reduceIte, reduceCtorEq, Nat.reduceBEq, h6, h7, decide_eq_true (show (i : Int) < (j : Int) by omega), g1, g2, s1, s2, m1, m2, rowc_len, List.length_set]
      repeat (apply And.intro; focus (first | omega | (simp; done)))
      exact ⟨⟨i + 1, j - 1, _, by omega, by omega, by omega, by simp, by rw [show ((j : Int) - 1) = ((j - 1 : Nat) : Int) by omega], hex, rfl⟩, by omega⟩
    · simp (config := {maxSteps := 3000000}) only [go_sem, Nat.reduceEqDiff, ↓reduceIte, Nat.reduceBEq, h6, h7, decide_eq_false (show ¬ (i : Int) < (j : Int) by omega)]
      exact ⟨_, _, Wk.refl _, weak_re hwf, M, hM, rfl⟩
set_option maxRecDepth 100000 in
set_option maxHeartbeats 4000000 in
theorem cheap_v (hf : cFun P f = some (CHeap fsift)) (hfs : cFun P fsift = some (CSift)) (E : EltC P g val lt) (hmo : mono (rowc val L sp)) (h1 : a < c) (h2 : c ≤ L.length) (hl : L.length < 4611686018427387904) :
    VCalls P f [dataV b L.length cap, .sc (.int .i64 a), .sc (.int .i64 c), cmpV g] (st.put b (rowc val L sp)) fun _ s => ∃ M, Mix a c L M ∧ Srt lt a c M ∧ s = st.put b (rowc val M sp) := by
  have e0 : (c : Int) - (a : Int) = ((c - a : Nat) : Int) := by omega
  refine vcalls_enter hf (Nat.le_of_ble_eq_true rfl) fun hwf hok => ?_
  show Run _ (CHeap fsift).body (.fin (finQ (CHeap fsift).res _)) _ _
  unfold CHeap
  simp (config := {maxSteps := 3000000}) only [go_sem, Nat.reduceEqDiff, Int.reduceLT, Int.reduceNeg, ↓reduceIte, dataV, cmpV, e0]
  repeat (apply And.intro; focus (first | omega | (simp; done)))
  refine run_loop [11, 20, 21, 22, 23, 24, 25, 26, 27, 28, 29] (fun B s => ∃ (i : Int) (M : List α), -1 ≤ i ∧ i < ((c - a : Nat) : Int) ∧ B 11 = .sc (.int .i64 i) ∧ Mix a c L M ∧ Heap lt a (i + 1).toNat (c - a) M ∧ s = st.put b (rowc val M sp)) (fun B _ => match B 11 with | .sc (.int _ n) => (n + 1).toNat | _ => 0) rfl ?_ ?_
  · simp (config := {maxSteps := 3000000}) only [go_sem, Int.reduceNeg, ↓reduceIte]
    refine ⟨(((c - a : Nat) : Int) - 1) / 2, L, by omega, by omega, rfl, .refl, fun r k hr hk hkh => ?_, rfl⟩
    exfalso
    rcases hk with h | h <;> omega
  · rintro B s ⟨i, M, hi, hi2, h9, hM, hH, rfl⟩
    have hlen := hM.len
    by_cases c1 : 0 ≤ i
    · obtain ⟨n, rfl⟩ : ∃ n : Nat, i = n := ⟨i.toNat, by omega⟩
      simp (config := {maxSteps := 3000000}) only [go_sem, Nat.reduceEqDiff, Int.reduceNeg, ↓reduceIte, reduceCtorEq, Nat.reduceBEq, h9, decide_eq_true c1]
      have e1 : ((n : Int) + 1).toNat = n + 1 := by omega
      rw [e1] at hH
      have hmo' := rowc_mono hmo hlen
      have := csift_v (st := st) (b := b) (cap := cap) (sp := sp) hfs E hmo' (lo := n) (hi := c - a) (fi := a) (by omega) (by omega) (by omega) hH
      rw [hlen, dataV] at this
      refine Cal.mk this ?_
      rintro _ _ ⟨M2, k1, k2, rfl⟩ -
      have hM2 : Mix a c L M2 := hM.trans (k1.wide (Nat.le_refl _) (by omega))
      simp (config := {maxSteps := 3000000}) only [go_sem, Nat.reduceEqDiff, Int.reduceNeg, ↓reduceIte, Nat.reduceBEq, h9]
      repeat (apply And.intro; focus (first | omega | (simp; done)))
      exact ⟨⟨(n : Int) - 1, M2, by omega, by omega, rfl, hM2, by rw [show ((n : Int) - 1 + 1).toNat = n by omega]; exact k2, rfl⟩, by omega⟩
    · have ei : i = -1 := by omega
      subst ei
      have hH0 : Heap lt a 0 (c - a) M := hH
      simp (config := {maxSteps := 3000000}) only [go_sem, Nat.reduceEqDiff, Int.reduceToNat, Int.reduceLE, Int.reduceAdd, Int.reduceNeg, ↓reduceIte, Nat.reduceBEq, h9]
      repeat (apply And.intro; focus (first | omega | (simp; done)))
      refine run_loop [12, 32, 33, 34, 35, 36, 37, 38, 39, 40, 41, 42, 43, 44, 45, 46, 47, 48, 49, 50, 51, 52, 53, 54, 55, 56, 57, 58, 59] (fun B s => ∃ (i : Int) (M : List α), -1 ≤ i ∧ i < ((c - a : Nat) : Int) ∧ B 12 = .sc (.int .i64 i) ∧ Mix a c L M ∧ Heap lt a 0 (i + 1).toNat M ∧ Srt lt (a + (i + 1).toNat) c M ∧ (∀ p q, p < (i + 1).toNat → a + (i + 1).toNat ≤ q → q < c → lt M[q]! M[a + p]! = false) ∧ s = st.put b (rowc val M sp)) (fun B _ => match B 12 with | .sc (.int _ n) => (n + 1).toNat | _ => 0) rfl ?_ ?_
      · simp (config := {maxSteps := 3000000}) only [go_sem, Int.reduceNeg, ↓reduceIte]
        have e2 : (((c - a : Nat) : Int) - 1 + 1).toNat = c - a := by omega
        refine ⟨((c - a : Nat) : Int) - 1, M, by omega, by omega, rfl, hM, by rw [e2]; exact hH0, by rw [e2]; exact Srt.one (by omega), ?_, rfl⟩
        rw [e2]
        intro p q h3 h4 h5
        omega
      · clear hM hH hH0 hlen M h9
        rintro C s ⟨i, M, hi, hi2, h10, hM, hH, hS, hB, rfl⟩
        have hlen := hM.len
        by_cases c2 : 0 ≤ i
        · obtain ⟨n, rfl⟩ : ∃ n : Nat, i = n := ⟨i.toNat, by omega⟩
          have e1 : ((n : Int) + 1).toNat = n + 1 := by omega
          rw [e1] at hH hS hB
          have e3 : ((a : Int) + (n : Int)).toNat = a + n := by omega
          obtain ⟨g1, g2, s1, s2, m1, m2⟩ := swapC hmo hlen (i := a) (j := a + n) (by omega) (by omega)
          have hex := hM.exch (i := a) (j := a + n) (by omega) (by omega) (by omega) (by omega) h2
          have hlen2 := hex.len
          simp (config := {maxSteps := 3000000}) only [go_sem, Nat.reduceEqDiff, Nat.reduceAdd, Nat.reduceLT, Int.reduceNeg, ↓reduceIte, reduceCtorEq, Nat.reduceBEq, h10, decide_eq_true c2, e3, g1, g2, s1, s2, m1, m2, rowc_len, List.length_set]
          repeat (apply And.intro; focus (first | omega | (simp; done)))
          have gx := fun k => exch_get (L := M) (i := a) (j := a + n) (by omega) (by omega) k
          have hH2 : Heap lt a 1 n (exch M a (a + n)) := fun r k hr hk hkn => by
            have hrk : r < k := by rcases hk with h | h <;> omega
            rw [gx, gx, if_neg (by omega), if_neg (by omega), if_neg (by omega), if_neg (by omega)]
            exact hH r k (by omega) hk (by omega)
          have htop := hH.top E.ord
          have := csift_v (st := st) (b := b) (cap := cap) (sp := sp) hfs E (rowc_mono hmo hlen2) (lo := 0) (hi := n) (fi := a) (by omega) (by omega) (by omega) hH2
          rw [hlen2, dataV] at this
          refine Cal.mk this ?_
          rintro _ _ ⟨M2, k1, k2, rfl⟩ -
          have hM2 : Mix a c L M2 := hex.trans (k1.wide (Nat.le_refl _) (by omega))
          have hbig : ∀ q, a + n ≤ q → q < c → ∀ p, a ≤ p → p < a + n → lt M2[q]! M2[p]! = false := fun q h3 h4 p h5 h6 => by
            rw [k1.out q (by omega)]
            refine k1.all (by omega) (Q := fun v => lt (exch M a (a + n))[q]! v = false) (fun p h7 h8 => ?_) p h5 h6
            rw [gx q, gx p, if_neg (show ¬ p = a + n by omega)]
            by_cases eq : q = a + n
            · rw [if_pos eq]
              by_cases ep : p = a
              · rw [if_pos ep]
                exact htop n (by omega)
              · rw [if_neg ep]
                have := htop (p - a) (by omega)
                rwa [show a + (p - a) = p by omega] at this
            · rw [if_neg eq, if_neg (by omega)]
              by_cases ep : p = a
              · rw [if_pos ep]; exact hB n q (by omega) (by omega) h4
              · rw [if_neg ep]
                have := hB (p - a) q (by omega) (by omega) h4
                rwa [show a + (p - a) = p by omega] at this
          have hS2 : Srt lt (a + n) c M2 := fun p q h3 h4 h5 => by
            rw [k1.out p (by omega), k1.out q (by omega), gx p, gx q, if_neg (show ¬ q = a + n by omega), if_neg (show ¬ q = a by omega)]
            by_cases ep : p = a + n
            · rw [if_pos ep]
              have := hB 0 q (by omega) (by omega) h5
              rwa [Nat.add_zero] at this
            · rw [if_neg ep, if_neg (by omega)]; exact hS p q (by omega) h4 h5
          have e4 : ((n : Int) - 1 + 1).toNat = n := by omega
          simp (config := {maxSteps := 3000000}) only [go_sem, Nat.reduceEqDiff, Int.reduceNeg, ↓reduceIte, Nat.reduceBEq, h10]
          repeat (apply And.intro; focus (first | omega | (simp; done)))
          refine ⟨⟨(n : Int) - 1, M2, by omega, by omega, rfl, hM2, by rw [e4]; exact k2, by rw [e4]; exact hS2, ?_, rfl⟩, by omega⟩
          rw [e4]
          exact fun p q h3 h4 h5 => hbig q h4 h5 (a + p) (by omega) (by omega)
        · have ei : i = -1 := by omega
          subst ei
          simp (config := {maxSteps := 3000000}) only [go_sem, Int.reduceToNat, Int.reduceLE, Int.reduceAdd, Int.reduceNeg, ↓reduceIte, Nat.reduceBEq, h10]
          exact ⟨_, _, Wk.refl _, weak_re hwf, M, hM, hS, rfl⟩
end
end
section

section
variable {α : Type} [Inhabited α]
theorem by_not {x y : Bool} (h : x = y) : (!x) = !y := by rw [h]
theorem not_by {x y : Bool} (h : (!x) = y) : x = !y := by rw [← h, Bool.not_not]
/-- Parted so far: left of i what passes with the element at a, right of j what does not. -/
structure Part (q : α → α → Bool) (a c i j : Nat) (M : List α) : Prop where
  ai : a + 1 ≤ i
  ij : i ≤ j + 1
  jc : j < c
  lo : ∀ k, a < k → k < i → q M[a]! M[k]! = true
  hi : ∀ k, j < k → k < c → q M[a]! M[k]! = false
variable {q : α → α → Bool} {a c i j : Nat} {M : List α}
theorem Part.start (h : a < c) : Part q a c (a + 1) (c - 1) M := ⟨Nat.le_refl _, by omega, by omega, fun k h1 h2 => by omega, fun k h1 h2 => by omega⟩
theorem Part.up (h : Part q a c i j M) (hij : i ≤ j) (hq : q M[a]! M[i]! = true) : Part q a c (i + 1) j M := by
  refine ⟨by have := h.ai; omega, by omega, h.jc, fun k h1 h2 => ?_, h.hi⟩
  by_cases e : k = i
  · rw [e]; exact hq
  · exact h.lo k h1 (by omega)
theorem Part.down (h : Part q a c i j M) (hij : i ≤ j) (hq : q M[a]! M[j]! = false) : Part q a c i (j - 1) M := by
  refine ⟨h.ai, by have := h.ai; omega, by have := h.jc; omega, h.lo, fun k h1 h2 => ?_⟩
  by_cases e : k = j
  · rw [e]; exact hq
  · exact h.hi k (by omega) h2
theorem Part.lt (_ : Part q a c i j M) (hij : i ≤ j) (h1 : q M[a]! M[i]! = false) (h2 : q M[a]! M[j]! = true) : i < j := by
  rcases Nat.lt_or_ge i j with h | h
  · exact h
  · have e : i = j := by omega
    rw [e, h2] at h1; cases h1
theorem Part.swap (h : Part q a c i j M) (hij : i ≤ j) (h1 : q M[a]! M[i]! = false) (h2 : q M[a]! M[j]! = true) (hc : c ≤ M.length) : Part q a c (i + 1) (j - 1) (exch M i j) := by
  have hl := h.lt hij h1 h2
  have h3 := h.ai
  have h4 := h.jc
  have g := fun k => exch_get (L := M) (i := i) (j := j) (by omega) (by omega) k
  refine ⟨by omega, by omega, by omega, fun k k1 k2 => ?_, fun k k1 k2 => ?_⟩
  · rw [g a, g k, if_neg (by omega), if_neg (by omega), if_neg (show ¬ k = j by omega)]
    by_cases e : k = i
    · rw [if_pos e]; exact h2
    · rw [if_neg e]; exact h.lo k k1 (by omega)
  · rw [g a, g k, if_neg (by omega), if_neg (by omega), if_neg (show ¬ k = i by omega)]
    by_cases e : k = j
    · rw [if_pos e]; exact h1
    · rw [if_neg e]; exact h.hi k (by omega) k2
theorem Part.head (h : Part q a c i j M) (hij : i ≤ j) (hc : c ≤ M.length) : (exch M i j)[a]! = M[a]! := by
  have h3 := h.ai
  have h4 := h.jc
  rw [exch_get (by omega) (by omega), if_neg (by omega), if_neg (by omega)]
variable {lt : α → α → Bool}
/-- The pivot in its place. -/
theorem Part.mid (O : Ord' lt) (h : Part (fun p x => lt x p) a c i j M) (hij : ¬ i ≤ j) (hc : c ≤ M.length) :
    (∀ k, a ≤ k → k < j → lt (exch M j a)[j]! (exch M j a)[k]! = false) ∧ (∀ k, j < k → k < c → lt (exch M j a)[k]! (exch M j a)[j]! = false) := by
  have h1 := h.ai
  have h2 := h.ij
  have h3 := h.jc
  have g := fun k => exch_get (L := M) (i := j) (j := a) (by omega) (by omega) k
  have gj : (exch M j a)[j]! = M[a]! := by
    rw [g j]
    by_cases e : j = a
    · rw [if_pos e, e]
    · rw [if_neg e, if_pos rfl]
  refine ⟨fun k k1 k2 => ?_, fun k k1 k2 => ?_⟩
  · rw [gj, g k]
    by_cases e : k = a
    · rw [if_pos e]; exact O.asymm (h.lo j (by omega) (by omega))
    · rw [if_neg e, if_neg (by omega)]; exact O.asymm (h.lo k (by omega) (by omega))
  · rw [gj, g k, if_neg (by omega), if_neg (by omega)]
    exact h.hi k k1 k2
theorem Srt.next {a i : Nat} {M : List α} (O : Ord' lt) (h : Srt lt a i M) (ha : a + 1 ≤ i) (h1 : lt M[i]! M[i - 1]! = false) : Srt lt a (i + 1) M := fun p q h2 h3 h4 => by
  by_cases e : q = i
  · subst e
    by_cases e2 : p = q - 1
    · rw [e2]; exact h1
    · exact O.trans (h p (q - 1) h2 (by omega) (by omega)) h1
  · exact h p q h2 h3 (by omega)
theorem Srt.keep {a i : Nat} {M N : List α} (h : Srt lt a i M) (he : ∀ k, a ≤ k → k < i → N[k]! = M[k]!) : Srt lt a i N := fun p q h2 h3 h4 => by
  rw [he p h2 (by omega), he q (by omega) h4]; exact h p q h2 h3 h4
theorem LB.part {x y m : Nat} {L : List α} (h : LB lt x y L) (hm : m ≤ y) : LB lt x m L := fun h0 k h1 h2 => h h0 k h1 (by omega)
theorem LB.next {y m : Nat} {L : List α} (h2 : ∀ k, m < k → k < y → lt L[k]! L[m]! = false) : LB lt (m + 1) y L := fun _ k h3 h4 => h2 k (by omega) h4
theorem Fence.fin {a c x y : Nat} {L M N : List α} (h : Fence lt a c x y M) (hM : Mix a c L M) (hax : a ≤ x) (hyc : y ≤ c) (hc : c ≤ L.length) (k1 : Mix x y M N) (k2 : Srt lt x y N) : Mix a c L N ∧ Srt lt a c N :=
  ⟨hM.trans (k1.wide hax hyc), (h.mix k1 hax hyc (by rw [hM.len]; exact hc)).done k2⟩
theorem Fence.goL (O : Ord' lt) {a c x y m : Nat} {M N : List α} (h : Fence lt a c x y M) (hax : a ≤ x) (hyc : y ≤ c) (hxm : x ≤ m) (hmy : m < y) (hc : c ≤ M.length) (h1 : ∀ k, x ≤ k → k < m → lt M[m]! M[k]! = false) (h2 : ∀ k, m < k → k < y → lt M[k]! M[m]! = false)
    (k1 : Mix x m M N) (k2 : Srt lt x m N) : Fence lt a c (m + 1) y N := by
  have hF := h.mix (k1.wide (Nat.le_refl _) (by omega)) hax hyc hc
  refine hF.left O hax hyc hxm hmy (fun k q1 q2 => ?_) (fun k q1 q2 => ?_) k2
  · rw [k1.out m (by omega)]
    exact k1.all (by omega) (Q := fun v => lt M[m]! v = false) h1 k q1 q2
  · rw [k1.out m (by omega), k1.out k (by omega)]
    exact h2 k q1 q2
theorem Fence.goR (O : Ord' lt) {a c x y m : Nat} {M N : List α} (h : Fence lt a c x y M) (hax : a ≤ x) (hyc : y ≤ c) (hxm : x ≤ m) (hmy : m < y) (hc : c ≤ M.length) (h1 : ∀ k, x ≤ k → k < m → lt M[m]! M[k]! = false) (h2 : ∀ k, m < k → k < y → lt M[k]! M[m]! = false)
    (k1 : Mix (m + 1) y M N) (k2 : Srt lt (m + 1) y N) : Fence lt a c x m N := by
  have hF := h.mix (k1.wide (by omega) (Nat.le_refl _)) hax hyc hc
  refine hF.right O hax hyc hxm hmy (fun k q1 q2 => ?_) (fun k q1 q2 => ?_) k2
  · rw [k1.out m (by omega), k1.out k (by omega)]
    exact h1 k q1 q2
  · rw [k1.out m (by omega)]
    exact k1.all (by omega) (Q := fun v => lt v M[m]! = false) (fun k q1 q2 => h2 k (by omega) q2) k (by omega) q2
theorem Fence.goE (O : Ord' lt) {a c x y m pv : Nat} {M N : List α} (h : Fence lt a c x y M) (hLB : LB lt x y M) (hx : 0 < x) (hpv : lt M[x - 1]! M[pv]! = false) (hax : a ≤ x) (hyc : y ≤ c) (hxm : x < m) (hmy : m ≤ y) (hc : c ≤ M.length) (k1 : Mix x y M N)
    (h1 : ∀ k, x ≤ k → k < m → lt M[pv]! N[k]! = false) : Fence lt a c m y N := by
  have hF := h.mix k1 hax hyc hc
  have hall : ∀ k, x ≤ k → k < y → lt N[k]! M[pv]! = false := k1.all (by omega) (Q := fun v => lt v M[pv]! = false) fun k q1 q2 => O.trans hpv (hLB hx k q1 q2)
  refine hF.least hax hyc (by omega) hmy fun k j q1 q2 q3 q4 => O.trans (h1 k q1 q2) (hall j q3 q4)
end
end
section
open Go

section
variable {P : Program} {α : Type} [Inhabited α] {val : α → V × V} {lt : α → α → Bool} {g f fsift : FuncId} {st : St} {b cap a c : Nat} {L : List α} {sp : List V}
set_option maxRecDepth 100000 in
set_option maxHeartbeats 16000000 in
theorem csplit_v (hf : cFun P f = some (CSplit)) (E : EltC P g val lt) (hmo : mono (rowc val L sp)) {p : Nat} (h1 : a ≤ p) (h3 : p < c) (h2 : c ≤ L.length) (hl : L.length < 4611686018427387904) :
    VCalls P f [dataV b L.length cap, .sc (.int .i64 a), .sc (.int .i64 c), .sc (.int .i64 p), cmpV g] (st.put b (rowc val L sp)) fun r s => ∃ (m : Nat) (B : Bool) (M : List α), a ≤ m ∧ m < c ∧ Mix a c L M ∧ (∀ k, a ≤ k → k < m → lt M[m]! M[k]! = false) ∧ (∀ k, m < k → k < c → lt M[k]! M[m]! = false) ∧ r = .tup [.sc (.int .i64 m), .sc (.bool B)] ∧ s = st.put b (rowc val M sp) := by
  refine vcalls_enter hf (Nat.le_of_ble_eq_true rfl) fun hwf hok => ?_
  show Run _ (CSplit).body (.fin (finQ (CSplit).res _)) _ _
  unfold CSplit
  obtain ⟨g1, g2, s1, s2, m1, m2⟩ := swapC hmo (rfl : L.length = L.length) (i := a) (j := p) (by omega) (by omega)
  have hM := (Mix.refl (a := a) (b := c) (L := L)).exch (i := a) (j := p) (by omega) (by omega) (by omega) (by omega) h2
  simp (config := {maxSteps := 3000000}) only [go_sem, Nat.reduceEqDiff, Nat.reduceAdd, Nat.reduceLT, Int.reduceNeg, ↓reduceIte, reduceCtorEq, dataV, cmpV, g1, g2, s1, s2, m1, m2, rowc_len, List.length_set]
  repeat (apply And.intro; focus (first | omega | (simp; done)))
  obtain ⟨M, eM⟩ : ∃ M, M = exch L a p := ⟨_, rfl⟩
  rw [← eM] at hM ⊢
  have hlen := hM.len
  have hP : Part (fun p x => lt x p) a c (a + 1) (c - 1) M := Part.start (by omega)
  have h10 : ((a : Int) + 1) = ((a + 1 : Nat) : Int) := by simp
  have h11 : ((c : Int) - 1) = ((c - 1 : Nat) : Int) := by omega
  rw [h10, h11]
  clear g1 g2 s1 s2 m1 m2 eM
  have h10 : True := trivial
  have h11 : True := trivial
  generalize a + 1 = i at hP ⊢
  generalize c - 1 = j at hP ⊢
  obtain ⟨i0, ei0⟩ : ∃ i0, i0 = i := ⟨_, rfl⟩
  obtain ⟨j0, ej0⟩ : ∃ j0, j0 = j := ⟨_, rfl⟩
  have ki := Nat.le_of_eq ei0
  have kj := Nat.le_of_eq ej0.symm
  have k10 := h10
  have k11 := h11
  refine run_loop [12, 32, 33, 34, 35, 36, 37, 38, 39, 40, 41, 42, 43, 44, 45, 46, 47, 48, 49] (fun C s' => ∃ (i : Nat), C 12 = .sc (.int .i64 i) ∧ i0 ≤ i ∧ Part (fun p x => lt x p) a c i j M ∧ s' = st.put b (rowc val M sp)) (fun C _ => j + 1 - vnat (C 12)) rfl ?_ ?_
  · simp (config := {maxSteps := 3000000}) only [go_sem, Nat.reduceEqDiff, ↓reduceIte]
    exact ⟨i, rfl, ki, hP⟩
  · rintro C s' ⟨i, h10, ki, hP, rfl⟩
    have ai := hP.ai
    have ij := hP.ij
    have jc := hP.jc
    by_cases ci : i ≤ j
    · simp (config := {maxSteps := 3000000}) only [go_sem, Nat.reduceEqDiff, ↓reduceIte, reduceCtorEq, Nat.reduceBEq, h10, decide_eq_true (show (i : Int) ≤ (j : Int) by omega), rowc_get (show i < M.length by omega), rowc_get (show a < M.length by omega), rowc_len, rowc_mono hmo hlen, E.call, List.map_nil]
      repeat (apply And.intro; focus (first | omega | (simp; done)))
      refine Cal.mk (E.less _ _ _) ?_
      rintro _ _ ⟨z1, hz1, rfl, rfl⟩ -
      simp (config := {maxSteps := 3000000}) only [go_sem, Nat.reduceEqDiff, ↓reduceIte, hz1]
      cases cq : lt M[i]! M[a]!
      · simp (config := {maxSteps := 3000000}) only [go_sem, ↓reduceIte]
        repeat (apply And.intro; focus (first | omega | (simp; done)))
        refine run_loop [13, 50, 51, 52, 53, 54, 55, 56, 57, 58, 59, 60, 61, 62, 63, 64, 65, 66, 67, 68] (fun D s' => ∃ (j : Nat), D 13 = .sc (.int .i64 j) ∧ j ≤ j0 ∧ Part (fun p x => lt x p) a c i j M ∧ s' = st.put b (rowc val M sp)) (fun D _ => vnat (D 13)) rfl ?_ ?_
        · simp (config := {maxSteps := 3000000}) only [go_sem, Nat.reduceEqDiff, ↓reduceIte, Nat.reduceBEq]
          exact ⟨j, rfl, kj, hP⟩
        · rintro D s' ⟨j, h11, kj, hP, rfl⟩
          have ij := hP.ij
          have jc := hP.jc
          by_cases cj : i ≤ j
          · simp (config := {maxSteps := 3000000}) only [go_sem, Nat.reduceEqDiff, ↓reduceIte, reduceCtorEq, Nat.reduceBEq, h10, h11, decide_eq_true (show (i : Int) ≤ (j : Int) by omega), rowc_get (show j < M.length by omega), rowc_get (show a < M.length by omega), rowc_len, rowc_mono hmo hlen, E.call, List.map_nil]
            repeat (apply And.intro; focus (first | omega | (simp; done)))
            refine Cal.mk (E.less _ _ _) ?_
            rintro _ _ ⟨z2, hz2, rfl, rfl⟩ -
            simp (config := {maxSteps := 3000000}) only [go_sem, Nat.reduceEqDiff, ↓reduceIte, hz2]
            cases cr : lt M[j]! M[a]!
            · simp (config := {maxSteps := 3000000}) only [go_sem, Nat.reduceEqDiff, Int.reduceNeg, ↓reduceIte, Nat.reduceBEq, h11]
              repeat (apply And.intro; focus (first | omega | (simp; done)))
              exact ⟨⟨j - 1, by rw [show ((j : Int) - 1) = ((j - 1 : Nat) : Int) by omega], by omega, hP.down cj cr⟩, by omega⟩
            · obtain ⟨g1, g2, s1, s2, m1, m2⟩ := swapC hmo hlen (i := i) (j := j) (by omega) (by omega)
              have hex := hM.exch (i := i) (j := j) (by omega) (by omega) (by omega) (by omega) h2
              have hPs := hP.swap cj cq cr (by omega)
              have hlt := hP.lt cj cq cr
              have hhd := hP.head cj (by omega)
              simp (config := {maxSteps := 3000000}) only [go_sem, Nat.reduceEqDiff, Nat.reduceAdd, Nat.reduceLT, Int.reduceNeg, ↓reduceIte, reduceCtorEq, Nat.reduceBEq, h10, h11, decide_eq_false (show ¬ ((j : Int) < (i : Int)) by omega), g1, g2, s1, s2, m1, m2, rowc_len, List.length_set]
              repeat (apply And.intro; focus (first | omega | (simp; done)))
              refine run_loop [12, 13, 105, 106, 107, 108, 109, 110, 111, 112, 113, 114, 115, 116, 117, 118, 119, 120, 121, 122, 123, 124, 125, 126, 127, 128, 129, 130, 131, 132, 133, 134, 135, 136, 137, 138, 139, 140, 141, 142, 143, 144, 145, 146, 147, 148, 149, 150, 151, 152, 153, 154, 155, 156, 157, 158, 159, 160, 161, 162] (fun B s => ∃ (i j : Nat) (M : List α), B 12 = .sc (.int .i64 i) ∧ B 13 = .sc (.int .i64 j) ∧ Part (fun p x => lt x p) a c i j M ∧ Mix a c L M ∧ s = st.put b (rowc val M sp)) (fun B _ => vnat (B 13) + 1 - vnat (B 12)) rfl ?_ ?_
              · simp (config := {maxSteps := 3000000}) only [go_sem, Nat.reduceEqDiff, ↓reduceIte]
                exact ⟨i + 1, j - 1, _, by simp, by rw [show ((j : Int) - 1) = ((j - 1 : Nat) : Int) by omega], hPs, hex, rfl⟩
              · rintro G s ⟨i, j, M, h10, h11, hP, hM, rfl⟩
                have hlen := hM.len
                have ij0 := hP.ij
                simp (config := {maxSteps := 3000000}) only [go_sem, h10, h11]
                obtain ⟨i0, ei0⟩ : ∃ i0, i0 = i := ⟨_, rfl⟩
                obtain ⟨j0, ej0⟩ : ∃ j0, j0 = j := ⟨_, rfl⟩
                have ki := Nat.le_of_eq ei0
                have kj := Nat.le_of_eq ej0.symm
                have k10 := h10
                have k11 := h11
                refine run_loop [12, 105, 106, 107, 108, 109, 110, 111, 112, 113, 114, 115, 116, 117, 118, 119, 120, 121, 122] (fun C s' => ∃ (i : Nat), C 12 = .sc (.int .i64 i) ∧ i0 ≤ i ∧ Part (fun p x => lt x p) a c i j M ∧ s' = st.put b (rowc val M sp)) (fun C _ => j + 1 - vnat (C 12)) rfl ?_ ?_
                · simp (config := {maxSteps := 3000000}) only [go_sem, ↓reduceIte, Nat.reduceBEq, h10]
                  exact ⟨i, rfl, ki, hP⟩
                · rintro C s' ⟨i, h10, ki, hP, rfl⟩
                  have ai := hP.ai
                  have ij := hP.ij
                  have jc := hP.jc
                  by_cases ci : i ≤ j
                  · simp (config := {maxSteps := 3000000}) only [go_sem, Nat.reduceEqDiff, ↓reduceIte, reduceCtorEq, Nat.reduceBEq, h10, h11, decide_eq_true (show (i : Int) ≤ (j : Int) by omega), rowc_get (show i < M.length by omega), rowc_get (show a < M.length by omega), rowc_len, rowc_mono hmo hlen, E.call, List.map_nil]
                    repeat (apply And.intro; focus (first | omega | (simp; done)))
                    refine Cal.mk (E.less _ _ _) ?_
                    rintro _ _ ⟨z3, hz3, rfl, rfl⟩ -
                    simp (config := {maxSteps := 3000000}) only [go_sem, Nat.reduceEqDiff, ↓reduceIte, hz3]
                    cases cq : lt M[i]! M[a]!
                    · simp (config := {maxSteps := 3000000}) only [go_sem, ↓reduceIte]
                      repeat (apply And.intro; focus (first | omega | (simp; done)))
                      refine run_loop [13, 123, 124, 125, 126, 127, 128, 129, 130, 131, 132, 133, 134, 135, 136, 137, 138, 139, 140, 141] (fun D s' => ∃ (j : Nat), D 13 = .sc (.int .i64 j) ∧ j ≤ j0 ∧ Part (fun p x => lt x p) a c i j M ∧ s' = st.put b (rowc val M sp)) (fun D _ => vnat (D 13)) rfl ?_ ?_
                      · simp (config := {maxSteps := 3000000}) only [go_sem, Nat.reduceEqDiff, ↓reduceIte, Nat.reduceBEq, h11]
                        exact ⟨j, rfl, kj, hP⟩
                      · rintro D s' ⟨j, h11, kj, hP, rfl⟩
                        have ij := hP.ij
                        have jc := hP.jc
                        by_cases cj : i ≤ j
                        · simp (config := {maxSteps := 3000000}) only [go_sem, Nat.reduceEqDiff, ↓reduceIte, reduceCtorEq, Nat.reduceBEq, h10, h11, decide_eq_true (show (i : Int) ≤ (j : Int) by omega), rowc_get (show j < M.length by omega), rowc_get (show a < M.length by omega), rowc_len, rowc_mono hmo hlen, E.call, List.map_nil]
                          repeat (apply And.intro; focus (first | omega | (simp; done)))
                          refine Cal.mk (E.less _ _ _) ?_
                          rintro _ _ ⟨z4, hz4, rfl, rfl⟩ -
                          simp (config := {maxSteps := 3000000}) only [go_sem, Nat.reduceEqDiff, ↓reduceIte, hz4]
                          cases cr : lt M[j]! M[a]!
                          · simp (config := {maxSteps := 3000000}) only [go_sem, Nat.reduceEqDiff, Int.reduceNeg, ↓reduceIte, Nat.reduceBEq, h11]
                            repeat (apply And.intro; focus (first | omega | (simp; done)))
                            exact ⟨⟨j - 1, by rw [show ((j : Int) - 1) = ((j - 1 : Nat) : Int) by omega], by omega, hP.down cj cr⟩, by omega⟩
                          · obtain ⟨g1, g2, s1, s2, m1, m2⟩ := swapC hmo hlen (i := i) (j := j) (by omega) (by omega)
                            have hex := hM.exch (i := i) (j := j) (by omega) (by omega) (by omega) (by omega) h2
                            have hPs := hP.swap cj cq cr (by omega)
                            have hlt := hP.lt cj cq cr
                            have hhd := hP.head cj (by omega)
                            simp (config := {maxSteps := 3000000}) only [go_sem, Nat.reduceEqDiff, Nat.reduceAdd, Nat.reduceLT, Int.reduceNeg, ↓reduceIte, reduceCtorEq, Nat.reduceBEq, h10, h11, decide_eq_false (show ¬ ((j : Int) < (i : Int)) by omega), g1, g2, s1, s2, m1, m2, rowc_len, List.length_set]
                            repeat (apply And.intro; focus (first | omega | (simp; done)))
                            exact ⟨⟨i + 1, j - 1, _, by simp, by rw [show ((j : Int) - 1) = ((j - 1 : Nat) : Int) by omega], hPs, hex, rfl⟩, by omega⟩
                        · have cj' : ¬ ((i : Int) ≤ (j : Int)) := by omega
                          obtain ⟨g1, g2, s1, s2, m1, m2⟩ := swapC hmo hlen (i := j) (j := a) (by omega) (by omega)
                          have hex := hM.exch (i := j) (j := a) (by omega) (by omega) (by omega) (by omega) h2
                          have hmid := hP.mid E.ord (by omega) (by omega)
                          simp (config := {maxSteps := 3000000}) only [go_sem, Nat.reduceEqDiff, Nat.reduceAdd, Nat.reduceLT, ↓reduceIte, reduceCtorEq, Nat.reduceBEq, h10, h11, decide_eq_false cj', decide_eq_true (show (j : Int) < (i : Int) by omega), g1, g2, s1, s2, m1, m2, rowc_len, List.length_set]
                          repeat (apply And.intro; focus (first | omega | (simp; done)))
                          exact ⟨_, _, Wk.refl _, weak_re hwf, j, false, _, by omega, by omega, hex, hmid.1, hmid.2, rfl, rfl⟩
                    · simp (config := {maxSteps := 3000000}) only [go_sem, Nat.reduceEqDiff, Int.reduceNeg, ↓reduceIte, Nat.reduceBEq, h10]
                      repeat (apply And.intro; focus (first | omega | (simp; done)))
                      exact ⟨⟨i + 1, by simp, by omega, hP.up ci cq⟩, by omega⟩
                  · have ci' : ¬ ((i : Int) ≤ (j : Int)) := by omega
                    simp (config := {maxSteps := 3000000}) only [go_sem, Nat.reduceEqDiff, ↓reduceIte, Nat.reduceBEq, h10, h11, decide_eq_false ci']
                    repeat (apply And.intro; focus (first | omega | (simp; done)))
                    refine run_loop [13, 123, 124, 125, 126, 127, 128, 129, 130, 131, 132, 133, 134, 135, 136, 137, 138, 139, 140, 141] (fun D s' => D 13 = .sc (.int .i64 j) ∧ s' = st.put b (rowc val M sp)) (fun D _ => 0) rfl ?_ ?_
                    · simp (config := {maxSteps := 3000000}) only [go_sem, Nat.reduceEqDiff, ↓reduceIte, Nat.reduceBEq, h11]
                    · rintro D s' ⟨h11, rfl⟩
                      have cj' := ci'
                      obtain ⟨g1, g2, s1, s2, m1, m2⟩ := swapC hmo hlen (i := j) (j := a) (by omega) (by omega)
                      have hex := hM.exch (i := j) (j := a) (by omega) (by omega) (by omega) (by omega) h2
                      have hmid := hP.mid E.ord (by omega) (by omega)
                      simp (config := {maxSteps := 3000000}) only [go_sem, Nat.reduceEqDiff, Nat.reduceAdd, Nat.reduceLT, ↓reduceIte, reduceCtorEq, Nat.reduceBEq, h10, h11, decide_eq_false cj', decide_eq_true (show (j : Int) < (i : Int) by omega), g1, g2, s1, s2, m1, m2, rowc_len, List.length_set]
                      repeat (apply And.intro; focus (first | omega | (simp; done)))
                      exact ⟨_, _, Wk.refl _, weak_re hwf, j, false, _, by omega, by omega, hex, hmid.1, hmid.2, rfl, rfl⟩
          · have cj' : ¬ ((i : Int) ≤ (j : Int)) := by omega
            obtain ⟨g1, g2, s1, s2, m1, m2⟩ := swapC hmo hlen (i := j) (j := a) (by omega) (by omega)
            have hex := hM.exch (i := j) (j := a) (by omega) (by omega) (by omega) (by omega) h2
            have hmid := hP.mid E.ord (by omega) (by omega)
            simp (config := {maxSteps := 3000000}) only [go_sem, Nat.reduceEqDiff, Nat.reduceAdd, Nat.reduceLT, ↓reduceIte, reduceCtorEq, Nat.reduceBEq, h10, h11, decide_eq_false cj', decide_eq_true (show (j : Int) < (i : Int) by omega), g1, g2, s1, s2, m1, m2, rowc_len, List.length_set]
            repeat (apply And.intro; focus (first | omega | (simp; done)))
            exact ⟨_, _, Wk.refl _, weak_re hwf, j, true, _, by omega, by omega, hex, hmid.1, hmid.2, rfl, rfl⟩
      · simp (config := {maxSteps := 3000000}) only [go_sem, Nat.reduceEqDiff, Int.reduceNeg, ↓reduceIte, Nat.reduceBEq, h10]
        repeat (apply And.intro; focus (first | omega | (simp; done)))
        exact ⟨⟨i + 1, by simp, by omega, hP.up ci cq⟩, by omega⟩
    · have ci' : ¬ ((i : Int) ≤ (j : Int)) := by omega
      simp (config := {maxSteps := 3000000}) only [go_sem, Nat.reduceEqDiff, ↓reduceIte, Nat.reduceBEq, h10, decide_eq_false ci']
      repeat (apply And.intro; focus (first | omega | (simp; done)))
      refine run_loop [13, 50, 51, 52, 53, 54, 55, 56, 57, 58, 59, 60, 61, 62, 63, 64, 65, 66, 67, 68] (fun D s' => D 13 = .sc (.int .i64 j) ∧ s' = st.put b (rowc val M sp)) (fun D _ => 0) rfl ?_ ?_
      · simp (config := {maxSteps := 3000000}) only [go_sem, Nat.reduceEqDiff, ↓reduceIte, Nat.reduceBEq]
      · rintro D s' ⟨h11, rfl⟩
        have cj' := ci'
        obtain ⟨g1, g2, s1, s2, m1, m2⟩ := swapC hmo hlen (i := j) (j := a) (by omega) (by omega)
        have hex := hM.exch (i := j) (j := a) (by omega) (by omega) (by omega) (by omega) h2
        have hmid := hP.mid E.ord (by omega) (by omega)
        simp (config := {maxSteps := 3000000}) only [go_sem, Nat.reduceEqDiff, Nat.reduceAdd, Nat.reduceLT, ↓reduceIte, reduceCtorEq, Nat.reduceBEq, h10, h11, decide_eq_false cj', decide_eq_true (show (j : Int) < (i : Int) by omega), g1, g2, s1, s2, m1, m2, rowc_len, List.length_set]
        repeat (apply And.intro; focus (first | omega | (simp; done)))
        exact ⟨_, _, Wk.refl _, weak_re hwf, j, true, _, by omega, by omega, hex, hmid.1, hmid.2, rfl, rfl⟩
set_option maxRecDepth 100000 in
set_option maxHeartbeats 16000000 in
theorem cequal_v (hf : cFun P f = some (CEqual)) (E : EltC P g val lt) (hmo : mono (rowc val L sp)) {p : Nat} (h1 : a ≤ p) (h3 : p < c) (h2 : c ≤ L.length) (hl : L.length < 4611686018427387904) :
    VCalls P f [dataV b L.length cap, .sc (.int .i64 a), .sc (.int .i64 c), .sc (.int .i64 p), cmpV g] (st.put b (rowc val L sp)) fun r s => ∃ (m : Nat) (M : List α), a < m ∧ m ≤ c ∧ Mix a c L M ∧ (∀ k, a ≤ k → k < m → lt L[p]! M[k]! = false) ∧ (∀ k, m ≤ k → k < c → lt L[p]! M[k]! = true) ∧ r = .sc (.int .i64 m) ∧ s = st.put b (rowc val M sp) := by
  refine vcalls_enter hf (Nat.le_of_ble_eq_true rfl) fun hwf hok => ?_
  show Run _ (CEqual).body (.fin (finQ (CEqual).res _)) _ _
  unfold CEqual
  obtain ⟨g1, g2, s1, s2, m1, m2⟩ := swapC hmo (rfl : L.length = L.length) (i := a) (j := p) (by omega) (by omega)
  have hM := (Mix.refl (a := a) (b := c) (L := L)).exch (i := a) (j := p) (by omega) (by omega) (by omega) (by omega) h2
  have hA : (exch L a p)[a]! = L[p]! := by
    rw [exch_get (by omega) (by omega)]
    by_cases e : a = p
    · rw [if_pos e, e]
    · rw [if_neg e, if_pos rfl]
  simp (config := {maxSteps := 3000000}) only [go_sem, Nat.reduceEqDiff, Nat.reduceAdd, Nat.reduceLT, Int.reduceNeg, ↓reduceIte, reduceCtorEq, dataV, cmpV, g1, g2, s1, s2, m1, m2, rowc_len, List.length_set]
  repeat (apply And.intro; focus (first | omega | (simp; done)))
  refine run_loop [11, 12, 31, 32, 33, 34, 35, 36, 37, 38, 39, 40, 41, 42, 43, 44, 45, 46, 47, 48, 49, 50, 51, 52, 53, 54, 55, 56, 57, 58, 59, 60, 61, 62, 63, 64, 65, 66, 67, 68, 69, 70, 71, 72, 73, 74, 75, 76, 77, 78, 79, 80, 81, 82, 83, 84, 85, 86, 87, 88] (fun B s => ∃ (i j : Nat) (M : List α), B 11 = .sc (.int .i64 i) ∧ B 12 = .sc (.int .i64 j) ∧ Part (fun p x => !lt p x) a c i j M ∧ Mix a c L M ∧ M[a]! = L[p]! ∧ s = st.put b (rowc val M sp)) (fun B _ => vnat (B 12) + 1 - vnat (B 11)) rfl ?_ ?_
  · simp (config := {maxSteps := 3000000}) only [go_sem, Nat.reduceEqDiff, ↓reduceIte]
    exact ⟨a + 1, c - 1, _, by simp, by rw [show ((c : Int) - 1) = ((c - 1 : Nat) : Int) by omega], Part.start (by omega), hM, hA, rfl⟩
  · clear hM hA g1 g2 s1 s2 m1 m2
    rintro G s ⟨i, j, M, h10, h11, hP, hM, hA, rfl⟩
    have hlen := hM.len
    have ij0 := hP.ij
    simp (config := {maxSteps := 3000000}) only [go_sem, h10, h11]
    obtain ⟨i0, ei0⟩ : ∃ i0, i0 = i := ⟨_, rfl⟩
    obtain ⟨j0, ej0⟩ : ∃ j0, j0 = j := ⟨_, rfl⟩
    have ki := Nat.le_of_eq ei0
    have kj := Nat.le_of_eq ej0.symm
    have k10 := h10
    have k11 := h11
    refine run_loop [11, 31, 32, 33, 34, 35, 36, 37, 38, 39, 40, 41, 42, 43, 44, 45, 46, 47, 48, 49] (fun C s' => ∃ (i : Nat), C 11 = .sc (.int .i64 i) ∧ i0 ≤ i ∧ Part (fun p x => !lt p x) a c i j M ∧ s' = st.put b (rowc val M sp)) (fun C _ => j + 1 - vnat (C 11)) rfl ?_ ?_
    · simp (config := {maxSteps := 3000000}) only [go_sem, ↓reduceIte, Nat.reduceBEq, h10]
      exact ⟨i, rfl, ki, hP⟩
    · rintro C s' ⟨i, h10, ki, hP, rfl⟩
      have ai := hP.ai
      have ij := hP.ij
      have jc := hP.jc
      by_cases ci : i ≤ j
      · simp (config := {maxSteps := 3000000}) only [go_sem, Nat.reduceEqDiff, ↓reduceIte, reduceCtorEq, Nat.reduceBEq, h10, h11, decide_eq_true (show (i : Int) ≤ (j : Int) by omega), rowc_get (show i < M.length by omega), rowc_get (show a < M.length by omega), rowc_len, rowc_mono hmo hlen, E.call, List.map_nil]
        repeat (apply And.intro; focus (first | omega | (simp; done)))
        refine Cal.mk (E.less _ _ _) ?_
        rintro _ _ ⟨z5, hz5, rfl, rfl⟩ -
        simp (config := {maxSteps := 3000000}) only [go_sem, Nat.reduceEqDiff, ↓reduceIte, hz5]
        cases cq : lt M[a]! M[i]!
        · simp (config := {maxSteps := 3000000}) only [go_sem, Nat.reduceEqDiff, Int.reduceNeg, ↓reduceIte, Nat.reduceBEq, h10]
          repeat (apply And.intro; focus (first | omega | (simp; done)))
          exact ⟨⟨i + 1, by simp, by omega, hP.up ci (by_not cq)⟩, by omega⟩
        · simp (config := {maxSteps := 3000000}) only [go_sem, ↓reduceIte]
          repeat (apply And.intro; focus (first | omega | (simp; done)))
          refine run_loop [12, 50, 51, 52, 53, 54, 55, 56, 57, 58, 59, 60, 61, 62, 63, 64, 65, 66, 67] (fun D s' => ∃ (j : Nat), D 12 = .sc (.int .i64 j) ∧ j ≤ j0 ∧ Part (fun p x => !lt p x) a c i j M ∧ s' = st.put b (rowc val M sp)) (fun D _ => vnat (D 12)) rfl ?_ ?_
          · simp (config := {maxSteps := 3000000}) only [go_sem, Nat.reduceEqDiff, ↓reduceIte, Nat.reduceBEq, h11]
            exact ⟨j, rfl, kj, hP⟩
          · rintro D s' ⟨j, h11, kj, hP, rfl⟩
            have ij := hP.ij
            have jc := hP.jc
            by_cases cj : i ≤ j
            · simp (config := {maxSteps := 3000000}) only [go_sem, Nat.reduceEqDiff, ↓reduceIte, reduceCtorEq, Nat.reduceBEq, h10, h11, decide_eq_true (show (i : Int) ≤ (j : Int) by omega), rowc_get (show j < M.length by omega), rowc_get (show a < M.length by omega), rowc_len, rowc_mono hmo hlen, E.call, List.map_nil]
              repeat (apply And.intro; focus (first | omega | (simp; done)))
              refine Cal.mk (E.less _ _ _) ?_
              rintro _ _ ⟨z6, hz6, rfl, rfl⟩ -
              simp (config := {maxSteps := 3000000}) only [go_sem, Nat.reduceEqDiff, ↓reduceIte, hz6]
              cases cr : lt M[a]! M[j]!
              · obtain ⟨g1, g2, s1, s2, m1, m2⟩ := swapC hmo hlen (i := i) (j := j) (by omega) (by omega)
                have hex := hM.exch (i := i) (j := j) (by omega) (by omega) (by omega) (by omega) h2
                have hPs := hP.swap cj (by_not cq) (by_not cr) (by omega)
                have hlt := hP.lt cj (by_not cq) (by_not cr)
                have hhd := hP.head cj (by omega)
                simp (config := {maxSteps := 3000000}) only [go_sem, Nat.reduceEqDiff, Nat.reduceAdd, Nat.reduceLT, Int.reduceNeg, ↓reduceIte, reduceCtorEq, Nat.reduceBEq, h10, h11, decide_eq_false (show ¬ ((j : Int) < (i : Int)) by omega), g1, g2, s1, s2, m1, m2, rowc_len, List.length_set]
                repeat (apply And.intro; focus (first | omega | (simp; done)))
                exact ⟨⟨i + 1, j - 1, _, by simp, by rw [show ((j : Int) - 1) = ((j - 1 : Nat) : Int) by omega], hPs, hex, hhd.trans hA, rfl⟩, by omega⟩
              · simp (config := {maxSteps := 3000000}) only [go_sem, Nat.reduceEqDiff, Int.reduceNeg, ↓reduceIte, Nat.reduceBEq, h11]
                repeat (apply And.intro; focus (first | omega | (simp; done)))
                exact ⟨⟨j - 1, by rw [show ((j : Int) - 1) = ((j - 1 : Nat) : Int) by omega], by omega, hP.down cj (by_not cr)⟩, by omega⟩
            · have cj' : ¬ ((i : Int) ≤ (j : Int)) := by omega
              simp (config := {maxSteps := 3000000}) only [go_sem, Nat.reduceEqDiff, ↓reduceIte, reduceCtorEq, Nat.reduceBEq, h10, h11, decide_eq_false cj', decide_eq_true (show (j : Int) < (i : Int) by omega)]
              repeat (apply And.intro; focus (first | omega | (simp; done)))
              exact ⟨_, _, Wk.refl _, weak_re hwf, i, M, by omega, by omega, hM, fun k k1 k2 => by
                rw [← hA]
                by_cases e : k = a
                · rw [e]; exact E.ord.irr _
                · exact not_by (hP.lo k (by omega) k2), fun k k1 k2 => by
                rw [← hA]
                exact not_by (hP.hi k (by omega) k2), rfl, rfl⟩
      · have ci' : ¬ ((i : Int) ≤ (j : Int)) := by omega
        simp (config := {maxSteps := 3000000}) only [go_sem, Nat.reduceEqDiff, ↓reduceIte, Nat.reduceBEq, h10, h11, decide_eq_false ci']
        repeat (apply And.intro; focus (first | omega | (simp; done)))
        refine run_loop [12, 50, 51, 52, 53, 54, 55, 56, 57, 58, 59, 60, 61, 62, 63, 64, 65, 66, 67] (fun D s' => D 12 = .sc (.int .i64 j) ∧ s' = st.put b (rowc val M sp)) (fun D _ => 0) rfl ?_ ?_
        · simp (config := {maxSteps := 3000000}) only [go_sem, Nat.reduceEqDiff, ↓reduceIte, Nat.reduceBEq, h11]
        · rintro D s' ⟨h11, rfl⟩
          have cj' := ci'
          simp (config := {maxSteps := 3000000}) only [go_sem, Nat.reduceEqDiff, ↓reduceIte, reduceCtorEq, Nat.reduceBEq, h10, h11, decide_eq_false cj', decide_eq_true (show (j : Int) < (i : Int) by omega)]
          repeat (apply And.intro; focus (first | omega | (simp; done)))
          exact ⟨_, _, Wk.refl _, weak_re hwf, i, M, by omega, by omega, hM, fun k k1 k2 => by
            rw [← hA]
            by_cases e : k = a
            · rw [e]; exact E.ord.irr _
            · exact not_by (hP.lo k (by omega) k2), fun k k1 k2 => by
            rw [← hA]
            exact not_by (hP.hi k (by omega) k2), rfl, rfl⟩
end
end
section
open Go

section
variable {P : Program} {α : Type} [Inhabited α] {val : α → V × V} {lt : α → α → Bool} {g f fsift : FuncId} {st : St} {b cap a c : Nat} {L : List α} {sp : List V}
set_option maxRecDepth 100000 in
set_option maxHeartbeats 16000000 in
theorem cpart_v (hf : cFun P f = some (CPart)) (E : EltC P g val lt) (hmo : mono (rowc val L sp)) (h1 : a < c) (h2 : c ≤ L.length) (hl : L.length < 4611686018427387904) (hLB : LB lt a c L) :
    VCalls P f [dataV b L.length cap, .sc (.int .i64 a), .sc (.int .i64 c), cmpV g] (st.put b (rowc val L sp)) fun r s => ∃ (B : Bool) (M : List α), Mix a c L M ∧ (B = true → Srt lt a c M) ∧ r = .sc (.bool B) ∧ s = st.put b (rowc val M sp) := by
  refine vcalls_enter hf (Nat.le_of_ble_eq_true rfl) fun hwf hok => ?_
  show Run _ (CPart).body (.fin (finQ (CPart).res _)) _ _
  unfold CPart
  simp (config := {maxSteps := 3000000}) only [go_sem, Nat.reduceEqDiff, Int.reduceNeg, ↓reduceIte, dataV, cmpV]
  repeat (apply And.intro; focus (first | omega | (simp; done)))
  refine run_loop [8, 9, 10, 11, 12, 15, 16, 17, 18, 19, 20, 21, 22, 23, 24, 25, 26, 27, 28, 29, 30, 31, 32, 33, 34, 35, 36, 37, 38, 39, 40, 41, 42, 43, 44, 45, 46, 47, 48, 49, 50, 51, 52, 53, 54, 55, 56, 57, 58, 59, 60, 61, 62, 63, 64, 65, 66, 67, 68, 69, 70, 71, 72, 73, 74, 75, 76, 77, 78, 79, 80, 81, 82, 83, 84, 85, 86, 87, 88, 89, 90, 91, 92, 93, 94, 95, 96, 97, 98, 99, 100, 101, 102, 103, 104, 105, 106, 107, 108, 109, 110, 111, 112, 113, 114, 115, 116, 117, 118, 119, 120, 121, 122, 123, 124, 125, 126, 127, 128, 129, 130, 131, 132, 133, 134, 135, 136, 137, 138, 139, 140] (fun B s => ∃ (n i : Nat) (M : List α), B 10 = .sc (.int .i64 n) ∧ B 9 = .sc (.int .i64 i) ∧ a + 1 ≤ i ∧ i ≤ c ∧ Mix a c L M ∧ Srt lt a i M ∧ s = st.put b (rowc val M sp)) (fun B _ => 5 - vnat (B 10)) rfl ?_ ?_
  · simp (config := {maxSteps := 3000000}) only [go_sem, Nat.reduceEqDiff, ↓reduceIte]
    exact ⟨0, a + 1, L, rfl, by simp, by omega, by omega, .refl, Srt.one (by omega), rfl⟩
  · rintro B s ⟨n, i, M, h8, h7, hi1, hi2, hM, hS, rfl⟩
    have hlen := hM.len
    by_cases cn : n < 5
    · simp (config := {maxSteps := 3000000}) only [go_sem, ↓reduceIte, Nat.reduceBEq, h8, decide_eq_true (show (n : Int) < 5 by omega)]
      refine run_loop [9, 19, 20, 21, 22, 23, 24, 25, 26, 27, 28, 29, 30, 31, 32, 33, 34, 35, 36, 37, 38] (fun C s' => ∃ (i : Nat), C 9 = .sc (.int .i64 i) ∧ a + 1 ≤ i ∧ i ≤ c ∧ Srt lt a i M ∧ s' = st.put b (rowc val M sp)) (fun C _ => c - vnat (C 9)) rfl ?_ ?_
      · simp (config := {maxSteps := 3000000}) only [go_sem, Nat.reduceEqDiff, ↓reduceIte, Nat.reduceBEq, h7]
        exact ⟨i, rfl, hi1, hi2, hS⟩
      · clear hi1 hi2 hS
        rintro C s' ⟨i, h7, hi1, hi2, hS, rfl⟩
        have e1 : ((i : Int) - 1).toNat = i - 1 := by omega
        have hLM := hLB.mix hM h2
        by_cases ci : i < c
        · simp (config := {maxSteps := 3000000}) only [go_sem, Nat.reduceEqDiff, Int.reduceNeg, ↓reduceIte, reduceCtorEq, Nat.reduceBEq, h7, e1, decide_eq_true (show (i : Int) < (c : Int) by omega), rowc_get (show i < M.length by omega), rowc_get (show i - 1 < M.length by omega), rowc_len, rowc_mono hmo hlen, E.call, List.map_nil]
          repeat (apply And.intro; focus (first | omega | (simp; done)))
          refine Cal.mk (E.less _ _ _) ?_
          rintro _ _ ⟨z1, hz1, rfl, rfl⟩ -
          simp (config := {maxSteps := 3000000}) only [go_sem, Nat.reduceEqDiff, ↓reduceIte, hz1]
          cases cq : lt M[i]! M[i - 1]!
          · simp (config := {maxSteps := 3000000}) only [go_sem, Nat.reduceEqDiff, Int.reduceNeg, ↓reduceIte, Nat.reduceBEq, h7]
            repeat (apply And.intro; focus (first | omega | (simp; done)))
            exact ⟨⟨i + 1, by simp, by omega, by omega, hS.next E.ord hi1 cq⟩, by omega⟩
          · simp (config := {maxSteps := 3000000}) only [go_sem, Nat.reduceEqDiff, Int.reduceNeg, ↓reduceIte, Nat.reduceBEq, h7, decide_eq_false (show ¬ (i : Int) = (c : Int) by omega)]
            repeat (apply And.intro; focus (first | omega | (simp; done)))
            by_cases c5 : (c : Int) - (a : Int) < 50
            · simp (config := {maxSteps := 3000000}) only [go_sem, ↓reduceIte, decide_eq_true c5]
              exact ⟨_, _, Wk.refl _, weak_re hwf, false, M, hM, (fun h => by cases h), rfl, rfl⟩
            · obtain ⟨g1, g2, s1, s2, m1, m2⟩ := swapC hmo hlen (i := i) (j := i - 1) (by omega) (by omega)
              have hex := hM.exch (i := i) (j := i - 1) (by omega) (by omega) (by omega) (by omega) h2
              have hS1 : Srt lt a (i - 1) (exch M i (i - 1)) := fun p q k1 k2 k3 => by
                rw [exch_get (by omega) (by omega), exch_get (by omega) (by omega), if_neg (by omega), if_neg (by omega), if_neg (by omega), if_neg (by omega)]
                exact hS p q k1 k2 (by omega)
              simp (config := {maxSteps := 3000000}) only [go_sem, Nat.reduceEqDiff, Nat.reduceAdd, Nat.reduceLT, Int.reduceNeg, ↓reduceIte, reduceCtorEq, Nat.reduceBEq, h7, e1, decide_eq_false c5, g1, g2, s1, s2, m1, m2, rowc_len, List.length_set]
              repeat (apply And.intro; focus (first | omega | (simp; done)))
              clear hM hS hLM g1 g2 s1 s2 m1 m2 cq
              generalize exch M i (i - 1) = M at hex hS1 ⊢
              by_cases c2 : (2 : Int) ≤ (i : Int) - (a : Int)
              · simp (config := {maxSteps := 3000000}) only [go_sem, Nat.reduceEqDiff, Int.reduceNeg, ↓reduceIte, Nat.reduceBEq, h7, decide_eq_true c2]
                repeat (apply And.intro; focus (first | omega | (simp; done)))
                refine run_loop [11, 68, 69, 70, 71, 72, 73, 74, 75, 76, 77, 78, 79, 80, 81, 82, 83, 84, 85, 86, 87, 88, 89, 90, 91, 92, 93, 94, 95, 96, 97, 98, 99, 100] (fun D s' => ∃ (j : Nat) (M : List α), D 11 = .sc (.int .i64 j) ∧ a ≤ j ∧ j ≤ i - 1 ∧ Mix a c L M ∧ Ins lt a (i - 1) j M ∧ s' = st.put b (rowc val M sp)) (fun D _ => vnat (D 11)) rfl ?_ ?_
                · simp (config := {maxSteps := 3000000}) only [go_sem, ↓reduceIte]
                  exact ⟨i - 1, M, by rw [show ((i : Int) - 1) = ((i - 1 : Nat) : Int) by omega], by omega, by omega, hex, Ins.start hS1, rfl⟩
                · clear hex hS1 hlen M
                  rintro D s' ⟨j, M, h9, hj1, hj2, hM, hI, rfl⟩
                  have hlen := hM.len
                  by_cases cj : 1 ≤ j
                  · have e2 : ((j : Int) - 1).toNat = j - 1 := by omega
                    simp (config := {maxSteps := 3000000}) only [go_sem, Nat.reduceEqDiff, Int.reduceNeg, ↓reduceIte, reduceCtorEq, Nat.reduceBEq, h9, e2, decide_eq_true (show (1 : Int) ≤ (j : Int) by omega), rowc_get (show j < M.length by omega), rowc_get (show j - 1 < M.length by omega), rowc_len, rowc_mono hmo hlen, E.call, List.map_nil]
                    repeat (apply And.intro; focus (first | omega | (simp; done)))
                    refine Cal.mk (E.less _ _ _) ?_
                    rintro _ _ ⟨z2, hz2, rfl, rfl⟩ -
                    simp (config := {maxSteps := 3000000}) only [go_sem, ↓reduceIte, hz2]
                    cases cq : lt M[j]! M[j - 1]!
                    · have hS : Srt lt a i M := by
                        have := hI.done E.ord (by omega) (if e : j = a then .inl e else .inr ⟨by omega, cq⟩)
                        rwa [Nat.sub_add_cancel (by omega)] at this
                      simp (config := {maxSteps := 3000000}) only [go_sem, Nat.reduceEqDiff, Int.reduceNeg, ↓reduceIte, Nat.reduceBEq, h7]
                      repeat (apply And.intro; focus (first | omega | (simp; done)))
                      by_cases c3 : (2 : Int) ≤ (c : Int) - (i : Int)
                      · simp (config := {maxSteps := 3000000}) only [go_sem, Nat.reduceEqDiff, Int.reduceNeg, ↓reduceIte, Nat.reduceBEq, h7, decide_eq_true c3]
                        repeat (apply And.intro; focus (first | omega | (simp; done)))
                        refine run_loop [12, 107, 108, 109, 110, 111, 112, 113, 114, 115, 116, 117, 118, 119, 120, 121, 122, 123, 124, 125, 126, 127, 128, 129, 130, 131, 132, 133, 134, 135, 136, 137, 138, 139, 140] (fun G s' => ∃ (j : Nat) (M : List α), G 12 = .sc (.int .i64 j) ∧ i + 1 ≤ j ∧ j ≤ c ∧ Mix a c L M ∧ Srt lt a i M ∧ s' = st.put b (rowc val M sp)) (fun G _ => c - vnat (G 12)) rfl ?_ ?_
                        · simp (config := {maxSteps := 3000000}) only [go_sem, ↓reduceIte]
                          exact ⟨i + 1, M, by simp, by omega, by omega, hM, hS, rfl⟩
                        · rintro G s' ⟨j, M, h10, hj1, hj2, hM, hS, rfl⟩
                          have hlen := hM.len
                          by_cases cj : j < c
                          · have e2 : ((j : Int) - 1).toNat = j - 1 := by omega
                            simp (config := {maxSteps := 3000000}) only [go_sem, Nat.reduceEqDiff, Int.reduceNeg, ↓reduceIte, reduceCtorEq, Nat.reduceBEq, h10, e2, decide_eq_true (show (j : Int) < (c : Int) by omega), rowc_get (show j < M.length by omega), rowc_get (show j - 1 < M.length by omega), rowc_len, rowc_mono hmo hlen, E.call, List.map_nil]
                            repeat (apply And.intro; focus (first | omega | (simp; done)))
                            refine Cal.mk (E.less _ _ _) ?_
                            rintro _ _ ⟨z3, hz3, rfl, rfl⟩ -
                            simp (config := {maxSteps := 3000000}) only [go_sem, ↓reduceIte, hz3]
                            cases cr : lt M[j]! M[j - 1]!
                            · simp (config := {maxSteps := 3000000}) only [go_sem, Nat.reduceEqDiff, Int.reduceNeg, ↓reduceIte, Nat.reduceBEq, h7, h8]
                              repeat (apply And.intro; focus (first | omega | (simp; done)))
                              first | exact ⟨⟨n + 1, i, M, by simp, rfl, hi1, hi2, hM, hS, rfl⟩, by omega⟩ | omega
                            · obtain ⟨g1, g2, s1, s2, m1, m2⟩ := swapC hmo hlen (i := j) (j := j - 1) (by omega) (by omega)
                              have hex := hM.exch (i := j) (j := j - 1) (by omega) (by omega) (by omega) (by omega) h2
                              have hS2 : Srt lt a i (exch M j (j - 1)) := hS.keep fun k k1 k2 => by rw [exch_get (by omega) (by omega), if_neg (by omega), if_neg (by omega)]
                              simp (config := {maxSteps := 3000000}) only [go_sem, Nat.reduceEqDiff, Nat.reduceAdd, Nat.reduceLT, Int.reduceNeg, ↓reduceIte, reduceCtorEq, Nat.reduceBEq, h10, e2, g1, g2, s1, s2, m1, m2, rowc_len, List.length_set]
                              repeat (apply And.intro; focus (first | omega | (simp; done)))
                              exact ⟨⟨j + 1, _, by simp, by omega, by omega, hex, hS2, rfl⟩, by omega⟩
                          · simp (config := {maxSteps := 3000000}) only [go_sem, Nat.reduceEqDiff, Int.reduceNeg, ↓reduceIte, Nat.reduceBEq, h7, h8, h10, decide_eq_false (show ¬ (j : Int) < (c : Int) by omega)]
                            repeat (apply And.intro; focus (first | omega | (simp; done)))
                            first | exact ⟨⟨n + 1, i, M, by simp, rfl, hi1, hi2, hM, hS, rfl⟩, by omega⟩ | omega
                      · simp (config := {maxSteps := 3000000}) only [go_sem, Nat.reduceEqDiff, Int.reduceNeg, ↓reduceIte, Nat.reduceBEq, h7, h8, decide_eq_false c3]
                        repeat (apply And.intro; focus (first | omega | (simp; done)))
                        first | exact ⟨⟨n + 1, i, M, by simp, rfl, hi1, hi2, hM, hS, rfl⟩, by omega⟩ | omega
                    · have haj : a < j := by
                        rcases Nat.lt_or_ge a j with h | h
                        · exact h
                        · have e : j = a := by omega
                          have := hLB.mix hM h2 (by omega) j (by omega) (by omega)
                          rw [e] at this cq
                          rw [this] at cq; cases cq
                      obtain ⟨g1, g2, s1, s2, m1, m2⟩ := swapC hmo hlen (i := j) (j := j - 1) (by omega) (by omega)
                      have hex := hM.exch (i := j) (j := j - 1) (by omega) (by omega) (by omega) (by omega) h2
                      have hst := hI.step E.ord haj (by omega) (by omega) cq
                      simp (config := {maxSteps := 3000000}) only [go_sem, Nat.reduceEqDiff, Nat.reduceAdd, Nat.reduceLT, Int.reduceNeg, ↓reduceIte, reduceCtorEq, Nat.reduceBEq, h9, e2, g1, g2, s1, s2, m1, m2, rowc_len, List.length_set]
                      repeat (apply And.intro; focus (first | omega | (simp; done)))
                      exact ⟨⟨j - 1, _, by rw [show ((j : Int) - 1) = ((j - 1 : Nat) : Int) by omega], by omega, by omega, hex, hst, rfl⟩, by omega⟩
                  · have hS : Srt lt a i M := by
                      have := hI.done E.ord (by omega) (.inl (by omega))
                      rwa [Nat.sub_add_cancel (by omega)] at this
                    simp (config := {maxSteps := 3000000}) only [go_sem, Nat.reduceEqDiff, Int.reduceNeg, ↓reduceIte, Nat.reduceBEq, h9, h7, decide_eq_false (show ¬ (1 : Int) ≤ (j : Int) by omega)]
                    repeat (apply And.intro; focus (first | omega | (simp; done)))
                    by_cases c3 : (2 : Int) ≤ (c : Int) - (i : Int)
                    · simp (config := {maxSteps := 3000000}) only [go_sem, Nat.reduceEqDiff, Int.reduceNeg, ↓reduceIte, Nat.reduceBEq, h7, decide_eq_true c3]
                      repeat (apply And.intro; focus (first | omega | (simp; done)))
                      refine run_loop [12, 107, 108, 109, 110, 111, 112, 113, 114, 115, 116, 117, 118, 119, 120, 121, 122, 123, 124, 125, 126, 127, 128, 129, 130, 131, 132, 133, 134, 135, 136, 137, 138, 139, 140] (fun G s' => ∃ (j : Nat) (M : List α), G 12 = .sc (.int .i64 j) ∧ i + 1 ≤ j ∧ j ≤ c ∧ Mix a c L M ∧ Srt lt a i M ∧ s' = st.put b (rowc val M sp)) (fun G _ => c - vnat (G 12)) rfl ?_ ?_
                      · simp (config := {maxSteps := 3000000}) only [go_sem, ↓reduceIte]
                        exact ⟨i + 1, M, by simp, by omega, by omega, hM, hS, rfl⟩
                      · rintro G s' ⟨j, M, h10, hj1, hj2, hM, hS, rfl⟩
                        have hlen := hM.len
                        by_cases cj : j < c
                        · have e2 : ((j : Int) - 1).toNat = j - 1 := by omega
                          simp (config := {maxSteps := 3000000}) only [go_sem, Nat.reduceEqDiff, Int.reduceNeg, ↓reduceIte, reduceCtorEq, Nat.reduceBEq, h10, e2, decide_eq_true (show (j : Int) < (c : Int) by omega), rowc_get (show j < M.length by omega), rowc_get (show j - 1 < M.length by omega), rowc_len, rowc_mono hmo hlen, E.call, List.map_nil]
                          repeat (apply And.intro; focus (first | omega | (simp; done)))
                          refine Cal.mk (E.less _ _ _) ?_
                          rintro _ _ ⟨z4, hz4, rfl, rfl⟩ -
                          simp (config := {maxSteps := 3000000}) only [go_sem, ↓reduceIte, hz4]
                          cases cr : lt M[j]! M[j - 1]!
                          · simp (config := {maxSteps := 3000000}) only [go_sem, Nat.reduceEqDiff, Int.reduceNeg, ↓reduceIte, Nat.reduceBEq, h7, h8]
                            repeat (apply And.intro; focus (first | omega | (simp; done)))
                            first | exact ⟨⟨n + 1, i, M, by simp, rfl, hi1, hi2, hM, hS, rfl⟩, by omega⟩ | omega
                          · obtain ⟨g1, g2, s1, s2, m1, m2⟩ := swapC hmo hlen (i := j) (j := j - 1) (by omega) (by omega)
                            have hex := hM.exch (i := j) (j := j - 1) (by omega) (by omega) (by omega) (by omega) h2
                            have hS2 : Srt lt a i (exch M j (j - 1)) := hS.keep fun k k1 k2 => by rw [exch_get (by omega) (by omega), if_neg (by omega), if_neg (by omega)]
                            simp (config := {maxSteps := 3000000}) only [go_sem, Nat.reduceEqDiff, Nat.reduceAdd, Nat.reduceLT, Int.reduceNeg, ↓reduceIte, reduceCtorEq, Nat.reduceBEq, h10, e2, g1, g2, s1, s2, m1, m2, rowc_len, List.length_set]
                            repeat (apply And.intro; focus (first | omega | (simp; done)))
                            exact ⟨⟨j + 1, _, by simp, by omega, by omega, hex, hS2, rfl⟩, by omega⟩
                        · simp (config := {maxSteps := 3000000}) only [go_sem, Nat.reduceEqDiff, Int.reduceNeg, ↓reduceIte, Nat.reduceBEq, h7, h8, h10, decide_eq_false (show ¬ (j : Int) < (c : Int) by omega)]
                          repeat (apply And.intro; focus (first | omega | (simp; done)))
                          first | exact ⟨⟨n + 1, i, M, by simp, rfl, hi1, hi2, hM, hS, rfl⟩, by omega⟩ | omega
                    · simp (config := {maxSteps := 3000000}) only [go_sem, Nat.reduceEqDiff, Int.reduceNeg, ↓reduceIte, Nat.reduceBEq, h7, h8, decide_eq_false c3]
                      repeat (apply And.intro; focus (first | omega | (simp; done)))
                      first | exact ⟨⟨n + 1, i, M, by simp, rfl, hi1, hi2, hM, hS, rfl⟩, by omega⟩ | omega
              · simp (config := {maxSteps := 3000000}) only [go_sem, Nat.reduceEqDiff, Int.reduceNeg, ↓reduceIte, Nat.reduceBEq, h7, decide_eq_false c2]
                have hS : Srt lt a i M := Srt.one (by omega)
                have hlen := hex.len
                have hM := hex
                by_cases c3 : (2 : Int) ≤ (c : Int) - (i : Int)
                · simp (config := {maxSteps := 3000000}) only [go_sem, Nat.reduceEqDiff, Int.reduceNeg, ↓reduceIte, Nat.reduceBEq, h7, decide_eq_true c3]
                  repeat (apply And.intro; focus (first | omega | (simp; done)))
                  refine run_loop [12, 107, 108, 109, 110, 111, 112, 113, 114, 115, 116, 117, 118, 119, 120, 121, 122, 123, 124, 125, 126, 127, 128, 129, 130, 131, 132, 133, 134, 135, 136, 137, 138, 139, 140] (fun G s' => ∃ (j : Nat) (M : List α), G 12 = .sc (.int .i64 j) ∧ i + 1 ≤ j ∧ j ≤ c ∧ Mix a c L M ∧ Srt lt a i M ∧ s' = st.put b (rowc val M sp)) (fun G _ => c - vnat (G 12)) rfl ?_ ?_
                  · simp (config := {maxSteps := 3000000}) only [go_sem, ↓reduceIte]
                    exact ⟨i + 1, M, by simp, by omega, by omega, hM, hS, rfl⟩
                  · rintro G s' ⟨j, M, h10, hj1, hj2, hM, hS, rfl⟩
                    have hlen := hM.len
                    by_cases cj : j < c
                    · have e2 : ((j : Int) - 1).toNat = j - 1 := by omega
                      simp (config := {maxSteps := 3000000}) only [go_sem, Nat.reduceEqDiff, Int.reduceNeg, ↓reduceIte, reduceCtorEq, Nat.reduceBEq, h10, e2, decide_eq_true (show (j : Int) < (c : Int) by omega), rowc_get (show j < M.length by omega), rowc_get (show j - 1 < M.length by omega), rowc_len, rowc_mono hmo hlen, E.call, List.map_nil]
                      repeat (apply And.intro; focus (first | omega | (simp; done)))
                      refine Cal.mk (E.less _ _ _) ?_
                      rintro _ _ ⟨z5, hz5, rfl, rfl⟩ -
                      simp (config := {maxSteps := 3000000}) only [go_sem, ↓reduceIte, hz5]
                      cases cr : lt M[j]! M[j - 1]!
                      · simp (config := {maxSteps := 3000000}) only [go_sem, Nat.reduceEqDiff, Int.reduceNeg, ↓reduceIte, Nat.reduceBEq, h7, h8]
                        repeat (apply And.intro; focus (first | omega | (simp; done)))
                        first | exact ⟨⟨n + 1, i, M, by simp, rfl, hi1, hi2, hM, hS, rfl⟩, by omega⟩ | omega
                      · obtain ⟨g1, g2, s1, s2, m1, m2⟩ := swapC hmo hlen (i := j) (j := j - 1) (by omega) (by omega)
                        have hex := hM.exch (i := j) (j := j - 1) (by omega) (by omega) (by omega) (by omega) h2
                        have hS2 : Srt lt a i (exch M j (j - 1)) := hS.keep fun k k1 k2 => by rw [exch_get (by omega) (by omega), if_neg (by omega), if_neg (by omega)]
                        simp (config := {maxSteps := 3000000}) only [go_sem, Nat.reduceEqDiff, Nat.reduceAdd, Nat.reduceLT, Int.reduceNeg, ↓reduceIte, reduceCtorEq, Nat.reduceBEq, h10, e2, g1, g2, s1, s2, m1, m2, rowc_len, List.length_set]
                        repeat (apply And.intro; focus (first | omega | (simp; done)))
                        exact ⟨⟨j + 1, _, by simp, by omega, by omega, hex, hS2, rfl⟩, by omega⟩
                    · simp (config := {maxSteps := 3000000}) only [go_sem, Nat.reduceEqDiff, Int.reduceNeg, ↓reduceIte, Nat.reduceBEq, h7, h8, h10, decide_eq_false (show ¬ (j : Int) < (c : Int) by omega)]
                      repeat (apply And.intro; focus (first | omega | (simp; done)))
                      first | exact ⟨⟨n + 1, i, M, by simp, rfl, hi1, hi2, hM, hS, rfl⟩, by omega⟩ | omega
                · simp (config := {maxSteps := 3000000}) only [go_sem, Nat.reduceEqDiff, Int.reduceNeg, ↓reduceIte, Nat.reduceBEq, h7, h8, decide_eq_false c3]
                  repeat (apply And.intro; focus (first | omega | (simp; done)))
                  first | exact ⟨⟨n + 1, i, M, by simp, rfl, hi1, hi2, hM, hS, rfl⟩, by omega⟩ | omega
        · have ei : i = c := by omega
          subst ei
          simp (config := {maxSteps := 3000000}) only [go_sem, Nat.reduceEqDiff, ↓reduceIte, Nat.reduceBEq, h7]
          exact ⟨_, _, Wk.refl _, weak_re hwf, true, M, hM, fun _ => hS, rfl, rfl⟩
    · simp (config := {maxSteps := 3000000}) only [go_sem, ↓reduceIte, Nat.reduceBEq, h8, decide_eq_false (show ¬ (n : Int) < 5 by omega)]
      exact ⟨_, _, Wk.refl _, weak_re hwf, false, M, hM, (fun h => by cases h), rfl, rfl⟩
end
end
section
open Go

section
variable {P : Program} {α : Type} [Inhabited α] {val : α → V × V} {lt : α → α → Bool} {g f fsift : FuncId} {st : St} {b cap a c : Nat} {L : List α} {sp : List V}
variable {fo fm fa fpow fnext : FuncId} {r : Nat}
set_option maxRecDepth 100000 in
set_option maxHeartbeats 16000000 in
theorem cord2_v (hf : cFun P f = some (COrd2)) (E : EltC P g val lt) (hbr : b < r) {i j n : Nat} (hi : i < L.length) (hj : j < L.length) (hn : n < 4611686018427387904) (hmo : mono (rowc val L sp)) (hl : L.length < 4611686018427387904) :
    VCalls P f [dataV b L.length cap, .sc (.int .i64 i), .sc (.int .i64 j), ptrV r, cmpV g] ((st.put b (rowc val L sp)).put r [.sc (.int .i64 n)]) fun v s => ∃ (x y m : Nat), ((x = i ∧ y = j) ∨ (x = j ∧ y = i)) ∧ m ≤ n + 1 ∧ v = .tup [.sc (.int .i64 x), .sc (.int .i64 y)] ∧ s = (st.put b (rowc val L sp)).put r [.sc (.int .i64 m)] := by
  refine vcalls_enter hf (Nat.le_of_ble_eq_true rfl) fun hwf hok => ?_
  show Run _ (COrd2).body (.fin (finQ (COrd2).res _)) _ _
  unfold COrd2
  simp (config := {maxSteps := 3000000}) only [go_sem, Nat.reduceEqDiff, ↓reduceIte, reduceCtorEq, dataV, cmpV, put_box_ne (Nat.ne_of_lt hbr), rowc_get hi, rowc_get hj, rowc_len, hmo, E.call, List.map_nil]
  repeat (apply And.intro; focus (first | omega | (simp; done)))
  refine Cal.mk (E.less _ _ _) ?_
  rintro _ _ ⟨z1, hz1, rfl, rfl⟩ -
  simp (config := {maxSteps := 3000000}) only [go_sem, ↓reduceIte, hz1]
  cases cq : lt L[j]! L[i]!
  · simp (config := {maxSteps := 3000000}) only [go_sem, Nat.reduceEqDiff, ↓reduceIte]
    exact ⟨_, _, Wk.refl _, weak_re hwf, i, j, n, .inl ⟨rfl, rfl⟩, by omega, rfl, rfl⟩
  · simp (config := {maxSteps := 3000000}) only [go_sem, Nat.reduceEqDiff, Nat.reduceLT, Nat.reduceLeDiff, Int.reduceNeg, ↓reduceIte]
    repeat (apply And.intro; focus (first | omega | (simp; done)))
    exact ⟨_, _, Wk.refl _, weak_re hwf, j, i, n + 1, .inr ⟨rfl, rfl⟩, by omega, rfl, by simp⟩
set_option maxRecDepth 100000 in
set_option maxHeartbeats 16000000 in
theorem cmed_v (hf : cFun P f = some (CMed fo)) (hfo : cFun P fo = some (COrd2)) (E : EltC P g val lt) (hbr : b < r) {i j k n : Nat} (hi : i < L.length) (hj : j < L.length) (hk : k < L.length) (hn : n < 4611686018427387) (hmo : mono (rowc val L sp)) (hl : L.length < 4611686018427387904) :
    VCalls P f [dataV b L.length cap, .sc (.int .i64 i), .sc (.int .i64 j), .sc (.int .i64 k), ptrV r, cmpV g] ((st.put b (rowc val L sp)).put r [.sc (.int .i64 n)]) fun v s => ∃ (x m : Nat), (x = i ∨ x = j ∨ x = k) ∧ m ≤ n + 3 ∧ v = .sc (.int .i64 x) ∧ s = (st.put b (rowc val L sp)).put r [.sc (.int .i64 m)] := by
  refine vcalls_enter hf (Nat.le_of_ble_eq_true rfl) fun hwf hok => ?_
  show Run _ (CMed fo).body (.fin (finQ (CMed fo).res _)) _ _
  unfold CMed
  simp (config := {maxSteps := 3000000}) only [go_sem, Nat.reduceEqDiff, ↓reduceIte, reduceCtorEq, dataV, cmpV]
  refine Cal.mk (cord2_v (n := n) hfo E hbr (i := i) (j := j) (by omega) (by omega) (by omega) hmo hl) ?_
  rintro _ _ ⟨x1, y1, n1, h1, m1, rfl, rfl⟩ -
  simp (config := {maxSteps := 3000000}) only [go_sem, Nat.reduceEqDiff, ↓reduceIte, reduceCtorEq]
  refine Cal.mk (cord2_v (n := n1) hfo E hbr (i := y1) (j := k) (by omega) (by omega) (by omega) hmo hl) ?_
  rintro _ _ ⟨x2, y2, n2, h2, m2, rfl, rfl⟩ -
  simp (config := {maxSteps := 3000000}) only [go_sem, Nat.reduceEqDiff, ↓reduceIte, reduceCtorEq]
  refine Cal.mk (cord2_v (n := n2) hfo E hbr (i := x1) (j := x2) (by omega) (by omega) (by omega) hmo hl) ?_
  rintro _ _ ⟨x3, y3, n3, h3, m3, rfl, rfl⟩ -
  simp (config := {maxSteps := 3000000}) only [go_sem, Nat.reduceEqDiff, ↓reduceIte]
  exact ⟨_, _, Wk.refl _, weak_re hwf, y3, n3, by omega, by omega, rfl, rfl⟩
set_option maxRecDepth 100000 in
set_option maxHeartbeats 16000000 in
theorem cmeda_v (hf : cFun P f = some (CMedA fm)) (hfm : cFun P fm = some (CMed fo)) (hfo : cFun P fo = some (COrd2)) (E : EltC P g val lt) (hbr : b < r) {i n : Nat} (hi : 1 ≤ i) (hj : i + 1 < L.length) (hn : n < 4611686018427387) (hmo : mono (rowc val L sp)) (hl : L.length < 4611686018427387904) :
    VCalls P f [dataV b L.length cap, .sc (.int .i64 i), ptrV r, cmpV g] ((st.put b (rowc val L sp)).put r [.sc (.int .i64 n)]) fun v s => ∃ (x m : Nat), i ≤ x + 1 ∧ x ≤ i + 1 ∧ m ≤ n + 3 ∧ v = .sc (.int .i64 x) ∧ s = (st.put b (rowc val L sp)).put r [.sc (.int .i64 m)] := by
  refine vcalls_enter hf (Nat.le_of_ble_eq_true rfl) fun hwf hok => ?_
  show Run _ (CMedA fm).body (.fin (finQ (CMedA fm).res _)) _ _
  unfold CMedA
  have e1 : ((i : Int) - 1) = ((i - 1 : Nat) : Int) := by omega
  have e2 : ((i : Int) + 1) = ((i + 1 : Nat) : Int) := by omega
  simp (config := {maxSteps := 3000000}) only [go_sem, Nat.reduceEqDiff, Int.reduceNeg, ↓reduceIte, reduceCtorEq, dataV, cmpV, e1, e2]
  repeat (apply And.intro; focus (first | omega | (simp; done)))
  refine Cal.mk (cmed_v (n := n) hfm hfo E hbr (i := i - 1) (j := i) (k := i + 1) (by omega) (by omega) (by omega) (by omega) hmo hl) ?_
  rintro _ _ ⟨x, m, hx, hm, rfl, rfl⟩ -
  simp (config := {maxSteps := 3000000}) only [go_sem, ↓reduceIte]
  exact ⟨_, _, Wk.refl _, weak_re hwf, x, m, by omega, by omega, by omega, rfl, rfl⟩
set_option maxRecDepth 100000 in
set_option maxHeartbeats 16000000 in
theorem cpivot_v (hf : cFun P f = some (CPivot fa fm)) (hfa : cFun P fa = some (CMedA fm)) (hfm : cFun P fm = some (CMed fo)) (hfo : cFun P fo = some (COrd2)) (E : EltC P g val lt) (h1 : a < c) (h2 : c ≤ L.length) (hmo : mono (rowc val L sp)) (hl : L.length < 4611686018427387904) :
    VCalls P f [dataV b L.length cap, .sc (.int .i64 a), .sc (.int .i64 c), cmpV g] (st.put b (rowc val L sp)) fun v s => ∃ (p : Nat) (h : Int), a ≤ p ∧ p < c ∧ v = .tup [.sc (.int .i64 p), .sc (.int .i64 h)] ∧ s = st.put b (rowc val L sp) := by
  refine vcalls_enter hf (Nat.le_of_ble_eq_true rfl) fun hwf hok => ?_
  show Run _ (CPivot fa fm).body (.fin (finQ (CPivot fa fm).res _)) _ _
  unfold CPivot
  have e0 : (c : Int) - (a : Int) = ((c - a : Nat) : Int) := by omega
  have e1 : (a : Int) + ((c - a : Nat) : Int) / 4 * 1 = ((a + (c - a) / 4 * 1 : Nat) : Int) := by omega
  have e2 : (a : Int) + ((c - a : Nat) : Int) / 4 * 2 = ((a + (c - a) / 4 * 2 : Nat) : Int) := by omega
  have e3 : (a : Int) + ((c - a : Nat) : Int) / 4 * 3 = ((a + (c - a) / 4 * 3 : Nat) : Int) := by omega
  simp (config := {maxSteps := 3000000}) only [go_sem, Nat.reduceEqDiff, Int.reduceLT, Int.reduceNeg, ↓reduceIte, dataV, cmpV, e0, e1, e2, e3]
  repeat (apply And.intro; focus (first | omega | (simp; done)))
  intro r hr
  have hbr : b < r := by omega
  have hrn : (st.put b (rowc val L sp)).box r = none := by
    rw [put_box_ne (Nat.ne_of_gt hbr)]
    cases e : st.box r with
    | none => rfl
    | some X =>
      have := hwf.lt.box r X (by rw [put_box_ne (Nat.ne_of_gt hbr)]; exact e)
      simp only [put_sz] at this
      omega
  obtain ⟨i1, ei1⟩ : ∃ i, i = a + (c - a) / 4 := ⟨_, rfl⟩
  obtain ⟨i2, ei2⟩ : ∃ i, i = a + (c - a) / 4 * 2 := ⟨_, rfl⟩
  obtain ⟨i3, ei3⟩ : ∃ i, i = a + (c - a) / 4 * 3 := ⟨_, rfl⟩
  by_cases c8 : (8 : Int) ≤ ((c - a : Nat) : Int)
  · by_cases c50 : (50 : Int) ≤ ((c - a : Nat) : Int)
    · simp (config := {maxSteps := 3000000}) only [go_sem, Nat.reduceEqDiff, Int.reduceNeg, ↓reduceIte, reduceCtorEq, decide_eq_true c8, decide_eq_true c50]
      repeat (apply And.intro; focus (first | omega | (simp; done)))
      rw [← ei1, ← ei2, ← ei3]
      refine Cal.mk (cmeda_v (n := 0) hfa hfm hfo E hbr (i := i1) (by omega) (by omega) (by omega) hmo hl) ?_
      rintro _ _ ⟨x1, n1, h1, i1, m1, rfl, rfl⟩ -
      simp (config := {maxSteps := 3000000}) only [go_sem, Nat.reduceEqDiff, ↓reduceIte, reduceCtorEq]
      refine Cal.mk (cmeda_v (n := n1) hfa hfm hfo E hbr (i := i2) (by omega) (by omega) (by omega) hmo hl) ?_
      rintro _ _ ⟨x2, n2, h2, i2, m2, rfl, rfl⟩ -
      simp (config := {maxSteps := 3000000}) only [go_sem, Nat.reduceEqDiff, ↓reduceIte, reduceCtorEq]
      refine Cal.mk (cmeda_v (n := n2) hfa hfm hfo E hbr (i := i3) (by omega) (by omega) (by omega) hmo hl) ?_
      rintro _ _ ⟨x3, n3, h3, i3, m3, rfl, rfl⟩ -
      simp (config := {maxSteps := 3000000}) only [go_sem, Nat.reduceEqDiff, ↓reduceIte, reduceCtorEq]
      refine Cal.mk (cmed_v (n := n3) hfm hfo E hbr (i := x1) (j := x2) (k := x3) (by omega) (by omega) (by omega) (by omega) hmo hl) ?_
      rintro _ _ ⟨x, m, hx, hm, rfl, rfl⟩ -
      simp (config := {maxSteps := 3000000}) only [go_sem, Nat.reduceEqDiff, ↓reduceIte]
      by_cases k0 : ((m : Nat) : Int) = 0
      · simp (config := {maxSteps := 3000000}) only [go_sem, Nat.reduceEqDiff, ↓reduceIte, decide_eq_true k0]
        exact ⟨_, _, Wk.refl _, weak_putF (weak_re hwf) hrn, x, 1, by omega, by omega, rfl, rfl⟩
      · by_cases k12 : ((m : Nat) : Int) = 12
        · simp (config := {maxSteps := 3000000}) only [go_sem, Nat.reduceEqDiff, ↓reduceIte, decide_eq_false k0, decide_eq_true k12]
          exact ⟨_, _, Wk.refl _, weak_putF (weak_re hwf) hrn, x, 2, by omega, by omega, rfl, rfl⟩
        · simp (config := {maxSteps := 3000000}) only [go_sem, Nat.reduceEqDiff, ↓reduceIte, decide_eq_false k0, decide_eq_false k12]
          exact ⟨_, _, Wk.refl _, weak_putF (weak_re hwf) hrn, x, 0, by omega, by omega, rfl, rfl⟩
    · simp (config := {maxSteps := 3000000}) only [go_sem, Nat.reduceEqDiff, Int.reduceNeg, ↓reduceIte, reduceCtorEq, decide_eq_true c8, decide_eq_false c50]
      repeat (apply And.intro; focus (first | omega | (simp; done)))
      rw [← ei1, ← ei2, ← ei3]
      refine Cal.mk (cmed_v (n := 0) hfm hfo E hbr (i := i1) (j := i2) (k := i3) (by omega) (by omega) (by omega) (by omega) hmo hl) ?_
      rintro _ _ ⟨x, m, hx, hm, rfl, rfl⟩ -
      simp (config := {maxSteps := 3000000}) only [go_sem, Nat.reduceEqDiff, ↓reduceIte]
      by_cases k0 : ((m : Nat) : Int) = 0
      · simp (config := {maxSteps := 3000000}) only [go_sem, Nat.reduceEqDiff, ↓reduceIte, decide_eq_true k0]
        exact ⟨_, _, Wk.refl _, weak_putF (weak_re hwf) hrn, x, 1, by omega, by omega, rfl, rfl⟩
      · by_cases k12 : ((m : Nat) : Int) = 12
        · simp (config := {maxSteps := 3000000}) only [go_sem, Nat.reduceEqDiff, ↓reduceIte, decide_eq_false k0, decide_eq_true k12]
          exact ⟨_, _, Wk.refl _, weak_putF (weak_re hwf) hrn, x, 2, by omega, by omega, rfl, rfl⟩
        · simp (config := {maxSteps := 3000000}) only [go_sem, Nat.reduceEqDiff, ↓reduceIte, decide_eq_false k0, decide_eq_false k12]
          exact ⟨_, _, Wk.refl _, weak_putF (weak_re hwf) hrn, x, 0, by omega, by omega, rfl, rfl⟩
  · simp (config := {maxSteps := 3000000}) only [go_sem, Nat.reduceEqDiff, Int.reduceNeg, ↓reduceIte, decide_eq_false c8]
    repeat (apply And.intro; focus (first | omega | (simp; done)))
    exact ⟨_, _, Wk.refl _, weak_putF (weak_re hwf) hrn, a + (c - a) / 4 * 2, 1, by omega, by omega, rfl, rfl⟩
set_option maxRecDepth 100000 in
set_option maxHeartbeats 16000000 in
theorem cbreak_v (hf : cFun P f = some (CBreak fpow fnext)) (hpow : ∀ (st : St) (n : Nat), 0 < n → n < 4611686018427387904 → VCalls P fpow [.sc (.int .i64 n)] st fun v s => st = s ∧ ∃ m : Nat, n < m ∧ m ≤ 2 * n ∧ v = .sc (.int .u64 m))
    (hnext : ∀ (st : St) (r : Nat) (x : Int), VCalls P fnext [ptrV r] (st.put r [.sc (.int .u64 x)]) fun v s => ∃ y, v = .sc (.int .u64 y) ∧ s = st.put r [.sc (.int .u64 y)]) (h1 : a ≤ c) (h2 : c ≤ L.length) (hmo : mono (rowc val L sp)) (hl : L.length < 4611686018427387904) :
    VCalls P f [dataV b L.length cap, .sc (.int .i64 a), .sc (.int .i64 c), cmpV g] (st.put b (rowc val L sp)) fun v s => ∃ M, Mix a c L M ∧ s = st.put b (rowc val M sp) := by
  refine vcalls_enter hf (Nat.le_of_ble_eq_true rfl) fun hwf hok => ?_
  show Run _ (CBreak fpow fnext).body (.fin (finQ (CBreak fpow fnext).res _)) _ _
  unfold CBreak
  have e0 : (c : Int) - (a : Int) = ((c - a : Nat) : Int) := by omega
  have e1 : ((c - a : Nat) : Int) % 18446744073709551616 = ((c - a : Nat) : Int) := by omega
  by_cases c8 : (8 : Int) ≤ ((c - a : Nat) : Int)
  · simp (config := {maxSteps := 3000000}) only [go_sem, Nat.reduceEqDiff, Nat.reduceLT, Nat.reduceLeDiff, Int.reduceNeg, ↓reduceIte, dataV, cmpV, e0, e1, decide_eq_true c8]
    repeat (apply And.intro; focus (first | omega | (simp; done)))
    intro r hr
    have hbr : b < r := by omega
    have hrn : (st.put b (rowc val L sp)).box r = none := by
      rw [put_box_ne (Nat.ne_of_gt hbr)]
      cases e : st.box r with
      | none => rfl
      | some X =>
        have := hwf.lt.box r X (by rw [put_box_ne (Nat.ne_of_gt hbr)]; exact e)
        simp only [put_sz] at this
        omega
    refine Cal.mk (hpow _ (c - a) (by omega) (by omega)) ?_
    rintro _ _ ⟨rfl, m, hm1, hm2, rfl⟩ -
    obtain ⟨q, eq⟩ : ∃ q : Nat, q = (c - a) / 4 * 2 := ⟨_, rfl⟩
    have e2 : ((c - a : Nat) : Int) / 4 * 2 = (q : Int) := by omega
    have e3 : ((m : Int) - 1) % 18446744073709551616 = ((m - 1 : Nat) : Int) := by omega
    simp (config := {maxSteps := 3000000}) only [go_sem, Nat.reduceEqDiff, Int.reduceLT, Int.reduceNeg, ↓reduceIte, e2]
    repeat (apply And.intro; focus (first | omega | (simp; done)))
    refine run_loop [11, 12, 28, 29, 30, 31, 32, 33, 34, 35, 36, 37, 38, 39, 40, 41, 42, 43, 44, 45, 46, 47, 48, 49, 50, 51, 52, 53, 54, 55, 56, 57, 58, 59, 60, 61, 62, 63, 64, 65, 66] (fun B s => ∃ (k : Nat) (x : Int) (M : List α), B 11 = .sc (.int .i64 k) ∧ a + q ≤ k + 1 ∧ k ≤ a + q + 2 ∧ Mix a c L M ∧ s = (st.put b (rowc val M sp)).put r [.sc (.int .u64 x)]) (fun B _ => a + q + 2 - vnat (B 11)) rfl ?_ ?_
    · simp (config := {maxSteps := 3000000}) only [go_sem, ↓reduceIte]
      exact ⟨a + q - 1, _, L, by rw [show (a : Int) + (q : Int) - 1 = ((a + q - 1 : Nat) : Int) by omega], by omega, by omega, .refl, rfl⟩
    · rintro B s ⟨k, x, M, h9, hk1, hk2, hM, rfl⟩
      have hlen := hM.len
      by_cases ck : (k : Int) ≤ (a : Int) + (q : Int) + 1
      · simp (config := {maxSteps := 3000000}) only [go_sem, Nat.reduceEqDiff, Int.reduceLT, Int.reduceNeg, ↓reduceIte, Nat.reduceBEq, h9, e2, decide_eq_true ck]
        repeat (apply And.intro; focus (first | omega | (simp; done)))
        refine Cal.mk (hnext _ r x) ?_
        rintro _ _ ⟨y, rfl, rfl⟩ -
        obtain ⟨z, ez, hz⟩ := and_u64 y (m := m - 1) (by omega)
        by_cases cz : ((c - a : Nat) : Int) ≤ (z : Int)
        · have ezz : (z : Int) - ((c - a : Nat) : Int) = ((z - (c - a) : Nat) : Int) := by omega
          obtain ⟨g1, g2, s1, s2, m1, m2⟩ := swapC hmo hlen (i := k) (j := a + (z - (c - a))) (by omega) (by omega)
          have hex := hM.exch (i := k) (j := a + (z - (c - a))) (by omega) (by omega) (by omega) (by omega) h2
          have ej : ((a : Int) + ((z - (c - a) : Nat) : Int)).toNat = a + (z - (c - a)) := by omega
          simp (config := {maxSteps := 3000000}) only [go_sem, Nat.reduceEqDiff, Nat.reduceAdd, Nat.reduceLT, Int.reduceNeg, ↓reduceIte, reduceCtorEq, Nat.reduceBEq, h9, ez, ezz, e3, decide_eq_true cz, ej, g1, g2, s1, s2, m1, m2, rowc_len, List.length_set, put_swp (Nat.ne_of_lt hbr), put_box_ne (Nat.ne_of_lt hbr)]
          repeat (apply And.intro; focus (first | omega | (simp; done)))
          exact ⟨⟨k + 1, y, _, by simp, by omega, by omega, hex, rfl⟩, by omega⟩
        · obtain ⟨g1, g2, s1, s2, m1, m2⟩ := swapC hmo hlen (i := k) (j := a + z) (by omega) (by omega)
          have hex := hM.exch (i := k) (j := a + z) (by omega) (by omega) (by omega) (by omega) h2
          have ej : ((a : Int) + (z : Int)).toNat = a + z := by omega
          simp (config := {maxSteps := 3000000}) only [go_sem, Nat.reduceEqDiff, Nat.reduceAdd, Nat.reduceLT, Int.reduceNeg, ↓reduceIte, reduceCtorEq, Nat.reduceBEq, h9, ez, e3, decide_eq_false cz, ej, g1, g2, s1, s2, m1, m2, rowc_len, List.length_set, put_swp (Nat.ne_of_lt hbr), put_box_ne (Nat.ne_of_lt hbr)]
          repeat (apply And.intro; focus (first | omega | (simp; done)))
          exact ⟨⟨k + 1, y, _, by simp, by omega, by omega, hex, rfl⟩, by omega⟩
      · simp (config := {maxSteps := 3000000}) only [go_sem, Nat.reduceEqDiff, Int.reduceLT, Int.reduceNeg, ↓reduceIte, Nat.reduceBEq, h9, e2, decide_eq_false ck]
        repeat (apply And.intro; focus (first | omega | (simp; done)))
        exact ⟨_, _, Wk.refl _, weak_putF (weak_re hwf) (by rw [put_box_ne (Nat.ne_of_gt hbr)] at hrn ⊢; exact hrn), M, hM, rfl⟩
  · simp (config := {maxSteps := 3000000}) only [go_sem, Nat.reduceEqDiff, Int.reduceNeg, ↓reduceIte, dataV, cmpV, e0, decide_eq_false c8]
    repeat (apply And.intro; focus (first | omega | (simp; done)))
    exact ⟨_, _, Wk.refl _, weak_re hwf, L, .refl, rfl⟩
end
end
section
open Go

/-- The sort's functions of one instance. -/
structure SortsC (P : Program) (f fins fheap fbreak fpivot frev fpart fequal fsplit fsift fa fm fo fpow fnext : FuncId) : Prop where
  pdq : cFun P f = some (CPdq fins fheap fbreak fpivot frev fpart fequal fsplit f)
  ins : cFun P fins = some (CIns)
  heap : cFun P fheap = some (CHeap fsift)
  sift : cFun P fsift = some (CSift)
  brk : cFun P fbreak = some (CBreak fpow fnext)
  pivot : cFun P fpivot = some (CPivot fa fm)
  meda : cFun P fa = some (CMedA fm)
  med : cFun P fm = some (CMed fo)
  ord2 : cFun P fo = some (COrd2)
  rev : cFun P frev = some CRev
  part : cFun P fpart = some (CPart)
  equal : cFun P fequal = some (CEqual)
  split : cFun P fsplit = some (CSplit)
  pow : ∀ (st : St) (n : Nat), 0 < n → n < 4611686018427387904 → VCalls P fpow [.sc (.int .i64 n)] st fun v s => st = s ∧ ∃ m : Nat, n < m ∧ m ≤ 2 * n ∧ v = .sc (.int .u64 m)
  next : ∀ (st : St) (r : Nat) (x : Int), VCalls P fnext [ptrV r] (st.put r [.sc (.int .u64 x)]) fun v s => ∃ y, v = .sc (.int .u64 y) ∧ s = st.put r [.sc (.int .u64 y)]
section
variable {P : Program} {α : Type} [Inhabited α] {val : α → V × V} {lt : α → α → Bool} {g f fsift : FuncId} {st : St} {b cap a c : Nat} {L : List α} {sp : List V}
variable {fins fheap fbreak fpivot frev fpart fequal fsplit fa fm fo fpow fnext : FuncId}
set_option maxRecDepth 100000 in
set_option maxHeartbeats 64000000 in
theorem cpdq_v (hc : SortsC P f fins fheap fbreak fpivot frev fpart fequal fsplit fsift fa fm fo fpow fnext) (E : EltC P g val lt) : ∀ (n a c : Nat) (L : List α) (lim : Int), c - a ≤ n → a ≤ c → c ≤ L.length → L.length < 4611686018427387904 → 0 ≤ lim → lim < 4611686018427387904 → LB lt a c L → mono (rowc val L sp) →
    VCalls P f [dataV b L.length cap, .sc (.int .i64 a), .sc (.int .i64 c), .sc (.int .i64 lim), cmpV g] (st.put b (rowc val L sp)) fun _ s => ∃ M, Mix a c L M ∧ Srt lt a c M ∧ s = st.put b (rowc val M sp) := by
  intro n
  induction n using Nat.strongRecOn with
  | _ n ih =>
  intro a c L lim hn h1 h2 hl hl0 hl1 hLB hmo
  refine vcalls_enter hc.pdq (Nat.le_of_ble_eq_true rfl) fun hwf hok => ?_
  show Run _ (CPdq fins fheap fbreak fpivot frev fpart fequal fsplit f).body (.fin (finQ (CPdq fins fheap fbreak fpivot frev fpart fequal fsplit f).res _)) _ _
  unfold CPdq
  simp (config := {maxSteps := 3000000}) only [go_sem, dataV, cmpV]
  refine run_loop [1, 2, 3, 10, 11, 12, 13, 14, 15, 16, 17, 18, 19, 20, 21, 22, 23, 24, 25, 26, 27, 28, 29, 30, 31, 32, 33, 34, 35, 36, 37, 38, 39, 40, 41, 42, 43, 44, 45, 46, 47, 48, 49, 50, 51, 52, 53, 54, 55, 56, 57, 58, 59, 60, 61, 62, 63, 64, 65, 66, 67, 68, 69, 70, 71, 72, 73, 74, 75, 76, 77, 78, 79, 80, 81, 82, 83, 84, 85, 86, 87, 88, 89, 90, 91, 92, 93, 94, 95, 96, 97, 98, 99, 100, 101, 102, 103, 104, 105, 106, 107, 108, 109, 110, 111, 112, 113, 114, 115, 116, 117, 118, 119, 120, 121, 122, 123, 124, 125, 126, 127, 128, 129, 130, 131, 132, 133, 134, 135, 136, 137, 138, 139, 140, 141, 142, 143, 144, 145, 146, 147] (fun B s => ∃ (x y : Nat) (M : List α) (lim : Int) (B1 B2 : Bool), B 1 = .sc (.int .i64 x) ∧ B 2 = .sc (.int .i64 y) ∧ B 3 = .sc (.int .i64 lim) ∧ B 10 = .sc (.bool B1) ∧ B 11 = .sc (.bool B2) ∧ a ≤ x ∧ x ≤ y ∧ y ≤ c ∧ 0 ≤ lim ∧ lim < 4611686018427387904 ∧ Mix a c L M ∧ Fence lt a c x y M ∧ s = st.put b (rowc val M sp)) (fun B _ => vnat (B 2) - vnat (B 1)) rfl ?_ ?_
  · simp (config := {maxSteps := 3000000}) only [go_sem, Nat.reduceEqDiff, ↓reduceIte]
    exact ⟨a, c, L, lim, true, true, rfl, rfl, rfl, rfl, rfl, by omega, by omega, by omega, hl0, hl1, .refl, Fence.nil, rfl⟩
  · clear hl0 hl1
    rintro B s ⟨x, y, M, lim, B1, B2, q1, q2, q3, q8, q9, hax, hxy, hyc, hl0, hl1, hM, hF, rfl⟩
    have hlen := hM.len
    have e0 : (y : Int) - (x : Int) = ((y - x : Nat) : Int) := by omega
    by_cases c12 : ((y - x : Nat) : Int) ≤ 12
    · simp (config := {maxSteps := 3000000}) only [go_sem, Nat.reduceEqDiff, Int.reduceNeg, ↓reduceIte, reduceCtorEq, Nat.reduceBEq, q1, q2, e0, decide_eq_true c12]
      repeat (apply And.intro; focus (first | omega | (simp; done)))
      have cc := cins_v (st := st) (b := b) (cap := cap) (sp := sp) hc.ins E (rowc_mono hmo hlen) (L := M) (a := x) (c := y) (by omega) (by omega) (by omega)
      rw [hlen, dataV] at cc
      refine Cal.mk cc ?_
      rintro _ _ ⟨N, n1, n2, rfl⟩ -
      clear cc
      simp (config := {maxSteps := 3000000}) only [go_sem]
      have hfin := hF.fin hM hax hyc h2 n1 n2
      exact ⟨_, _, Wk.refl _, weak_re hwf, N, hfin.1, hfin.2, rfl⟩
    · by_cases cl : lim = 0
      · simp (config := {maxSteps := 3000000}) only [go_sem, Nat.reduceEqDiff, Int.reduceNeg, ↓reduceIte, reduceCtorEq, Nat.reduceBEq, q1, q2, q3, e0, decide_eq_false c12, decide_eq_true cl]
        repeat (apply And.intro; focus (first | omega | (simp; done)))
        have cc := cheap_v (st := st) (b := b) (cap := cap) (sp := sp) hc.heap hc.sift E (rowc_mono hmo hlen) (L := M) (a := x) (c := y) (by omega) (by omega) (by omega)
        rw [hlen, dataV] at cc
        refine Cal.mk cc ?_
        rintro _ _ ⟨N, n1, n2, rfl⟩ -
        clear cc
        simp (config := {maxSteps := 3000000}) only [go_sem]
        have hfin := hF.fin hM hax hyc h2 n1 n2
        exact ⟨_, _, Wk.refl _, weak_re hwf, N, hfin.1, hfin.2, rfl⟩
      · cases B1
        · simp (config := {maxSteps := 3000000}) only [go_sem, Nat.reduceEqDiff, Int.reduceNeg, ↓reduceIte, reduceCtorEq, Nat.reduceBEq, q1, q2, q3, q8, e0, decide_eq_false c12, decide_eq_false cl]
          repeat (apply And.intro; focus (first | omega | (simp; done)))
          have cc := cbreak_v (st := st) (b := b) (cap := cap) (sp := sp) hc.brk (g := g) hc.pow hc.next (L := M) (a := x) (c := y) (by omega) (by omega) (rowc_mono hmo hlen) (by omega)
          rw [hlen, dataV] at cc
          refine Cal.mk cc ?_
          rintro _ _ ⟨N, n1, rfl⟩ -
          clear cc
          simp (config := {maxSteps := 3000000}) only [go_sem, Nat.reduceEqDiff, Int.reduceNeg, ↓reduceIte, reduceCtorEq, Nat.reduceBEq, q1, q2, q3]
          repeat (apply And.intro; focus (first | omega | (simp; done)))
          have hF := hF.mix n1 hax hyc (by omega)
          have hM := hM.trans (n1.wide hax hyc)
          have hlen := hM.len
          obtain ⟨lim', el⟩ : ∃ l, l = lim - 1 := ⟨_, rfl⟩
          rw [← el]
          have hl0 : 0 ≤ lim' := by omega
          have hl1 : lim' < 4611686018427387904 := by omega
          clear n1
          generalize N = M at hF hM hlen ⊢
          have cc := cpivot_v (st := st) (b := b) (cap := cap) (sp := sp) hc.pivot hc.meda hc.med hc.ord2 E (L := M) (a := x) (c := y) (by omega) (by omega) (rowc_mono hmo hlen) (by omega)
          rw [hlen, dataV] at cc
          refine Cal.mk cc ?_
          rintro _ _ ⟨pv, hint, p1, p2, rfl, rfl⟩ -
          clear cc
          by_cases k2 : hint = 2
          · simp (config := {maxSteps := 3000000}) only [go_sem, Nat.reduceEqDiff, ↓reduceIte, reduceCtorEq, Nat.reduceBEq, q1, q2, decide_eq_true k2]
            repeat (apply And.intro; focus (first | omega | (simp; done)))
            have cc := crev_v (st := st) (b := b) (cap := cap) (sp := sp) hc.rev (g := g) (rowc_mono hmo hlen) (L := M) (a := x) (c := y) (by omega) (by omega) (by omega)
            rw [hlen, dataV] at cc
            refine Cal.mk cc ?_
            rintro _ _ ⟨N, n1, rfl⟩ -
            clear cc
            have hF := hF.mix n1 hax hyc (by omega)
            have hM := hM.trans (n1.wide hax hyc)
            have hlen := hM.len
            have ep : (y : Int) - 1 - ((pv : Int) - (x : Int)) = ((y - 1 - (pv - x) : Nat) : Int) := by omega
            obtain ⟨pw, epw⟩ : ∃ pw, pw = y - 1 - (pv - x) := ⟨_, rfl⟩
            have p1 : x ≤ pw := by omega
            have p2 : pw < y := by omega
            rw [← epw] at ep
            clear n1 epw
            generalize N = M at hF hM hlen ⊢
            simp (config := {maxSteps := 3000000}) only [go_sem, Nat.reduceEqDiff, Int.reduceNeg, ↓reduceIte, Nat.reduceBEq, q1, q2, q8, ep]
            repeat (apply And.intro; focus (first | omega | (simp; done)))
            clear ep
            generalize pw = pv at p1 p2 ⊢
            have hLM := hLB.mix hM h2
            have hLx := hF.lb hLM hax hyc
            by_cases cx : 0 < x
            · have ex : ((x : Int) - 1).toNat = x - 1 := by omega
              simp (config := {maxSteps := 3000000}) only [go_sem, Nat.reduceEqDiff, Int.reduceNeg, ↓reduceIte, reduceCtorEq, Nat.reduceBEq, q1, ex, decide_eq_true (show (0 : Int) < (x : Int) by omega), rowc_get (show x - 1 < M.length by omega), rowc_get (show pv < M.length by omega), rowc_len, rowc_mono hmo hlen, E.call, List.map_nil]
              repeat (apply And.intro; focus (first | omega | (simp; done)))
              refine Cal.mk (E.less _ _ _) ?_
              rintro _ _ ⟨z1, hz1, rfl, rfl⟩ -
              simp (config := {maxSteps := 3000000}) only [go_sem, Nat.reduceEqDiff, ↓reduceIte, hz1]
              cases cq : lt M[x - 1]! M[pv]!
              · simp (config := {maxSteps := 3000000}) only [go_sem, Nat.reduceEqDiff, ↓reduceIte, reduceCtorEq, Nat.reduceBEq, q1, q2]
                have cc := cequal_v (st := st) (b := b) (cap := cap) (sp := sp) hc.equal E (rowc_mono hmo hlen) (p := pv) (by omega) (by omega) (by omega) (by omega) (L := M) (a := x) (c := y)
                rw [hlen, dataV] at cc
                refine Cal.mk cc ?_
                rintro _ _ ⟨m, N, n1, n2, n3, n4, n5, rfl, rfl⟩ -
                clear cc
                simp (config := {maxSteps := 3000000}) only [go_sem, Nat.reduceEqDiff, ↓reduceIte, Nat.reduceBEq, q2, q8, q9]
                repeat (apply And.intro; focus (first | omega | (simp; done)))
                exact ⟨⟨m, y, N, lim', _, _, rfl, rfl, rfl, rfl, rfl, by omega, by omega, by omega, hl0, hl1, hM.trans (n3.wide hax hyc), hF.goE E.ord hLx cx cq hax hyc n1 n2 (by omega) n3 n4, rfl⟩, by omega⟩
              · simp (config := {maxSteps := 3000000}) only [go_sem, Nat.reduceEqDiff, ↓reduceIte, reduceCtorEq, Nat.reduceBEq, q1, q2]
                have cc := csplit_v (st := st) (b := b) (cap := cap) (sp := sp) hc.split E (rowc_mono hmo hlen) (p := pv) (by omega) (by omega) (by omega) (by omega) (L := M) (a := x) (c := y)
                rw [hlen, dataV] at cc
                refine Cal.mk cc ?_
                rintro _ _ ⟨m, B3, N, n1, n2, n3, n4, n5, rfl, rfl⟩ -
                clear cc
                have hlN : N.length = L.length := n3.len.trans hlen
                have hMN : Mix a c L N := hM.trans (n3.wide hax hyc)
                have hFN := hF.mix n3 hax hyc (by omega)
                have hLN := hLx.mix n3 (by omega)
                have e4 : (m : Int) - (x : Int) = ((m - x : Nat) : Int) := by omega
                have e5 : (y : Int) - (m : Int) = ((y - m : Nat) : Int) := by omega
                have e6 : (m : Int) + 1 = ((m + 1 : Nat) : Int) := by simp
                clear hM hF hLx hLM n3
                by_cases cl : ((m - x : Nat) : Int) < ((y - m : Nat) : Int)
                · simp (config := {maxSteps := 3000000}) only [go_sem, Nat.reduceEqDiff, Int.reduceLT, Int.reduceNeg, ↓reduceIte, reduceCtorEq, Nat.reduceBEq, q1, q2, e4, e5, decide_eq_true cl]
                  repeat (apply And.intro; focus (first | omega | (simp; done)))
                  have cc := ih (m - x) (by omega) x m N lim' (Nat.le_refl _) (by omega) (by omega) (by omega) hl0 hl1 (hLN.part (by omega)) (rowc_mono hmo hlN)
                  rw [hlN, dataV] at cc
                  refine Cal.mk cc ?_
                  rintro _ _ ⟨R, r1, r2, rfl⟩ -
                  clear cc
                  simp (config := {maxSteps := 3000000}) only [go_sem, Nat.reduceEqDiff, Int.reduceNeg, ↓reduceIte, Nat.reduceBEq, q2, e6]
                  repeat (apply And.intro; focus (first | omega | (simp; done)))
                  exact ⟨⟨m + 1, y, R, lim', _, _, rfl, rfl, rfl, rfl, rfl, by omega, by omega, by omega, hl0, hl1, hMN.trans (r1.wide (by omega) (by omega)), hFN.goL E.ord hax hyc (by omega) (by omega) (by omega) n4 n5 r1 r2, rfl⟩, by omega⟩
                · simp (config := {maxSteps := 3000000}) only [go_sem, Nat.reduceEqDiff, Int.reduceLT, Int.reduceNeg, ↓reduceIte, reduceCtorEq, Nat.reduceBEq, q1, q2, e4, e5, e6, decide_eq_false cl]
                  repeat (apply And.intro; focus (first | omega | (simp; done)))
                  have cc := ih (y - (m + 1)) (by omega) (m + 1) y N lim' (Nat.le_refl _) (by omega) (by omega) (by omega) hl0 hl1 (LB.next n5) (rowc_mono hmo hlN)
                  rw [hlN, dataV] at cc
                  refine Cal.mk cc ?_
                  rintro _ _ ⟨R, r1, r2, rfl⟩ -
                  clear cc
                  simp (config := {maxSteps := 3000000}) only [go_sem, Nat.reduceEqDiff, ↓reduceIte, Nat.reduceBEq, q1]
                  repeat (apply And.intro; focus (first | omega | (simp; done)))
                  exact ⟨⟨x, m, R, lim', _, _, rfl, rfl, rfl, rfl, rfl, by omega, by omega, by omega, hl0, hl1, hMN.trans (r1.wide (by omega) (by omega)), hFN.goR E.ord hax hyc (by omega) (by omega) (by omega) n4 n5 r1 r2, rfl⟩, by omega⟩
            · simp (config := {maxSteps := 3000000}) only [go_sem, Nat.reduceEqDiff, ↓reduceIte, reduceCtorEq, Nat.reduceBEq, q1, q2, decide_eq_false (show ¬ (0 : Int) < (x : Int) by omega)]
              have cc := csplit_v (st := st) (b := b) (cap := cap) (sp := sp) hc.split E (rowc_mono hmo hlen) (p := pv) (by omega) (by omega) (by omega) (by omega) (L := M) (a := x) (c := y)
              rw [hlen, dataV] at cc
              refine Cal.mk cc ?_
              rintro _ _ ⟨m, B3, N, n1, n2, n3, n4, n5, rfl, rfl⟩ -
              clear cc
              have hlN : N.length = L.length := n3.len.trans hlen
              have hMN : Mix a c L N := hM.trans (n3.wide hax hyc)
              have hFN := hF.mix n3 hax hyc (by omega)
              have hLN := hLx.mix n3 (by omega)
              have e4 : (m : Int) - (x : Int) = ((m - x : Nat) : Int) := by omega
              have e5 : (y : Int) - (m : Int) = ((y - m : Nat) : Int) := by omega
              have e6 : (m : Int) + 1 = ((m + 1 : Nat) : Int) := by simp
              clear hM hF hLx hLM n3
              by_cases cl : ((m - x : Nat) : Int) < ((y - m : Nat) : Int)
              · simp (config := {maxSteps := 3000000}) only [go_sem, Nat.reduceEqDiff, Int.reduceLT, Int.reduceNeg, ↓reduceIte, reduceCtorEq, Nat.reduceBEq, q1, q2, e4, e5, decide_eq_true cl]
                repeat (apply And.intro; focus (first | omega | (simp; done)))
                have cc := ih (m - x) (by omega) x m N lim' (Nat.le_refl _) (by omega) (by omega) (by omega) hl0 hl1 (hLN.part (by omega)) (rowc_mono hmo hlN)
                rw [hlN, dataV] at cc
                refine Cal.mk cc ?_
                rintro _ _ ⟨R, r1, r2, rfl⟩ -
                clear cc
                simp (config := {maxSteps := 3000000}) only [go_sem, Nat.reduceEqDiff, Int.reduceNeg, ↓reduceIte, Nat.reduceBEq, q2, e6]
                repeat (apply And.intro; focus (first | omega | (simp; done)))
                exact ⟨⟨m + 1, y, R, lim', _, _, rfl, rfl, rfl, rfl, rfl, by omega, by omega, by omega, hl0, hl1, hMN.trans (r1.wide (by omega) (by omega)), hFN.goL E.ord hax hyc (by omega) (by omega) (by omega) n4 n5 r1 r2, rfl⟩, by omega⟩
              · simp (config := {maxSteps := 3000000}) only [go_sem, Nat.reduceEqDiff, Int.reduceLT, Int.reduceNeg, ↓reduceIte, reduceCtorEq, Nat.reduceBEq, q1, q2, e4, e5, e6, decide_eq_false cl]
                repeat (apply And.intro; focus (first | omega | (simp; done)))
                have cc := ih (y - (m + 1)) (by omega) (m + 1) y N lim' (Nat.le_refl _) (by omega) (by omega) (by omega) hl0 hl1 (LB.next n5) (rowc_mono hmo hlN)
                rw [hlN, dataV] at cc
                refine Cal.mk cc ?_
                rintro _ _ ⟨R, r1, r2, rfl⟩ -
                clear cc
                simp (config := {maxSteps := 3000000}) only [go_sem, Nat.reduceEqDiff, ↓reduceIte, Nat.reduceBEq, q1]
                repeat (apply And.intro; focus (first | omega | (simp; done)))
                exact ⟨⟨x, m, R, lim', _, _, rfl, rfl, rfl, rfl, rfl, by omega, by omega, by omega, hl0, hl1, hMN.trans (r1.wide (by omega) (by omega)), hFN.goR E.ord hax hyc (by omega) (by omega) (by omega) n4 n5 r1 r2, rfl⟩, by omega⟩
          · simp (config := {maxSteps := 3000000}) only [go_sem, Nat.reduceEqDiff, ↓reduceIte, Nat.reduceBEq, q1, q8, decide_eq_false k2]
            repeat (apply And.intro; focus (first | omega | (simp; done)))
            have hLM := hLB.mix hM h2
            have hLx := hF.lb hLM hax hyc
            by_cases cx : 0 < x
            · have ex : ((x : Int) - 1).toNat = x - 1 := by omega
              simp (config := {maxSteps := 3000000}) only [go_sem, Nat.reduceEqDiff, Int.reduceNeg, ↓reduceIte, reduceCtorEq, Nat.reduceBEq, q1, ex, decide_eq_true (show (0 : Int) < (x : Int) by omega), rowc_get (show x - 1 < M.length by omega), rowc_get (show pv < M.length by omega), rowc_len, rowc_mono hmo hlen, E.call, List.map_nil]
              repeat (apply And.intro; focus (first | omega | (simp; done)))
              refine Cal.mk (E.less _ _ _) ?_
              rintro _ _ ⟨z2, hz2, rfl, rfl⟩ -
              simp (config := {maxSteps := 3000000}) only [go_sem, Nat.reduceEqDiff, ↓reduceIte, hz2]
              cases cq : lt M[x - 1]! M[pv]!
              · simp (config := {maxSteps := 3000000}) only [go_sem, Nat.reduceEqDiff, ↓reduceIte, reduceCtorEq, Nat.reduceBEq, q1, q2]
                have cc := cequal_v (st := st) (b := b) (cap := cap) (sp := sp) hc.equal E (rowc_mono hmo hlen) (p := pv) (by omega) (by omega) (by omega) (by omega) (L := M) (a := x) (c := y)
                rw [hlen, dataV] at cc
                refine Cal.mk cc ?_
                rintro _ _ ⟨m, N, n1, n2, n3, n4, n5, rfl, rfl⟩ -
                clear cc
                simp (config := {maxSteps := 3000000}) only [go_sem, Nat.reduceEqDiff, ↓reduceIte, Nat.reduceBEq, q2, q8, q9]
                repeat (apply And.intro; focus (first | omega | (simp; done)))
                exact ⟨⟨m, y, N, lim', _, _, rfl, rfl, rfl, rfl, rfl, by omega, by omega, by omega, hl0, hl1, hM.trans (n3.wide hax hyc), hF.goE E.ord hLx cx cq hax hyc n1 n2 (by omega) n3 n4, rfl⟩, by omega⟩
              · simp (config := {maxSteps := 3000000}) only [go_sem, Nat.reduceEqDiff, ↓reduceIte, reduceCtorEq, Nat.reduceBEq, q1, q2]
                have cc := csplit_v (st := st) (b := b) (cap := cap) (sp := sp) hc.split E (rowc_mono hmo hlen) (p := pv) (by omega) (by omega) (by omega) (by omega) (L := M) (a := x) (c := y)
                rw [hlen, dataV] at cc
                refine Cal.mk cc ?_
                rintro _ _ ⟨m, B3, N, n1, n2, n3, n4, n5, rfl, rfl⟩ -
                clear cc
                have hlN : N.length = L.length := n3.len.trans hlen
                have hMN : Mix a c L N := hM.trans (n3.wide hax hyc)
                have hFN := hF.mix n3 hax hyc (by omega)
                have hLN := hLx.mix n3 (by omega)
                have e4 : (m : Int) - (x : Int) = ((m - x : Nat) : Int) := by omega
                have e5 : (y : Int) - (m : Int) = ((y - m : Nat) : Int) := by omega
                have e6 : (m : Int) + 1 = ((m + 1 : Nat) : Int) := by simp
                clear hM hF hLx hLM n3
                by_cases cl : ((m - x : Nat) : Int) < ((y - m : Nat) : Int)
                · simp (config := {maxSteps := 3000000}) only [go_sem, Nat.reduceEqDiff, Int.reduceLT, Int.reduceNeg, ↓reduceIte, reduceCtorEq, Nat.reduceBEq, q1, q2, e4, e5, decide_eq_true cl]
                  repeat (apply And.intro; focus (first | omega | (simp; done)))
                  have cc := ih (m - x) (by omega) x m N lim' (Nat.le_refl _) (by omega) (by omega) (by omega) hl0 hl1 (hLN.part (by omega)) (rowc_mono hmo hlN)
                  rw [hlN, dataV] at cc
                  refine Cal.mk cc ?_
                  rintro _ _ ⟨R, r1, r2, rfl⟩ -
                  clear cc
                  simp (config := {maxSteps := 3000000}) only [go_sem, Nat.reduceEqDiff, Int.reduceNeg, ↓reduceIte, Nat.reduceBEq, q2, e6]
                  repeat (apply And.intro; focus (first | omega | (simp; done)))
                  exact ⟨⟨m + 1, y, R, lim', _, _, rfl, rfl, rfl, rfl, rfl, by omega, by omega, by omega, hl0, hl1, hMN.trans (r1.wide (by omega) (by omega)), hFN.goL E.ord hax hyc (by omega) (by omega) (by omega) n4 n5 r1 r2, rfl⟩, by omega⟩
                · simp (config := {maxSteps := 3000000}) only [go_sem, Nat.reduceEqDiff, Int.reduceLT, Int.reduceNeg, ↓reduceIte, reduceCtorEq, Nat.reduceBEq, q1, q2, e4, e5, e6, decide_eq_false cl]
                  repeat (apply And.intro; focus (first | omega | (simp; done)))
                  have cc := ih (y - (m + 1)) (by omega) (m + 1) y N lim' (Nat.le_refl _) (by omega) (by omega) (by omega) hl0 hl1 (LB.next n5) (rowc_mono hmo hlN)
                  rw [hlN, dataV] at cc
                  refine Cal.mk cc ?_
                  rintro _ _ ⟨R, r1, r2, rfl⟩ -
                  clear cc
                  simp (config := {maxSteps := 3000000}) only [go_sem, Nat.reduceEqDiff, ↓reduceIte, Nat.reduceBEq, q1]
                  repeat (apply And.intro; focus (first | omega | (simp; done)))
                  exact ⟨⟨x, m, R, lim', _, _, rfl, rfl, rfl, rfl, rfl, by omega, by omega, by omega, hl0, hl1, hMN.trans (r1.wide (by omega) (by omega)), hFN.goR E.ord hax hyc (by omega) (by omega) (by omega) n4 n5 r1 r2, rfl⟩, by omega⟩
            · simp (config := {maxSteps := 3000000}) only [go_sem, Nat.reduceEqDiff, ↓reduceIte, reduceCtorEq, Nat.reduceBEq, q1, q2, decide_eq_false (show ¬ (0 : Int) < (x : Int) by omega)]
              have cc := csplit_v (st := st) (b := b) (cap := cap) (sp := sp) hc.split E (rowc_mono hmo hlen) (p := pv) (by omega) (by omega) (by omega) (by omega) (L := M) (a := x) (c := y)
              rw [hlen, dataV] at cc
              refine Cal.mk cc ?_
              rintro _ _ ⟨m, B3, N, n1, n2, n3, n4, n5, rfl, rfl⟩ -
              clear cc
              have hlN : N.length = L.length := n3.len.trans hlen
              have hMN : Mix a c L N := hM.trans (n3.wide hax hyc)
              have hFN := hF.mix n3 hax hyc (by omega)
              have hLN := hLx.mix n3 (by omega)
              have e4 : (m : Int) - (x : Int) = ((m - x : Nat) : Int) := by omega
              have e5 : (y : Int) - (m : Int) = ((y - m : Nat) : Int) := by omega
              have e6 : (m : Int) + 1 = ((m + 1 : Nat) : Int) := by simp
              clear hM hF hLx hLM n3
              by_cases cl : ((m - x : Nat) : Int) < ((y - m : Nat) : Int)
              · simp (config := {maxSteps := 3000000}) only [go_sem, Nat.reduceEqDiff, Int.reduceLT, Int.reduceNeg, ↓reduceIte, reduceCtorEq, Nat.reduceBEq, q1, q2, e4, e5, decide_eq_true cl]
                repeat (apply And.intro; focus (first | omega | (simp; done)))
                have cc := ih (m - x) (by omega) x m N lim' (Nat.le_refl _) (by omega) (by omega) (by omega) hl0 hl1 (hLN.part (by omega)) (rowc_mono hmo hlN)
                rw [hlN, dataV] at cc
                refine Cal.mk cc ?_
                rintro _ _ ⟨R, r1, r2, rfl⟩ -
                clear cc
                simp (config := {maxSteps := 3000000}) only [go_sem, Nat.reduceEqDiff, Int.reduceNeg, ↓reduceIte, Nat.reduceBEq, q2, e6]
                repeat (apply And.intro; focus (first | omega | (simp; done)))
                exact ⟨⟨m + 1, y, R, lim', _, _, rfl, rfl, rfl, rfl, rfl, by omega, by omega, by omega, hl0, hl1, hMN.trans (r1.wide (by omega) (by omega)), hFN.goL E.ord hax hyc (by omega) (by omega) (by omega) n4 n5 r1 r2, rfl⟩, by omega⟩
              · simp (config := {maxSteps := 3000000}) only [go_sem, Nat.reduceEqDiff, Int.reduceLT, Int.reduceNeg, ↓reduceIte, reduceCtorEq, Nat.reduceBEq, q1, q2, e4, e5, e6, decide_eq_false cl]
                repeat (apply And.intro; focus (first | omega | (simp; done)))
                have cc := ih (y - (m + 1)) (by omega) (m + 1) y N lim' (Nat.le_refl _) (by omega) (by omega) (by omega) hl0 hl1 (LB.next n5) (rowc_mono hmo hlN)
                rw [hlN, dataV] at cc
                refine Cal.mk cc ?_
                rintro _ _ ⟨R, r1, r2, rfl⟩ -
                clear cc
                simp (config := {maxSteps := 3000000}) only [go_sem, Nat.reduceEqDiff, ↓reduceIte, Nat.reduceBEq, q1]
                repeat (apply And.intro; focus (first | omega | (simp; done)))
                exact ⟨⟨x, m, R, lim', _, _, rfl, rfl, rfl, rfl, rfl, by omega, by omega, by omega, hl0, hl1, hMN.trans (r1.wide (by omega) (by omega)), hFN.goR E.ord hax hyc (by omega) (by omega) (by omega) n4 n5 r1 r2, rfl⟩, by omega⟩
        · simp (config := {maxSteps := 3000000}) only [go_sem, Nat.reduceEqDiff, Int.reduceNeg, ↓reduceIte, reduceCtorEq, Nat.reduceBEq, q1, q2, q3, q8, e0, decide_eq_false c12, decide_eq_false cl]
          repeat (apply And.intro; focus (first | omega | (simp; done)))
          obtain ⟨lim', el⟩ : ∃ l, l = lim := ⟨_, rfl⟩
          rw [← el] at q3 hl0 hl1
          have cc := cpivot_v (st := st) (b := b) (cap := cap) (sp := sp) hc.pivot hc.meda hc.med hc.ord2 E (L := M) (a := x) (c := y) (by omega) (by omega) (rowc_mono hmo hlen) (by omega)
          rw [hlen, dataV] at cc
          refine Cal.mk cc ?_
          rintro _ _ ⟨pv, hint, p1, p2, rfl, rfl⟩ -
          clear cc
          by_cases k2 : hint = 2
          · simp (config := {maxSteps := 3000000}) only [go_sem, Nat.reduceEqDiff, ↓reduceIte, reduceCtorEq, Nat.reduceBEq, q1, q2, decide_eq_true k2]
            repeat (apply And.intro; focus (first | omega | (simp; done)))
            have cc := crev_v (st := st) (b := b) (cap := cap) (sp := sp) hc.rev (g := g) (rowc_mono hmo hlen) (L := M) (a := x) (c := y) (by omega) (by omega) (by omega)
            rw [hlen, dataV] at cc
            refine Cal.mk cc ?_
            rintro _ _ ⟨N, n1, rfl⟩ -
            clear cc
            have hF := hF.mix n1 hax hyc (by omega)
            have hM := hM.trans (n1.wide hax hyc)
            have hlen := hM.len
            have ep : (y : Int) - 1 - ((pv : Int) - (x : Int)) = ((y - 1 - (pv - x) : Nat) : Int) := by omega
            obtain ⟨pw, epw⟩ : ∃ pw, pw = y - 1 - (pv - x) := ⟨_, rfl⟩
            have p1 : x ≤ pw := by omega
            have p2 : pw < y := by omega
            rw [← epw] at ep
            clear n1 epw
            generalize N = M at hF hM hlen ⊢
            cases B2
            · simp (config := {maxSteps := 3000000}) only [go_sem, Nat.reduceEqDiff, Int.reduceNeg, ↓reduceIte, Nat.reduceBEq, q1, q2, q8, q9, ep]
              repeat (apply And.intro; focus (first | omega | (simp; done)))
              clear ep
              generalize pw = pv at p1 p2 ⊢
              have hLM := hLB.mix hM h2
              have hLx := hF.lb hLM hax hyc
              by_cases cx : 0 < x
              · have ex : ((x : Int) - 1).toNat = x - 1 := by omega
                simp (config := {maxSteps := 3000000}) only [go_sem, Nat.reduceEqDiff, Int.reduceNeg, ↓reduceIte, reduceCtorEq, Nat.reduceBEq, q1, ex, decide_eq_true (show (0 : Int) < (x : Int) by omega), rowc_get (show x - 1 < M.length by omega), rowc_get (show pv < M.length by omega), rowc_len, rowc_mono hmo hlen, E.call, List.map_nil]
                repeat (apply And.intro; focus (first | omega | (simp; done)))
                refine Cal.mk (E.less _ _ _) ?_
                rintro _ _ ⟨z3, hz3, rfl, rfl⟩ -
                simp (config := {maxSteps := 3000000}) only [go_sem, Nat.reduceEqDiff, ↓reduceIte, hz3]
                cases cq : lt M[x - 1]! M[pv]!
                · simp (config := {maxSteps := 3000000}) only [go_sem, Nat.reduceEqDiff, ↓reduceIte, reduceCtorEq, Nat.reduceBEq, q1, q2]
                  have cc := cequal_v (st := st) (b := b) (cap := cap) (sp := sp) hc.equal E (rowc_mono hmo hlen) (p := pv) (by omega) (by omega) (by omega) (by omega) (L := M) (a := x) (c := y)
                  rw [hlen, dataV] at cc
                  refine Cal.mk cc ?_
                  rintro _ _ ⟨m, N, n1, n2, n3, n4, n5, rfl, rfl⟩ -
                  clear cc
                  simp (config := {maxSteps := 3000000}) only [go_sem, Nat.reduceEqDiff, ↓reduceIte, Nat.reduceBEq, q2, q3, q8, q9]
                  repeat (apply And.intro; focus (first | omega | (simp; done)))
                  exact ⟨⟨m, y, N, lim', _, _, rfl, rfl, rfl, rfl, rfl, by omega, by omega, by omega, hl0, hl1, hM.trans (n3.wide hax hyc), hF.goE E.ord hLx cx cq hax hyc n1 n2 (by omega) n3 n4, rfl⟩, by omega⟩
                · simp (config := {maxSteps := 3000000}) only [go_sem, Nat.reduceEqDiff, ↓reduceIte, reduceCtorEq, Nat.reduceBEq, q1, q2]
                  have cc := csplit_v (st := st) (b := b) (cap := cap) (sp := sp) hc.split E (rowc_mono hmo hlen) (p := pv) (by omega) (by omega) (by omega) (by omega) (L := M) (a := x) (c := y)
                  rw [hlen, dataV] at cc
                  refine Cal.mk cc ?_
                  rintro _ _ ⟨m, B3, N, n1, n2, n3, n4, n5, rfl, rfl⟩ -
                  clear cc
                  have hlN : N.length = L.length := n3.len.trans hlen
                  have hMN : Mix a c L N := hM.trans (n3.wide hax hyc)
                  have hFN := hF.mix n3 hax hyc (by omega)
                  have hLN := hLx.mix n3 (by omega)
                  have e4 : (m : Int) - (x : Int) = ((m - x : Nat) : Int) := by omega
                  have e5 : (y : Int) - (m : Int) = ((y - m : Nat) : Int) := by omega
                  have e6 : (m : Int) + 1 = ((m + 1 : Nat) : Int) := by simp
                  clear hM hF hLx hLM n3
                  by_cases cl : ((m - x : Nat) : Int) < ((y - m : Nat) : Int)
                  · simp (config := {maxSteps := 3000000}) only [go_sem, Nat.reduceEqDiff, Int.reduceLT, Int.reduceNeg, ↓reduceIte, reduceCtorEq, Nat.reduceBEq, q1, q2, q3, e4, e5, decide_eq_true cl]
                    repeat (apply And.intro; focus (first | omega | (simp; done)))
                    have cc := ih (m - x) (by omega) x m N lim' (Nat.le_refl _) (by omega) (by omega) (by omega) hl0 hl1 (hLN.part (by omega)) (rowc_mono hmo hlN)
                    rw [hlN, dataV] at cc
                    refine Cal.mk cc ?_
                    rintro _ _ ⟨R, r1, r2, rfl⟩ -
                    clear cc
                    simp (config := {maxSteps := 3000000}) only [go_sem, Nat.reduceEqDiff, Int.reduceNeg, ↓reduceIte, Nat.reduceBEq, q2, q3, e6]
                    repeat (apply And.intro; focus (first | omega | (simp; done)))
                    exact ⟨⟨m + 1, y, R, lim', _, _, rfl, rfl, rfl, rfl, rfl, by omega, by omega, by omega, hl0, hl1, hMN.trans (r1.wide (by omega) (by omega)), hFN.goL E.ord hax hyc (by omega) (by omega) (by omega) n4 n5 r1 r2, rfl⟩, by omega⟩
                  · simp (config := {maxSteps := 3000000}) only [go_sem, Nat.reduceEqDiff, Int.reduceLT, Int.reduceNeg, ↓reduceIte, reduceCtorEq, Nat.reduceBEq, q1, q2, q3, e4, e5, e6, decide_eq_false cl]
                    repeat (apply And.intro; focus (first | omega | (simp; done)))
                    have cc := ih (y - (m + 1)) (by omega) (m + 1) y N lim' (Nat.le_refl _) (by omega) (by omega) (by omega) hl0 hl1 (LB.next n5) (rowc_mono hmo hlN)
                    rw [hlN, dataV] at cc
                    refine Cal.mk cc ?_
                    rintro _ _ ⟨R, r1, r2, rfl⟩ -
                    clear cc
                    simp (config := {maxSteps := 3000000}) only [go_sem, Nat.reduceEqDiff, ↓reduceIte, Nat.reduceBEq, q1, q3]
                    repeat (apply And.intro; focus (first | omega | (simp; done)))
                    exact ⟨⟨x, m, R, lim', _, _, rfl, rfl, rfl, rfl, rfl, by omega, by omega, by omega, hl0, hl1, hMN.trans (r1.wide (by omega) (by omega)), hFN.goR E.ord hax hyc (by omega) (by omega) (by omega) n4 n5 r1 r2, rfl⟩, by omega⟩
              · simp (config := {maxSteps := 3000000}) only [go_sem, Nat.reduceEqDiff, ↓reduceIte, reduceCtorEq, Nat.reduceBEq, q1, q2, decide_eq_false (show ¬ (0 : Int) < (x : Int) by omega)]
                have cc := csplit_v (st := st) (b := b) (cap := cap) (sp := sp) hc.split E (rowc_mono hmo hlen) (p := pv) (by omega) (by omega) (by omega) (by omega) (L := M) (a := x) (c := y)
                rw [hlen, dataV] at cc
                refine Cal.mk cc ?_
                rintro _ _ ⟨m, B3, N, n1, n2, n3, n4, n5, rfl, rfl⟩ -
                clear cc
                have hlN : N.length = L.length := n3.len.trans hlen
                have hMN : Mix a c L N := hM.trans (n3.wide hax hyc)
                have hFN := hF.mix n3 hax hyc (by omega)
                have hLN := hLx.mix n3 (by omega)
                have e4 : (m : Int) - (x : Int) = ((m - x : Nat) : Int) := by omega
                have e5 : (y : Int) - (m : Int) = ((y - m : Nat) : Int) := by omega
                have e6 : (m : Int) + 1 = ((m + 1 : Nat) : Int) := by simp
                clear hM hF hLx hLM n3
                by_cases cl : ((m - x : Nat) : Int) < ((y - m : Nat) : Int)
                · simp (config := {maxSteps := 3000000}) only [go_sem, Nat.reduceEqDiff, Int.reduceLT, Int.reduceNeg, ↓reduceIte, reduceCtorEq, Nat.reduceBEq, q1, q2, q3, e4, e5, decide_eq_true cl]
                  repeat (apply And.intro; focus (first | omega | (simp; done)))
                  have cc := ih (m - x) (by omega) x m N lim' (Nat.le_refl _) (by omega) (by omega) (by omega) hl0 hl1 (hLN.part (by omega)) (rowc_mono hmo hlN)
                  rw [hlN, dataV] at cc
                  refine Cal.mk cc ?_
                  rintro _ _ ⟨R, r1, r2, rfl⟩ -
                  clear cc
                  simp (config := {maxSteps := 3000000}) only [go_sem, Nat.reduceEqDiff, Int.reduceNeg, ↓reduceIte, Nat.reduceBEq, q2, q3, e6]
                  repeat (apply And.intro; focus (first | omega | (simp; done)))
                  exact ⟨⟨m + 1, y, R, lim', _, _, rfl, rfl, rfl, rfl, rfl, by omega, by omega, by omega, hl0, hl1, hMN.trans (r1.wide (by omega) (by omega)), hFN.goL E.ord hax hyc (by omega) (by omega) (by omega) n4 n5 r1 r2, rfl⟩, by omega⟩
                · simp (config := {maxSteps := 3000000}) only [go_sem, Nat.reduceEqDiff, Int.reduceLT, Int.reduceNeg, ↓reduceIte, reduceCtorEq, Nat.reduceBEq, q1, q2, q3, e4, e5, e6, decide_eq_false cl]
                  repeat (apply And.intro; focus (first | omega | (simp; done)))
                  have cc := ih (y - (m + 1)) (by omega) (m + 1) y N lim' (Nat.le_refl _) (by omega) (by omega) (by omega) hl0 hl1 (LB.next n5) (rowc_mono hmo hlN)
                  rw [hlN, dataV] at cc
                  refine Cal.mk cc ?_
                  rintro _ _ ⟨R, r1, r2, rfl⟩ -
                  clear cc
                  simp (config := {maxSteps := 3000000}) only [go_sem, Nat.reduceEqDiff, ↓reduceIte, Nat.reduceBEq, q1, q3]
                  repeat (apply And.intro; focus (first | omega | (simp; done)))
                  exact ⟨⟨x, m, R, lim', _, _, rfl, rfl, rfl, rfl, rfl, by omega, by omega, by omega, hl0, hl1, hMN.trans (r1.wide (by omega) (by omega)), hFN.goR E.ord hax hyc (by omega) (by omega) (by omega) n4 n5 r1 r2, rfl⟩, by omega⟩
            · simp (config := {maxSteps := 3000000}) only [go_sem, Nat.reduceEqDiff, Int.reduceNeg, ↓reduceIte, reduceCtorEq, Nat.reduceBEq, q1, q2, q8, q9, ep]
              repeat (apply And.intro; focus (first | omega | (simp; done)))
              clear ep
              generalize pw = pv at p1 p2 ⊢
              have cc := cpart_v (st := st) (b := b) (cap := cap) (sp := sp) hc.part E (rowc_mono hmo hlen) (L := M) (a := x) (c := y) (by omega) (by omega) (by omega) (hF.lb (hLB.mix hM h2) hax hyc)
              rw [hlen, dataV] at cc
              refine Cal.mk cc ?_
              rintro _ _ ⟨B3, N, n1, n2, rfl, rfl⟩ -
              clear cc
              cases B3
              · simp (config := {maxSteps := 3000000}) only [go_sem, Nat.reduceEqDiff, ↓reduceIte, Nat.reduceBEq, q1]
                have hF := hF.mix n1 hax hyc (by omega)
                have hM := hM.trans (n1.wide hax hyc)
                have hlen := hM.len
                clear n1 n2
                generalize N = M at hF hM hlen ⊢
                have hLM := hLB.mix hM h2
                have hLx := hF.lb hLM hax hyc
                by_cases cx : 0 < x
                · have ex : ((x : Int) - 1).toNat = x - 1 := by omega
                  simp (config := {maxSteps := 3000000}) only [go_sem, Nat.reduceEqDiff, Int.reduceNeg, ↓reduceIte, reduceCtorEq, Nat.reduceBEq, q1, ex, decide_eq_true (show (0 : Int) < (x : Int) by omega), rowc_get (show x - 1 < M.length by omega), rowc_get (show pv < M.length by omega), rowc_len, rowc_mono hmo hlen, E.call, List.map_nil]
                  repeat (apply And.intro; focus (first | omega | (simp; done)))
                  refine Cal.mk (E.less _ _ _) ?_
                  rintro _ _ ⟨z4, hz4, rfl, rfl⟩ -
                  simp (config := {maxSteps := 3000000}) only [go_sem, Nat.reduceEqDiff, ↓reduceIte, hz4]
                  cases cq : lt M[x - 1]! M[pv]!
                  · simp (config := {maxSteps := 3000000}) only [go_sem, Nat.reduceEqDiff, ↓reduceIte, reduceCtorEq, Nat.reduceBEq, q1, q2]
                    have cc := cequal_v (st := st) (b := b) (cap := cap) (sp := sp) hc.equal E (rowc_mono hmo hlen) (p := pv) (by omega) (by omega) (by omega) (by omega) (L := M) (a := x) (c := y)
                    rw [hlen, dataV] at cc
                    refine Cal.mk cc ?_
                    rintro _ _ ⟨m, N, n1, n2, n3, n4, n5, rfl, rfl⟩ -
                    clear cc
                    simp (config := {maxSteps := 3000000}) only [go_sem, Nat.reduceEqDiff, ↓reduceIte, Nat.reduceBEq, q2, q3, q8, q9]
                    repeat (apply And.intro; focus (first | omega | (simp; done)))
                    exact ⟨⟨m, y, N, lim', _, _, rfl, rfl, rfl, rfl, rfl, by omega, by omega, by omega, hl0, hl1, hM.trans (n3.wide hax hyc), hF.goE E.ord hLx cx cq hax hyc n1 n2 (by omega) n3 n4, rfl⟩, by omega⟩
                  · simp (config := {maxSteps := 3000000}) only [go_sem, Nat.reduceEqDiff, ↓reduceIte, reduceCtorEq, Nat.reduceBEq, q1, q2]
                    have cc := csplit_v (st := st) (b := b) (cap := cap) (sp := sp) hc.split E (rowc_mono hmo hlen) (p := pv) (by omega) (by omega) (by omega) (by omega) (L := M) (a := x) (c := y)
                    rw [hlen, dataV] at cc
                    refine Cal.mk cc ?_
                    rintro _ _ ⟨m, B3, N, n1, n2, n3, n4, n5, rfl, rfl⟩ -
                    clear cc
                    have hlN : N.length = L.length := n3.len.trans hlen
                    have hMN : Mix a c L N := hM.trans (n3.wide hax hyc)
                    have hFN := hF.mix n3 hax hyc (by omega)
                    have hLN := hLx.mix n3 (by omega)
                    have e4 : (m : Int) - (x : Int) = ((m - x : Nat) : Int) := by omega
                    have e5 : (y : Int) - (m : Int) = ((y - m : Nat) : Int) := by omega
                    have e6 : (m : Int) + 1 = ((m + 1 : Nat) : Int) := by simp
                    clear hM hF hLx hLM n3
                    by_cases cl : ((m - x : Nat) : Int) < ((y - m : Nat) : Int)
                    · simp (config := {maxSteps := 3000000}) only [go_sem, Nat.reduceEqDiff, Int.reduceLT, Int.reduceNeg, ↓reduceIte, reduceCtorEq, Nat.reduceBEq, q1, q2, q3, e4, e5, decide_eq_true cl]
                      repeat (apply And.intro; focus (first | omega | (simp; done)))
                      have cc := ih (m - x) (by omega) x m N lim' (Nat.le_refl _) (by omega) (by omega) (by omega) hl0 hl1 (hLN.part (by omega)) (rowc_mono hmo hlN)
                      rw [hlN, dataV] at cc
                      refine Cal.mk cc ?_
                      rintro _ _ ⟨R, r1, r2, rfl⟩ -
                      clear cc
                      simp (config := {maxSteps := 3000000}) only [go_sem, Nat.reduceEqDiff, Int.reduceNeg, ↓reduceIte, Nat.reduceBEq, q2, q3, e6]
                      repeat (apply And.intro; focus (first | omega | (simp; done)))
                      exact ⟨⟨m + 1, y, R, lim', _, _, rfl, rfl, rfl, rfl, rfl, by omega, by omega, by omega, hl0, hl1, hMN.trans (r1.wide (by omega) (by omega)), hFN.goL E.ord hax hyc (by omega) (by omega) (by omega) n4 n5 r1 r2, rfl⟩, by omega⟩
                    · simp (config := {maxSteps := 3000000}) only [go_sem, Nat.reduceEqDiff, Int.reduceLT, Int.reduceNeg, ↓reduceIte, reduceCtorEq, Nat.reduceBEq, q1, q2, q3, e4, e5, e6, decide_eq_false cl]
                      repeat (apply And.intro; focus (first | omega | (simp; done)))
                      have cc := ih (y - (m + 1)) (by omega) (m + 1) y N lim' (Nat.le_refl _) (by omega) (by omega) (by omega) hl0 hl1 (LB.next n5) (rowc_mono hmo hlN)
                      rw [hlN, dataV] at cc
                      refine Cal.mk cc ?_
                      rintro _ _ ⟨R, r1, r2, rfl⟩ -
                      clear cc
                      simp (config := {maxSteps := 3000000}) only [go_sem, Nat.reduceEqDiff, ↓reduceIte, Nat.reduceBEq, q1, q3]
                      repeat (apply And.intro; focus (first | omega | (simp; done)))
                      exact ⟨⟨x, m, R, lim', _, _, rfl, rfl, rfl, rfl, rfl, by omega, by omega, by omega, hl0, hl1, hMN.trans (r1.wide (by omega) (by omega)), hFN.goR E.ord hax hyc (by omega) (by omega) (by omega) n4 n5 r1 r2, rfl⟩, by omega⟩
                · simp (config := {maxSteps := 3000000}) only [go_sem, Nat.reduceEqDiff, ↓reduceIte, reduceCtorEq, Nat.reduceBEq, q1, q2, decide_eq_false (show ¬ (0 : Int) < (x : Int) by omega)]
                  have cc := csplit_v (st := st) (b := b) (cap := cap) (sp := sp) hc.split E (rowc_mono hmo hlen) (p := pv) (by omega) (by omega) (by omega) (by omega) (L := M) (a := x) (c := y)
                  rw [hlen, dataV] at cc
                  refine Cal.mk cc ?_
                  rintro _ _ ⟨m, B3, N, n1, n2, n3, n4, n5, rfl, rfl⟩ -
                  clear cc
                  have hlN : N.length = L.length := n3.len.trans hlen
                  have hMN : Mix a c L N := hM.trans (n3.wide hax hyc)
                  have hFN := hF.mix n3 hax hyc (by omega)
                  have hLN := hLx.mix n3 (by omega)
                  have e4 : (m : Int) - (x : Int) = ((m - x : Nat) : Int) := by omega
                  have e5 : (y : Int) - (m : Int) = ((y - m : Nat) : Int) := by omega
                  have e6 : (m : Int) + 1 = ((m + 1 : Nat) : Int) := by simp
                  clear hM hF hLx hLM n3
                  by_cases cl : ((m - x : Nat) : Int) < ((y - m : Nat) : Int)
                  · simp (config := {maxSteps := 3000000}) only [go_sem, Nat.reduceEqDiff, Int.reduceLT, Int.reduceNeg, ↓reduceIte, reduceCtorEq, Nat.reduceBEq, q1, q2, q3, e4, e5, decide_eq_true cl]
                    repeat (apply And.intro; focus (first | omega | (simp; done)))
                    have cc := ih (m - x) (by omega) x m N lim' (Nat.le_refl _) (by omega) (by omega) (by omega) hl0 hl1 (hLN.part (by omega)) (rowc_mono hmo hlN)
                    rw [hlN, dataV] at cc
                    refine Cal.mk cc ?_
                    rintro _ _ ⟨R, r1, r2, rfl⟩ -
                    clear cc
                    simp (config := {maxSteps := 3000000}) only [go_sem, Nat.reduceEqDiff, Int.reduceNeg, ↓reduceIte, Nat.reduceBEq, q2, q3, e6]
                    repeat (apply And.intro; focus (first | omega | (simp; done)))
                    exact ⟨⟨m + 1, y, R, lim', _, _, rfl, rfl, rfl, rfl, rfl, by omega, by omega, by omega, hl0, hl1, hMN.trans (r1.wide (by omega) (by omega)), hFN.goL E.ord hax hyc (by omega) (by omega) (by omega) n4 n5 r1 r2, rfl⟩, by omega⟩
                  · simp (config := {maxSteps := 3000000}) only [go_sem, Nat.reduceEqDiff, Int.reduceLT, Int.reduceNeg, ↓reduceIte, reduceCtorEq, Nat.reduceBEq, q1, q2, q3, e4, e5, e6, decide_eq_false cl]
                    repeat (apply And.intro; focus (first | omega | (simp; done)))
                    have cc := ih (y - (m + 1)) (by omega) (m + 1) y N lim' (Nat.le_refl _) (by omega) (by omega) (by omega) hl0 hl1 (LB.next n5) (rowc_mono hmo hlN)
                    rw [hlN, dataV] at cc
                    refine Cal.mk cc ?_
                    rintro _ _ ⟨R, r1, r2, rfl⟩ -
                    clear cc
                    simp (config := {maxSteps := 3000000}) only [go_sem, Nat.reduceEqDiff, ↓reduceIte, Nat.reduceBEq, q1, q3]
                    repeat (apply And.intro; focus (first | omega | (simp; done)))
                    exact ⟨⟨x, m, R, lim', _, _, rfl, rfl, rfl, rfl, rfl, by omega, by omega, by omega, hl0, hl1, hMN.trans (r1.wide (by omega) (by omega)), hFN.goR E.ord hax hyc (by omega) (by omega) (by omega) n4 n5 r1 r2, rfl⟩, by omega⟩
              · simp (config := {maxSteps := 3000000}) only [go_sem, ↓reduceIte]
                have hfin := hF.fin hM hax hyc h2 n1 (n2 rfl)
                exact ⟨_, _, Wk.refl _, weak_re hwf, N, hfin.1, hfin.2, rfl⟩
          · cases B2
            · simp (config := {maxSteps := 3000000}) only [go_sem, Nat.reduceEqDiff, ↓reduceIte, Nat.reduceBEq, q1, q8, q9, decide_eq_false k2]
              repeat (apply And.intro; focus (first | omega | (simp; done)))
              have hLM := hLB.mix hM h2
              have hLx := hF.lb hLM hax hyc
              by_cases cx : 0 < x
              · have ex : ((x : Int) - 1).toNat = x - 1 := by omega
                simp (config := {maxSteps := 3000000}) only [go_sem, Nat.reduceEqDiff, Int.reduceNeg, ↓reduceIte, reduceCtorEq, Nat.reduceBEq, q1, ex, decide_eq_true (show (0 : Int) < (x : Int) by omega), rowc_get (show x - 1 < M.length by omega), rowc_get (show pv < M.length by omega), rowc_len, rowc_mono hmo hlen, E.call, List.map_nil]
                repeat (apply And.intro; focus (first | omega | (simp; done)))
                refine Cal.mk (E.less _ _ _) ?_
                rintro _ _ ⟨z5, hz5, rfl, rfl⟩ -
                simp (config := {maxSteps := 3000000}) only [go_sem, Nat.reduceEqDiff, ↓reduceIte, hz5]
                cases cq : lt M[x - 1]! M[pv]!
                · simp (config := {maxSteps := 3000000}) only [go_sem, Nat.reduceEqDiff, ↓reduceIte, reduceCtorEq, Nat.reduceBEq, q1, q2]
                  have cc := cequal_v (st := st) (b := b) (cap := cap) (sp := sp) hc.equal E (rowc_mono hmo hlen) (p := pv) (by omega) (by omega) (by omega) (by omega) (L := M) (a := x) (c := y)
                  rw [hlen, dataV] at cc
                  refine Cal.mk cc ?_
                  rintro _ _ ⟨m, N, n1, n2, n3, n4, n5, rfl, rfl⟩ -
                  clear cc
                  simp (config := {maxSteps := 3000000}) only [go_sem, Nat.reduceEqDiff, ↓reduceIte, Nat.reduceBEq, q2, q3, q8, q9]
                  repeat (apply And.intro; focus (first | omega | (simp; done)))
                  exact ⟨⟨m, y, N, lim', _, _, rfl, rfl, rfl, rfl, rfl, by omega, by omega, by omega, hl0, hl1, hM.trans (n3.wide hax hyc), hF.goE E.ord hLx cx cq hax hyc n1 n2 (by omega) n3 n4, rfl⟩, by omega⟩
                · simp (config := {maxSteps := 3000000}) only [go_sem, Nat.reduceEqDiff, ↓reduceIte, reduceCtorEq, Nat.reduceBEq, q1, q2]
                  have cc := csplit_v (st := st) (b := b) (cap := cap) (sp := sp) hc.split E (rowc_mono hmo hlen) (p := pv) (by omega) (by omega) (by omega) (by omega) (L := M) (a := x) (c := y)
                  rw [hlen, dataV] at cc
                  refine Cal.mk cc ?_
                  rintro _ _ ⟨m, B3, N, n1, n2, n3, n4, n5, rfl, rfl⟩ -
                  clear cc
                  have hlN : N.length = L.length := n3.len.trans hlen
                  have hMN : Mix a c L N := hM.trans (n3.wide hax hyc)
                  have hFN := hF.mix n3 hax hyc (by omega)
                  have hLN := hLx.mix n3 (by omega)
                  have e4 : (m : Int) - (x : Int) = ((m - x : Nat) : Int) := by omega
                  have e5 : (y : Int) - (m : Int) = ((y - m : Nat) : Int) := by omega
                  have e6 : (m : Int) + 1 = ((m + 1 : Nat) : Int) := by simp
                  clear hM hF hLx hLM n3
                  by_cases cl : ((m - x : Nat) : Int) < ((y - m : Nat) : Int)
                  · simp (config := {maxSteps := 3000000}) only [go_sem, Nat.reduceEqDiff, Int.reduceLT, Int.reduceNeg, ↓reduceIte, reduceCtorEq, Nat.reduceBEq, q1, q2, q3, e4, e5, decide_eq_true cl]
                    repeat (apply And.intro; focus (first | omega | (simp; done)))
                    have cc := ih (m - x) (by omega) x m N lim' (Nat.le_refl _) (by omega) (by omega) (by omega) hl0 hl1 (hLN.part (by omega)) (rowc_mono hmo hlN)
                    rw [hlN, dataV] at cc
                    refine Cal.mk cc ?_
                    rintro _ _ ⟨R, r1, r2, rfl⟩ -
                    clear cc
                    simp (config := {maxSteps := 3000000}) only [go_sem, Nat.reduceEqDiff, Int.reduceNeg, ↓reduceIte, Nat.reduceBEq, q2, q3, e6]
                    repeat (apply And.intro; focus (first | omega | (simp; done)))
                    exact ⟨⟨m + 1, y, R, lim', _, _, rfl, rfl, rfl, rfl, rfl, by omega, by omega, by omega, hl0, hl1, hMN.trans (r1.wide (by omega) (by omega)), hFN.goL E.ord hax hyc (by omega) (by omega) (by omega) n4 n5 r1 r2, rfl⟩, by omega⟩
                  · simp (config := {maxSteps := 3000000}) only [go_sem, Nat.reduceEqDiff, Int.reduceLT, Int.reduceNeg, ↓reduceIte, reduceCtorEq, Nat.reduceBEq, q1, q2, q3, e4, e5, e6, decide_eq_false cl]
                    repeat (apply And.intro; focus (first | omega | (simp; done)))
                    have cc := ih (y - (m + 1)) (by omega) (m + 1) y N lim' (Nat.le_refl _) (by omega) (by omega) (by omega) hl0 hl1 (LB.next n5) (rowc_mono hmo hlN)
                    rw [hlN, dataV] at cc
                    refine Cal.mk cc ?_
                    rintro _ _ ⟨R, r1, r2, rfl⟩ -
                    clear cc
                    simp (config := {maxSteps := 3000000}) only [go_sem, Nat.reduceEqDiff, ↓reduceIte, Nat.reduceBEq, q1, q3]
                    repeat (apply And.intro; focus (first | omega | (simp; done)))
                    exact ⟨⟨x, m, R, lim', _, _, rfl, rfl, rfl, rfl, rfl, by omega, by omega, by omega, hl0, hl1, hMN.trans (r1.wide (by omega) (by omega)), hFN.goR E.ord hax hyc (by omega) (by omega) (by omega) n4 n5 r1 r2, rfl⟩, by omega⟩
              · simp (config := {maxSteps := 3000000}) only [go_sem, Nat.reduceEqDiff, ↓reduceIte, reduceCtorEq, Nat.reduceBEq, q1, q2, decide_eq_false (show ¬ (0 : Int) < (x : Int) by omega)]
                have cc := csplit_v (st := st) (b := b) (cap := cap) (sp := sp) hc.split E (rowc_mono hmo hlen) (p := pv) (by omega) (by omega) (by omega) (by omega) (L := M) (a := x) (c := y)
                rw [hlen, dataV] at cc
                refine Cal.mk cc ?_
                rintro _ _ ⟨m, B3, N, n1, n2, n3, n4, n5, rfl, rfl⟩ -
                clear cc
                have hlN : N.length = L.length := n3.len.trans hlen
                have hMN : Mix a c L N := hM.trans (n3.wide hax hyc)
                have hFN := hF.mix n3 hax hyc (by omega)
                have hLN := hLx.mix n3 (by omega)
                have e4 : (m : Int) - (x : Int) = ((m - x : Nat) : Int) := by omega
                have e5 : (y : Int) - (m : Int) = ((y - m : Nat) : Int) := by omega
                have e6 : (m : Int) + 1 = ((m + 1 : Nat) : Int) := by simp
                clear hM hF hLx hLM n3
                by_cases cl : ((m - x : Nat) : Int) < ((y - m : Nat) : Int)
                · simp (config := {maxSteps := 3000000}) only [go_sem, Nat.reduceEqDiff, Int.reduceLT, Int.reduceNeg, ↓reduceIte, reduceCtorEq, Nat.reduceBEq, q1, q2, q3, e4, e5, decide_eq_true cl]
                  repeat (apply And.intro; focus (first | omega | (simp; done)))
                  have cc := ih (m - x) (by omega) x m N lim' (Nat.le_refl _) (by omega) (by omega) (by omega) hl0 hl1 (hLN.part (by omega)) (rowc_mono hmo hlN)
                  rw [hlN, dataV] at cc
                  refine Cal.mk cc ?_
                  rintro _ _ ⟨R, r1, r2, rfl⟩ -
                  clear cc
                  simp (config := {maxSteps := 3000000}) only [go_sem, Nat.reduceEqDiff, Int.reduceNeg, ↓reduceIte, Nat.reduceBEq, q2, q3, e6]
                  repeat (apply And.intro; focus (first | omega | (simp; done)))
                  exact ⟨⟨m + 1, y, R, lim', _, _, rfl, rfl, rfl, rfl, rfl, by omega, by omega, by omega, hl0, hl1, hMN.trans (r1.wide (by omega) (by omega)), hFN.goL E.ord hax hyc (by omega) (by omega) (by omega) n4 n5 r1 r2, rfl⟩, by omega⟩
                · simp (config := {maxSteps := 3000000}) only [go_sem, Nat.reduceEqDiff, Int.reduceLT, Int.reduceNeg, ↓reduceIte, reduceCtorEq, Nat.reduceBEq, q1, q2, q3, e4, e5, e6, decide_eq_false cl]
                  repeat (apply And.intro; focus (first | omega | (simp; done)))
                  have cc := ih (y - (m + 1)) (by omega) (m + 1) y N lim' (Nat.le_refl _) (by omega) (by omega) (by omega) hl0 hl1 (LB.next n5) (rowc_mono hmo hlN)
                  rw [hlN, dataV] at cc
                  refine Cal.mk cc ?_
                  rintro _ _ ⟨R, r1, r2, rfl⟩ -
                  clear cc
                  simp (config := {maxSteps := 3000000}) only [go_sem, Nat.reduceEqDiff, ↓reduceIte, Nat.reduceBEq, q1, q3]
                  repeat (apply And.intro; focus (first | omega | (simp; done)))
                  exact ⟨⟨x, m, R, lim', _, _, rfl, rfl, rfl, rfl, rfl, by omega, by omega, by omega, hl0, hl1, hMN.trans (r1.wide (by omega) (by omega)), hFN.goR E.ord hax hyc (by omega) (by omega) (by omega) n4 n5 r1 r2, rfl⟩, by omega⟩
            · by_cases k1 : hint = 1
              · simp (config := {maxSteps := 3000000}) only [go_sem, Nat.reduceEqDiff, ↓reduceIte, reduceCtorEq, Nat.reduceBEq, q1, q2, q8, q9, decide_eq_false k2, decide_eq_true k1]
                repeat (apply And.intro; focus (first | omega | (simp; done)))
                have cc := cpart_v (st := st) (b := b) (cap := cap) (sp := sp) hc.part E (rowc_mono hmo hlen) (L := M) (a := x) (c := y) (by omega) (by omega) (by omega) (hF.lb (hLB.mix hM h2) hax hyc)
                rw [hlen, dataV] at cc
                refine Cal.mk cc ?_
                rintro _ _ ⟨B3, N, n1, n2, rfl, rfl⟩ -
                clear cc
                cases B3
                · simp (config := {maxSteps := 3000000}) only [go_sem, Nat.reduceEqDiff, ↓reduceIte, Nat.reduceBEq, q1]
                  have hF := hF.mix n1 hax hyc (by omega)
                  have hM := hM.trans (n1.wide hax hyc)
                  have hlen := hM.len
                  clear n1 n2
                  generalize N = M at hF hM hlen ⊢
                  have hLM := hLB.mix hM h2
                  have hLx := hF.lb hLM hax hyc
                  by_cases cx : 0 < x
                  · have ex : ((x : Int) - 1).toNat = x - 1 := by omega
                    simp (config := {maxSteps := 3000000}) only [go_sem, Nat.reduceEqDiff, Int.reduceNeg, ↓reduceIte, reduceCtorEq, Nat.reduceBEq, q1, ex, decide_eq_true (show (0 : Int) < (x : Int) by omega), rowc_get (show x - 1 < M.length by omega), rowc_get (show pv < M.length by omega), rowc_len, rowc_mono hmo hlen, E.call, List.map_nil]
                    repeat (apply And.intro; focus (first | omega | (simp; done)))
                    refine Cal.mk (E.less _ _ _) ?_
                    rintro _ _ ⟨z6, hz6, rfl, rfl⟩ -
                    simp (config := {maxSteps := 3000000}) only [go_sem, Nat.reduceEqDiff, ↓reduceIte, hz6]
                    cases cq : lt M[x - 1]! M[pv]!
                    · simp (config := {maxSteps := 3000000}) only [go_sem, Nat.reduceEqDiff, ↓reduceIte, reduceCtorEq, Nat.reduceBEq, q1, q2]
                      have cc := cequal_v (st := st) (b := b) (cap := cap) (sp := sp) hc.equal E (rowc_mono hmo hlen) (p := pv) (by omega) (by omega) (by omega) (by omega) (L := M) (a := x) (c := y)
                      rw [hlen, dataV] at cc
                      refine Cal.mk cc ?_
                      rintro _ _ ⟨m, N, n1, n2, n3, n4, n5, rfl, rfl⟩ -
                      clear cc
                      simp (config := {maxSteps := 3000000}) only [go_sem, Nat.reduceEqDiff, ↓reduceIte, Nat.reduceBEq, q2, q3, q8, q9]
                      repeat (apply And.intro; focus (first | omega | (simp; done)))
                      exact ⟨⟨m, y, N, lim', _, _, rfl, rfl, rfl, rfl, rfl, by omega, by omega, by omega, hl0, hl1, hM.trans (n3.wide hax hyc), hF.goE E.ord hLx cx cq hax hyc n1 n2 (by omega) n3 n4, rfl⟩, by omega⟩
                    · simp (config := {maxSteps := 3000000}) only [go_sem, Nat.reduceEqDiff, ↓reduceIte, reduceCtorEq, Nat.reduceBEq, q1, q2]
                      have cc := csplit_v (st := st) (b := b) (cap := cap) (sp := sp) hc.split E (rowc_mono hmo hlen) (p := pv) (by omega) (by omega) (by omega) (by omega) (L := M) (a := x) (c := y)
                      rw [hlen, dataV] at cc
                      refine Cal.mk cc ?_
                      rintro _ _ ⟨m, B3, N, n1, n2, n3, n4, n5, rfl, rfl⟩ -
                      clear cc
                      have hlN : N.length = L.length := n3.len.trans hlen
                      have hMN : Mix a c L N := hM.trans (n3.wide hax hyc)
                      have hFN := hF.mix n3 hax hyc (by omega)
                      have hLN := hLx.mix n3 (by omega)
                      have e4 : (m : Int) - (x : Int) = ((m - x : Nat) : Int) := by omega
                      have e5 : (y : Int) - (m : Int) = ((y - m : Nat) : Int) := by omega
                      have e6 : (m : Int) + 1 = ((m + 1 : Nat) : Int) := by simp
                      clear hM hF hLx hLM n3
                      by_cases cl : ((m - x : Nat) : Int) < ((y - m : Nat) : Int)
                      · simp (config := {maxSteps := 3000000}) only [go_sem, Nat.reduceEqDiff, Int.reduceLT, Int.reduceNeg, ↓reduceIte, reduceCtorEq, Nat.reduceBEq, q1, q2, q3, e4, e5, decide_eq_true cl]
                        repeat (apply And.intro; focus (first | omega | (simp; done)))
                        have cc := ih (m - x) (by omega) x m N lim' (Nat.le_refl _) (by omega) (by omega) (by omega) hl0 hl1 (hLN.part (by omega)) (rowc_mono hmo hlN)
                        rw [hlN, dataV] at cc
                        refine Cal.mk cc ?_
                        rintro _ _ ⟨R, r1, r2, rfl⟩ -
                        clear cc
                        simp (config := {maxSteps := 3000000}) only [go_sem, Nat.reduceEqDiff, Int.reduceNeg, ↓reduceIte, Nat.reduceBEq, q2, q3, e6]
                        repeat (apply And.intro; focus (first | omega | (simp; done)))
                        exact ⟨⟨m + 1, y, R, lim', _, _, rfl, rfl, rfl, rfl, rfl, by omega, by omega, by omega, hl0, hl1, hMN.trans (r1.wide (by omega) (by omega)), hFN.goL E.ord hax hyc (by omega) (by omega) (by omega) n4 n5 r1 r2, rfl⟩, by omega⟩
                      · simp (config := {maxSteps := 3000000}) only [go_sem, Nat.reduceEqDiff, Int.reduceLT, Int.reduceNeg, ↓reduceIte, reduceCtorEq, Nat.reduceBEq, q1, q2, q3, e4, e5, e6, decide_eq_false cl]
                        repeat (apply And.intro; focus (first | omega | (simp; done)))
                        have cc := ih (y - (m + 1)) (by omega) (m + 1) y N lim' (Nat.le_refl _) (by omega) (by omega) (by omega) hl0 hl1 (LB.next n5) (rowc_mono hmo hlN)
                        rw [hlN, dataV] at cc
                        refine Cal.mk cc ?_
                        rintro _ _ ⟨R, r1, r2, rfl⟩ -
                        clear cc
                        simp (config := {maxSteps := 3000000}) only [go_sem, Nat.reduceEqDiff, ↓reduceIte, Nat.reduceBEq, q1, q3]
                        repeat (apply And.intro; focus (first | omega | (simp; done)))
                        exact ⟨⟨x, m, R, lim', _, _, rfl, rfl, rfl, rfl, rfl, by omega, by omega, by omega, hl0, hl1, hMN.trans (r1.wide (by omega) (by omega)), hFN.goR E.ord hax hyc (by omega) (by omega) (by omega) n4 n5 r1 r2, rfl⟩, by omega⟩
                  · simp (config := {maxSteps := 3000000}) only [go_sem, Nat.reduceEqDiff, ↓reduceIte, reduceCtorEq, Nat.reduceBEq, q1, q2, decide_eq_false (show ¬ (0 : Int) < (x : Int) by omega)]
                    have cc := csplit_v (st := st) (b := b) (cap := cap) (sp := sp) hc.split E (rowc_mono hmo hlen) (p := pv) (by omega) (by omega) (by omega) (by omega) (L := M) (a := x) (c := y)
                    rw [hlen, dataV] at cc
                    refine Cal.mk cc ?_
                    rintro _ _ ⟨m, B3, N, n1, n2, n3, n4, n5, rfl, rfl⟩ -
                    clear cc
                    have hlN : N.length = L.length := n3.len.trans hlen
                    have hMN : Mix a c L N := hM.trans (n3.wide hax hyc)
                    have hFN := hF.mix n3 hax hyc (by omega)
                    have hLN := hLx.mix n3 (by omega)
                    have e4 : (m : Int) - (x : Int) = ((m - x : Nat) : Int) := by omega
                    have e5 : (y : Int) - (m : Int) = ((y - m : Nat) : Int) := by omega
                    have e6 : (m : Int) + 1 = ((m + 1 : Nat) : Int) := by simp
                    clear hM hF hLx hLM n3
                    by_cases cl : ((m - x : Nat) : Int) < ((y - m : Nat) : Int)
                    · simp (config := {maxSteps := 3000000}) only [go_sem, Nat.reduceEqDiff, Int.reduceLT, Int.reduceNeg, ↓reduceIte, reduceCtorEq, Nat.reduceBEq, q1, q2, q3, e4, e5, decide_eq_true cl]
                      repeat (apply And.intro; focus (first | omega | (simp; done)))
                      have cc := ih (m - x) (by omega) x m N lim' (Nat.le_refl _) (by omega) (by omega) (by omega) hl0 hl1 (hLN.part (by omega)) (rowc_mono hmo hlN)
                      rw [hlN, dataV] at cc
                      refine Cal.mk cc ?_
                      rintro _ _ ⟨R, r1, r2, rfl⟩ -
                      clear cc
                      simp (config := {maxSteps := 3000000}) only [go_sem, Nat.reduceEqDiff, Int.reduceNeg, ↓reduceIte, Nat.reduceBEq, q2, q3, e6]
                      repeat (apply And.intro; focus (first | omega | (simp; done)))
                      exact ⟨⟨m + 1, y, R, lim', _, _, rfl, rfl, rfl, rfl, rfl, by omega, by omega, by omega, hl0, hl1, hMN.trans (r1.wide (by omega) (by omega)), hFN.goL E.ord hax hyc (by omega) (by omega) (by omega) n4 n5 r1 r2, rfl⟩, by omega⟩
                    · simp (config := {maxSteps := 3000000}) only [go_sem, Nat.reduceEqDiff, Int.reduceLT, Int.reduceNeg, ↓reduceIte, reduceCtorEq, Nat.reduceBEq, q1, q2, q3, e4, e5, e6, decide_eq_false cl]
                      repeat (apply And.intro; focus (first | omega | (simp; done)))
                      have cc := ih (y - (m + 1)) (by omega) (m + 1) y N lim' (Nat.le_refl _) (by omega) (by omega) (by omega) hl0 hl1 (LB.next n5) (rowc_mono hmo hlN)
                      rw [hlN, dataV] at cc
                      refine Cal.mk cc ?_
                      rintro _ _ ⟨R, r1, r2, rfl⟩ -
                      clear cc
                      simp (config := {maxSteps := 3000000}) only [go_sem, Nat.reduceEqDiff, ↓reduceIte, Nat.reduceBEq, q1, q3]
                      repeat (apply And.intro; focus (first | omega | (simp; done)))
                      exact ⟨⟨x, m, R, lim', _, _, rfl, rfl, rfl, rfl, rfl, by omega, by omega, by omega, hl0, hl1, hMN.trans (r1.wide (by omega) (by omega)), hFN.goR E.ord hax hyc (by omega) (by omega) (by omega) n4 n5 r1 r2, rfl⟩, by omega⟩
                · simp (config := {maxSteps := 3000000}) only [go_sem, ↓reduceIte]
                  have hfin := hF.fin hM hax hyc h2 n1 (n2 rfl)
                  exact ⟨_, _, Wk.refl _, weak_re hwf, N, hfin.1, hfin.2, rfl⟩
              · simp (config := {maxSteps := 3000000}) only [go_sem, Nat.reduceEqDiff, ↓reduceIte, Nat.reduceBEq, q1, q8, q9, decide_eq_false k2, decide_eq_false k1]
                repeat (apply And.intro; focus (first | omega | (simp; done)))
                have hLM := hLB.mix hM h2
                have hLx := hF.lb hLM hax hyc
                by_cases cx : 0 < x
                · have ex : ((x : Int) - 1).toNat = x - 1 := by omega
                  simp (config := {maxSteps := 3000000}) only [go_sem, Nat.reduceEqDiff, Int.reduceNeg, ↓reduceIte, reduceCtorEq, Nat.reduceBEq, q1, ex, decide_eq_true (show (0 : Int) < (x : Int) by omega), rowc_get (show x - 1 < M.length by omega), rowc_get (show pv < M.length by omega), rowc_len, rowc_mono hmo hlen, E.call, List.map_nil]
                  repeat (apply And.intro; focus (first | omega | (simp; done)))
                  refine Cal.mk (E.less _ _ _) ?_
                  rintro _ _ ⟨z7, hz7, rfl, rfl⟩ -
                  simp (config := {maxSteps := 3000000}) only [go_sem, Nat.reduceEqDiff, ↓reduceIte, hz7]
                  cases cq : lt M[x - 1]! M[pv]!
                  · simp (config := {maxSteps := 3000000}) only [go_sem, Nat.reduceEqDiff, ↓reduceIte, reduceCtorEq, Nat.reduceBEq, q1, q2]
                    have cc := cequal_v (st := st) (b := b) (cap := cap) (sp := sp) hc.equal E (rowc_mono hmo hlen) (p := pv) (by omega) (by omega) (by omega) (by omega) (L := M) (a := x) (c := y)
                    rw [hlen, dataV] at cc
                    refine Cal.mk cc ?_
                    rintro _ _ ⟨m, N, n1, n2, n3, n4, n5, rfl, rfl⟩ -
                    clear cc
                    simp (config := {maxSteps := 3000000}) only [go_sem, Nat.reduceEqDiff, ↓reduceIte, Nat.reduceBEq, q2, q3, q8, q9]
                    repeat (apply And.intro; focus (first | omega | (simp; done)))
                    exact ⟨⟨m, y, N, lim', _, _, rfl, rfl, rfl, rfl, rfl, by omega, by omega, by omega, hl0, hl1, hM.trans (n3.wide hax hyc), hF.goE E.ord hLx cx cq hax hyc n1 n2 (by omega) n3 n4, rfl⟩, by omega⟩
                  · simp (config := {maxSteps := 3000000}) only [go_sem, Nat.reduceEqDiff, ↓reduceIte, reduceCtorEq, Nat.reduceBEq, q1, q2]
                    have cc := csplit_v (st := st) (b := b) (cap := cap) (sp := sp) hc.split E (rowc_mono hmo hlen) (p := pv) (by omega) (by omega) (by omega) (by omega) (L := M) (a := x) (c := y)
                    rw [hlen, dataV] at cc
                    refine Cal.mk cc ?_
                    rintro _ _ ⟨m, B3, N, n1, n2, n3, n4, n5, rfl, rfl⟩ -
                    clear cc
                    have hlN : N.length = L.length := n3.len.trans hlen
                    have hMN : Mix a c L N := hM.trans (n3.wide hax hyc)
                    have hFN := hF.mix n3 hax hyc (by omega)
                    have hLN := hLx.mix n3 (by omega)
                    have e4 : (m : Int) - (x : Int) = ((m - x : Nat) : Int) := by omega
                    have e5 : (y : Int) - (m : Int) = ((y - m : Nat) : Int) := by omega
                    have e6 : (m : Int) + 1 = ((m + 1 : Nat) : Int) := by simp
                    clear hM hF hLx hLM n3
                    by_cases cl : ((m - x : Nat) : Int) < ((y - m : Nat) : Int)
                    · simp (config := {maxSteps := 3000000}) only [go_sem, Nat.reduceEqDiff, Int.reduceLT, Int.reduceNeg, ↓reduceIte, reduceCtorEq, Nat.reduceBEq, q1, q2, q3, e4, e5, decide_eq_true cl]
                      repeat (apply And.intro; focus (first | omega | (simp; done)))
                      have cc := ih (m - x) (by omega) x m N lim' (Nat.le_refl _) (by omega) (by omega) (by omega) hl0 hl1 (hLN.part (by omega)) (rowc_mono hmo hlN)
                      rw [hlN, dataV] at cc
                      refine Cal.mk cc ?_
                      rintro _ _ ⟨R, r1, r2, rfl⟩ -
                      clear cc
                      simp (config := {maxSteps := 3000000}) only [go_sem, Nat.reduceEqDiff, Int.reduceNeg, ↓reduceIte, Nat.reduceBEq, q2, q3, e6]
                      repeat (apply And.intro; focus (first | omega | (simp; done)))
                      exact ⟨⟨m + 1, y, R, lim', _, _, rfl, rfl, rfl, rfl, rfl, by omega, by omega, by omega, hl0, hl1, hMN.trans (r1.wide (by omega) (by omega)), hFN.goL E.ord hax hyc (by omega) (by omega) (by omega) n4 n5 r1 r2, rfl⟩, by omega⟩
                    · simp (config := {maxSteps := 3000000}) only [go_sem, Nat.reduceEqDiff, Int.reduceLT, Int.reduceNeg, ↓reduceIte, reduceCtorEq, Nat.reduceBEq, q1, q2, q3, e4, e5, e6, decide_eq_false cl]
                      repeat (apply And.intro; focus (first | omega | (simp; done)))
                      have cc := ih (y - (m + 1)) (by omega) (m + 1) y N lim' (Nat.le_refl _) (by omega) (by omega) (by omega) hl0 hl1 (LB.next n5) (rowc_mono hmo hlN)
                      rw [hlN, dataV] at cc
                      refine Cal.mk cc ?_
                      rintro _ _ ⟨R, r1, r2, rfl⟩ -
                      clear cc
                      simp (config := {maxSteps := 3000000}) only [go_sem, Nat.reduceEqDiff, ↓reduceIte, Nat.reduceBEq, q1, q3]
                      repeat (apply And.intro; focus (first | omega | (simp; done)))
                      exact ⟨⟨x, m, R, lim', _, _, rfl, rfl, rfl, rfl, rfl, by omega, by omega, by omega, hl0, hl1, hMN.trans (r1.wide (by omega) (by omega)), hFN.goR E.ord hax hyc (by omega) (by omega) (by omega) n4 n5 r1 r2, rfl⟩, by omega⟩
                · simp (config := {maxSteps := 3000000}) only [go_sem, Nat.reduceEqDiff, ↓reduceIte, reduceCtorEq, Nat.reduceBEq, q1, q2, decide_eq_false (show ¬ (0 : Int) < (x : Int) by omega)]
                  have cc := csplit_v (st := st) (b := b) (cap := cap) (sp := sp) hc.split E (rowc_mono hmo hlen) (p := pv) (by omega) (by omega) (by omega) (by omega) (L := M) (a := x) (c := y)
                  rw [hlen, dataV] at cc
                  refine Cal.mk cc ?_
                  rintro _ _ ⟨m, B3, N, n1, n2, n3, n4, n5, rfl, rfl⟩ -
                  clear cc
                  have hlN : N.length = L.length := n3.len.trans hlen
                  have hMN : Mix a c L N := hM.trans (n3.wide hax hyc)
                  have hFN := hF.mix n3 hax hyc (by omega)
                  have hLN := hLx.mix n3 (by omega)
                  have e4 : (m : Int) - (x : Int) = ((m - x : Nat) : Int) := by omega
                  have e5 : (y : Int) - (m : Int) = ((y - m : Nat) : Int) := by omega
                  have e6 : (m : Int) + 1 = ((m + 1 : Nat) : Int) := by simp
                  clear hM hF hLx hLM n3
                  by_cases cl : ((m - x : Nat) : Int) < ((y - m : Nat) : Int)
                  · simp (config := {maxSteps := 3000000}) only [go_sem, Nat.reduceEqDiff, Int.reduceLT, Int.reduceNeg, ↓reduceIte, reduceCtorEq, Nat.reduceBEq, q1, q2, q3, e4, e5, decide_eq_true cl]
                    repeat (apply And.intro; focus (first | omega | (simp; done)))
                    have cc := ih (m - x) (by omega) x m N lim' (Nat.le_refl _) (by omega) (by omega) (by omega) hl0 hl1 (hLN.part (by omega)) (rowc_mono hmo hlN)
                    rw [hlN, dataV] at cc
                    refine Cal.mk cc ?_
                    rintro _ _ ⟨R, r1, r2, rfl⟩ -
                    clear cc
                    simp (config := {maxSteps := 3000000}) only [go_sem, Nat.reduceEqDiff, Int.reduceNeg, ↓reduceIte, Nat.reduceBEq, q2, q3, e6]
                    repeat (apply And.intro; focus (first | omega | (simp; done)))
                    exact ⟨⟨m + 1, y, R, lim', _, _, rfl, rfl, rfl, rfl, rfl, by omega, by omega, by omega, hl0, hl1, hMN.trans (r1.wide (by omega) (by omega)), hFN.goL E.ord hax hyc (by omega) (by omega) (by omega) n4 n5 r1 r2, rfl⟩, by omega⟩
                  · simp (config := {maxSteps := 3000000}) only [go_sem, Nat.reduceEqDiff, Int.reduceLT, Int.reduceNeg, ↓reduceIte, reduceCtorEq, Nat.reduceBEq, q1, q2, q3, e4, e5, e6, decide_eq_false cl]
                    repeat (apply And.intro; focus (first | omega | (simp; done)))
                    have cc := ih (y - (m + 1)) (by omega) (m + 1) y N lim' (Nat.le_refl _) (by omega) (by omega) (by omega) hl0 hl1 (LB.next n5) (rowc_mono hmo hlN)
                    rw [hlN, dataV] at cc
                    refine Cal.mk cc ?_
                    rintro _ _ ⟨R, r1, r2, rfl⟩ -
                    clear cc
                    simp (config := {maxSteps := 3000000}) only [go_sem, Nat.reduceEqDiff, ↓reduceIte, Nat.reduceBEq, q1, q3]
                    repeat (apply And.intro; focus (first | omega | (simp; done)))
                    exact ⟨⟨x, m, R, lim', _, _, rfl, rfl, rfl, rfl, rfl, by omega, by omega, by omega, hl0, hl1, hMN.trans (r1.wide (by omega) (by omega)), hFN.goR E.ord hax hyc (by omega) (by omega) (by omega) n4 n5 r1 r2, rfl⟩, by omega⟩
end
end
section
open Go

def bitsTab : ByteArray := ({ data := (([0, 1, 2, 2, 3, 3, 3, 3, 4, 4, 4, 4, 4, 4, 4, 4, 5, 5, 5, 5, 5, 5, 5, 5, 5, 5, 5, 5, 5, 5, 5, 5, 6, 6, 6, 6, 6, 6, 6, 6, 6, 6, 6, 6, 6, 6, 6, 6, 6, 6, 6, 6, 6, 6, 6, 6, 6, 6, 6, 6, 6, 6, 6, 6].append [7, 7, 7, 7, 7, 7, 7, 7, 7, 7, 7, 7, 7, 7, 7, 7, 7, 7, 7, 7, 7, 7, 7, 7, 7, 7, 7, 7, 7, 7, 7, 7, 7, 7, 7, 7, 7, 7, 7, 7, 7, 7, 7, 7, 7, 7, 7, 7, 7, 7, 7, 7, 7, 7, 7, 7, 7, 7, 7, 7, 7, 7, 7, 7]).append ([8, 8, 8, 8, 8, 8, 8, 8, 8, 8, 8, 8, 8, 8, 8, 8, 8, 8, 8, 8, 8, 8, 8, 8, 8, 8, 8, 8, 8, 8, 8, 8, 8, 8, 8, 8, 8, 8, 8, 8, 8, 8, 8, 8, 8, 8, 8, 8, 8, 8, 8, 8, 8, 8, 8, 8, 8, 8, 8, 8, 8, 8, 8, 8].append [8, 8, 8, 8, 8, 8, 8, 8, 8, 8, 8, 8, 8, 8, 8, 8, 8, 8, 8, 8, 8, 8, 8, 8, 8, 8, 8, 8, 8, 8, 8, 8, 8, 8, 8, 8, 8, 8, 8, 8, 8, 8, 8, 8, 8, 8, 8, 8, 8, 8, 8, 8, 8, 8, 8, 8, 8, 8, 8, 8, 8, 8, 8, 8])).toArray })
def BLen64 (T : ByteArray) : FC := ⟨25, .seq (.reg [⟨some 2, .mv (.c (.sc (.int .i64 0))), none, []⟩]) (.seq (.seq (.reg [⟨some 3, .mv (.t 0), none, []⟩, ⟨some 4, .bin .geq (.t 3) (.c (.sc (.int .u64 4294967296))), none, []⟩]) (.cond (.t 4) (.seq (.reg [⟨some 5, .mv (.t 0), none, []⟩, ⟨some 6, .bin .shr (.t 5) (.c (.sc (.int .u64 32))), none, []⟩, ⟨some 0, .mv (.t 6), none, []⟩]) (.reg [⟨some 2, .mv (.c (.sc (.int .i64 32))), none, []⟩])) .skip)) (.seq (.seq (.reg [⟨some 7, .mv (.t 0), none, []⟩, ⟨some 8, .bin .geq (.t 7) (.c (.sc (.int .u64 65536))), none, []⟩]) (.cond (.t 8) (.seq (.reg [⟨some 9, .mv (.t 0), none, []⟩, ⟨some 10, .bin .shr (.t 9) (.c (.sc (.int .u64 16))), none, []⟩, ⟨some 0, .mv (.t 10), none, []⟩]) (.reg [⟨some 11, .mv (.t 2), none, []⟩, ⟨some 12, .bin .add (.t 11) (.c (.sc (.int .i64 16))), none, []⟩, ⟨some 2, .mv (.t 12), none, []⟩])) .skip)) (.seq (.seq (.reg [⟨some 13, .mv (.t 0), none, []⟩, ⟨some 14, .bin .geq (.t 13) (.c (.sc (.int .u64 256))), none, []⟩]) (.cond (.t 14) (.seq (.reg [⟨some 15, .mv (.t 0), none, []⟩, ⟨some 16, .bin .shr (.t 15) (.c (.sc (.int .u64 8))), none, []⟩, ⟨some 0, .mv (.t 16), none, []⟩]) (.reg [⟨some 17, .mv (.t 2), none, []⟩, ⟨some 18, .bin .add (.t 17) (.c (.sc (.int .i64 8))), none, []⟩, ⟨some 2, .mv (.t 18), none, []⟩])) .skip)) (.seq (.reg [⟨some 19, .mv (.t 2), none, []⟩, ⟨some 20, .mv (.t 0), none, []⟩, ⟨some 21, .conv .u8 (.t 20), none, []⟩, ⟨some 22, .sidx (.c (.sc (.string T))) (.t 21), none, []⟩, ⟨some 23, .conv .i64 (.t 22), none, []⟩, ⟨some 24, .bin .add (.t 19) (.t 23), none, []⟩, ⟨some 2, .mv (.t 24), none, []⟩]) .ret)))), [.tmp 2]⟩
def BLen (flen32 flen64 : FuncId) : FC := ⟨8, .seq (.reg [⟨some 2, .mv (.c (.sc (.int .i64 0))), none, []⟩]) (.seq (.cond (.c (.sc (.bool false))) (.seq (.reg [⟨some 3, .mv (.t 0), none, []⟩, ⟨some 4, .conv .u32 (.t 3), none, []⟩, ⟨some 5, .call flen32 [.t 4], none, []⟩, ⟨some 2, .mv (.t 5), none, []⟩]) .ret) .skip) (.seq (.reg [⟨some 6, .mv (.t 0), none, []⟩, ⟨some 7, .call flen64 [.t 6], none, []⟩, ⟨some 2, .mv (.t 7), none, []⟩]) .ret)), [.tmp 2]⟩
def BPow (flen : FuncId) : FC := ⟨7, .seq (.reg [⟨some 2, .mv (.c (.sc (.int .u64 0))), none, []⟩]) (.seq (.reg [⟨some 3, .mv (.t 0), none, []⟩, ⟨some 4, .conv .u64 (.t 3), none, []⟩, ⟨some 5, .call flen [.t 4], none, []⟩, ⟨some 6, .bin .shl (.c (.sc (.int .u64 1))) (.t 5), none, []⟩, ⟨some 2, .mv (.t 6), none, []⟩]) .ret), [.tmp 2]⟩
def BNext : FC := ⟨33, .seq (.reg [⟨some 2, .mv (.c (.sc (.int .u64 0))), none, []⟩]) (.seq (.reg [⟨some 3, .mv (.t 0), none, []⟩, ⟨some 4, .nilck (.t 3), none, []⟩, ⟨some 5, .load none (.t 4), none, []⟩, ⟨some 6, .mv (.t 0), none, []⟩, ⟨some 7, .nilck (.t 6), none, []⟩, ⟨some 8, .load none (.t 7), none, []⟩, ⟨some 9, .bin .shl (.t 8) (.c (.sc (.int .u64 13))), none, []⟩, ⟨some 10, .bin .xor (.t 5) (.t 9), none, []⟩, ⟨some 11, .nilck (.t 3), none, []⟩, ⟨none, .store 1 (.t 11) (.t 10), none, []⟩]) (.seq (.reg [⟨some 12, .mv (.t 0), none, []⟩, ⟨some 13, .nilck (.t 12), none, []⟩, ⟨some 14, .load none (.t 13), none, []⟩, ⟨some 15, .mv (.t 0), none, []⟩, ⟨some 16, .nilck (.t 15), none, []⟩, ⟨some 17, .load none (.t 16), none, []⟩, ⟨some 18, .bin .shr (.t 17) (.c (.sc (.int .u64 7))), none, []⟩, ⟨some 19, .bin .xor (.t 14) (.t 18), none, []⟩, ⟨some 20, .nilck (.t 12), none, []⟩, ⟨none, .store 1 (.t 20) (.t 19), none, []⟩]) (.seq (.reg [⟨some 21, .mv (.t 0), none, []⟩, ⟨some 22, .nilck (.t 21), none, []⟩, ⟨some 23, .load none (.t 22), none, []⟩, ⟨some 24, .mv (.t 0), none, []⟩, ⟨some 25, .nilck (.t 24), none, []⟩, ⟨some 26, .load none (.t 25), none, []⟩, ⟨some 27, .bin .shl (.t 26) (.c (.sc (.int .u64 17))), none, []⟩, ⟨some 28, .bin .xor (.t 23) (.t 27), none, []⟩, ⟨some 29, .nilck (.t 21), none, []⟩, ⟨none, .store 1 (.t 29) (.t 28), none, []⟩]) (.seq (.reg [⟨some 30, .mv (.t 0), none, []⟩, ⟨some 31, .nilck (.t 30), none, []⟩, ⟨some 32, .load none (.t 31), none, []⟩, ⟨some 2, .mv (.t 32), none, []⟩]) .ret)))), [.tmp 2]⟩
end
section
open Go

/-- The table of lengths. -/
def TabOk (T : ByteArray) : Prop := ∀ x : Nat, x < 256 → ∃ t : Nat, (bytesOf T)[x]? = some (t : Int) ∧ t ≤ 8 ∧ x < 2 ^ t ∧ (x = 0 ∨ 2 ^ t ≤ 2 * x)
theorem tab_all : (List.range 256).all (fun x => match (bytesOf bitsTab)[x]? with | some t => decide (0 ≤ t ∧ t ≤ 8 ∧ x < 2 ^ t.toNat ∧ (x = 0 ∨ 2 ^ t.toNat ≤ 2 * x)) | none => false) = true := by kernel_rfl
theorem tab_ok : TabOk bitsTab := fun x hx => by
  have h := List.all_eq_true.1 tab_all x (List.mem_range.2 hx)
  cases e : (bytesOf bitsTab)[x]? with
  | none => simp [e] at h
  | some t =>
    simp only [e, decide_eq_true_eq] at h
    exact ⟨t.toNat, by rw [show ((t.toNat : Nat) : Int) = t by omega], by omega, h.2.2.1, h.2.2.2⟩
theorem pow_in {k n t x y : Nat} (hk : k = n + t) {p : Nat} (hp : p = 2 ^ n) (h1 : y * p ≤ x) (h2 : x < (y + 1) * p) (h3 : y < 2 ^ t) (h4 : y = 0 ∨ 2 ^ t ≤ 2 * y) : x < 2 ^ k ∧ (y = 0 ∨ 2 ^ k ≤ 2 * x) := by
  subst hk hp
  rw [Nat.pow_add]
  refine ⟨Nat.lt_of_lt_of_le h2 (by rw [Nat.mul_comm]; exact Nat.mul_le_mul_left _ h3), ?_⟩
  rcases h4 with h4 | h4
  · exact .inl h4
  · refine .inr (Nat.le_trans (Nat.mul_le_mul_left (2 ^ n) h4) ?_)
    rw [← Nat.mul_assoc, Nat.mul_comm (2 ^ n) 2, Nat.mul_assoc]
    exact Nat.mul_le_mul_left 2 (by rw [Nat.mul_comm]; exact h1)
theorem weak_ne {st : St} {b : Nat} {X Y : List V} (h : (st.put b X).Wf) : (st.put b Y).weak (st.put b Y) := by
  have := (h.lt.put (b := b) (cs := Y)).weak
  rwa [put_put] at this
section
variable {P : Program} {st : St} {f flen flen32 flen64 : FuncId} {T : ByteArray}
set_option maxRecDepth 100000 in
set_option maxHeartbeats 16000000 in
theorem blen64_v (hf : cFun P f = some (BLen64 T)) (hT : TabOk T) {x : Nat} (hx : x < 18446744073709551616) :
    VCalls P f [.sc (.int .u64 x)] st fun v s => st = s ∧ ∃ k : Nat, k ≤ 64 ∧ x < 2 ^ k ∧ (x = 0 ∨ 2 ^ k ≤ 2 * x) ∧ v = .sc (.int .i64 k) := by
  refine vcalls_enter hf (Nat.le_of_ble_eq_true rfl) fun hwf hok => ?_
  show Run _ (BLen64 T).body (.fin (finQ (BLen64 T).res _)) _ _
  unfold BLen64
  by_cases c0 : (4294967296 : Int) ≤ (x : Int)
  · obtain ⟨a, ea⟩ : ∃ y : Nat, y = x / 4294967296 := ⟨_, rfl⟩
    have ia : (x : Int) / 4294967296 = (a : Int) := by omega
    by_cases c1 : (65536 : Int) ≤ (a : Int)
    · obtain ⟨b, eb⟩ : ∃ y : Nat, y = a / 65536 := ⟨_, rfl⟩
      have ib : (a : Int) / 65536 = (b : Int) := by omega
      by_cases c2 : (256 : Int) ≤ (b : Int)
      · obtain ⟨c, ec⟩ : ∃ y : Nat, y = b / 256 := ⟨_, rfl⟩
        have ic : (b : Int) / 256 = (c : Int) := by omega
        obtain ⟨t, ht, t8, t1, t2⟩ := hT c (by omega)
        have em : (c : Int) % 256 = (c : Int) := by omega
        simp (config := {maxSteps := 3000000}) only [go_sem, Nat.reduceEqDiff, Nat.reduceLeDiff, Int.reduceToNat, Int.reduceLE, Int.reducePow, Int.reduceAdd, Int.reduceNeg, ↓reduceIte, reduceCtorEq, decide_eq_true c0, ia, decide_eq_true c1, ib, decide_eq_true c2, ic, em, ht]
        repeat (apply And.intro; focus (first | omega | (simp; done)))
        have hp := pow_in (k := 56 + t) (n := 56) (x := x) (y := c) rfl (p := 72057594037927936) (by decide) (by omega) (by omega) t1 t2
        exact ⟨_, _, Wk.refl _, hwf.weak, rfl, 56 + t, by omega, hp.1, by omega, by simp⟩
      · obtain ⟨t, ht, t8, t1, t2⟩ := hT b (by omega)
        have em : (b : Int) % 256 = (b : Int) := by omega
        simp (config := {maxSteps := 3000000}) only [go_sem, Nat.reduceEqDiff, Nat.reduceLeDiff, Int.reduceToNat, Int.reduceLE, Int.reducePow, Int.reduceAdd, Int.reduceNeg, ↓reduceIte, reduceCtorEq, decide_eq_true c0, ia, decide_eq_true c1, ib, decide_eq_false c2, em, ht]
        repeat (apply And.intro; focus (first | omega | (simp; done)))
        have hp := pow_in (k := 48 + t) (n := 48) (x := x) (y := b) rfl (p := 281474976710656) (by decide) (by omega) (by omega) t1 t2
        exact ⟨_, _, Wk.refl _, hwf.weak, rfl, 48 + t, by omega, hp.1, by omega, by simp⟩
    · by_cases c2 : (256 : Int) ≤ (a : Int)
      · obtain ⟨c, ec⟩ : ∃ y : Nat, y = a / 256 := ⟨_, rfl⟩
        have ic : (a : Int) / 256 = (c : Int) := by omega
        obtain ⟨t, ht, t8, t1, t2⟩ := hT c (by omega)
        have em : (c : Int) % 256 = (c : Int) := by omega
        simp (config := {maxSteps := 3000000}) only [go_sem, Nat.reduceEqDiff, Nat.reduceLeDiff, Int.reduceToNat, Int.reduceLE, Int.reducePow, Int.reduceAdd, Int.reduceNeg, ↓reduceIte, reduceCtorEq, decide_eq_true c0, ia, decide_eq_false c1, decide_eq_true c2, ic, em, ht]
        repeat (apply And.intro; focus (first | omega | (simp; done)))
        have hp := pow_in (k := 40 + t) (n := 40) (x := x) (y := c) rfl (p := 1099511627776) (by decide) (by omega) (by omega) t1 t2
        exact ⟨_, _, Wk.refl _, hwf.weak, rfl, 40 + t, by omega, hp.1, by omega, by simp⟩
      · obtain ⟨t, ht, t8, t1, t2⟩ := hT a (by omega)
        have em : (a : Int) % 256 = (a : Int) := by omega
        simp (config := {maxSteps := 3000000}) only [go_sem, Nat.reduceEqDiff, Nat.reduceLeDiff, Int.reduceToNat, Int.reduceLE, Int.reducePow, Int.reduceNeg, ↓reduceIte, reduceCtorEq, decide_eq_true c0, ia, decide_eq_false c1, decide_eq_false c2, em, ht]
        repeat (apply And.intro; focus (first | omega | (simp; done)))
        have hp := pow_in (k := 32 + t) (n := 32) (x := x) (y := a) rfl (p := 4294967296) (by decide) (by omega) (by omega) t1 t2
        exact ⟨_, _, Wk.refl _, hwf.weak, rfl, 32 + t, by omega, hp.1, by omega, by simp⟩
  · by_cases c1 : (65536 : Int) ≤ (x : Int)
    · obtain ⟨b, eb⟩ : ∃ y : Nat, y = x / 65536 := ⟨_, rfl⟩
      have ib : (x : Int) / 65536 = (b : Int) := by omega
      by_cases c2 : (256 : Int) ≤ (b : Int)
      · obtain ⟨c, ec⟩ : ∃ y : Nat, y = b / 256 := ⟨_, rfl⟩
        have ic : (b : Int) / 256 = (c : Int) := by omega
        obtain ⟨t, ht, t8, t1, t2⟩ := hT c (by omega)
        have em : (c : Int) % 256 = (c : Int) := by omega
        simp (config := {maxSteps := 3000000}) only [go_sem, Nat.reduceEqDiff, Nat.reduceLeDiff, Int.reduceToNat, Int.reduceLE, Int.reducePow, Int.reduceAdd, Int.reduceNeg, ↓reduceIte, reduceCtorEq, decide_eq_false c0, decide_eq_true c1, ib, decide_eq_true c2, ic, em, ht]
        repeat (apply And.intro; focus (first | omega | (simp; done)))
        have hp := pow_in (k := 24 + t) (n := 24) (x := x) (y := c) rfl (p := 16777216) (by decide) (by omega) (by omega) t1 t2
        exact ⟨_, _, Wk.refl _, hwf.weak, rfl, 24 + t, by omega, hp.1, by omega, by simp⟩
      · obtain ⟨t, ht, t8, t1, t2⟩ := hT b (by omega)
        have em : (b : Int) % 256 = (b : Int) := by omega
        simp (config := {maxSteps := 3000000}) only [go_sem, Nat.reduceEqDiff, Nat.reduceLeDiff, Int.reduceToNat, Int.reduceLE, Int.reducePow, Int.reduceAdd, Int.reduceNeg, ↓reduceIte, reduceCtorEq, decide_eq_false c0, decide_eq_true c1, ib, decide_eq_false c2, em, ht]
        repeat (apply And.intro; focus (first | omega | (simp; done)))
        have hp := pow_in (k := 16 + t) (n := 16) (x := x) (y := b) rfl (p := 65536) (by decide) (by omega) (by omega) t1 t2
        exact ⟨_, _, Wk.refl _, hwf.weak, rfl, 16 + t, by omega, hp.1, by omega, by simp⟩
    · by_cases c2 : (256 : Int) ≤ (x : Int)
      · obtain ⟨c, ec⟩ : ∃ y : Nat, y = x / 256 := ⟨_, rfl⟩
        have ic : (x : Int) / 256 = (c : Int) := by omega
        obtain ⟨t, ht, t8, t1, t2⟩ := hT c (by omega)
        have em : (c : Int) % 256 = (c : Int) := by omega
        simp (config := {maxSteps := 3000000}) only [go_sem, Nat.reduceEqDiff, Nat.reduceLeDiff, Int.reduceToNat, Int.reduceLE, Int.reducePow, Int.reduceAdd, Int.reduceNeg, ↓reduceIte, reduceCtorEq, decide_eq_false c0, decide_eq_false c1, decide_eq_true c2, ic, em, ht]
        repeat (apply And.intro; focus (first | omega | (simp; done)))
        have hp := pow_in (k := 8 + t) (n := 8) (x := x) (y := c) rfl (p := 256) (by decide) (by omega) (by omega) t1 t2
        exact ⟨_, _, Wk.refl _, hwf.weak, rfl, 8 + t, by omega, hp.1, by omega, by simp⟩
      · obtain ⟨t, ht, t8, t1, t2⟩ := hT x (by omega)
        have em : (x : Int) % 256 = (x : Int) := by omega
        simp (config := {maxSteps := 3000000}) only [go_sem, Nat.reduceEqDiff, Int.reduceNeg, ↓reduceIte, reduceCtorEq, decide_eq_false c0, decide_eq_false c1, decide_eq_false c2, em, ht]
        repeat (apply And.intro; focus (first | omega | (simp; done)))
        have hp := pow_in (k := 0 + t) (n := 0) (x := x) (y := x) rfl (p := 1) (by decide) (by omega) (by omega) t1 t2
        exact ⟨_, _, Wk.refl _, hwf.weak, rfl, 0 + t, by omega, hp.1, by omega, by simp⟩
set_option maxRecDepth 100000 in
set_option maxHeartbeats 4000000 in
theorem blen_v (hf : cFun P f = some (BLen flen32 flen64)) (h64 : cFun P flen64 = some (BLen64 T)) (hT : TabOk T) {x : Nat} (hx : x < 18446744073709551616) :
    VCalls P f [.sc (.int .u64 x)] st fun v s => st = s ∧ ∃ k : Nat, k ≤ 64 ∧ x < 2 ^ k ∧ (x = 0 ∨ 2 ^ k ≤ 2 * x) ∧ v = .sc (.int .i64 k) := by
  refine vcalls_enter hf (Nat.le_of_ble_eq_true rfl) fun hwf hok => ?_
  show Run _ (BLen flen32 flen64).body (.fin (finQ (BLen flen32 flen64).res _)) _ _
  unfold BLen
  simp (config := {maxSteps := 3000000}) only [go_sem, ↓reduceIte, reduceCtorEq]
  refine Cal.mk (blen64_v h64 hT hx) ?_
  rintro _ _ ⟨rfl, k, h1, h2, h3, rfl⟩ -
  simp (config := {maxSteps := 3000000}) only [go_sem, ↓reduceIte]
  exact ⟨_, _, Wk.refl _, hwf.weak, rfl, k, h1, h2, h3, rfl⟩
set_option maxRecDepth 100000 in
set_option maxHeartbeats 4000000 in
theorem bpow_v (hf : cFun P f = some (BPow flen)) (hfl : cFun P flen = some (BLen flen32 flen64)) (h64 : cFun P flen64 = some (BLen64 T)) (hT : TabOk T) {n : Nat} (h0 : 0 < n) (hn : n < 4611686018427387904) :
    VCalls P f [.sc (.int .i64 n)] st fun v s => st = s ∧ ∃ m : Nat, n < m ∧ m ≤ 2 * n ∧ v = .sc (.int .u64 m) := by
  have en : (n : Int) % 18446744073709551616 = (n : Int) := by omega
  refine vcalls_enter hf (Nat.le_of_ble_eq_true rfl) fun hwf hok => ?_
  show Run _ (BPow flen).body (.fin (finQ (BPow flen).res _)) _ _
  unfold BPow
  simp (config := {maxSteps := 3000000}) only [go_sem, ↓reduceIte, reduceCtorEq, en]
  refine Cal.mk (blen_v hfl h64 hT (x := n) (by omega)) ?_
  rintro _ _ ⟨rfl, k, h1, h2, h3, rfl⟩ -
  have h4 : 2 ^ k ≤ 2 * n := by omega
  have em : ((1 : Int) * 2 ^ min ((k : Int)).toNat 64) % 18446744073709551616 = ((2 ^ k : Nat) : Int) := by
    rw [Int.toNat_natCast, Nat.min_eq_left h1, Int.one_mul]
    have e2 : (2 : Int) ^ k = ((2 ^ k : Nat) : Int) := by simp
    rw [e2]
    have : 2 ^ k < 18446744073709551616 := by omega
    generalize 2 ^ k = q at this ⊢
    omega
  simp only [Int.toNat_natCast, Int.one_mul, Nat.min_eq_left h1] at em
  simp (config := {maxSteps := 3000000}) only [go_sem, ↓reduceIte, em, Int.one_mul, Nat.min_eq_left h1]
  repeat (apply And.intro; focus (first | omega | (simp; done)))
  exact ⟨_, _, Wk.refl _, hwf.weak, rfl, 2 ^ k, h2, h4, by first | rfl | simp⟩
set_option maxRecDepth 100000 in
set_option maxHeartbeats 4000000 in
theorem bnext_v (hf : cFun P f = some BNext) (st : St) (r : Nat) (x : Int) : VCalls P f [ptrV r] (st.put r [.sc (.int .u64 x)]) fun v s => ∃ y, v = .sc (.int .u64 y) ∧ s = st.put r [.sc (.int .u64 y)] := by
  refine vcalls_enter hf (Nat.le_of_ble_eq_true rfl) fun hwf hok => ?_
  show Run _ (BNext).body (.fin (finQ (BNext).res _)) _ _
  unfold BNext
  simp (config := {maxSteps := 3000000}) only [go_sem, Nat.reduceEqDiff, Nat.reduceLT, Nat.reduceLeDiff, Int.reduceToNat, Int.reduceLE, Int.reducePow, ↓reduceIte, reduceCtorEq]
  exact ⟨_, _, Wk.refl _, weak_ne hwf, _, rfl, rfl⟩
end
end
section
open Go

section
variable {P : Program} {α : Type} [Inhabited α] {val : α → V × V} {lt : α → α → Bool} {g f fsift : FuncId} {st : St} {b cap a c : Nat} {L : List α} {sp : List V}
variable {fins fheap fbreak fpivot frev fpart fequal fsplit fa fm fo fpow fnext fpdq flen flen32 flen64 fnan : FuncId} {T : ByteArray}
set_option maxRecDepth 100000 in
set_option maxHeartbeats 4000000 in
theorem csort_v (hf : cFun P f = some (CSorts flen fpdq)) (hfl : cFun P flen = some (BLen flen32 flen64)) (h64 : cFun P flen64 = some (BLen64 T)) (hT : TabOk T) (hc : SortsC P fpdq fins fheap fbreak fpivot frev fpart fequal fsplit fsift fa fm fo fpow fnext) (E : EltC P g val lt) (hmo : mono (rowc val L sp)) (hl : L.length < 4611686018427387904) :
    VCalls P f [dataV b L.length cap, cmpV g] (st.put b (rowc val L sp)) fun _ s => ∃ M : List α, M.Perm L ∧ M.Pairwise (fun x y => lt y x = false) ∧ s = st.put b (rowc val M sp) := by
  have en : (L.length : Int) % 18446744073709551616 = (L.length : Int) := by omega
  refine vcalls_enter hf (Nat.le_of_ble_eq_true rfl) fun hwf hok => ?_
  show Run _ (CSorts flen fpdq).body (.fin (finQ (CSorts flen fpdq).res _)) _ _
  unfold CSorts
  simp (config := {maxSteps := 3000000}) only [go_sem, Nat.reduceEqDiff, ↓reduceIte, reduceCtorEq, dataV, cmpV, en]
  refine Cal.mk (blen_v hfl h64 hT (x := L.length) (by omega)) ?_
  rintro _ _ ⟨rfl, k, k1, k2, k3, rfl⟩ -
  simp (config := {maxSteps := 3000000}) only [go_sem, Nat.reduceEqDiff, ↓reduceIte]
  have cc := cpdq_v (st := st) (b := b) (cap := cap) (sp := sp) hc E L.length 0 L.length L k (by omega) (by omega) (by omega) hl (by omega) (by omega) (fun h0 => by omega) hmo
  rw [dataV] at cc
  refine Cal.mk cc ?_
  rintro _ _ ⟨M, m1, m2, rfl⟩ -
  simp (config := {maxSteps := 3000000}) only [go_sem]
  exact ⟨_, _, Wk.refl _, weak_re hwf, M, (Srt.all m1 m2).1, (Srt.all m1 m2).2, rfl⟩
end
end
end Go.Proofs.Ytlngegoamfklgaa
