/- WholeFails: whatever bytes that are no message, and whatever number, the law returns true, and its arguments read as before; the arguments together of bulk at most 1048576 (the second form). No other condition. -/
import Derived.Test.YtnjmddlgpcnpeaaGreatZwh
import Derived.Test.YtnjmddlgpcnpeaaGreatZwi
import Derived.Test.YtnjmddlgpcnpeaaGreatRows
import Derived.Test.YtnjmddlgpcnpeaaGreatZwj
import Derived.ChangeArms
import Derived.JoinedCond
import Derived.WalkKit
import Derived.ProofKit
import Derived.OpenShut
namespace Go.Proofs.YtnjmddlgpcnpeaaGreat
open Go Go.RowKit Go.ChangeShapes Go.WideShapes Go.ChangeAt Go.Deep
theorem bulk_one {H : Type} (d : DataW H) : 1 ≤ Rows.uptoBulk d := by
  cases d with
  | lit l => cases l <;> simp [Rows.uptoBulk]
  | nil => simp [Rows.uptoBulk]
  | ptr d => simp [Rows.uptoBulk]
  | slice elems spare => simp [Rows.uptoBulk]
  | agg parts => simp [Rows.uptoBulk]
  | iface t d => simp [Rows.uptoBulk]
  | map entries => simp [Rows.uptoBulk]
  | held h => simp [Rows.uptoBulk]
theorem bulk_len {H : Type} : ∀ l : List (DataW H), l.length ≤ Rows.uptoBulkAll l
  | [] => by simp
  | x :: r => by
    have := bulk_one x
    have := bulk_len r
    simp only [Rows.uptoBulkAll, List.length_cons]; omega
theorem bytes_bulk {H : Type} {enc : TypeId × Value → H} {W : World} {base : Nat} {v : Value} {d : DataW H} {p : List MemPlace} {G : Gh} {L : List Int} {t e : TypeId} (hu : Tryz.prog.underlying t = some (.slice e)) (h : ArgIn enc Tryz.prog W base t v d p)
    (hr : Rep1 G (.sl .no (bs L)) v) : L.length ≤ Rows.uptoBulk d := by
  obtain ⟨A, l, c, fuel, rfl, ht⟩ := h.slice hu
  have hl : L.length = l := by
    have : ∀ {x : V} {u : Value}, Rep1 G x u → x = .sl .no (bs L) → u = .slice A l c → L.length = l := by
      intro x u hx e1 e2
      cases hx with
      | nil => cases e2; have := congrArg (fun v => match v with | V.sl _ l => l.length | _ => 0) e1; simp [bs_len] at this; omega
      | emp => cases e2; have := congrArg (fun v => match v with | V.sl _ l => l.length | _ => 0) e1; simp [bs_len] at this; omega
      | sl _ l' => cases e1; cases e2; rw [bs_len]
      | any => cases e1
      | und => cases e1
      | sc => cases e1
      | agg => cases e1
      | tup => cases e1
      | ep => cases e1
    exact this hr rfl rfl
  rcases DataW.trod_slice hu ht with ⟨e1, e2⟩ | ⟨a, len, cap, elems, rest, n, _, e1, e2, _, _, _, hlen, _⟩
  · cases e1
    rw [hl]; exact Nat.zero_le _
  · cases e1
    have e3 : d = .slice (elems.map (·.1)) (rest.map (·.1)) := congrArg Prod.fst e2
    rw [e3, hl]
    have := bulk_len (elems.map (·.1))
    simp only [Rows.uptoBulk]
    rw [List.length_map] at this
    omega
theorem WholeFails_open {H : Type} {enc : TypeId × Value → H} {W : World} {base : Nat} {v0 v1 : Value} {d0 d1 : DataW H} {p0 p1 : List MemPlace}
    (a0 : ArgIn enc Tryz.prog W base 22 v0 d0 p0) (a1 : ArgIn enc Tryz.prog W base 23 v1 d1 p1) (hk : Rows.uptoBulk d0 ≤ 1048576) : Calls Tryz.prog 3 #[v0, v1] W (Pure W (.bool true)) := by
  obtain ⟨ds, h1, h2⟩ := arg_sh 6 (s := .sl (.int .u8)) (by kernel_rfl) a0
  obtain ⟨es, h3, h4⟩ := arg_sh 6 (s := .int .u32) (by kernel_rfl) a1
  obtain ⟨L, hB, rfl⟩ := has_bytes h1
  cases h3 with
  | int _ n hw =>
  have hb := bounds_u32 hw
  obtain ⟨x, rfl⟩ : ∃ x : Nat, n = x := ⟨n.toNat, by omega⟩
  have hl := bytes_bulk Tryz.underlying22 a0 h2
  exact v_calls (args := [.sl .no (bs L), .sc (.int .u32 x)]) (wholeFails_v hB (by omega) (by omega)) rfl (reps2 h2 h4)
set_option maxRecDepth 100000 in
theorem WholeFails_lifted (os : Os) (started : os.Started) (H : Type) (enc : TypeId × Value → H) (F : Stop.Interp) :
    ReturnsInHanded {} Tryz.checked os 3 .any ((Rows.OpenSpec.upto Rows.wholeFailsSpec).pre6 enc Tryz.prog Tryz.f3 Rows.wholeFailsUptoRow.domain false) (((Rows.OpenSpec.upto Rows.wholeFailsSpec).at F).post enc Tryz.prog Tryz.f3 false true false false) := by
  refine returnsInHanded_of_cond (C := Tryz.checked) (s := Rows.OpenSpec.upto Rows.wholeFailsSpec) (k := Rows.uptoSmall) rfl own started (by kernel_rfl) Tryz.func3
    (OpenSpec.witness (enc := enc) (C := Tryz.checked) (s := Rows.OpenSpec.upto Rows.wholeFailsSpec) (k := Rows.uptoSmall) rfl false ⟨#[], #[.slice none 0 0, .int .u32 0], []⟩ 8 (by kernel_rfl) (by kernel_rfl) (by kernel_rfl)
      (x := ([.nil, .lit (.int .u32 0)], [], [])) (by kernel_rfl) rfl (by kernel_rfl)) ?_
  intro W base args ds gs before hval0 hW _ hk _
  have hval : ∀ (j : Nat) t v, Tryz.f3.params[j]? = some t → args[j]? = some v → Value.okWide Tryz.prog W .any base t v := hval0
  have hW' := hW
  obtain ⟨p, q, hA0, hV, rfl, hfz, hnd⟩ := hW
  have hA : DataW.TrodAll enc Tryz.prog W 0 (fun _ => true) true Tryz.f3.params.toList args.toList ds p := hA0
  rw [Tryz.params3] at hA hval
  obtain ⟨v0, vs0, d0, ds0, p0, q0, hargs, rfl, rfl, h0, r0⟩ := trodAll_cons hA
  obtain ⟨v1, vs1, d1, ds1, p1, q1, rfl, rfl, rfl, h1, r1⟩ := trodAll_cons r0
  obtain ⟨rfl, rfl, rfl⟩ := trodAll_nil r1
  obtain rfl : args = #[v0, v1] := by cases args; simp_all
  obtain ⟨rfl, rfl⟩ := trodVars_none hV
  have lt0 : ∀ x ∈ p0, x.block < W.heap.size := by obtain ⟨m, hm⟩ := h0; exact DataW.trod_lt m _ _ _ hm
  have lt1 : ∀ x ∈ p1, x.block < W.heap.size := by obtain ⟨m, hm⟩ := h1; exact DataW.trod_lt m _ _ _ hm
  clear hA0 hval0
  have hk0 : Rows.uptoBulk d0 ≤ 1048576 := by
    have h := of_decide_eq_true hk
    simp only [List.append_nil, Rows.uptoBulkAll] at h
    omega
  refine (WholeFails_open ⟨hval 0 22 v0 rfl rfl, h0⟩ ⟨hval 1 23 v1 rfl rfl, h1⟩ hk0).mono fun e W' ⟨he, bel⟩ => ?_
  subst he
  exact ⟨_, rfl, _, _, _, [], _, [], hW', trodAll_mk1 (shut_bool Tryz.underlying4 _), (trodAll_cons_mk (Below.trod laidOut (by kernel_rfl) (of_decide_eq_true (by kernel_rfl)) h0 bel lt0) (trodAll_cons_mk (Below.trod laidOut (by kernel_rfl) (of_decide_eq_true (by kernel_rfl)) h1 bel lt1) trodAll_mk0)), rfl, bel.frame _, fun h => by cases h⟩
theorem WholeFails_holds : Rows.WholeFailsUptoSaid :=
  OpenClaim.holds_of_cond 3 Tryz.f3 rfl rfl rfl rfl rfl rfl rfl ⟨rfl, rfl, rfl, rfl, rfl⟩ rfl rfl rfl rfl rfl (by kernel_rfl) Tryz.func3 WholeFails_facts
    (of_decide_eq_true (by kernel_rfl)) (by unfold Func.isWrapper; rw [if_neg (of_decide_eq_false (by kernel_rfl))]; exact ⟨rfl, rfl⟩)
    (fun os started H enc _ F => WholeFails_lifted os started H enc F)
#print axioms WholeFails_holds
end Go.Proofs.YtnjmddlgpcnpeaaGreat
