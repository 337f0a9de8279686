/- SecretTables: of any secrets and of any name the law returns true, and its arguments read as before. No condition. -/
import Derived.Test.YtlngegoamfklgaaVSec4
import Derived.Test.YtlngegoamfklgaaVOpenB
import Derived.Test.YtlngegoamfklgaaRows
import Derived.ChangeOld
namespace Go.Proofs.Ytlngegoamfklgaa
open Go Go.RowKit Go.ChangeShapes Go.WideShapes Go.ChangeAt Go.Deep

theorem has_secret {ds : List V} (h : Sh.Has (.st [.str, .str]) ds) : ∃ x : Sec, True ∧ ds = [.sc (.string x.1), .sc (.string x.2)] := by
  have h := has_st h
  obtain ⟨n, _, rfl, _, h⟩ := hass_str h
  obtain ⟨a, _, rfl, _, h⟩ := hass_str h
  cases hass_nil h
  exact ⟨⟨n, a⟩, trivial, rfl⟩
theorem SecretTables_open {H : Type} {enc : TypeId × Value → H} {W : World} {base : Nat} {v0 v1 : Value} {d0 d1 : DataW H} {p0 p1 : List MemPlace}
    (a0 : ArgIn enc Try.prog W base 44 v0 d0 p0) (a1 : ArgIn enc Try.prog W base 9 v1 d1 p1) : Calls Try.prog 4 #[v0, v1] W (Pure W (.bool true)) := by
  obtain ⟨ds, h1, h2⟩ := arg_sh 6 (s := .sl (.st [.str, .str])) (by kernel_rfl) a0
  obtain ⟨es, h3, h4⟩ := arg_sh 6 (s := .str) (by kernel_rfl) a1
  obtain ⟨S, _, rfl⟩ := has_slmap (f := secV) (ok := fun _ => True) (fun ds h => by
    obtain ⟨x, hx, rfl⟩ := has_secret h
    exact ⟨x, hx, rfl⟩) h1
  cases h3 with
  | str n hn =>
  exact v_calls (args := [.sl .no (secs S), .sc (.string n)]) (secretTables_v.mono fun _ _ h => h.1) rfl (reps2 h2 h4)

set_option maxRecDepth 100000 in
theorem SecretTables_lifted (os : Os) (started : os.Started) (H : Type) (enc : TypeId × Value → H) :
    ReturnsInHanded {} Try.checked os 4 .any (Rows.secretTablesSpec.pre6 enc Try.prog Try.f4 Rows.secretTablesRow.domain false) (Rows.secretTablesSpec.post enc Try.prog Try.f4 false true false false) := by
  refine returnsInHanded_of_change (C := Try.checked) own started (by kernel_rfl) Try.func4
    (ChangeSpec.witness6 (enc := enc) (C := Try.checked) false ⟨#[], #[.slice none 0 0, .string ⟨#[]⟩], []⟩ 8 (by kernel_rfl) (by kernel_rfl) (by kernel_rfl) (by kernel_rfl)) ?_
  intro W base args ds gs before hval0 hW hcnd _
  have hval : ∀ (j : Nat) t v, Try.f4.params[j]? = some t → args[j]? = some v → Value.okWide Try.prog W .any base t v := hval0
  have hW' := hW
  obtain ⟨p, q, hA0, hV, rfl, hfz, hnd⟩ := hW
  have hA : DataW.TrodAll enc Try.prog W 0 (fun _ => true) true Try.f4.params.toList args.toList ds p := hA0
  rw [Try.params4] at hA hval
  obtain ⟨v0, vs0, d0, ds0, p0, q0, hargs, rfl, rfl, h0, r0⟩ := trodAll_cons hA
  obtain ⟨v1, vs1, d1, ds1, p1, q1, rfl, rfl, rfl, h1, r1⟩ := trodAll_cons r0
  obtain ⟨rfl, rfl, rfl⟩ := trodAll_nil r1
  obtain rfl : args = #[v0, v1] := by cases args; simp_all
  obtain ⟨rfl, rfl⟩ := trodVars_none hV
  have lt0 : ∀ x ∈ p0, x.block < W.heap.size := by obtain ⟨m, hm⟩ := h0; exact DataW.trod_lt m _ _ _ hm
  have lt1 : ∀ x ∈ p1, x.block < W.heap.size := by obtain ⟨m, hm⟩ := h1; exact DataW.trod_lt m _ _ _ hm
  clear hA0 hval0
  refine (SecretTables_open ⟨hval 0 44 v0 rfl rfl, h0⟩ ⟨hval 1 9 v1 rfl rfl, h1⟩).mono fun e W' ⟨he, bel⟩ => ?_
  subst he
  exact ⟨_, rfl, _, _, _, [], _, [], hW', trodAll_mk1 (shut_bool Try.underlying4 _), (trodAll_cons_mk (Below.trod laidOut (by kernel_rfl) (of_decide_eq_true (by kernel_rfl)) h0 bel lt0) (trodAll_cons_mk (Below.trod laidOut (by kernel_rfl) (of_decide_eq_true (by kernel_rfl)) h1 bel lt1) trodAll_mk0)), rfl, bel.frame _, fun h => by cases h⟩

theorem SecretTables_holds : Rows.SecretTablesSaid :=
  OpenClaim.holds_of_wide 4 Try.f4 rfl rfl rfl rfl rfl rfl rfl ⟨rfl, rfl, rfl, rfl, rfl⟩ rfl rfl rfl rfl rfl (by kernel_rfl) Try.func4 (by kernel_rfl)
    (of_decide_eq_true (by kernel_rfl)) (by unfold Func.isWrapper; rw [if_neg (of_decide_eq_false (by kernel_rfl))]; exact ⟨rfl, rfl⟩)
    (fun os started H enc _ => SecretTables_lifted os started H enc)
#print axioms SecretTables_holds
end Go.Proofs.Ytlngegoamfklgaa
