/- Where ways meet: a cut behind a region whose arms are many. -/
import Derived.Test.YtlngegoamfklgaaV11
namespace Go.Proofs.Ytlngegoamfklgaa
open Go

def cutQ (I : (Nat → V) → St → Prop) : VQ
  | .normal, A, st => I A st
  | _, _, _ => False
section
variable {P : Program} {k : Kt} {A : Nat → V} {st : St}
theorem at_cut {I : (Nat → V) → St → Prop} : At P (.fin (cutQ I)) .normal A st = I A st := _root_.id rfl
theorem cut_same {I : (Nat → V) → Prop} : (fun (B : Nat → V) (s : St) => s = st ∧ I B) A st = I A := by simp
theorem over_same {ws : List Nat} {B : Nat → V} (h : ∀ t, t ∉ ws → B t = A t) : over ws B A = B := funext fun t => by
  simp only [over]
  split
  · rfl
  · rename_i ht; exact (h t ht).symm
/-- Behind the region only what I says of its slots is known; the state is as it was. -/
theorem Grd.cut {v : V} {w : Bool} {o : VO} {rest : List VO} {c : VC} (ws : List Nat) (I : (Nat → V) → Prop) (hw : (((o :: rest).flatMap VO.w).all fun t => ws.contains t) = true)
    (h1 : Grd P v w o rest (.fin (cutQ fun B s => s = st ∧ I B)) A st) (h2 : ∀ B, I B → Run P c k (over ws B A) st) : Grd P v w o rest (.code c k) A st := by
  have hw' : ∀ t ∈ (o :: rest).flatMap VO.w, t ∈ ws := fun t ht => by
    have := List.all_eq_true.1 hw t ht
    simpa using this
  have hk : ∀ B s, (∀ t, t ∉ ws → B t = A t) → (s = st ∧ I B) → At P (.code c k) .normal B s := fun B s hB hI => by
    have := h2 B hI.2
    rw [over_same hB] at this
    rw [hI.1]
    exact this
  have hwr : ∀ t ∈ rest.flatMap VO.w, t ∈ ws := fun t ht => hw' t (by simp only [List.flatMap_cons, List.mem_append]; exact .inr ht)
  have hput : ∀ r, ∀ t, t ∉ ws → putV A o.dst r t = A t := fun r t ht => by
    cases hd : o.dst with
    | none => rfl
    | some d =>
      simp only [putV]
      rw [if_neg (fun e => ht (hw' t (by subst e; simp [VO.w, hd])))]
  unfold Grd at h1 ⊢
  split at h1
  · exact ⟨fun e => vops_writes ws A (fun B s hB hI => hk B s hB hI) (o :: rest) hw' (fun t _ => rfl) (h1.1 e), fun e => vops_writes ws A (fun B s hB hI => hk B s hB hI) rest hwr (hput _) (h1.2 e)⟩
  · exact vops_writes ws A (fun B s hB hI => hk B s hB hI) rest hwr (hput _) h1
  · exact h1
end
end Go.Proofs.Ytlngegoamfklgaa
