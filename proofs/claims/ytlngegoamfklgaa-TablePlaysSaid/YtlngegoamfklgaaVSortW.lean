/- What both versions of the sort use. No program here. -/
import Derived.Test.YtlngegoamfklgaaVSortLaw
import Derived.Test.YtlngegoamfklgaaVData
import Derived.Test.YtlngegoamfklgaaV13
namespace Go.Proofs.Ytlngegoamfklgaa
open Go

theorem put_swp {st : St} {b c : Nat} {x y z : List V} (h : b ≠ c) : ((st.put b x).put c y).put b z = (st.put b z).put c y := by
  simp only [St.put, St.mk.injEq, true_and]
  refine ⟨funext fun q => ?_, by omega⟩
  by_cases h1 : q = b
  · subst h1; simp [h]
  · by_cases h2 : q = c
    · subst h2; simp [h1]
    · simp [h1, h2]
theorem and_u64 (x : Int) {m : Nat} (h : m < 18446744073709551616) : ∃ z : Nat, ibit .and .u64 x (m : Int) = (z : Int) ∧ z ≤ m := by
  refine ⟨(BitVec.ofInt 64 x &&& BitVec.ofInt 64 (m : Int)).toNat, ?_, ?_⟩
  · show IntKind.wrap .u64 (((BitVec.ofInt 64 x &&& BitVec.ofInt 64 (m : Int)).toNat : Nat) : Int) = _
    have := (BitVec.ofInt 64 x &&& BitVec.ofInt 64 (m : Int)).isLt
    show (((BitVec.ofInt 64 x &&& BitVec.ofInt 64 (m : Int)).toNat : Nat) : Int) % 18446744073709551616 = _
    omega
  · rw [BitVec.toNat_and]
    refine Nat.le_trans Nat.and_le_right ?_
    rw [BitVec.toNat_ofInt]
    omega
def dataV (b n cap : Nat) : V := .sc (.slice (some ⟨b, 0, none⟩) n cap)
theorem weak_re {st : St} {b : Nat} {X Y : List V} (h : (st.put b X).Wf) : (st.put b Y).weak (st.put b Y) := by
  have := (h.lt.put (b := b) (cs := Y)).weak
  rwa [put_put] at this
theorem put_selfR {st : St} {b : Nat} {cs : List V} (hb : st.box b = some cs) (h : b < st.sz) : st.put b cs = st := by
  cases st with
  | mk box own sz =>
    simp only [St.put, St.mk.injEq, true_and]
    simp only at hb h
    refine ⟨?_, by omega⟩
    funext i
    by_cases e : i = b
    · subst e; simp [hb]
    · simp [e]
section
variable {α : Type} [Inhabited α] {lt : α → α → Bool}
theorem Srt.all {L M : List α} (h : Mix 0 L.length L M) (k : Srt lt 0 L.length M) : M.Perm L ∧ M.Pairwise (fun x y => lt y x = false) := ⟨h.perm, Srt.pw (by rw [h.len]; exact k)⟩
end
end Go.Proofs.Ytlngegoamfklgaa
