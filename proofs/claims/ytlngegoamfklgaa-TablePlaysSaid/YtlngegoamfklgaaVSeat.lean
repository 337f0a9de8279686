/- This seat's program: facts for the frames; bytes as arguments. -/
import Derived.Test.YtlngegoamfklgaaVData
import Derived.Test.YtlngegoamfklgaaVEnter
namespace Go.Proofs.Ytlngegoamfklgaa
open Go Go.RowKit

theorem own : ownKnob Try.prog.godebug = none := by kernel_rfl
theorem laidOut : laidOutB Try.prog = true := by kernel_rfl
theorem u8_wf {n : Int} (h : (Lit.int .u8 n).wf = true) : 0 ≤ n ∧ n < 256 := by have := bounds_u8 h; omega
theorem hasl_bytes : ∀ {l : List V}, Sh.Hasl (.int .u8) l → ∃ L, IsB L ∧ l = bs L := by
  intro l
  induction l with
  | nil => exact fun _ => ⟨[], by intro x hx; (cases hx), rfl⟩
  | cons d l ih =>
    intro h
    cases h with
    | cons _ ds _ h k =>
      obtain ⟨L, hB, rfl⟩ := ih k
      cases h with
      | int _ n hw => exact ⟨n :: L, by
          intro x hx
          rcases List.mem_cons.1 hx with rfl | hx
          · exact u8_wf hw
          · exact hB x hx, rfl⟩
theorem has_bytes {ds : List V} (h : Sh.Has (.sl (.int .u8)) ds) : ∃ L, IsB L ∧ ds = [.sl .no (bs L)] := by
  cases h with
  | sl _ l h =>
    obtain ⟨L, hB, rfl⟩ := hasl_bytes h
    exact ⟨L, hB, rfl⟩
end Go.Proofs.Ytlngegoamfklgaa
