/- Data as abstract values: bytes. -/
import Derived.Test.YtlngegoamfklgaaV11
import Derived.Test.YtlngegoamfklgaaBeLaw
namespace Go.Proofs.Ytlngegoamfklgaa
open Go

/-- Bytes. -/
def bs (L : List Int) : List V := L.map fun n => .sc (.int .u8 n)
theorem bs_len (L : List Int) : (bs L).length = L.length := by simp [bs]
theorem bs_get (L : List Int) (i : Nat) : (bs L)[i]? = (L[i]?).map fun n => .sc (.int .u8 n) := by simp [bs]
theorem bs_take (L : List Int) (k : Nat) : (bs L).take k = bs (L.take k) := by simp [bs, List.map_take]
theorem bs_drop (L : List Int) (k : Nat) : (bs L).drop k = bs (L.drop k) := by simp [bs, List.map_drop]
theorem bs_append (L M : List Int) : bs L ++ bs M = bs (L ++ M) := by simp [bs]
theorem bs_nil : bs [] = [] := rfl
theorem bs_cons (x : Int) (L : List Int) : bs (x :: L) = .sc (.int .u8 x) :: bs L := rfl
theorem allSz_bs (L : List Int) : allSz 1 (bs L) := fun d hd => by
  obtain ⟨x, _, rfl⟩ := List.mem_map.1 hd; rfl
theorem allSz_bs' (L : List Int) : allSz 1 (bs L) = True := by simp [allSz_bs]
theorem get_ex {α : Type} {L : List α} {i : Nat} (h : i < L.length) : ∃ x, L[i]? = some x := ⟨_, List.getElem?_eq_getElem h⟩
theorem get_lt {L : List Int} {i : Nat} (h : i < L.length) : L[i]? = some (L.getD i 0) := by simp [h]
theorem ibit_bits (op : BinOp) (k : IntKind) (x y : Int) (h : op = .and ∨ op = .or ∨ op = .xor ∨ op = .andNot) : ibit op k x y = bits op k x y := by
  rcases h with rfl | rfl | rfl | rfl <;> rfl
theorem ibit_and (k : IntKind) (x y : Int) : ibit .and k x y = bits .and k x y := rfl
theorem ibit_or (k : IntKind) (x y : Int) : ibit .or k x y = bits .or k x y := rfl
theorem ibit_xor (k : IntKind) (x y : Int) : ibit .xor k x y = bits .xor k x y := rfl
theorem ibit_andNot (k : IntKind) (x y : Int) : ibit .andNot k x y = bits .andNot k x y := rfl

theorem vlen_max {tk : Tk} {l : List V} (h : V.Ok (.sl tk l)) : (l.length : Int) ≤ 9223372036854775807 := by have := h.len; unfold maxLen at this; omega
theorem St.weak.refl {s : St} (hb : ∀ b cs, s.box b = some cs → b < s.sz) (ho : ∀ g m, s.own g = some m → g < s.sz) : s.weak s := ⟨fun b cs h => ⟨h, hb b cs h⟩, fun g m h => ⟨h, ho g m h⟩, Nat.le_refl _⟩
theorem selfNe {a : Nat} (h : False) : a ≠ a := h.elim
theorem resv_1 {st : St} {A : Nat → V} {r : RV} : resV st A [r] = (rvVal st A r).2 := _root_.id rfl
theorem resv_2 {st : St} {A : Nat → V} {r q : RV} {rs : List RV} : resV st A (r :: q :: rs) = .tup ((r :: q :: rs).map fun r => (rvVal st A r).2) := _root_.id rfl
end Go.Proofs.Ytlngegoamfklgaa
