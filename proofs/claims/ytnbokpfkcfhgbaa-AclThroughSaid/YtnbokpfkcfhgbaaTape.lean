/- Walks of package tape: fits, Right; of the law's fits, right. -/
import Derived.Test.YtnbokpfkcfhgbaaBe3
namespace Go.Proofs.Ytnbokpfkcfhgbaa
open Go Go.RowKit
attribute [local go_sem ↓] Go.wp_at_zero Go.wp_at_succ

/-- Do they fit? -/
def fitsB (k c n : Int) (z : Nat) : Bool := decide (0 ≤ k) && decide (k ≤ 255) && decide (0 ≤ c) && decide (c ≤ 255) && decide (0 ≤ n) && decide (n ≤ 4294967295) && decide ((z : Int) ≤ 65535)

set_option maxHeartbeats 1000000 in
theorem tfits_any (k c n : Int) (A : Option Addr) (z cp : Nat) (w : World) (h0 : -9223372036854775808 ≤ n) (h1 : n ≤ 9223372036854775807) :
    Calls Try.prog 71 #[.int .i64 k, .int .i64 c, .int .i64 n, .slice A z cp] w fun e w' => e = .returned (.bool (fitsB k c n z)) ∧ w = w' := by
  by_cases hn : 0 ≤ n
  · have hw : IntKind.u64.wrap n = n := IntWalk.u64_in _ ⟨hn, by omega⟩
    go_enter Try.func71, Try.ntmps71
    go_wp2_with fail
    all_goals
      go_ret
      exact ⟨ret_bool (by simp [fitsB, *] <;> intros <;> omega), rfl⟩
  · have dn : decide (0 ≤ n) = false := by simpa using hn
    go_enter Try.func71, Try.ntmps71
    go_wp2_with fail
    all_goals
      go_ret
      exact ⟨ret_bool (by simp [fitsB, *] <;> intros <;> omega), rfl⟩

/-- A record as it comes by value. -/
structure Rc where
  k : Int
  ek : Int
  ec : Int
  en : Int
  eA : Option Addr
  eL : Nat
  eC : Nat
  ok : Int
  oc : Int
  on : Int
  oa : Int
  oA : Option Addr
  oL : Nat
  oC : Nat
def Rc.val (r : Rc) : Value := .agg #[.int .i64 r.k, .int .i64 r.ek, .int .i64 r.ec, .int .i64 r.en, .slice r.eA r.eL r.eC, .int .i64 r.ok, .int .i64 r.oc, .int .i64 r.on, .int .u32 r.oa, .slice r.oA r.oL r.oC]
/-- May there be such a record? -/
def Rc.right (r : Rc) : Bool :=
  (r.k == 1 && (r.ok == 0 && r.oc == 0 && r.on == 0 && r.oa == 0 && (r.oL : Int) == 0) && fitsB r.ek r.ec r.en r.eL) || (r.k == 2 && (r.ek == 0 && r.ec == 0 && r.en == 0 && (r.eL : Int) == 0) && fitsB r.ok r.oc r.on r.oL)
def i64P (n : Int) : Prop := -9223372036854775808 ≤ n ∧ n ≤ 9223372036854775807

end Go.Proofs.Ytnbokpfkcfhgbaa
