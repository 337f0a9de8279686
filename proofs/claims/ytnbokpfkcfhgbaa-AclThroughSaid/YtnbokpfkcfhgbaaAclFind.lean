/- Walks of acl's Find, May and the law's find: the place of the first rule that hits. -/
import Derived.Test.YtnbokpfkcfhgbaaAclW
namespace Go.Proofs.Ytnbokpfkcfhgbaa
open Go Go.RowKit
attribute [local go_sem ↓] Go.wp_at_zero Go.wp_at_succ

/-- What is kept of a datagram in a walk: its nine cells. -/
def dgCells (v0 v1 : Value) (pp : Int) (v3 v4 : Value) (src dst : Int) (v7 v8 : Value) : Array Value := #[v0, v1, .int .u8 pp, v3, v4, .int .u32 src, .int .u32 dst, v7, v8]

set_option maxHeartbeats 1000000 in
theorem find_walk (A : Option Addr) (n cap : Nat) (rs : List Rule) (pp src dst : Int) (v0 v1 v3 v4 v7 v8 : Value) (w : World) (hn : rs.length = n) (hm : n ≤ maxLen) (hr : Elems w A 6 (rs.map Rule.cells)) (hok : ∀ r ∈ rs, r.ok)
    (h5 : 0 ≤ src) (h6 : src < 4294967296) (h7 : 0 ≤ dst) (h8 : dst < 4294967296) :
    Calls Try.prog 15 #[.slice A n cap, .agg #[v0, v1, .int .u8 pp, v3, v4, .int .u32 src, .int .u32 dst, v7, v8]] w
      (Pure w (.int .i64 (firstI (fun r => r.hit pp src dst) rs))) := by
  unfold maxLen at hm
  have HN := Lib.hid hn
  clear hn
  go_enter Try.func15, Try.ntmps15
  go_wp2
  go_loopw [5] (fun i wr => ∃ k : Nat, i = .int .i64 k ∧ k ≤ n ∧ Below (w.alloc (.cells #[v0, v1, .int .u8 pp, v3, v4, .int .u32 src, .int .u32 dst, v7, v8] 29)).heap.size (w.alloc (.cells #[v0, v1, .int .u8 pp, v3, v4, .int .u32 src, .int .u32 dst, v7, v8] 29)) wr
    ∧ Hid (∀ j, j < k → ∀ x, rs[j]? = some x → x.hit pp src dst = false)) (fun i _ => n - (intOf i).toNat)
  case atStart => exact ⟨0, rfl, by omega, Below.refl _ _, fun j hj => by omega⟩
  case round =>
    obtain ⟨k, rfl, hk, hb, HF⟩ := hrel
    by_cases hlt : k < n
    · have hlt' : k < rs.length := by rw [HN.out]; exact hlt
      obtain ⟨b, o, hA, hh⟩ := hr k rs[k].cells (by simp [hlt'])
      subst hA
      have hd := (elemL_new w #[v0, v1, .int .u8 pp, v3, v4, .int .u32 src, .int .u32 dst, v7, v8] 29).keep hb
      have hL := (hh.keep (below_new hb)).append hd
      obtain ⟨q1, q2, q3, q4⟩ := hok rs[k] (List.getElem_mem _)
      have HH : Hid (rs[k].hit pp src dst = hitB rs[k].p rs[k].fa rs[k].fb rs[k].ta rs[k].tb pp src dst) := rfl
      simp only [Rule.cells] at hL
      have hx0 : rs[k]? = some rs[k] := List.getElem?_eq_getElem hlt'
      have HFk := firstI_at (h := fun r => r.hit pp src dst) hlt' (fun j hj x hx => HF.out j hj x hx)
      generalize rs[k] = r at *
      cases r with | mk p fa fb ta tb may =>
      simp only at HH hL q1 q2 q3 q4
      go_wp2
      refine wp_region_calm _ hL (by kernel_rfl) (by kernel_rfl) (fun hS => ?_)
      simp only [elemL, List.cons_append, List.nil_append, Holds.cons, Holds.nil, and_true, Nat.add_zero] at hS
      repeat (go_big_quiet_step ((first | (go_at_call 17; exact calm_of (hits_walk _ _ _ _ _ _ _ _ _ _ _ _ _ _ _ _ q1 q2 q3 q4 h5 h6 h7 h8)))))
      refine wpQuiet_nil ?_
      clear hS
      intro w1 hb1 hS1
      simp only [elemL, List.cons_append, List.nil_append, Holds.cons, Holds.nil, and_true, Nat.add_zero] at hS1
      clear hS1
      have hbb := below_on hb hb1
      have HX := Lib.hid hx0
      clear hx0
      cases hc : hitB p fa fb ta tb pp src dst
      · have HF' : Hid (∀ j, j < k + 1 → ∀ x, rs[j]? = some x → x.hit pp src dst = false) := fun j hj x hx => by
          by_cases e : j = k
          · subst e
            rw [HX.out] at hx
            cases hx
            rw [HH.out, hc]
          · exact HF.out j (by omega) x hx
        go_wp2
        go_roundw
        case rel => exact ⟨k + 1, by go_num, by omega, hbb, HF'⟩
        case measure => simp [intOf]; omega
      · have hfin : Hid (firstI (fun r => r.hit pp src dst) rs = k) := HFk (by rw [HH.out, hc])
        clear HFk
        go_wp2
        go_ret
        exact ⟨ret_int hfin.out.symm, below_new hbb⟩
    · obtain rfl : k = n := by omega
      have e := firstI_none (h := fun r : Rule => r.hit pp src dst) (l := rs) (fun j x hx => HF.out j (by have := (List.getElem?_eq_some_iff.1 hx).1; have := HN.out; omega) x hx)
      have E := Lib.hid e
      clear e
      go_wp2
      go_ret
      exact ⟨ret_int E.out.symm, below_new hb⟩
end Go.Proofs.Ytnbokpfkcfhgbaa
