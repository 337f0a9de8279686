/- Walks of acl's Find and May, and of the statements' own example. -/
import Derived.Test.YtnbokpfkcfhgbaaAclFind
namespace Go.Proofs.Ytnbokpfkcfhgbaa
open Go Go.RowKit
attribute [local go_sem ↓] Go.wp_at_zero Go.wp_at_succ

set_option maxHeartbeats 1000000 in
theorem Find_walk (A : Option Addr) (n cap : Nat) (rs : List Rule) (pp src dst : Int) (v0 v1 v3 v4 v7 v8 : Value) (w : World) (hn : rs.length = n) (hm : n ≤ maxLen) (hr : Elems w A 6 (rs.map Rule.cells)) (hok : ∀ r ∈ rs, r.ok)
    (h5 : 0 ≤ src) (h6 : src < 4294967296) (h7 : 0 ≤ dst) (h8 : dst < 4294967296) :
    Calls Try.prog 18 #[.slice A n cap, .agg #[v0, v1, .int .u8 pp, v3, v4, .int .u32 src, .int .u32 dst, v7, v8]] w
      (Pure w (.int .i64 (firstI (fun r => r.hit pp src dst) rs))) := by
  unfold maxLen at hm
  have HN := Lib.hid hn
  clear hn
  go_enter Try.func18, Try.ntmps18
  go_wp2
  go_loopw [9] (fun i wr => ∃ k : Nat, i = .int .i64 k ∧ k ≤ n ∧ Below (w.alloc (.cells #[v0, v1, .int .u8 pp, v3, v4, .int .u32 src, .int .u32 dst, v7, v8] 29)).heap.size (w.alloc (.cells #[v0, v1, .int .u8 pp, v3, v4, .int .u32 src, .int .u32 dst, v7, v8] 29)) wr
    ∧ Hid (∀ j, j < k → ∀ x, rs[j]? = some x → x.hit pp src dst = false)) (fun i _ => n - (intOf i).toNat)
  case atStart => exact ⟨0, rfl, by omega, Below.refl _ _, fun j hj => by omega⟩
  case round =>
    obtain ⟨k, rfl, hk, hb, HF⟩ := hrel
    by_cases hlt : k < n
    · have hlt' : k < rs.length := by rw [HN.out]; exact hlt
      obtain ⟨b, o, hA, hh⟩ := hr k rs[k].cells (by simp [hlt'])
      subst hA
      have hd := (elemL_new w #[v0, v1, .int .u8 pp, v3, v4, .int .u32 src, .int .u32 dst, v7, v8] 29).keep hb
      have hL := hh.keep (below_new hb)
      obtain ⟨q1, q2, q3, q4⟩ := hok rs[k] (List.getElem_mem _)
      have HH : Hid (rs[k].hit pp src dst = hitB rs[k].p rs[k].fa rs[k].fb rs[k].ta rs[k].tb pp src dst) := rfl
      simp only [Rule.cells] at hL
      have hx0 : rs[k]? = some rs[k] := List.getElem?_eq_getElem hlt'
      have HFk := firstI_at (h := fun r => r.hit pp src dst) hlt' (fun j hj x hx => HF.out j hj x hx)
      generalize rs[k] = r at *
      cases r with | mk p fa fb ta tb may =>
      simp only at HH hL q1 q2 q3 q4
      have HX := Lib.hid hx0
      clear hx0
      have hbr : b < wr.heap.size := by
        simp only [elemL, Holds.cons] at hL
        exact lt_of_cell hL.1
      have hbw : w.heap.size < wr.heap.size := by
        have := hb.size
        simp at this
        omega
      simp only [elemL, List.cons_append, List.nil_append, Holds.cons, Holds.nil, and_true, Nat.add_zero] at hL hd
      go_wp2_with fail
      refine (Hits_walk _ _ _ _ _ _ _ _ _ _ _ _ _ _ _ _ q1 q2 q3 q4 h5 h6 h7 h8).mono ?_
      rintro e w1 ⟨rfl, hb1⟩
      have hbb := below_on hb (below_new hb1)
      clear hL hd
      cases hc : hitB p fa fb ta tb pp src dst
      · have HF' : Hid (∀ j, j < k + 1 → ∀ x, rs[j]? = some x → x.hit pp src dst = false) := fun j hj x hx => by
          by_cases e : j = k
          · subst e
            rw [HX.out] at hx
            cases hx
            rw [HH.out, hc]
          · exact HF.out j (by omega) x hx
        go_wp2
        go_roundw
        case rel => exact ⟨k + 1, by go_num, by omega, hbb, HF'⟩
        case measure => simp [intOf]; omega
      · have hfin : Hid (firstI (fun r => r.hit pp src dst) rs = k) := HFk (by rw [HH.out, hc])
        clear HFk
        go_wp2
        go_ret
        exact ⟨ret_int hfin.out.symm, below_new hbb⟩
    · obtain rfl : k = n := by omega
      have e := firstI_none (h := fun r : Rule => r.hit pp src dst) (l := rs) (fun j x hx => HF.out j (by have := (List.getElem?_eq_some_iff.1 hx).1; have := HN.out; omega) x hx)
      have E := Lib.hid e
      clear e
      go_wp2
      go_ret
      exact ⟨ret_int E.out.symm, below_new hb⟩

def mayB (rs : List Rule) (pp src dst : Int) : Bool := match rs.find? (fun r => r.hit pp src dst) with | some r => r.may | none => false
theorem mayB_none {rs : List Rule} {pp src dst : Int} (h : firstI (fun r : Rule => r.hit pp src dst) rs = -1) : mayB rs pp src dst = false := by
  unfold mayB
  rw [List.find?_eq_none.2]
  intro x hx
  unfold firstI at h
  cases e : rs.findIdx? (fun r => r.hit pp src dst) with
  | none => simpa using List.findIdx?_eq_none_iff.1 e x hx
  | some i => rw [e] at h; simp only at h; omega
theorem mayB_at {rs : List Rule} {pp src dst : Int} {k : Nat} (hk : k < rs.length) (h : firstI (fun r : Rule => r.hit pp src dst) rs = k) : mayB rs pp src dst = rs[k].may := by
  unfold mayB
  unfold firstI at h
  cases e : rs.findIdx? (fun r => r.hit pp src dst) with
  | none => rw [e] at h; simp only at h; omega
  | some i =>
    rw [e] at h
    simp only at h
    obtain rfl : i = k := by omega
    rw [List.findIdx?_eq_some_iff_getElem] at e
    obtain ⟨hi, ht, hf⟩ := e
    rw [(List.find?_eq_some_iff_getElem (b := rs[i])).2 ⟨ht, i, hi, rfl, fun j hj => by simpa using hf j hj⟩]

set_option maxHeartbeats 1000000 in
theorem May_walk (A : Option Addr) (n cap : Nat) (rs : List Rule) (pp src dst : Int) (v0 v1 v3 v4 v7 v8 : Value) (w : World) (hn : rs.length = n) (hm : n ≤ maxLen) (hr : Elems w A 6 (rs.map Rule.cells)) (hok : ∀ r ∈ rs, r.ok)
    (h5 : 0 ≤ src) (h6 : src < 4294967296) (h7 : 0 ≤ dst) (h8 : dst < 4294967296) :
    Calls Try.prog 19 #[.slice A n cap, .agg #[v0, v1, .int .u8 pp, v3, v4, .int .u32 src, .int .u32 dst, v7, v8]] w
      (Pure w (.bool (mayB rs pp src dst))) := by
  have hF := fun w' hr' => Find_walk A n cap rs pp src dst v0 v1 v3 v4 v7 v8 w' hn hm hr' hok h5 h6 h7 h8
  have HN := Lib.hid hn
  clear hn
  unfold maxLen at hm
  rcases firstI_cases (fun r : Rule => r.hit pp src dst) rs with h | ⟨k, hk, h, ht⟩
  · rw [mayB_none h]
    rw [h] at hF
    clear h
    go_enter Try.func19, Try.ntmps19
    go_wp2_with fail
    refine (hF _ (hr.keep ((Below.refl _ _).alloc (Nat.le_refl _) _))).mono ?_
    rintro e w1 ⟨rfl, hb1⟩
    go_wp2_with fail
    go_ret
    exact ⟨rfl, below_new hb1⟩
  · rw [mayB_at hk h]
    rw [h] at hF
    clear h
    have hlt : k < n := by rw [← HN.out]; exact hk
    obtain ⟨b, o, hA, hh⟩ := hr k rs[k].cells (by simp [hk])
    subst hA
    generalize rs[k] = r at *
    cases r with | mk p fa fb ta tb may =>
    simp only [Rule.cells] at hh ⊢
    go_enter Try.func19, Try.ntmps19
    go_wp2_with fail
    refine (hF _ (hr.keep ((Below.refl _ _).alloc (Nat.le_refl _) _))).mono ?_
    rintro e w1 ⟨rfl, hb1⟩
    have hL := hh.keep (below_new hb1)
    clear hh hF
    simp only [elemL, Holds.cons, Holds.nil, and_true, Nat.add_zero] at hL
    go_wp2_with fail
    go_ret
    exact ⟨rfl, below_new hb1⟩
end Go.Proofs.Ytnbokpfkcfhgbaa
