/- The walk of the statement AclFinds: it hands back true. -/
import Derived.Test.YtnbokpfkcfhgbaaAclFind2
namespace Go.Proofs.Ytnbokpfkcfhgbaa
open Go Go.RowKit
attribute [local go_sem ↓] Go.wp_at_zero Go.wp_at_succ

theorem Elems.one {w : World} {b o size : Nat} {cs : List Value} (h : Holds w (elemL b o cs)) : Elems w (some ⟨b, o, none⟩) size [cs] := by
  intro i cs' hi
  match i, hi with
  | 0, hi =>
    simp at hi
    subst hi
    exact ⟨b, o, rfl, by simpa using h⟩

theorem aclAlive_hit : Rule.hit ⟨0, 0, 0, 0, 0, true⟩ 0 0 0 = true := by
  simp [Rule.hit, hitB, hasB, rightB, sizeN]
theorem aclAlive_find : firstI (fun r : Rule => r.hit 0 0 0) [⟨0, 0, 0, 0, 0, true⟩] = 0 := by
  simp [firstI, List.findIdx?, List.findIdx?.go, aclAlive_hit]
theorem aclAlive_may : mayB [⟨0, 0, 0, 0, 0, true⟩] 0 0 0 = true := by
  simp [mayB, aclAlive_hit]

set_option maxHeartbeats 1000000 in
theorem aclAlive_walk (w : World) : Calls Try.prog 20 #[] w (Pure w (.bool true)) := by
  go_enter Try.func20, Try.ntmps20
  go_wp2_with fail
  generalize hW : ((w.alloc (Obj.cells #[Value.int IntKind.u32 0, Value.int IntKind.i64 0] 32)).alloc (Obj.cells #[Value.int IntKind.u8 0, Value.int IntKind.u32 0, Value.int IntKind.i64 0, Value.int IntKind.u32 0, Value.int IntKind.i64 0, Value.bool true] 34)) = W
  have hr : Elems W (some ⟨w.heap.size + 1, 0, none⟩) 6 ([(⟨0, 0, 0, 0, 0, true⟩ : Rule)].map Rule.cells) := by
    refine Elems.one ?_
    subst hW
    have := elemL_new (w.alloc (Obj.cells #[Value.int IntKind.u32 0, Value.int IntKind.i64 0] 32)) #[Value.int IntKind.u8 0, Value.int IntKind.u32 0, Value.int IntKind.i64 0, Value.int IntKind.u32 0, Value.int IntKind.i64 0, Value.bool true] 34
    rw [World.size_alloc] at this
    exact this
  have hok : ∀ r ∈ [(⟨0, 0, 0, 0, 0, true⟩ : Rule)], r.ok := by simp [Rule.ok]
  have hbW : Below w.heap.size w W := by subst hW; exact below_new (below_new (Below.refl _ _))
  clear hW
  have h1 := May_walk _ 1 1 _ 0 0 0 (.int .u8 0) (.int .u8 0) (.int .u16 0) (.int .u16 0) (.slice none 0 0) (.slice none 0 0) W rfl (by unfold maxLen; omega) hr hok (by omega) (by omega) (by omega) (by omega)
  rw [aclAlive_may] at h1
  refine h1.mono ?_
  rintro e w1 ⟨rfl, hb1⟩
  have h2 := Find_walk _ 1 1 _ 0 0 0 (.int .u8 0) (.int .u8 0) (.int .u16 0) (.int .u16 0) (.slice none 0 0) (.slice none 0 0) w1 rfl (by unfold maxLen; omega) (hr.keep hb1) hok (by omega) (by omega) (by omega) (by omega)
  rw [aclAlive_find] at h2
  clear h1 hr hok
  have H2 := Lib.hid h2
  clear h2
  go_wp2_with fail
  refine H2.out.mono ?_
  rintro e w2 ⟨rfl, hb2⟩
  clear H2
  go_wp2_with fail
  go_ret
  exact ⟨rfl, below_on (below_on hbW hb1) hb2⟩

set_option maxHeartbeats 2000000 in
theorem AclFinds_walk (A : Option Addr) (n cap : Nat) (rs : List Rule) (pp src dst : Int) (v0 v1 v3 v4 v7 v8 : Value) (w : World) (hn : rs.length = n) (hm : n ≤ maxLen) (hr : Elems w A 6 (rs.map Rule.cells)) (hok : ∀ r ∈ rs, r.ok)
    (h5 : 0 ≤ src) (h6 : src < 4294967296) (h7 : 0 ≤ dst) (h8 : dst < 4294967296) :
    Calls Try.prog 3 #[.slice A n cap, .agg #[v0, v1, .int .u8 pp, v3, v4, .int .u32 src, .int .u32 dst, v7, v8]] w
      (Pure w (.bool true)) := by
  have Hf := Lib.hid fun w' hr' => find_walk A n cap rs pp src dst v0 v1 v3 v4 v7 v8 w' hn hm hr' hok h5 h6 h7 h8
  have HF := Lib.hid fun w' hr' => Find_walk A n cap rs pp src dst v0 v1 v3 v4 v7 v8 w' hn hm hr' hok h5 h6 h7 h8
  have HM := Lib.hid fun w' hr' => May_walk A n cap rs pp src dst v0 v1 v3 v4 v7 v8 w' hn hm hr' hok h5 h6 h7 h8
  have HN := Lib.hid hn
  clear hn
  unfold maxLen at hm
  by_cases h50 : 50 < n
  · go_enter Try.func3, Try.ntmps3
    go_wp2_with fail
    go_ret
    exact ⟨rfl, below_new (Below.refl _ _)⟩
  · go_enter Try.func3, Try.ntmps3
    go_wp2_with fail
    refine (Hf.out _ (hr.keep ((Below.refl _ _).alloc (Nat.le_refl _) _))).mono ?_
    rintro e w1 ⟨rfl, hb1⟩
    clear Hf
    generalize hI : firstI (fun r : Rule => r.hit pp src dst) rs = I at *
    have HI := Lib.hid hI
    clear hI
    have hd1 := (elemL_new w #[v0, v1, .int .u8 pp, v3, v4, .int .u32 src, .int .u32 dst, v7, v8] 29).keep hb1
    have hr1 := hr.keep (below_new hb1)
    replace hb1 := below_new hb1
    clear hr
    go_wp2_with fail
    go_loopw [6] (fun i wr => ∃ k : Nat, i = .int .i64 k ∧ k ≤ n ∧ Below w1.heap.size w1 wr) (fun i _ => n - (intOf i).toNat)
    case atStart => exact ⟨0, rfl, by omega, Below.refl _ _⟩
    case round =>
      obtain ⟨k, rfl, hk, hb⟩ := hrel
      by_cases hlt : k < n
      · have hlt' : k < rs.length := by rw [HN.out]; exact hlt
        obtain ⟨b, o, hA, hh⟩ := hr1 k rs[k].cells (by simp [hlt'])
        subst hA
        have hL := (hh.keep hb).append (hd1.keep hb)
        obtain ⟨q1, q2, q3, q4⟩ := hok rs[k] (List.getElem_mem _)
        simp only [Rule.cells] at hL
        generalize rs[k] = r at *
        cases r with | mk p fa fb ta tb may =>
        simp only at hL q1 q2 q3 q4
        clear hh hd1 hr1
        have Hw := fun w' => hits_walk p fa fb ta tb may pp src dst v0 v1 v3 v4 v7 v8 w' q1 q2 q3 q4 h5 h6 h7 h8
        have HW := fun w' => Hits_walk p fa fb ta tb may pp src dst v0 v1 v3 v4 v7 v8 w' q1 q2 q3 q4 h5 h6 h7 h8
        generalize hitB p fa fb ta tb pp src dst = hv at *
        have hvv : (hv != hv) = false := by cases hv <;> rfl
        have HW1 := Lib.hid HW
        have HW2 := Lib.hid Hw
        clear HW Hw
        go_wp2_with fail
        refine wp_region_calm _ hL (by kernel_rfl) (by kernel_rfl) (fun hS => ?_)
        simp only [elemL, List.cons_append, List.nil_append, Holds.cons, Holds.nil, and_true, Nat.add_zero] at hS
        repeat (go_big_quiet_step ((first | (go_at_call 17; exact calm_of (HW2.out _)) | (go_at_call 16; exact calm_of (HW1.out _)))))
        refine wpQuiet_nil ?_
        clear hS
        intro w2 hb2 hS2
        simp only [elemL, List.cons_append, List.nil_append, Holds.cons, Holds.nil, and_true, Nat.add_zero] at hS2
        clear hS2 HW1 HW2
        go_wp2_with fail
        go_roundw
        case rel => exact ⟨k + 1, by go_num, by omega, below_on hb hb2⟩
        case measure => simp [intOf]; omega
      · obtain rfl : k = n := by omega
        have hr2 := hr1.keep hb
        have hd2 := hd1.keep hb
        simp only [elemL, List.cons_append, List.nil_append, Holds.cons, Holds.nil, and_true, Nat.add_zero] at hd2
        clear hr1 hd1
        go_wp2_with fail
        refine (HF.out _ hr2).mono ?_
        rintro e w2 ⟨rfl, hb2⟩
        have hr3 := hr2.keep hb2
        clear HF
        obtain ⟨hc2, hf2⟩ := bcell hb2
        have hlt : w.heap.size < wr.heap.size := lt_of_cell hd2.1
        go_wp2_with fail
        refine (HM.out _ hr3).mono ?_
        rintro e w3 ⟨rfl, hb3⟩
        have hr4 := hr3.keep hb3
        clear HM
        rcases firstI_cases (fun r : Rule => r.hit pp src dst) rs with h | ⟨k, hk, h, ht⟩
        · rw [mayB_none h]
          rw [HI.out] at h
          subst h
          go_wp2_with fail
          refine (aclAlive_walk _).mono ?_
          rintro e w4 ⟨rfl, hb4⟩
          go_wp2_with fail
          go_ret
          exact ⟨rfl, below_on (below_on (below_on (below_on hb1 hb) hb2) hb3) hb4⟩
        · rw [mayB_at hk h]
          rw [HI.out] at h
          subst h
          have hkn : k < rs.length := hk
          have hkn2 : k < rs.length := hk
          rw [HN.out] at hkn2
          obtain ⟨b, o, hA, hh⟩ := hr4 k rs[k].cells (by simp [hkn])
          subst hA
          generalize rs[k] = r at *
          cases r with | mk p fa fb ta tb may =>
          simp only [Rule.cells] at hh ⊢
          simp only [elemL, Holds.cons, Holds.nil, and_true, Nat.add_zero] at hh
          have hmm : (may == may) = true := by cases may <;> rfl
          clear hr2 hr3 hr4 ht
          go_wp2_with fail
          refine (aclAlive_walk _).mono ?_
          rintro e w4 ⟨rfl, hb4⟩
          go_wp2_with fail
          go_ret
          exact ⟨rfl, below_on (below_on (below_on (below_on hb1 hb) hb2) hb3) hb4⟩
end Go.Proofs.Ytnbokpfkcfhgbaa
