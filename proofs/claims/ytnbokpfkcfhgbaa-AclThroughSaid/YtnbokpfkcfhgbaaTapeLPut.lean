/- A walk of the law's put: a record's bytes, or none. -/
import Derived.Test.YtnbokpfkcfhgbaaTapePut
namespace Go.Proofs.Ytnbokpfkcfhgbaa
open Go Go.RowKit
attribute [local go_sem ↓] Go.wp_at_zero Go.wp_at_succ

theorem own_read' {w : World} {B : Nat} {v : Value} {L : List Int} (h : OwnB w B v L) : ∃ A c, v = .slice A L.length c ∧ Elems w A 1 (nums .u8 L) := by
  unfold OwnB at h
  rw [← nums_flat] at h
  obtain ⟨A, c, e, _, _, hE⟩ := own_elems h (nums_one _ _) (nums_length _ _)
  exact ⟨A, c, e, hE⟩
theorem chunk4 (n : Int) : (if (4 : Int) < 1 ∨ 8 < (4 : Int) then [] else beL n (4 : Int).toNat) = beL n 4 := by simp
theorem chunk2 (n : Int) : (if (2 : Int) < 1 ∨ 8 < (2 : Int) then [] else beL n (2 : Int).toNat) = beL n 2 := by simp

set_option maxRecDepth 100000 in
set_option maxHeartbeats 8000000 in
theorem lput_any (D : Nat) (k ek ec en : Int) (eA : Option Addr) (eL eC : Nat) (ok oc on oa : Int) (oA : Option Addr) (oL oC : Nat) (EL OL : List Int) (w : World)
    (hE : BSl w D eA eL eC EL) (hO : BSl w D oA oL oC OL) (hD : D ≤ w.heap.size) (h3 : 0 ≤ oa ∧ oa ≤ 4294967295) :
    Calls Try.prog 35 #[.agg #[.int .i64 k, .int .i64 ek, .int .i64 ec, .int .i64 en, .slice eA eL eC, .int .i64 ok, .int .i64 oc, .int .i64 on, .int .u32 oa, .slice oA oL oC]] w
      (NewB w (if Rc.right ⟨k, ek, ec, en, eA, eL, eC, ok, oc, on, oa, oA, oL, oC⟩ = true then recL k ek ec en EL ok oc on oa OL else [])) := by
  have HR := Lib.hid fun W => lright_any k ek ec en eA eL eC ok oc on oa oA oL oC W
  have hlE := hE.len
  have hlO := hO.len
  cases hR : Rc.right ⟨k, ek, ec, en, eA, eL, eC, ok, oc, on, oa, oA, oL, oC⟩ with
  | false =>
    rw [hR] at HR
    simp only [Bool.false_eq_true, if_false]
    go_enter Try.func35, Try.ntmps35
    go_wp2_with fail
    refine (HR.out _).mono ?_
    rintro e w1 ⟨rfl, hb1⟩
    go_wp2_with fail
    go_ret
    exact ⟨_, rfl, World.ownsRow_nil _ _ _ _, below_new hb1⟩
  | true =>
    simp only [if_true]
    have hc := right_true hR
    rw [hR] at HR
    clear hR
    rcases hc with ⟨rfl, q1, q2, q3, q4, q5, q6, q7⟩ | ⟨rfl, q1, q2, q3, q4, q5, q6, q7⟩
    · have hw1 : IntKind.u8.wrap ek = ek := IntWalk.u8_in _ ⟨q1, q2⟩
      have hw2 : IntKind.u8.wrap ec = ec := IntWalk.u8_in _ ⟨q3, q4⟩
      have hw3 : IntKind.u64.wrap en = en := IntWalk.u64_in _ (by omega)
      have hw4 : IntKind.u64.wrap (eL : Int) = eL := IntWalk.u64_in _ (by omega)
      have HRL := Lib.hid (show recL 1 ek ec en EL ok oc on oa OL = (([1, ek, ec] ++ beL en 4) ++ beL eL 2) ++ EL by rw [← hlE]; simp [recL])
      obtain ⟨T, hT⟩ : ∃ T, T = recL 1 ek ec en EL ok oc on oa OL := ⟨_, rfl⟩
      have HT := Lib.hid (hT.trans HRL.out)
      rw [← hT]
      clear hT HRL
      go_enter Try.func35, Try.ntmps35
      go_wp2_with fail
      refine (HR.out _).mono ?_
      rintro e w1 ⟨rfl, hb1⟩
      have hbx : Blk w1 w.heap.size 64 _ := Blk.keep (Blk.new w 64 _) hb1
      have hbw := below_new hb1
      have c0 := hbx.cell 0
      have c1 := hbx.cell 1
      have c2 := hbx.cell 2
      have c3 := hbx.cell 3
      have hbxW : Blk (w1.alloc (.cells #[.int .u8 1, .int .u8 ek, .int .u8 ec] 5)) w.heap.size 64 _ := Blk.keep hbx ((Below.refl _ _).alloc (Nat.le_refl _) _)
      have c4 := hbxW.cell 3
      go_wp2_with fail
      have hlit := elems_new w1 (size := 1) (Ls := nums .u8 [1, ek, ec]) (nums_one _ _) #[.int .u8 1, .int .u8 ek, .int .u8 ec] 5 (by simp [nums])
      have P1 := refPut_any (some ⟨w1.heap.size, 0, none⟩) 3 3 [1, ek, ec] en 4 _ rfl (by omega) hlit (by omega) (by omega)
      rw [chunk4] at P1
      refine P1.mono ?_
      rintro e w2 ⟨v2, rfl, ho2, hb2⟩
      have hbx2 := Blk.keep hbxW hb2
      have hbw2 := below_on hbw (below_new hb2)
      obtain ⟨A2, l2, e2, hE2⟩ := own_read' ho2
      have hbx2D : Blk w2.drew w.heap.size 64 _ := hbx2
      have c5 := hbx2.cell 4
      have hl2 : ([1, ek, ec] ++ beL en 4).length = 7 := by simp [beL_len]
      have hE2D : Elems w2.drew A2 1 (nums .u8 ([1, ek, ec] ++ beL en 4)) := hE2.keep ((Below.refl _ _).drew)
      have P2 := refPut_any A2 7 l2 ([1, ek, ec] ++ beL en 4) eL 2 w2.drew hl2 (by omega) hE2D (by omega) (by omega)
      rw [chunk2] at P2
      have HP2 := Lib.hid P2
      rw [hl2] at e2
      subst e2
      have hEW := hE.keep ((hbw2.drew).mono hD)
      have hl3 : (([1, ek, ec] ++ beL en 4) ++ beL (eL : Int) 2).length = 9 := by simp [beL_len]
      have hy1 : (([1, ek, ec] ++ beL en 4) ++ beL (eL : Int) 2).length + eL ≤ maxLen := by unfold maxLen; rw [hl3]; omega
      have hy2 : ((([1, ek, ec] ++ beL en 4) ++ beL (eL : Int) 2).length + eL) * 1 ≤ 140737488355328 := by rw [hl3]; omega
      have HLE := Lib.hid hlE
      have HNE := Lib.hid (show (nums .u8 EL).length = eL by rw [nums_length]; exact hlE)
      have hDw : D ≤ w2.drew.heap.size := Nat.le_trans hD hbw2.size
      clear hl3 hlE hlO hl2 c0 c1 c2 c3 c4 P1 P2 hlit
      go_wp2_with fail
      go_region_held3 (fun w' => w'.cell? ⟨w.heap.size, 4, none⟩ = some (.slice eA eL eC)) (go_keep)
        (first | (go_at_call 40; refine HP2.out.mono ?_; rintro e w3 ⟨v3, rfl, ho3, hb3⟩; have hbx3 := Blk.keep hbx2D hb3; have p3 := hbx3.cell 4; have hE3 := hEW.keep (hb3.mono hDw)) | (refine step_appS rfl _ _ _ rfl w2.drew.heap.size 5 _ 1 1 ei_byte _ (([1, ek, ec] ++ beL en 4) ++ beL (eL : Int) 2).length _ (by rfl) ho3 eA eL eC (nums .u8 EL) (by rfl) hE3.els HNE.out (nums_one _ _) (nums_cells_one _ _) hy1 hy2 hb3.size ?_; intro v4 w4 hown4 hg4; have hbx4 := hbx3.grown hg4.grown (fun e => own_blk_ne ho3 hbx3 (by decide) e.symm); have p4 := hbx4.cell 4))
      go_wp2_with fail
      go_ret
      exact ⟨v4, rfl, by have := own_appS hown4 rfl HLE.out; rw [← HT.out] at this; exact World.ownsRow.mono this hbw2.size, hbw2.drew.trans ((hg4.below ho3 hb3 hb3.size).mono hbw2.size)⟩
    · have hw1 : IntKind.u8.wrap ok = ok := IntWalk.u8_in _ ⟨q1, q2⟩
      have hw2 : IntKind.u8.wrap oc = oc := IntWalk.u8_in _ ⟨q3, q4⟩
      have hw3 : IntKind.u64.wrap on = on := IntWalk.u64_in _ (by omega)
      have hw4 : IntKind.u64.wrap (oL : Int) = oL := IntWalk.u64_in _ (by omega)
      have hw5 : IntKind.u64.wrap oa = oa := IntWalk.u64_in _ (by omega)
      have HRL := Lib.hid (show recL 2 ek ec en EL ok oc on oa OL = ((([2, ok, oc] ++ beL on 4) ++ beL oa 4) ++ beL oL 2) ++ OL by rw [← hlO]; simp [recL])
      obtain ⟨T, hT⟩ : ∃ T, T = recL 2 ek ec en EL ok oc on oa OL := ⟨_, rfl⟩
      have HT := Lib.hid (hT.trans HRL.out)
      rw [← hT]
      clear hT HRL
      go_enter Try.func35, Try.ntmps35
      go_wp2_with fail
      refine (HR.out _).mono ?_
      rintro e w1 ⟨rfl, hb1⟩
      have hbx : Blk w1 w.heap.size 64 _ := Blk.keep (Blk.new w 64 _) hb1
      have hbw := below_new hb1
      have c0 := hbx.cell 0
      have c1 := hbx.cell 5
      have c2 := hbx.cell 6
      have hbxW : Blk (w1.alloc (.cells #[.int .u8 2, .int .u8 ok, .int .u8 oc] 5)) w.heap.size 64 _ := Blk.keep hbx ((Below.refl _ _).alloc (Nat.le_refl _) _)
      have c4 := hbxW.cell 7
      go_wp2_with fail
      have hlit := elems_new w1 (size := 1) (Ls := nums .u8 [2, ok, oc]) (nums_one _ _) #[.int .u8 2, .int .u8 ok, .int .u8 oc] 5 (by simp [nums])
      have P1 := refPut_any (some ⟨w1.heap.size, 0, none⟩) 3 3 [2, ok, oc] on 4 _ rfl (by omega) hlit (by omega) (by omega)
      rw [chunk4] at P1
      refine P1.mono ?_
      rintro e w2 ⟨v2, rfl, ho2, hb2⟩
      have hbx2 := Blk.keep hbxW hb2
      have hbw2 := below_on hbw (below_new hb2)
      obtain ⟨A2, l2, e2, hE2⟩ := own_read' ho2
      have hl2 : ([2, ok, oc] ++ beL on 4).length = 7 := by simp [beL_len]
      have P3 := refPut_any A2 7 l2 ([2, ok, oc] ++ beL on 4) oa 4 w2 hl2 (by omega) hE2 (by omega) (by omega)
      rw [chunk4] at P3
      have HP3 := Lib.hid P3
      rw [hl2] at e2
      subst e2
      have c5 := hbx2.cell 8
      clear hl2 c0 c1 c2 c4 P1 P3 hlit
      go_wp2_with fail
      refine HP3.out.mono ?_
      rintro e w3 ⟨v3, rfl, ho3, hb3⟩
      have hbx3 := Blk.keep hbx2 hb3
      have hbw3 := below_on hbw2 hb3
      obtain ⟨A3, l3, e3, hE3⟩ := own_read' ho3
      have hbx3D : Blk w3.drew w.heap.size 64 _ := hbx3
      have c6 := hbx3.cell 9
      have hl3 : (([2, ok, oc] ++ beL on 4) ++ beL oa 4).length = 11 := by simp [beL_len]
      have hE3D : Elems w3.drew A3 1 (nums .u8 (([2, ok, oc] ++ beL on 4) ++ beL oa 4)) := hE3.keep ((Below.refl _ _).drew)
      have P2 := refPut_any A3 11 l3 (([2, ok, oc] ++ beL on 4) ++ beL oa 4) oL 2 w3.drew hl3 (by omega) hE3D (by omega) (by omega)
      rw [chunk2] at P2
      have HP2 := Lib.hid P2
      rw [hl3] at e3
      subst e3
      have hOW := hO.keep ((hbw3.drew).mono hD)
      have hl4 : ((([2, ok, oc] ++ beL on 4) ++ beL oa 4) ++ beL (oL : Int) 2).length = 13 := by simp [beL_len]
      have hy1 : ((([2, ok, oc] ++ beL on 4) ++ beL oa 4) ++ beL (oL : Int) 2).length + oL ≤ maxLen := by unfold maxLen; rw [hl4]; omega
      have hy2 : (((([2, ok, oc] ++ beL on 4) ++ beL oa 4) ++ beL (oL : Int) 2).length + oL) * 1 ≤ 140737488355328 := by rw [hl4]; omega
      have HLE := Lib.hid hlO
      have HNE := Lib.hid (show (nums .u8 OL).length = oL by rw [nums_length]; exact hlO)
      have hDw : D ≤ w3.drew.heap.size := Nat.le_trans hD hbw3.size
      clear hl3 hl4 hlE hlO c5 P2
      go_wp2_with fail
      go_region_held3 (fun w' => w'.cell? ⟨w.heap.size, 9, none⟩ = some (.slice oA oL oC)) (go_keep)
        (first | (go_at_call 40; refine HP2.out.mono ?_; rintro e w4 ⟨v4, rfl, ho4, hb4⟩; have hbx4 := Blk.keep hbx3D hb4; have p3 := hbx4.cell 9; have hO4 := hOW.keep (hb4.mono hDw)) | (refine step_appS rfl _ _ _ rfl w3.drew.heap.size 5 _ 1 1 ei_byte _ ((([2, ok, oc] ++ beL on 4) ++ beL oa 4) ++ beL (oL : Int) 2).length _ (by rfl) ho4 oA oL oC (nums .u8 OL) (by rfl) hO4.els HNE.out (nums_one _ _) (nums_cells_one _ _) hy1 hy2 hb4.size ?_; intro v5 w5 hown5 hg5; have hbx5 := hbx4.grown hg5.grown (fun e => own_blk_ne ho4 hbx4 (by decide) e.symm); have p4 := hbx5.cell 9))
      go_wp2_with fail
      go_ret
      exact ⟨v5, rfl, by have := own_appS hown5 rfl HLE.out; rw [← HT.out] at this; exact World.ownsRow.mono this hbw3.size, hbw3.drew.trans ((hg5.below ho4 hb4 hb4.size).mono hbw3.size)⟩
end Go.Proofs.Ytnbokpfkcfhgbaa
