/- A walk of tape.Put: what is put behind a row. -/
import Derived.Test.YtnbokpfkcfhgbaaTapeRight
import Derived.Test.YtnbokpfkcfhgbaaTapeLRight
namespace Go.Proofs.Ytnbokpfkcfhgbaa
open Go Go.RowKit
attribute [local go_sem ↓] Go.wp_at_zero Go.wp_at_succ

/-- The bytes of a record that may be. -/
def recL (k ek ec en : Int) (EL : List Int) (ok oc on oa : Int) (OL : List Int) : List Int :=
  if k = 1 then [1, ek, ec] ++ beL en 4 ++ beL EL.length 2 ++ EL else [2, ok, oc] ++ beL on 4 ++ beL oa 4 ++ beL OL.length 2 ++ OL
theorem right_true {k ek ec en : Int} {eA : Option Addr} {eL eC : Nat} {ok oc on oa : Int} {oA : Option Addr} {oL oC : Nat} (h : Rc.right ⟨k, ek, ec, en, eA, eL, eC, ok, oc, on, oa, oA, oL, oC⟩ = true) :
    (k = 1 ∧ 0 ≤ ek ∧ ek ≤ 255 ∧ 0 ≤ ec ∧ ec ≤ 255 ∧ 0 ≤ en ∧ en ≤ 4294967295 ∧ eL ≤ 65535) ∨ (k = 2 ∧ 0 ≤ ok ∧ ok ≤ 255 ∧ 0 ≤ oc ∧ oc ≤ 255 ∧ 0 ≤ on ∧ on ≤ 4294967295 ∧ oL ≤ 65535) := by
  simp only [Rc.right, fitsB, Bool.or_eq_true, Bool.and_eq_true, decide_eq_true_eq, beq_iff_eq] at h
  omega

theorem step_appS {P : Program} {w : World} {ops : Array Oper} {o : Oper} {a : Act} {K : Act → World → Prop} {Q : Exit → Act → World → Prop} {E : Prop} (hgd : o.guard = none) (s x : Operand) (t : TypeId)
    (ho : o.op = .call { callee := .builtin .append, args := #[s, x], argTypes := #[t, t] })
    (base : Nat) (e : TypeId) (z : Value) (size bytes : Nat) (EI : ElemInfo P t e z size bytes)
    (v : Value) (n : Nat) (xs : List Value) (hs : a.eval s = v) (hown : w.ownsRow base e size v n xs)
    (A : Option Addr) (m c : Nat) (Ls : List (List Value)) (hx : a.eval x = .slice A m c) (hel : Elems w A size Ls) (hm : Ls.length = m) (hl : ∀ l ∈ Ls, l.length = size) (h1 : ∀ l ∈ Ls, ∀ u ∈ l, u.oneCell' = true)
    (h63 : n + m ≤ maxLen) (hbytes : (n + m) * bytes ≤ 140737488355328) (hbase : base ≤ w.heap.size)
    (h : ∀ v' w', w'.ownsRow base e size v' (n + m) (xs ++ Ls.flatten) → Grew w w' v v' → K (a.put o.dst v') w') :
    if Region.wanted o (yielded ops a.tmps) = true then Oper.wp P o a w K Q else E := by
  have hw : Region.wanted o (yielded ops a.tmps) = true := by simp [Region.wanted, hgd]
  rw [if_pos hw]
  exact wp_appS s x t ho base e z size bytes EI v n xs hs hown A m c Ls hx hel hm hl h1 h63 hbytes hbase h

set_option maxRecDepth 100000 in
set_option maxHeartbeats 8000000 in
theorem tPut_any (v : Value) (L : List Int) (B D : Nat) (k ek ec en : Int) (eA : Option Addr) (eL eC : Nat) (ok oc on oa : Int) (oA : Option Addr) (oL oC : Nat) (EL OL : List Int) (w : World)
    (hown : OwnB w B v L) (hB : B ≤ w.heap.size) (hl : L.length ≤ 1000000000) (hE : BSl w D eA eL eC EL) (hO : BSl w D oA oL oC OL) (hD : D ≤ B) (h1 : i64P en) (h2 : i64P on) (h3 : 0 ≤ oa ∧ oa ≤ 4294967295) :
    Calls Try.prog 34 #[v, .agg #[.int .i64 k, .int .i64 ek, .int .i64 ec, .int .i64 en, .slice eA eL eC, .int .i64 ok, .int .i64 oc, .int .i64 on, .int .u32 oa, .slice oA oL oC]] w
      (AppTo w B v (L ++ if Rc.right ⟨k, ek, ec, en, eA, eL, eC, ok, oc, on, oa, oA, oL, oC⟩ = true then recL k ek ec en EL ok oc on oa OL else [])) := by
  have HR := Lib.hid fun W => Right_any k ek ec en eA eL eC ok oc on oa oA oL oC W h1 h2
  clear h1 h2
  have hlE := hE.len
  have hlO := hO.len
  cases hR : Rc.right ⟨k, ek, ec, en, eA, eL, eC, ok, oc, on, oa, oA, oL, oC⟩ with
  | false =>
    rw [hR] at HR
    simp only [Bool.false_eq_true, if_false, List.append_nil]
    go_enter Try.func34, Try.ntmps34
    go_wp2_with fail
    refine (HR.out _).mono ?_
    rintro e w1 ⟨rfl, hb1⟩
    go_wp2_with fail
    go_ret
    exact ⟨v, rfl, own_below hown (below_new hb1), Grew.then (Grew.refl w v) (below_new hb1)⟩
  | true =>
    simp only [if_true]
    have hc := right_true hR
    rw [hR] at HR
    clear hR
    rcases hc with ⟨rfl, q1, q2, q3, q4, q5, q6, q7⟩ | ⟨rfl, q1, q2, q3, q4, q5, q6, q7⟩
    · have hw1 : IntKind.u8.wrap ek = ek := IntWalk.u8_in _ ⟨q1, q2⟩
      have hw2 : IntKind.u8.wrap ec = ec := IntWalk.u8_in _ ⟨q3, q4⟩
      have hw3 : IntKind.u32.wrap en = en := IntWalk.u32_in _ ⟨q5, q6⟩
      have hw4 : IntKind.u16.wrap (eL : Int) = eL := IntWalk.u16_in _ (by omega)
      have HRL := Lib.hid (show recL 1 ek ec en EL ok oc on oa OL = [1, ek, ec] ++ beL en 4 ++ beL eL 2 ++ EL by rw [← hlE]; rfl)
      obtain ⟨T, hT⟩ : ∃ T, T = L ++ recL 1 ek ec en EL ok oc on oa OL := ⟨_, rfl⟩
      have HT := Lib.hid (show T = (((L ++ [1, ek, ec]) ++ beL en 4) ++ beL eL 2) ++ EL by rw [hT, HRL.out]; simp)
      rw [← hT]
      clear hT HRL
      go_enter Try.func34, Try.ntmps34
      go_wp2_with fail
      refine (HR.out _).mono ?_
      rintro e w1 ⟨rfl, hb1⟩
      have hbx : Blk w1 w.heap.size 64 _ := Blk.keep (Blk.new w 64 _) hb1
      have hbw := below_new hb1
      have ho1 : OwnB w1 B v L := own_below hown hbw
      have hB1 : B ≤ w1.heap.size := Nat.le_trans hB hbw.size
      have hE1 : BSl w1 D eA eL eC EL := hE.keep (hbw.mono (by omega))
      have hg1 : Grew w w1 v v := Grew.then (Grew.refl w v) hbw
      have c0 := hbx.cell 0
      have c1 := hbx.cell 1
      have c2 := hbx.cell 2
      have c3 := hbx.cell 3
      have c4 := hbx.cell 4
      clear hE hO hown
      have hx1 : L.length + 3 ≤ maxLen := by unfold maxLen; omega
      have hx2 : (L.length + 3) * 1 ≤ 140737488355328 := by omega
      go_wp2_with (at_builtin; refine wpList_appG rfl _ _ _ rfl B 5 _ 1 1 ei_byte _ L.length _ (by rfl) ho1 3 #[.int .u8 1, .int .u8 ek, .int .u8 ec] rfl (by simp) rfl (bytes_one [1, ek, ec]) hx1 hx2 hB1 ?_; intro v2 w2 hown2 hg2)
      have ho2 : OwnB w2 B v2 (L ++ [1, ek, ec]) := own_len (M := [1, ek, ec]) hown2 rfl
      have hl2 : (L ++ [1, ek, ec]).length = L.length + 3 := by simp
      have HL2 := Lib.hid hl2
      have hbx2 : Blk w2 w.heap.size 64 _ := hbx.grown hg2.grown (fun e => own_blk_ne ho1 hbx (by decide) e.symm)
      have hB2 := Nat.le_trans hB1 hg2.size
      have hE2 : BSl w2 D eA eL eC EL := hE1.keep (hg2.below ho1 ((Below.refl w1.heap.size w1).mono hB1) hB1 |>.mono hD)
      have hg12 := hg1.trans hg2
      have ho2D : OwnB w2.drew B v2 (L ++ [1, ek, ec]) := ho2
      have hbx2D : Blk w2.drew w.heap.size 64 _ := hbx2
      have n2 := hbx2.cell 3
      have n3 := hbx2.cell 4
      have P1 := Lib.hid (Put32_any v2 (L ++ [1, ek, ec]) en B w2.drew ho2D hB2 (by rw [HL2.out]; omega) q5 (by omega))
      have hl3 : ((L ++ [1, ek, ec]) ++ beL en 4).length = L.length + 7 := by simp [beL_len]
      have HL3 := Lib.hid hl3
      clear hl2 hl3 hown2 c0 c1 c2 c3 c4 hx1 hx2
      go_region_held3 (fun w' => w'.cell? ⟨w.heap.size, 3, none⟩ = some (.int .i64 en) ∧ w'.cell? ⟨w.heap.size, 4, none⟩ = some (.slice eA eL eC)) (go_keep)
        (first | (go_at_call 42; refine P1.out.mono ?_; rintro e w3 ⟨v3, rfl, ho3, hg3⟩; have hbx3 := hbx2D.grown hg3.grown (fun e => own_blk_ne ho2D hbx2D (by decide) e.symm); have p3 := hbx3.cell 3; have p4 := hbx3.cell 4; have hB3 := Nat.le_trans hB2 hg3.size) | (go_at_call 41; refine (Put16_any v3 ((L ++ [1, ek, ec]) ++ beL en 4) eL B w3 ho3 hB3 (by rw [HL3.out]; omega) (by omega) (by omega)).mono ?_; rintro e w4 ⟨v4, rfl, ho4, hg4⟩; have hbx4 := hbx3.grown hg4.grown (fun e => own_blk_ne ho3 hbx3 (by decide) e.symm); have p5 := hbx4.cell 3; have p6 := hbx4.cell 4))
      have hg14 := (hg12.trans (Grew.after (a := w2) ((Below.refl _ _).drew) hg3)).trans hg4
      have hE4 : BSl w4 D eA eL eC EL := hE2.keep ((hg4.below ho3 (hg3.below ho2D ((Below.refl B w2).drew) hB2) hB3).mono hD)
      have hl4 : (((L ++ [1, ek, ec]) ++ beL en 4) ++ beL (eL : Int) 2).length = L.length + 9 := by simp [beL_len]
      have hy1 : (((L ++ [1, ek, ec]) ++ beL en 4) ++ beL (eL : Int) 2).length + eL ≤ maxLen := by unfold maxLen; rw [hl4]; omega
      have hy2 : ((((L ++ [1, ek, ec]) ++ beL en 4) ++ beL (eL : Int) 2).length + eL) * 1 ≤ 140737488355328 := by rw [hl4]; omega
      have hB4 := Nat.le_trans hB3 hg4.size
      have HLE := Lib.hid hlE
      have HNE := Lib.hid (show (nums .u8 EL).length = eL by rw [nums_length]; exact hlE)
      clear hl4 hlE hlO
      go_wp2_with (at_builtin; refine wpList_appS rfl _ _ _ rfl B 5 _ 1 1 ei_byte _ (((L ++ [1, ek, ec]) ++ beL en 4) ++ beL (eL : Int) 2).length _ (by rfl) ho4 eA eL eC (nums .u8 EL) rfl hE4.els HNE.out (nums_one _ _) (nums_cells_one _ _) hy1 hy2 hB4 ?_; intro v5 w5 hown5 hg5)
      go_ret
      exact ⟨v5, rfl, by have := own_appS hown5 rfl HLE.out; rw [← HT.out] at this; exact this, hg14.trans hg5⟩
    · have hw1 : IntKind.u8.wrap ok = ok := IntWalk.u8_in _ ⟨q1, q2⟩
      have hw2 : IntKind.u8.wrap oc = oc := IntWalk.u8_in _ ⟨q3, q4⟩
      have hw3 : IntKind.u32.wrap on = on := IntWalk.u32_in _ ⟨q5, q6⟩
      have hw4 : IntKind.u16.wrap (oL : Int) = oL := IntWalk.u16_in _ (by omega)
      have HRL := Lib.hid (show recL 2 ek ec en EL ok oc on oa OL = [2, ok, oc] ++ beL on 4 ++ beL oa 4 ++ beL oL 2 ++ OL by rw [← hlO]; rfl)
      obtain ⟨T, hT⟩ : ∃ T, T = L ++ recL 2 ek ec en EL ok oc on oa OL := ⟨_, rfl⟩
      have HT := Lib.hid (show T = ((((L ++ [2, ok, oc]) ++ beL on 4) ++ beL oa 4) ++ beL oL 2) ++ OL by rw [hT, HRL.out]; simp)
      rw [← hT]
      clear hT HRL
      go_enter Try.func34, Try.ntmps34
      go_wp2_with fail
      refine (HR.out _).mono ?_
      rintro e w1 ⟨rfl, hb1⟩
      have hbx : Blk w1 w.heap.size 64 _ := Blk.keep (Blk.new w 64 _) hb1
      have hbw := below_new hb1
      have ho1 : OwnB w1 B v L := own_below hown hbw
      have hB1 : B ≤ w1.heap.size := Nat.le_trans hB hbw.size
      have hO1 : BSl w1 D oA oL oC OL := hO.keep (hbw.mono (by omega))
      have hg1 : Grew w w1 v v := Grew.then (Grew.refl w v) hbw
      have c0 := hbx.cell 0
      have c1 := hbx.cell 5
      have c2 := hbx.cell 6
      clear hE hO hown
      have hx1 : L.length + 3 ≤ maxLen := by unfold maxLen; omega
      have hx2 : (L.length + 3) * 1 ≤ 140737488355328 := by omega
      go_wp2_with (at_builtin; refine wpList_appG rfl _ _ _ rfl B 5 _ 1 1 ei_byte _ L.length _ (by rfl) ho1 3 #[.int .u8 2, .int .u8 ok, .int .u8 oc] rfl (by simp) rfl (bytes_one [2, ok, oc]) hx1 hx2 hB1 ?_; intro v2 w2 hown2 hg2)
      have ho2 : OwnB w2 B v2 (L ++ [2, ok, oc]) := own_len (M := [2, ok, oc]) hown2 rfl
      have hl2 : (L ++ [2, ok, oc]).length = L.length + 3 := by simp
      have HL2 := Lib.hid hl2
      have hbx2 : Blk w2 w.heap.size 64 _ := hbx.grown hg2.grown (fun e => own_blk_ne ho1 hbx (by decide) e.symm)
      have hB2 := Nat.le_trans hB1 hg2.size
      have hO2 : BSl w2 D oA oL oC OL := hO1.keep (hg2.below ho1 ((Below.refl w1.heap.size w1).mono hB1) hB1 |>.mono hD)
      have hg12 := hg1.trans hg2
      have ho2D : OwnB w2.drew B v2 (L ++ [2, ok, oc]) := ho2
      have hbx2D : Blk w2.drew w.heap.size 64 _ := hbx2
      have n2 := hbx2.cell 7
      have n3 := hbx2.cell 8
      have P1 := Lib.hid (Put32_any v2 (L ++ [2, ok, oc]) on B w2.drew ho2D hB2 (by rw [HL2.out]; omega) q5 (by omega))
      have hl3 : ((L ++ [2, ok, oc]) ++ beL on 4).length = L.length + 7 := by simp [beL_len]
      have hl4 : (((L ++ [2, ok, oc]) ++ beL on 4) ++ beL oa 4).length = L.length + 11 := by simp [beL_len]
      have HL3 := Lib.hid hl3
      have HL4 := Lib.hid hl4
      clear hl2 hl3 hl4 hown2 c0 c1 c2 hx1 hx2
      go_region_held3 (fun w' => w'.cell? ⟨w.heap.size, 7, none⟩ = some (.int .i64 on) ∧ w'.cell? ⟨w.heap.size, 8, none⟩ = some (.int .u32 oa)) (go_keep)
        (first | (go_at_call_of 42 v2; refine P1.out.mono ?_; rintro e w3 ⟨v3, rfl, ho3, hg3⟩; have hbx3 := hbx2D.grown hg3.grown (fun e => own_blk_ne ho2D hbx2D (by decide) e.symm); have p3 := hbx3.cell 7; have p4 := hbx3.cell 8; have hB3 := Nat.le_trans hB2 hg3.size) | (go_at_call_of 42 v3; refine (Put32_any v3 ((L ++ [2, ok, oc]) ++ beL on 4) oa B w3 ho3 hB3 (by rw [HL3.out]; omega) h3.1 (by omega)).mono ?_; rintro e w4 ⟨v4, rfl, ho4, hg4⟩; have hbx4 := hbx3.grown hg4.grown (fun e => own_blk_ne ho3 hbx3 (by decide) e.symm); have p5 := hbx4.cell 7; have p6 := hbx4.cell 8))
      have hg14 := (hg12.trans (Grew.after (a := w2) ((Below.refl _ _).drew) hg3)).trans hg4
      have hO4 : BSl w4 D oA oL oC OL := hO2.keep ((hg4.below ho3 (hg3.below ho2D ((Below.refl B w2).drew) hB2) hB3).mono hD)
      have hB4 := Nat.le_trans hB3 hg4.size
      have ho4D : OwnB w4.drew B v4 (((L ++ [2, ok, oc]) ++ beL on 4) ++ beL oa 4) := ho4
      have hbx4D : Blk w4.drew w.heap.size 64 _ := hbx4
      have p9 := hbx4.cell 9
      have hO4D : BSl w4.drew D oA oL oC OL := hO4.keep ((Below.refl D w4).drew)
      have P2 := Lib.hid (Put16_any v4 (((L ++ [2, ok, oc]) ++ beL on 4) ++ beL oa 4) oL B w4.drew ho4D hB4 (by rw [HL4.out]; omega) (by omega) (by omega))
      have hl5 : ((((L ++ [2, ok, oc]) ++ beL on 4) ++ beL oa 4) ++ beL (oL : Int) 2).length = L.length + 13 := by simp [beL_len]
      have hy1 : ((((L ++ [2, ok, oc]) ++ beL on 4) ++ beL oa 4) ++ beL (oL : Int) 2).length + oL ≤ maxLen := by unfold maxLen; rw [hl5]; omega
      have hy2 : (((((L ++ [2, ok, oc]) ++ beL on 4) ++ beL oa 4) ++ beL (oL : Int) 2).length + oL) * 1 ≤ 140737488355328 := by rw [hl5]; omega
      have HLE := Lib.hid hlO
      have HNE := Lib.hid (show (nums .u8 OL).length = oL by rw [nums_length]; exact hlO)
      clear hl5 hlE hlO
      go_wp2_with fail
      go_region_held3 (fun w' => w'.cell? ⟨w.heap.size, 9, none⟩ = some (.slice oA oL oC)) (go_keep)
        (first | (go_at_call 41; refine P2.out.mono ?_; rintro e w5 ⟨v5, rfl, ho5, hg5⟩; have hbx5 := hbx4D.grown hg5.grown (fun e => own_blk_ne ho4D hbx4D (by decide) e.symm); have p10 := hbx5.cell 9; have hB5 := Nat.le_trans hB4 hg5.size; have hO5 := hO4D.keep ((hg5.below ho4D (Below.refl B w4.drew) hB4).mono hD)) | (refine step_appS rfl _ _ _ rfl B 5 _ 1 1 ei_byte _ ((((L ++ [2, ok, oc]) ++ beL on 4) ++ beL oa 4) ++ beL (oL : Int) 2).length _ (by rfl) ho5 oA oL oC (nums .u8 OL) (by rfl) hO5.els HNE.out (nums_one _ _) (nums_cells_one _ _) hy1 hy2 hB5 ?_; intro v6 w6 hown6 hg6; have hbx6 := hbx5.grown hg6.grown (fun e => own_blk_ne ho5 hbx5 (by decide) e.symm); have p11 := hbx6.cell 9))
      go_wp2_with fail
      go_ret
      exact ⟨v6, rfl, by have := own_appS hown6 rfl HLE.out; rw [← HT.out] at this; exact this, (hg14.trans (Grew.after (a := w4) ((Below.refl _ _).drew) hg5)).trans hg6⟩
end Go.Proofs.Ytnbokpfkcfhgbaa
