/- A walk of the law AclThrough. -/
import Derived.Test.YtnbokpfkcfhgbaaThrough
import Derived.Test.YtnbokpfkcfhgbaaTapePutsW
namespace Go.Proofs.Ytnbokpfkcfhgbaa
open Go Go.RowKit
attribute [local go_sem ↓] Go.wp_at_zero Go.wp_at_succ

set_option maxRecDepth 100000 in
set_option maxHeartbeats 16000000 in
theorem AclThrough_walk (A : Option Addr) (n cap : Nat) (rs : List Rule) (Ab : Option Addr) (nb cb : Nat) (bs : List SB) (w : World) (hn : rs.length = n) (hm : n ≤ maxLen) (hr : Elems w A 6 (rs.map Rule.cells)) (hok : ∀ r ∈ rs, r.ok)
    (hbn : bs.length = nb) (hbs : Elems w Ab 1 (bs.map SB.cells)) (hbok : ∀ x ∈ bs, ASl w w.heap.size x.A x.n x.c x.L) :
    Calls Try.prog 13 #[.slice A n cap, .slice Ab nb cb] w (Pure w (.bool true)) := by
  by_cases h50 : 50 < n
  · have d : decide ((50 : Int) < (n : Int)) = true := by simp; omega
    clear hn hm hr hok hbn hbs hbok
    go_enter Try.func13, Try.ntmps13
    go_wp2_with fail
    go_ret
    exact ⟨rfl, Below.refl _ _⟩
  have d50 : decide ((50 : Int) < (n : Int)) = false := by simp; omega
  by_cases h20 : 20 < nb
  · have d : decide ((20 : Int) < (nb : Int)) = true := by simp; omega
    clear hn hm hr hok hbn hbs hbok
    go_enter Try.func13, Try.ntmps13
    go_wp2_with fail
    go_ret
    exact ⟨rfl, Below.refl _ _⟩
  have d20 : decide ((20 : Int) < (nb : Int)) = false := by simp; omega
  have HBN := Lib.hid hbn
  have HN := Lib.hid hn
  have HFIND := Lib.hid fun (W : World) (hW : Below w.heap.size w W) pp src dst v0 v1 v3 v4 v7 v8 h5 h6 h7 h8 => find_walk A n cap rs pp src dst v0 v1 v3 v4 v7 v8 W hn hm (hr.keep hW) hok h5 h6 h7 h8
  have HTH := Lib.hid fun (W : World) (hW : Below w.heap.size w W) (hsm : ∀ x ∈ bs, x.n ≤ 300) => Through_walk A n cap rs Ab nb cb bs W hn hm (hr.keep hW) hok hbn (by omega) (hbs.keep hW) (fun x hx => ⟨((hbok x hx).keep hW).small (by have := hsm x hx; omega) |>.mono hW.size, hsm x hx⟩)
  clear hn hok hbn
  go_enter Try.func13, Try.ntmps13
  go_wp2_with fail
  go_loopw [5, 6] (fun vw iv wr => ∃ i : Nat, iv = .int .i64 i ∧ i ≤ nb ∧ wr.ownsRow w.heap.size 27 1 vw (keptL rs bs i).length ((keptL rs bs i).map SB.cells).flatten ∧ Hid (∀ j, j < i → ∀ x : SB, bs[j]? = some x → x.n ≤ 300) ∧ Below w.heap.size w wr) (fun _ iv _ => nb - (intOf iv).toNat)
  case atStart => exact ⟨0, rfl, by omega, World.ownsRow_nil _ _ _ _, fun j hj => by omega, Below.refl _ _⟩
  case round =>
    obtain ⟨i, rfl, hi, hown, hS, hb⟩ := hrel
    by_cases him : i < nb
    · have hx : bs[i]? = some (bs[i]'(by rw [HBN.out]; exact him)) := List.getElem?_eq_getElem _
      generalize bs[i]'(by rw [HBN.out]; exact him) = x at hx
      obtain ⟨bb, oo, eAb, hhx⟩ := hbs i x.cells (by rw [List.getElem?_map, hx]; rfl)
      have hxok := hbok x (List.mem_of_getElem? hx)
      have hks := keptL_succ (rs := rs) hx
      have HS' : x.n ≤ 300 → Hid (∀ j, j < i + 1 → ∀ x : SB, bs[j]? = some x → x.n ≤ 300) := fun h j hj x' hx' => by
        by_cases e : j = i
        · subst e
          rw [hx] at hx'
          cases hx'
          exact h
        · exact hS.out j (by omega) x' hx'
      have hkl : (keptL rs bs i).length ≤ i := keptL_len
      obtain ⟨xA, xn, xc, xL⟩ := x
      simp only at hxok hks HS'
      have hhr := hhx.keep hb
      simp only [SB.cells, elemL, Holds.cons, Holds.nil, and_true, Nat.mul_one] at hhr
      subst eAb
      have HKS := Lib.hid hks
      clear hks hx hhx
      by_cases hbig : 300 < xn
      · have d : decide ((300 : Int) < (xn : Int)) = true := by simp; omega
        clear HFIND HTH HS'
        go_wp2_with fail
        go_ret
        exact ⟨rfl, hb⟩
      have d : decide ((300 : Int) < (xn : Int)) = false := by simp; omega
      have hS2 := HS' (by omega)
      have hxw := ((hxok.keep hb).small (by omega)).mono hb.size
      clear HS' hxok
      go_wp2_with fail
      refine (refIp4_any xA xn xc xL wr hxw).mono ?_
      rintro e w1 ⟨dd, code, rfl, hip, _, _, hb1⟩
      have hbd := ip_bounds hxw.isb hip
      have hgo := goB_of (rs := rs) hip
      obtain ⟨⟨tos, ttl, pro, idn, frg, srcn, dstn, OL, DL⟩, oA, oC, dA, dC⟩ := dd
      simp only at hbd hgo
      simp only [DGR.cells]
      have HGO := Lib.hid hgo
      have hbw1 := hb.trans (hb1.mono hb.size)
      clear hip hgo
      have hba := hb1.alloc hb1.size (.cells #[.int .u8 tos, .int .u8 ttl, .int .u8 pro, .int .u16 idn, .int .u16 frg, .int .u32 srcn, .int .u32 dstn, .slice oA OL.length oC, .slice dA DL.length dC] 29)
      have hbwa := hbw1.alloc hbw1.size (.cells #[.int .u8 tos, .int .u8 ttl, .int .u8 pro, .int .u16 idn, .int .u16 frg, .int .u32 srcn, .int .u32 dstn, .slice oA OL.length oC, .slice dA DL.length dC] 29)
      go_wp2_with fail
      refine (HFIND.out _ hbwa pro srcn dstn _ _ _ _ _ _ hbd.1 hbd.2.1 hbd.2.2.1 hbd.2.2.2).mono ?_
      rintro e w2 ⟨rfl, hb2⟩
      have hbr2 := below_on hba hb2
      have hbw2 := below_on hbwa hb2
      have hhr2 := keep_cell hhr hbr2
      have hown2 := own_below hown hbr2
      clear hba hbwa hb1 hb2 hbw1 hown
      by_cases hcode : code = 0
      · subst hcode
        rcases firstI_cases (fun r : Rule => r.hit pro srcn dstn) rs with hf | ⟨k, hk, hf, _⟩
        · have hgo' : goB rs xL = false := by rw [HGO.out, mayB_none hf]; rfl
          have HK2 := Lib.hid (show keptL rs bs (i + 1) = keptL rs bs i by rw [HKS.out, hgo']; simp)
          clear hgo'
          rw [hf]
          clear HFIND HTH
          go_wp2_with fail
          go_roundw
          case rel => exact ⟨i + 1, by go_num, by omega, by rw [HK2.out]; exact hown2, hS2, hbw2⟩
          case measure => simp [intOf]; omega
        · have hmay := mayB_at hk hf
          obtain ⟨br, orr, eA, hhk⟩ := hr k _ (by rw [List.getElem?_map, List.getElem?_eq_getElem hk]; rfl)
          generalize rs[k] = r at hmay hhk
          have hhk2 := hhk.keep hbw2
          simp only [Rule.cells, elemL, Holds.cons, Holds.nil, and_true] at hhk2
          obtain ⟨_, _, _, _, _, hr5⟩ := hhk2
          subst eA
          have hkn : k < n := by rw [← HN.out]; exact hk
          rw [hf]
          generalize hrm : r.may = may at *
          cases may with
          | true =>
            have hgo' : goB rs xL = true := by rw [HGO.out, hmay]; rfl
            have HK2 := Lib.hid (show keptL rs bs (i + 1) = keptL rs bs i ++ [⟨xA, xn, xc, xL⟩] by rw [HKS.out, hgo']; simp)
            have hx1 : (keptL rs bs i).length + 1 ≤ maxLen := by unfold maxLen; omega
            have hx2 : ((keptL rs bs i).length + 1) * 24 ≤ 140737488355328 := by omega
            clear hgo' HFIND HTH hhk
            go_wp2_with (at_builtin; refine wpList_appG rfl _ _ _ rfl w.heap.size 27 _ 1 24 ei_bb _ (keptL rs bs i).length _ (by rfl) hown2 1 #[.slice xA xn xc] rfl rfl rfl (sb_one _ _ _) hx1 hx2 hbw2.size ?_; intro v' wa hown' hga)
            go_roundw
            case rel => exact ⟨i + 1, by go_num, by omega, by rw [HK2.out]; simpa [SB.cells] using hown', hS2, hga.below hown2 hbw2 hbw2.size⟩
            case measure => simp [intOf]; omega
          | false =>
            have hgo' : goB rs xL = false := by rw [HGO.out, hmay]; rfl
            have HK2 := Lib.hid (show keptL rs bs (i + 1) = keptL rs bs i by rw [HKS.out, hgo']; simp)
            clear hgo' HFIND HTH hhk
            go_wp2_with fail
            go_roundw
            case rel => exact ⟨i + 1, by go_num, by omega, by rw [HK2.out]; exact hown2, hS2, hbw2⟩
            case measure => simp [intOf]; omega
      · have hc0 : (code == 0) = false := by simpa using hcode
        have hgo' : goB rs xL = false := by rw [HGO.out, hc0]; rfl
        have HK2 := Lib.hid (show keptL rs bs (i + 1) = keptL rs bs i by rw [HKS.out, hgo']; simp)
        clear hgo' HFIND HTH
        go_wp2_with fail
        go_roundw
        case rel => exact ⟨i + 1, by go_num, by omega, by rw [HK2.out]; exact hown2, hS2, hbw2⟩
        case measure => simp [intOf]; omega
    · obtain rfl : i = nb := by omega
      have hsm : ∀ x ∈ bs, x.n ≤ 300 := fun x hx => by
        obtain ⟨j, hj, rfl⟩ := List.mem_iff_getElem.1 hx
        exact hS.out j (by rw [← HBN.out]; exact hj) _ (List.getElem?_eq_getElem hj)
      have HT := Lib.hid (HTH.out wr hb hsm)
      have HSM := Lib.hid hsm
      clear HFIND HTH hsm hS
      go_wp2_with fail
      refine HT.out.mono ?_
      rintro e w2 ⟨gs, v, rfl, howng, hG, hgs, hb2⟩
      rw [HBN.out] at hG
      have hown2 := own_below hown hb2
      have hgl : gs.length = (keptL rs bs i).length := by have := congrArg List.length hG; simpa using this
      have hkl : (keptL rs bs i).length ≤ i := keptL_len
      obtain ⟨Ag, cg, e3, hcg, hmg, hEg⟩ := own_elems howng (fun l hl => by obtain ⟨r, _, rfl⟩ := List.mem_map.1 hl; rfl) (by simp)
      obtain ⟨Aw, cw, e4, hcw, hmw, hEw⟩ := own_elems hown2 (fun l hl => by obtain ⟨r, _, rfl⟩ := List.mem_map.1 hl; rfl) (by simp)
      subst e3 e4
      have HGM := Lib.hid hG
      have HGL := Lib.hid hgl
      have HKM := Lib.hid (show ∀ x ∈ keptL rs bs i, x ∈ bs from fun x hx => List.mem_of_mem_take (List.mem_filter.1 hx).1)
      rw [hgl] at hcg
      generalize hkk : (keptL rs bs i).length = m at *
      have hbw2 := below_on hb hb2
      clear HT hG hown hown2 howng
      rw [hgl]
      clear hgl
      go_wp2_with fail
      go_loopw [11] (fun iv wr => ∃ k : Nat, iv = .int .i64 k ∧ k ≤ m ∧ Below w2.heap.size w2 wr) (fun iv _ => m - (intOf iv).toNat)
      case atStart => exact ⟨0, rfl, by omega, Below.refl _ _⟩
      case round =>
        obtain ⟨k, rfl, hk, hbq⟩ := hrel
        by_cases hkm : k < m
        · have hx1 : gs[k]? = some (gs[k]'(by rw [HGL.out]; exact hkm)) := List.getElem?_eq_getElem _
          have hx2 : (keptL rs bs i)[k]? = some ((keptL rs bs i)[k]'(by rw [hkk]; exact hkm)) := List.getElem?_eq_getElem _
          generalize gs[k]'(by rw [HGL.out]; exact hkm) = g at hx1
          generalize (keptL rs bs i)[k]'(by rw [hkk]; exact hkm) = x at hx2
          obtain ⟨bg, og, eAg, hhg⟩ := hEg k g.cells (by rw [List.getElem?_map, hx1]; rfl)
          obtain ⟨bx, ox, eAw, hhw⟩ := hEw k x.cells (by rw [List.getElem?_map, hx2]; rfl)
          have hgk := hgs g (List.mem_of_getElem? hx1)
          have hxk := (hbok x (HKM.out x (List.mem_of_getElem? hx2))).keep hbw2
          have hgx : g.L = x.L := by
            have := congrArg (fun l => l[k]?) HGM.out
            simpa [List.getElem?_map, hx1, hx2] using this
          obtain ⟨gA, gn, gc, gL⟩ := g
          obtain ⟨xA, xn, xc, xL⟩ := x
          simp only at hgx hgk hxk
          subst hgx
          obtain ⟨hgn, hgo⟩ := hgk
          obtain ⟨A', c', e5, hc1, hc2, hE1⟩ := own_read hgo
          injection e5 with e6 e7 e8
          subst e6 e8
          have HEQ := Lib.hid fun (e : More) => show Calls Try.prog 36 #[.slice gA gn gc, .slice xA xn xc] (ext wr e) (Pure (ext wr e) (.bool true)) by
            have := eqByte_any gA xA gn xn gc xc gL gL (ext wr e) hgn hxk.len (by omega) ((hE1.keep hbq).keep (below_ext wr e)) ((hxk.els.keep hbq).keep (below_ext wr e))
            rw [beq_self_eq_true] at this
            exact this
          have hxc := Holds.append (hhg.keep hbq) (hhw.keep hbq)
          simp only [SB.cells, Nat.mul_one] at hxc
          subst eAg eAw
          clear hE1 hgo hhg hhw hx1 hx2 hgs hEg hEw hbok hbs hr e7 hgn
          go_wp2_with fail
          refine wp_region_calm _ hxc (by kernel_rfl) (by kernel_rfl) (fun hS => ?_)
          simp only [elemL, List.cons_append, List.nil_append, Holds.cons, Holds.nil, and_true, Nat.add_zero] at hS
          repeat (go_big_quiet_step ((first | (go_at_call 36; exact calm_of (HEQ.out _)))))
          refine wpQuiet_nil ?_
          clear hS
          intro w3 hb3 hS3
          simp only [elemL, List.cons_append, List.nil_append, Holds.cons, Holds.nil, and_true, Nat.add_zero] at hS3
          clear hxc HEQ hS3
          go_wp2_with fail
          go_roundw
          case rel => exact ⟨k + 1, by go_num, by omega, below_on hbq hb3⟩
          case measure => simp [intOf]; omega
        · obtain rfl : k = m := by omega
          clear hgs hEg hEw hbok hbs hr
          go_wp2_with fail
          refine (aclAlive_walk _).mono ?_
          rintro e w4 ⟨rfl, hb4⟩
          go_wp2_with fail
          go_ret
          exact ⟨rfl, below_on (below_on hbw2 hbq) hb4⟩
end Go.Proofs.Ytnbokpfkcfhgbaa
