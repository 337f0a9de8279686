/- A walk of the law TapePuts. -/
import Derived.Test.YtnbokpfkcfhgbaaTapePuts
namespace Go.Proofs.Ytnbokpfkcfhgbaa
open Go Go.RowKit
attribute [local go_sem ↓] Go.wp_at_zero Go.wp_at_succ

set_option maxRecDepth 100000 in
set_option maxHeartbeats 4000000 in
theorem tapeAlive_walk (w : World) : Calls Try.prog 37 #[] w (Pure w (.bool true)) := by
  have P1 := Lib.hid (tPut_any (.slice none 0 0) [] w.heap.size 0 1 1 3 0 none 0 0 0 0 0 0 none 0 0 [] [] w (World.ownsRow_nil _ _ _ _) (Nat.le_refl _) (by simp) (BSl.nil _ _) (BSl.nil _ _) (by omega) ⟨by omega, by omega⟩ ⟨by omega, by omega⟩ ⟨by omega, by omega⟩)
  have e : Hid ([] ++ (if Rc.right ⟨1, 1, 3, 0, none, 0, 0, 0, 0, 0, 0, none, 0, 0⟩ = true then recL 1 1 3 0 [] 0 0 0 0 [] else []) = [1, 1, 3, 0, 0, 0, 0, 0, 0]) := by
    show (_ : List Int) = _
    decide
  rw [e.out] at P1
  go_enter Try.func37, Try.ntmps37
  go_wp2_with fail
  refine P1.out.mono ?_
  rintro e w1 ⟨v', rfl, hown, hg⟩
  obtain ⟨A, cc, e2, hE⟩ := own_read' (B := w.heap.size) hown
  subst e2
  have hb := Grew.nil hg
  clear hown hg P1
  go_wp2_with fail
  have hB := elems_new w1 (size := 1) (Ls := nums .u8 [1, 1, 3, 0, 0, 0, 0, 0, 0]) (nums_one _ _) #[.int .u8 1, .int .u8 1, .int .u8 3, .int .u8 0, .int .u8 0, .int .u8 0, .int .u8 0, .int .u8 0, .int .u8 0] 5 (by simp [nums])
  refine (eqByte_any _ _ _ _ _ _ [1, 1, 3, 0, 0, 0, 0, 0, 0] [1, 1, 3, 0, 0, 0, 0, 0, 0] _ rfl rfl (by simp [maxLen]) (hE.keep ((Below.refl _ _).alloc (Nat.le_refl _) _)) hB).mono ?_
  rintro e w2 ⟨rfl, hb2⟩
  go_wp2_with fail
  go_ret
  exact ⟨rfl, below_on hb (below_new hb2)⟩

theorem ne_sym {a b : Option Nat} (h : a = none ∨ a ≠ b) : b = none ∨ b ≠ a := by
  cases b with
  | none => exact .inl rfl
  | some g =>
    refine .inr fun e => ?_
    rcases h with h | h
    · rw [h] at e; cases e
    · exact h e.symm
theorem recL_len (k ek ec en : Int) (EL : List Int) (ok oc on oa : Int) (OL : List Int) (h1 : EL.length ≤ 66000) (h2 : OL.length ≤ 66000) : (recL k ek ec en EL ok oc on oa OL).length ≤ 66013 := by
  unfold recL
  split
  · simp [beL_len]; omega
  · simp [beL_len]; omega
theorem out_len (r : RD) (h1 : r.EL.length ≤ 66000) (h2 : r.OL.length ≤ 66000) : r.out.length ≤ 66013 := by
  unfold RD.out
  split
  · exact recL_len _ _ _ _ _ _ _ _ _ _ h1 h2
  · simp
theorem outL_len (l : List RD) (h : ∀ r ∈ l, r.EL.length ≤ 66000 ∧ r.OL.length ≤ 66000) : ∀ k, (outL l k).length ≤ 66013 * k
  | 0 => by simp [outL]
  | k + 1 => by
    have := outL_len l h k
    rcases hk : l[k]? with _ | r
    · have : outL l (k + 1) = outL l k := by
        unfold outL
        rw [List.take_add_one, hk]
        simp
      rw [this]; omega
    · rw [outL_succ hk, List.length_append]
      have := h r (List.mem_of_getElem? hk)
      have := out_len r this.1 this.2
      omega

set_option maxRecDepth 100000 in
set_option maxHeartbeats 8000000 in
theorem TapePuts_walk (A : Option Addr) (n c : Nat) (l : List RD) (w : World) (hn : l.length = n) (hl : Elems w A 10 (l.map RD.cells)) (hok : ∀ r ∈ l, r.Ok w w.heap.size) :
    Calls Try.prog 6 #[.slice A n c] w (Pure w (.bool true)) := by
  have HG := Lib.hid (great_any A n c l w hn hl)
  cases hg : great l with
  | true =>
    rw [hg] at HG
    clear hn hl hok
    go_enter Try.func6, Try.ntmps6
    go_wp2_with fail
    refine HG.out.mono ?_
    rintro e w1 ⟨rfl, rfl⟩
    go_wp2_with fail
    go_ret
    exact ⟨rfl, Below.refl _ _⟩
  | false =>
    rw [hg] at HG
    have hsz : n ≤ 20 ∧ ∀ r ∈ l, r.eL ≤ 66000 ∧ r.oL ≤ 66000 := by
      simp only [great, Bool.or_eq_false_iff, decide_eq_false_iff_not, List.any_eq_false, Bool.or_eq_true, decide_eq_true_eq] at hg
      refine ⟨by omega, fun r hr => ?_⟩
      have := hg.2 r hr
      omega
    obtain ⟨hn20, hsm⟩ := hsz
    have HN := Lib.hid hn
    have hlen := outL_len l fun r hr => by
      have := hok r hr
      have h2 := hsm r hr
      rw [this.e.len, this.o.len]
      exact h2
    clear hn hg
    go_enter Try.func6, Try.ntmps6
    go_wp2_with fail
    refine HG.out.mono ?_
    rintro e w1 ⟨rfl, rfl⟩
    go_wp2_with fail
    go_loopw [3, 4, 5] (fun vb vw iv wr => ∃ i : Nat, iv = .int .i64 i ∧ i ≤ n ∧ OwnB wr w.heap.size vb (outL l i) ∧ OwnB wr w.heap.size vw (outL l i) ∧ (vw.ownBlock = none ∨ vw.ownBlock ≠ vb.ownBlock) ∧ Below w.heap.size w wr) (fun _ _ iv _ => n - (intOf iv).toNat)
    case atStart => exact ⟨0, rfl, by omega, World.ownsRow_nil _ _ _ _, World.ownsRow_nil _ _ _ _, .inl rfl, Below.refl _ _⟩
    case round =>
      clear HG
      obtain ⟨i, rfl, hi, hob, how, hne, hb⟩ := hrel
      by_cases him : i < n
      · have hx : l[i]? = some (l[i]'(by rw [HN.out]; exact him)) := List.getElem?_eq_getElem _
        generalize l[i]'(by rw [HN.out]; exact him) = r at hx
        have hrok := hok r (List.mem_of_getElem? hx)
        have hrs := hsm r (List.mem_of_getElem? hx)
        have hsucc := outL_succ hx
        obtain ⟨b, o, eA, hh⟩ := hl i r.cells (by rw [List.getElem?_map, hx]; rfl)
        subst eA
        clear hx
        obtain ⟨⟨k, ek, ec, en, eA, eL, eC, ok, oc, on, oa, oA, oL, oC⟩, EL, OL⟩ := r
        obtain ⟨hE, hO, h1, h2, h3⟩ := hrok
        simp only at hE hO h1 h2 h3 hrs
        simp only [RD.cells] at hh
        have hhr : Holds wr (elemL b (o + i * 10) [.int .i64 k, .int .i64 ek, .int .i64 ec, .int .i64 en, .slice eA eL eC, .int .i64 ok, .int .i64 oc, .int .i64 on, .int .u32 oa, .slice oA oL oC]) := hh.keep hb
        have hbsz := hb.size
        have hLi := hlen i
        have hLen : (outL l i).length ≤ 2000000 := by omega
        have hEb : ∀ W, Below w.heap.size wr W → BSl W w.heap.size eA eL eC EL := fun W hW => ((hE.keep hb).keep hW).small (by omega)
        have hOb : ∀ W, Below w.heap.size wr W → BSl W w.heap.size oA oL oC OL := fun W hW => ((hO.keep hb).keep hW).small (by omega)
        have R1 := Lib.hid fun W => Right_any k ek ec en eA eL eC ok oc on oa oA oL oC W h1 h2
        have R2 := Lib.hid fun W => lright_any k ek ec en eA eL eC ok oc on oa oA oL oC W
        go_wp2_with fail
        refine wp_region_calm _ hhr (by kernel_rfl) (by kernel_rfl) (fun hS => ?_)
        simp only [elemL, List.cons_append, List.nil_append, Holds.cons, Holds.nil, and_true, Nat.add_zero] at hS
        repeat (go_big_quiet_step ((first | (go_at_call 32; exact calm_of (R1.out _)) | (go_at_call 33; exact calm_of (R2.out _)))))
        refine wpQuiet_nil ?_
        clear hS
        intro w1 hb1 hS1
        simp only [elemL, List.cons_append, List.nil_append, Holds.cons, Holds.nil, and_true, Nat.add_zero] at hS1
        go_wp2_with fail
        have hob1 : OwnB w1 w.heap.size u3 (outL l i) := own_below hob hb1
        have how1 : OwnB w1 w.heap.size u4 (outL l i) := own_below how hb1
        have hB1 : w.heap.size ≤ w1.heap.size := Nat.le_trans hbsz hb1.size
        have hbw1 : Below w.heap.size wr w1 := hb1.mono hbsz
        have P1 := tPut_any u3 (outL l i) w.heap.size w.heap.size k ek ec en eA eL eC ok oc on oa oA oL oC EL OL w1 hob1 hB1 (by omega) (hEb w1 hbw1) (hOb w1 hbw1) (Nat.le_refl _) h1 h2 h3
        refine P1.mono ?_
        rintro e w2 ⟨v2, rfl, ho2, hg2⟩
        have hob2 : OwnB w2 w.heap.size v2 (outL l (i + 1)) := by rw [hsucc]; exact ho2
        obtain ⟨how2, hne2⟩ := hg2.other how1 hne
        have hbw2 : Below w.heap.size wr w2 := hg2.below hob1 hbw1 hB1
        have hS2 := hh.keep (hb.trans hbw2)
        simp only [elemL, Holds.cons, Holds.nil, and_true] at hS2
        have hB2 : w.heap.size ≤ w2.heap.size := Nat.le_trans hB1 hg2.size
        have P2 := Lib.hid (lput_any w.heap.size k ek ec en eA eL eC ok oc on oa oA oL oC EL OL w2 (hEb w2 hbw2) (hOb w2 hbw2) hB2 h3)
        clear hS1 P1 ho2 R1 R2
        go_wp2_with fail
        refine P2.out.mono ?_
        rintro e w3 ⟨v3, rfl, ho3, hb3⟩
        have hso : (RD.out ⟨⟨k, ek, ec, en, eA, eL, eC, ok, oc, on, oa, oA, oL, oC⟩, EL, OL⟩).length ≤ 66013 := out_len _ (by rw [hE.len]; omega) (by rw [hO.len]; omega)
        have ho3' : OwnB w3 w2.heap.size v3 (RD.out ⟨⟨k, ek, ec, en, eA, eL, eC, ok, oc, on, oa, oA, oL, oC⟩, EL, OL⟩) := ho3
        generalize RD.out ⟨⟨k, ek, ec, en, eA, eL, eC, ok, oc, on, oa, oA, oL, oC⟩, EL, OL⟩ = T at *
        obtain ⟨A3, c3, e3, hE3⟩ := own_read' ho3'
        subst e3
        have hob3 : OwnB w3 w.heap.size v2 (outL l (i + 1)) := own_below hob2 hb3
        have how3 : OwnB w3 w.heap.size u4 (outL l i) := own_below how2 hb3
        have hB3 := Nat.le_trans hB2 hb3.size
        have hy1 : (outL l i).length + T.length ≤ maxLen := by unfold maxLen; omega
        have hy2 : ((outL l i).length + T.length) * 1 ≤ 140737488355328 := by omega
        have hbw3 : Below w.heap.size wr w3 := hbw2.trans (hb3.mono hB2)
        have HNT := Lib.hid (nums_length .u8 T)
        clear ho3 ho3' P2 hS2
        go_wp2_with (at_builtin; refine wpList_appS rfl _ _ _ rfl w.heap.size 5 _ 1 1 ei_byte _ (outL l i).length _ (by rfl) how3 A3 T.length c3 (nums .u8 T) rfl hE3 HNT.out (nums_one _ _) (nums_cells_one _ _) hy1 hy2 hB3 ?_; intro v4 w4 hown4 hg4)
        have how4 : OwnB w4 w.heap.size v4 (outL l (i + 1)) := by rw [hsucc]; exact own_appS hown4 rfl rfl
        obtain ⟨hob4, hne4⟩ := hg4.other hob3 (ne_sym hne2)
        have hbw4 : Below w.heap.size wr w4 := hg4.below how3 hbw3 hB3
        go_roundw
        case rel => exact ⟨i + 1, by go_num, by omega, hob4, how4, ne_sym hne4, hb.trans hbw4⟩
        case measure => simp [intOf]; omega
      · obtain rfl : i = n := by omega
        have hLi := hlen i
        obtain ⟨A3, c3, e3, hE3⟩ := own_read' hob
        obtain ⟨A4, c4, e4, hE4⟩ := own_read' how
        subst e3 e4
        have P := Lib.hid (eqByte_any A3 A4 _ _ c3 c4 (outL l i) (outL l i) wr rfl rfl (by unfold maxLen; omega) hE3 hE4)
        clear hob how hne
        go_wp2_with fail
        refine P.out.mono ?_
        rintro e w2 ⟨rfl, hb2⟩
        have he : (outL l i == outL l i) = true := by simp
        rw [he]
        go_wp2_with fail
        refine (tapeAlive_walk _).mono ?_
        rintro e w4 ⟨rfl, hb4⟩
        go_wp2_with fail
        go_ret
        exact ⟨rfl, below_on (below_on hb hb2) hb4⟩
end Go.Proofs.Ytnbokpfkcfhgbaa
