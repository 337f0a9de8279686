/- A walk of the law TapeReads. -/
import Derived.Test.YtnbokpfkcfhgbaaTapeRead
import Derived.Test.YtnbokpfkcfhgbaaTapeLOne2
import Derived.Test.YtnbokpfkcfhgbaaTapeSame
import Derived.Test.YtnbokpfkcfhgbaaTapePutsW
namespace Go.Proofs.Ytnbokpfkcfhgbaa
open Go Go.RowKit
attribute [local go_sem ↓] Go.wp_at_zero Go.wp_at_succ

theorem Run.pref {L : List Int} {ts : List TR} {N : Nat} (h : Run L ts N) : ∀ (i : Nat) (t : TR), ts[i]? = some t → ∃ a k, Run L (ts.take i) a ∧ pOne (L.drop a) = some (t, k) := by
  induction h with
  | nil => intro i t hi; simp at hi
  | @snoc rs n t' k hr hp ih =>
    intro i t hi
    by_cases hlt : i < rs.length
    · rw [List.getElem?_append_left hlt] at hi
      obtain ⟨a, k', h1, h2⟩ := ih i t hi
      exact ⟨a, k', by rw [List.take_append_of_le_length (by omega)]; exact h1, h2⟩
    · have hl := (List.getElem?_eq_some_iff.1 hi).1
      simp at hl
      obtain rfl : i = rs.length := by omega
      simp at hi
      subst hi
      exact ⟨n, k, by simpa using hr, hp⟩
theorem Run.det {L : List Int} {ts : List TR} {a : Nat} (h : Run L ts a) : ∀ {b : Nat}, Run L ts b → a = b := by
  induction h with
  | nil =>
    intro b hb
    generalize he : ([] : List TR) = z at hb
    cases hb with
    | nil => rfl
    | snoc _ _ => simp at he
  | @snoc rs n t k hr hp ih =>
    intro b hb
    generalize he : rs ++ [t] = z at hb
    cases hb with
    | nil => simp at he
    | @snoc rs' n' t' k' hr' hp' =>
      obtain ⟨h1, h2⟩ := List.append_inj' he rfl
      subst h1
      have := ih hr'
      subst this
      rw [hp] at hp'
      simp only [Option.some.injEq, Prod.mk.injEq] at hp'
      rw [hp'.2]
theorem bsl_own {w : World} {B eL eC : Nat} {eA : Option Addr} {EL : List Int} (h : OwnB w B (.slice eA eL eC) EL) (hi : IsB EL) (hs : EL.length ≤ 1000000000000) : BSl w w.heap.size eA eL eC EL := by
  obtain ⟨A', c', e, h1, h2, h3⟩ := own_read h
  injection e with e1 e2 e3
  subst e1 e2 e3
  exact ⟨rfl, h1, h2, h3, .inr (own_inB h), hi, hs⟩

set_option maxRecDepth 100000 in
set_option maxHeartbeats 8000000 in
theorem TapeReads_walk (A : Option Addr) (n c : Nat) (L : List Int) (w : World) (hn : L.length = n) (hnc : n ≤ c) (hc : c ≤ maxLen) (hA : Elems w A 1 (nums .u8 L)) (hB : IsB L) :
    Calls Try.prog 11 #[.slice A n c] w (Pure w (.bool true)) := by
  by_cases hbig : 2000 < n
  · clear hn hnc hc hA hB
    go_enter Try.func11, Try.ntmps11
    go_wp2_with fail
    go_ret
    exact ⟨rfl, Below.refl _ _⟩
  have hs := BSl.arg hn hnc hc (by omega) hA hB
  have HN := Lib.hid hn
  clear hn hc hA hB
  go_enter Try.func11, Try.ntmps11
  go_wp2_with fail
  refine (tRead_any w.heap.size A n c L w hs (Nat.le_refl _)).mono ?_
  rintro e w1 ⟨rs, vo, N, rfl, hrun, hend, hown, hro, hb1⟩
  have hNl := hrun.le.1
  have hrl : rs.length ≤ 2000 := by
    have := hrun.le.2
    rw [List.length_map] at this
    rw [HN.out] at hNl
    omega
  obtain ⟨Ar, cr, e2, hcr, hmr, hEr⟩ := own_elems hown (fun l hl => by obtain ⟨r, _, rfl⟩ := List.mem_map.1 hl; rfl) (by simp)
  subst e2
  have HRUN := Lib.hid hrun
  have HEND := Lib.hid hend
  have HNl := Lib.hid hNl
  clear hrun hend hNl
  go_wp2_with fail
  go_loopw [5, 6] (fun av iv wr => ∃ i a : Nat, iv = .int .i64 i ∧ av = .int .i64 a ∧ i ≤ rs.length ∧ Run L ((rs.map RD.tr).take i) a ∧ Below w1.heap.size w1 wr) (fun _ iv _ => rs.length - (intOf iv).toNat)
  case atStart => exact ⟨0, 0, rfl, rfl, by omega, by simpa using Run.nil L, Below.refl _ _⟩
  case round =>
    obtain ⟨i, a, rfl, rfl, hi, hra, hbr⟩ := hrel
    have hal := hra.le.1
    rw [HN.out] at hal
    have hbw := below_on hb1 hbr
    have hsr : BSl wr w.heap.size A n c L := hs.keep hbw
    by_cases hil : i < rs.length
    · have hx : rs[i]? = some rs[i] := List.getElem?_eq_getElem hil
      generalize rs[i] = r at hx
      obtain ⟨a', k, hra', hp⟩ := HRUN.out.pref i r.tr (by rw [List.getElem?_map, hx]; rfl)
      obtain rfl := hra.det hra'
      have hpos := pOne_pos hp
      rw [List.length_drop, HN.out] at hpos
      have hror := hro r (List.mem_of_getElem? hx)
      have hrow := hEr i r.cells (by rw [List.getElem?_map, hx]; rfl)
      go_wp2_with fail
      have hcut := hsr.cut (k := a) hal
      rw [if_neg (by omega)] at hcut
      refine (lone_any w.heap.size _ _ _ _ wr hcut hbw.size).mono ?_
      rintro e w2 ⟨r', s, rfl, hlo, he', ho', hb2⟩
      have hsk : r'.tr = r.tr ∧ s = k := by
        unfold LOne at hlo
        rw [hp] at hlo
        exact hlo
      obtain ⟨htr, rfl⟩ := hsk
      have hror2 : RO w2 w.heap.size r := ro_below (ro_below hror hbr) hb2
      obtain ⟨br, orr, eAr, hrw⟩ := hrow
      have hrow2 := (hrw.keep hbr).keep hb2
      clear hrw
      obtain ⟨⟨rk, rek, rec', ren, reA, reL, reC, rok, roc, ron, roa, roA, roL, roC⟩, rEL, rOL⟩ := r
      obtain ⟨⟨qk, qek, qec, qen, qeA, qeL, qeC, qok, qoc, qon, qoa, qoA, qoL, qoC⟩, qEL, qOL⟩ := r'
      simp only at he' ho' hror2
      simp only [RD.tr, TR.mk.injEq] at htr
      obtain ⟨t0, t1, t2, t3, t4, t5, t6, t7, t8, t9⟩ := htr
      subst t0 t1 t2 t3 t4 t5 t6 t7 t8 t9
      have hl1 : qEL.length ≤ 1000000000000 := by have := he'.len; have := he'.small; omega
      have hl2 : qOL.length ≤ 1000000000000 := by have := ho'.len; have := ho'.small; omega
      have hE1 := bsl_own hror2.1 he'.isb hl1
      have hO1 := bsl_own hror2.2 ho'.isb hl2
      clear hl1 hl2
      have hbw2 := below_on hbw hb2
      have hE2 := he'.mono hbw2.size
      have hO2 := ho'.mono hbw2.size
      have HSM := Lib.hid fun W (hW : Below w2.heap.size w2 W) => show Calls Try.prog 61 #[Rc.val ⟨qk, qek, qec, qen, reA, reL, reC, qok, qoc, qon, qoa, roA, roL, roC⟩, Rc.val ⟨qk, qek, qec, qen, qeA, qeL, qeC, qok, qoc, qon, qoa, qoA, qoL, qoC⟩] W (Pure W (.bool true)) by
        have := same_any qk qek qec qen qok qoc qon qoa qk qek qec qen qok qoc qon qoa reA roA qeA qoA reC roC qeC qoC reL roL qeL qoL qEL qOL qEL qOL W w2.heap.size (hE1.keep hW) (hO1.keep hW) (hE2.keep hW) (hO2.keep hW) hW.size
        rw [sameB_refl] at this
        exact this
      have hsz : ((s : Int) == 0) = false := by simp; omega
      have hra2 : Run L ((rs.map RD.tr).take (i + 1)) (a + s) := by
        have e : (rs.map RD.tr).take (i + 1) = (rs.map RD.tr).take i ++ [⟨qk, qek, qec, qen, qEL, qok, qoc, qon, qoa, qOL⟩] := by
          rw [List.take_add_one, List.getElem?_map, hx]
          rfl
        rw [e]
        exact hra'.snoc hp
      have hxc : Holds (w2.alloc (.cells #[.int .i64 qk, .int .i64 qek, .int .i64 qec, .int .i64 qen, .slice qeA qeL qeC, .int .i64 qok, .int .i64 qoc, .int .i64 qon, .int .u32 qoa, .slice qoA qoL qoC] 64)) (elemL br (orr + i * 10) [.int .i64 qk, .int .i64 qek, .int .i64 qec, .int .i64 qen, .slice reA reL reC, .int .i64 qok, .int .i64 qoc, .int .i64 qon, .int .u32 qoa, .slice roA roL roC] ++ elemL w2.heap.size 0 [.int .i64 qk, .int .i64 qek, .int .i64 qec, .int .i64 qen, .slice qeA qeL qeC, .int .i64 qok, .int .i64 qoc, .int .i64 qon, .int .u32 qoa, .slice qoA qoL qoC]) :=
        Holds.append (hrow2.keep ((Below.refl _ _).alloc (Nat.le_refl _) _)) (elemL_new w2 _ _)
      have HRA2 := Lib.hid hra2
      have HP := Lib.hid hpos
      have hbr2 := below_on hbr hb2
      subst eAr
      have has : a + s ≤ n := by omega
      clear hra hra' hra2 hp hror2 hror hrow2 hE1 hO1 hE2 hO2 he' ho' hcut hlo hx hro hEr hown hsr
      simp only [Rc.val] at HSM ⊢
      go_wp2_with fail
      refine wp_region_calm _ hxc (by kernel_rfl) (by kernel_rfl) (fun hS => ?_)
      simp only [elemL, List.cons_append, List.nil_append, Holds.cons, Holds.nil, and_true, Nat.add_zero] at hS
      repeat (go_big_quiet_step ((first | (go_at_call 61; exact calm_of (HSM.out _ (below_new (below_ext _ _)))))))
      refine wpQuiet_nil ?_
      clear hS
      intro w3 hb3 hS3
      simp only [elemL, List.cons_append, List.nil_append, Holds.cons, Holds.nil, and_true, Nat.add_zero] at hS3
      have hb3' := below_new hb3
      clear hxc HSM hS3
      go_wp2_with fail
      go_roundw
      case rel => exact ⟨i + 1, a + s, by go_num, by go_num, by omega, HRA2.out, below_on hbr2 hb3'⟩
      case measure => simp [intOf]; omega
    · obtain rfl : i = rs.length := by omega
      have hra' : Run L (rs.map RD.tr) a := by
        have := hra
        rwa [List.take_of_length_le (by simp)] at this
      obtain rfl := hra'.det HRUN.out
      have hcut := hsr.cut (k := a) hal
      clear hra hra' hro hEr hown
      by_cases hca : c = a
      · subst hca
        rw [if_pos rfl, Nat.sub_self, show n - c = 0 by omega] at hcut
        have HLO := Lib.hid (lone_any w.heap.size _ _ _ _ wr hcut hbw.size)
        clear hcut
        go_wp2_with fail
        refine HLO.out.mono ?_
        rintro e w2 ⟨r', s, rfl, hlo, he', ho', hb2⟩
        have hs0 : s = 0 := by
          unfold LOne at hlo
          rw [HEND.out] at hlo
          exact hlo
        subst hs0
        simp only [Rc.val]
        have hbw2 := below_on hbw hb2
        clear hlo he' ho'
        go_wp2_with fail
        refine (tapeAlive_walk _).mono ?_
        rintro e w3 ⟨rfl, hb3⟩
        go_wp2_with fail
        go_ret
        exact ⟨rfl, below_on hbw2 (below_new hb3)⟩
      · rw [if_neg hca] at hcut
        have HLO := Lib.hid (lone_any w.heap.size _ _ _ _ wr hcut hbw.size)
        clear hcut
        go_wp2_with fail
        refine HLO.out.mono ?_
        rintro e w2 ⟨r', s, rfl, hlo, he', ho', hb2⟩
        have hs0 : s = 0 := by
          unfold LOne at hlo
          rw [HEND.out] at hlo
          exact hlo
        subst hs0
        simp only [Rc.val]
        have hbw2 := below_on hbw hb2
        clear hlo he' ho'
        go_wp2_with fail
        refine (tapeAlive_walk _).mono ?_
        rintro e w3 ⟨rfl, hb3⟩
        go_wp2_with fail
        go_ret
        exact ⟨rfl, below_on hbw2 (below_new hb3)⟩
end Go.Proofs.Ytnbokpfkcfhgbaa
