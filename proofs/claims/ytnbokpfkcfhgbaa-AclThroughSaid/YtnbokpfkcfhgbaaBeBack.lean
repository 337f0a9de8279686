/- BeBack: of any numbers in any sizes the law returns true, and its arguments read as before. No condition. -/
import Derived.Test.YtnbokpfkcfhgbaaRows
import Derived.Test.YtnbokpfkcfhgbaaTypes
import Derived.Test.YtnbokpfkcfhgbaaReader
import Derived.Test.YtnbokpfkcfhgbaaBytes
import Derived.Test.YtnbokpfkcfhgbaaBeBackLaw
import Derived.ChangeOld
namespace Go.Proofs.Ytnbokpfkcfhgbaa
open Go Go.RowKit Go.ChangeShapes Go.WideShapes Go.ChangeAt Go.Deep
attribute [local go_sem ↓] Go.wp_at_zero Go.wp_at_succ

theorem own_inB {w : World} {B n m c : Nat} {e : TypeId} {size : Nat} {A : Option Addr} {xs : List Value} (h : w.ownsRow B e size (.slice A m c) n xs) : InB A w.heap.size := by
  intro a ha
  subst ha
  exact (h.lt a.block rfl).2
theorem below_of_only {a w : World} {g : Nat} (h : a.grownBy w (some g)) (hg : g ≤ a.heap.size) : Below g a w :=
  ⟨h.os, h.tape, h.output, h.size, fun k hk => h.block k (by omega) (by intro e; injection e with e; omega)⟩
theorem own_read {w : World} {B : Nat} {v : Value} {L : List Int} (h : OwnB w B v L) : ∃ A c, v = .slice A L.length c ∧ L.length ≤ c ∧ c ≤ maxLen ∧ Elems w A 1 (nums .u8 L) := by
  unfold OwnB at h
  rw [← nums_flat] at h
  exact own_elems h (nums_one _ _) (nums_length _ _)
theorem bcellB {B : Nat} {w w1 : World} (hb : Below B w w1) : ∀ b o, b < B → w1.cell? ⟨b, o, none⟩ = w.cell? ⟨b, o, none⟩ := fun b o h => hb.cell (p := ⟨b, o, none⟩) h

set_option maxHeartbeats 1000000 in
theorem beAlive_walk (w : World) : Calls Try.prog 30 #[] w (Pure w (.bool true)) := by
  go_enter Try.func30, Try.ntmps30
  go_wp2_with fail
  have h1 := Put16_any (.slice none 0 0) [] 258 w.heap.size w (World.ownsRow_nil _ _ _ _) (Nat.le_refl _) (by simp) (by omega) (by omega)
  refine h1.mono ?_
  rintro e w1 ⟨v', rfl, hown, hg⟩
  have hown2 : OwnB w1 w.heap.size v' [1, 2] := hown
  obtain ⟨A, c, e, hc, hcm, hE⟩ := own_read hown2
  subst e
  have hb := Grew.nil hg
  clear hown hown2 hg h1
  go_wp2_with fail
  have hB := elems_new w1 (size := 1) (Ls := nums .u8 [1, 2]) (nums_one _ _) #[.int .u8 1, .int .u8 2] 5 (by simp [nums])
  refine (eqByte_any _ _ _ _ _ _ [1, 2] [1, 2] _ rfl rfl (by simp [maxLen]) (hE.keep ((Below.refl _ _).alloc (Nat.le_refl _) _)) hB).mono ?_
  rintro e w2 ⟨rfl, hb2⟩
  go_wp2_with fail
  go_ret
  exact ⟨rfl, below_on hb (below_new hb2)⟩

set_option maxRecDepth 100000 in
set_option maxHeartbeats 8000000 in
theorem BeBack_walk (A A' : Option Addr) (n m c d : Nat) (l ss : List Int) (w : World) (hn : l.length = n) (hm : ss.length = m) (hnc : n ≤ c) (hmc : m ≤ d) (hc : c ≤ maxLen) (hd : d ≤ maxLen)
    (hl : Elems w A 1 (nums .u64 l)) (hs : Elems w A' 1 (nums .i64 ss)) (hrl : ∀ x ∈ l, 0 ≤ x ∧ x < 18446744073709551616) (hrs : ∀ x ∈ ss, -9223372036854775808 ≤ x ∧ x ≤ 9223372036854775807) :
    Calls Try.prog 5 #[.slice A n c, .slice A' m d] w (Pure w (.bool true)) := by
  unfold maxLen at hc hd
  by_cases h100 : 100 < n
  · clear hl hs hn hm hrl hrs
    go_enter Try.func5, Try.ntmps5
    go_wp2_with fail
    go_ret
    exact ⟨rfl, Below.refl _ _⟩
  have HN := Lib.hid hn
  have HM := Lib.hid hm
  have hd100 : decide ((100 : Int) < (n : Int)) = false := by simp; omega
  clear hn hm
  go_enter Try.func5, Try.ntmps5
  go_wp2_with fail
  go_loopw [5, 6] (fun v iv wr => ∃ i : Nat, iv = .int .i64 i ∧ i ≤ n ∧ i ≤ m ∧ OwnB wr w.heap.size v (catL l ss i) ∧ Below w.heap.size w wr) (fun _ iv _ => n - (intOf iv).toNat)
  case atStart => exact ⟨0, rfl, by omega, by omega, World.ownsRow_nil _ _ _ _, Below.refl _ _⟩
  case round =>
    obtain ⟨i, rfl, hi, him, hown, hb⟩ := hrel
    by_cases hlt : i < n ∧ i < m
    · obtain ⟨hin, himm⟩ := hlt
      have hlx : l[i]? = some (l[i]'(by rw [HN.out]; exact hin)) := List.getElem?_eq_getElem _
      have hsx : ss[i]? = some (ss[i]'(by rw [HM.out]; exact himm)) := List.getElem?_eq_getElem _
      generalize l[i]'(by rw [HN.out]; exact hin) = x at hlx
      generalize ss[i]'(by rw [HM.out]; exact himm) = s at hsx
      obtain ⟨b, o, eA, hx⟩ := hl i _ (nums_get hlx)
      obtain ⟨b', o', eA', hy⟩ := hs i _ (nums_get hsx)
      subst eA eA'
      obtain ⟨x0, x1⟩ := hrl x (List.mem_of_getElem? hlx)
      simp only [elemL, Holds.cons, Holds.nil, and_true, Nat.mul_one] at hx hy
      have hbl : b < w.heap.size := lt_of_cell hx
      have hbl' : b' < w.heap.size := lt_of_cell hy
      have hx' := (bcellB hb b (o + i) hbl).trans hx
      have hy' := (bcellB hb b' (o' + i) hbl').trans hy
      have hcat : Hid (catL l ss (i + 1) = catL l ss i ++ (if s < 1 ∨ 8 < s then [] else beL x s.toNat)) := by
        have ex : l.getD i 0 = x := by simp [List.getD, hlx]
        have es : ss.getD i 0 = s := by simp [List.getD, hsx]
        show catL l ss (i + 1) = _
        rw [catL, ex, es]
        rfl
      have hclen := catL_len l ss i
      have HP := Lib.hid fun W hW => Put_any u5 (catL l ss i) x s w.heap.size W hW
      have HLX := Lib.hid hlx
      have HSX := Lib.hid hsx
      have hBr := hb.size
      clear hlx hsx hx hy
      go_wp2_with fail
      go_region_held3 (fun w' => w'.cell? ⟨b, o + i, none⟩ = some (.int .u64 x) ∧ w'.cell? ⟨b', o' + i, none⟩ = some (.int .i64 s)) (go_keep)
        (first | (go_at_call 25; refine (HP.out wr.drew hown hBr (by omega) x0 x1).mono ?_; rintro e w1 ⟨v', rfl, hown', hga⟩; have hbx := hga.below (w := wr.drew) hown (Below.refl _ _) hBr; have hcx := bcellB hbx))
      have hown2 : OwnB w1 w.heap.size v' (catL l ss (i + 1)) := by rw [hcat.out]; exact hown'
      clear hcx hown'
      go_wp2_with fail
      go_roundw
      case rel => exact ⟨i + 1, by go_num, by omega, by omega, hown2, hb.drew.trans hbx⟩
      case measure => simp [intOf]; omega
    · have hiq : i = n ∨ (i = m ∧ i < n) := by omega
      have hclen := catL_len l ss i
      obtain ⟨B, cb, eB, hcb, hcb2, hE⟩ := own_read hown
      subst eB
      have hBin : InB B wr.heap.size := own_inB hown
      clear hown
      have hle := catL_isB l ss i
      have HR := Lib.hid fun (W : World) (g k : Nat) (bad : Bool) (size : Int) (h1 : Rd W g B (catL l ss i).length cb (k : Int) bad) h2 h3 => Num_any g B (catL l ss i).length cb k bad (catL l ss i) size W h1 h2 (by omega) hcb rfl hle h3
      have hT : (catL l ss i).length ≤ 1000000000000 := by omega
      generalize hTl : (catL l ss i).length = T at *
      have HTL := Lib.hid hTl
      clear hTl
      have hstop : (¬ i < n) ∨ (i < n ∧ ¬ i < m) := by omega
      have hEr := hE.keep ((Below.refl _ _).alloc (Nat.le_refl _) (.cells #[.slice B T cb, .int .i64 0, .bool false] 119))
      have hbW : Below w.heap.size w (wr.alloc (.cells #[.slice B T cb, .int .i64 0, .bool false] 119)) := hb.alloc hb.size _
      have hrd : Rd (wr.alloc (.cells #[.slice B T cb, .int .i64 0, .bool false] 119)) wr.heap.size B T cb 0 false := Blk.new _ _ _
      have hgs : wr.heap.size ≤ (wr.alloc (.cells #[.slice B T cb, .int .i64 0, .bool false] 119)).heap.size := by simp
      have hws := hb.size
      obtain ⟨W, hW⟩ : ∃ W, W = wr.alloc (.cells #[.slice B T cb, .int .i64 0, .bool false] 119) := ⟨_, rfl⟩
      obtain ⟨g, hg⟩ : ∃ g, g = wr.heap.size := ⟨_, rfl⟩
      have HW := Lib.hid hW
      have HG := Lib.hid hg
      rw [← hW] at hEr hbW hrd hgs
      rw [← hg] at hrd hgs hBin hws
      clear hE hW hg hb hcb2
      rcases hstop with z1 | ⟨z1, z2⟩
      all_goals
        go_wp2_with fail
        refine (New_any _ _ _ _).mono ?_
        rintro e w1 ⟨rfl, rfl⟩
        rw [← HW.out, ← HG.out]
        go_wp2_with fail
        go_loopw [8] (fun kv wi => ∃ k : Nat, kv = .int .i64 k ∧ k ≤ i ∧ Rd wi g B T cb ((catL l ss k).length : Nat) false ∧ Below g W wi) (fun kv _ => i - (intOf kv).toNat)
        case atStart => exact ⟨0, rfl, by omega, hrd, Below.refl _ _⟩
        case round =>
          obtain ⟨k, rfl, hk, hR, hbk⟩ := hrel
          by_cases hki : k < i
          ·
            have hkn : k < n := by omega
            have hkm : k < m := by omega
            have hlx : l[k]? = some (l[k]'(by rw [HN.out]; exact hkn)) := List.getElem?_eq_getElem _
            have hsx : ss[k]? = some (ss[k]'(by rw [HM.out]; exact hkm)) := List.getElem?_eq_getElem _
            generalize l[k]'(by rw [HN.out]; exact hkn) = x at hlx
            generalize ss[k]'(by rw [HM.out]; exact hkm) = s at hsx
            obtain ⟨b, o, eA, hx⟩ := hl k _ (nums_get hlx)
            obtain ⟨b', o', eA', hy⟩ := hs k _ (nums_get hsx)
            subst eA eA'
            obtain ⟨x0, x1⟩ := hrl x (List.mem_of_getElem? hlx)
            simp only [elemL, Holds.cons, Holds.nil, and_true, Nat.mul_one] at hx hy
            have hbl : b < w.heap.size := lt_of_cell hx
            have hbl' : b' < w.heap.size := lt_of_cell hy
            have hx' := (bcellB (hbW.trans (hbk.mono hws)) b (o + k) hbl).trans hx
            have hy' := (bcellB (hbW.trans (hbk.mono hws)) b' (o' + k) hbl').trans hy
            have hEk := hEr.keepB hBin hbk
            have hmono := catL_mono l ss (show k ≤ i by omega)
            rw [HTL.out] at hmono
            by_cases s1 : s < 1
            ·
              have hsk := catL_skip l ss hsx (.inl s1)
              rw [← hsk] at hR
              clear hlx hsx hx hy hsk
              go_wp2_with fail
              go_roundw
              case rel => exact ⟨k + 1, by go_num, by omega, hR, hbk⟩
              case measure => simp [intOf]; omega
            by_cases s8 : 8 < s
            ·
              have hsk := catL_skip l ss hsx (.inr s8)
              have d1 : decide (s < 1) = false := by simpa using s1
              rw [← hsk] at hR
              clear hlx hsx hx hy hsk
              go_wp2_with fail
              go_roundw
              case rel => exact ⟨k + 1, by go_num, by omega, hR, hbk⟩
              case measure => simp [intOf]; omega
            have d1 : decide (s < 1) = false := by simpa using s1
            have d8 : decide (8 < s) = false := by simpa using s8
            obtain ⟨r1, r2, r3⟩ := catL_read l ss hki hlx hsx (by omega) (by omega) x0
            have hrd : rdNum (catL l ss i) (catL l ss k).length false s = (x % 256 ^ s.toNat, (catL l ss (k + 1)).length, false) := by
              unfold rdNum
              rw [if_neg (by simp; omega), r1, r2]
            have hcall := HR.out wr g _ false s hR (by omega) hEk
            rw [hrd] at hcall
            clear hrd r1 r2 r3 hlx hsx hx hy
            by_cases s88 : s < 8
            ·
              have hp0 := pow256_pos s.toNat
              have hwp : IntKind.u64.wrap (2 ^ (8 * s).toNat) = 256 ^ s.toNat := by
                rw [show (8 * s).toNat = 8 * s.toNat from by omega, Int.pow_mul, show (2 : Int) ^ 8 = 256 from rfl]
                have h1 : (256 : Nat) ^ s.toNat ≤ 256 ^ 7 := Nat.pow_le_pow_right (by omega) (by omega)
                have h2 : ((256 ^ s.toNat : Nat) : Int) ≤ ((256 ^ 7 : Nat) : Int) := by exact_mod_cast h1
                rw [Int.natCast_pow] at h2
                have h3 : ((256 : Nat) : Int) ^ s.toNat ≤ 72057594037927936 := h2
                exact IntWalk.u64_in _ ⟨by omega, by have : ((256 : Nat) : Int) ^ s.toNat = 256 ^ s.toNat := rfl; omega⟩
              have hz0 : ¬ (256 : Int) ^ s.toNat = 0 := by omega
              have hz1 : ((256 : Int) ^ s.toNat == 0) = false := by simpa using hz0
              have HC := Lib.hid hcall
              clear hcall
              generalize (256 : Int) ^ s.toNat = P at *
              go_wp2_with fail
              refine HC.out.mono ?_
              rintro e w2 ⟨rfl, hR2, hg2⟩
              go_wp2_with fail
              go_roundw
              case rel => exact ⟨k + 1, by go_num, by omega, hR2, hbk.trans (below_of_only hg2 (Nat.le_trans hgs hbk.size))⟩
              case measure => simp [intOf]; omega
            ·
              have e8 : s.toNat = 8 := by omega
              have ex : x % 256 ^ s.toNat = x := by
                rw [e8]
                exact Int.emod_eq_of_lt x0 (by omega)
              rw [ex] at hcall
              have HC := Lib.hid hcall
              have d88 : decide (s < 8) = false := by simpa using s88
              clear hcall ex e8
              go_wp2_with fail
              refine HC.out.mono ?_
              rintro e w2 ⟨rfl, hR2, hg2⟩
              go_wp2_with fail
              go_roundw
              case rel => exact ⟨k + 1, by go_num, by omega, hR2, hbk.trans (below_of_only hg2 (Nat.le_trans hgs hbk.size))⟩
              case measure => simp [intOf]; omega
          · obtain rfl : k = i := by omega
            rw [HTL.out] at hR
            have hLf := Left_any g B T cb T false wr hR (by omega) (by omega) hT
            rw [Int.sub_self] at hLf
            have HLf := Lib.hid hLf
            clear hLf
            go_wp2_with fail
            refine HLf.out.mono ?_
            rintro e w2 ⟨rfl, hb2⟩
            have hR2 : Rd w2 g B T cb T false := Blk.keep hR hb2
            go_wp2_with fail
            refine (Bad_any g B T cb T false w2 hR2).mono ?_
            rintro e w3 ⟨rfl, rfl⟩
            go_wp2_with fail
            refine (beAlive_walk _).mono ?_
            rintro e w4 ⟨rfl, hb4⟩
            go_wp2_with fail
            go_ret
            exact ⟨rfl, below_on (below_on (hbW.trans (hbk.mono hws)) hb2) hb4⟩

theorem open_nums {k : IntKind} {H : Type} {enc : TypeId × Value → H} {P : Program} {w : World} {base : Nat} {spare : Nat → Bool} {held : Bool} {fuel : Nat} {t e : TypeId} {v : Value} {x : DataW H × List MemPlace} (ht : P.underlying t = some (.slice e)) (he : P.underlying e = some (.int k)) (hc : P.cellsOf e = 1)
    (h : DataW.trod enc P w base spare held fuel t [v] = some x) : ∃ A n c, ∃ L : List Int, v = .slice A n c ∧ L.length = n ∧ n ≤ c ∧ c ≤ maxLen ∧ Elems w A 1 (nums k L) ∧ ∀ y ∈ L, (Lit.int k y).wf = true := by
  obtain ⟨A, n, c, rfl, hle, hm, _, hel⟩ := open_elems ht hc (by omega) h
  obtain ⟨L, hl, hq⟩ := list_of (Q := fun i (y : Int) => (∃ b o, A = some ⟨b, o, none⟩ ∧ Holds w (elemL b (o + i * 1) [Value.int k y])) ∧ (Lit.int k y).wf = true) n (fun i hi => by
    obtain ⟨b, o, cs, n', y, hA, _, hh, ht⟩ := hel i hi
    obtain ⟨z, rfl, _, hw⟩ := DataW.trod_int he ht
    exact ⟨z, ⟨b, o, hA, hh⟩, hw⟩)
  refine ⟨A, n, c, L, rfl, hl, hle, hm, fun i cs hi => ?_, fun y hy => ?_⟩
  · simp only [nums, List.getElem?_map] at hi
    obtain ⟨z, hz, rfl⟩ := Option.map_eq_some_iff.1 hi
    exact (hq i z hz).1
  · obtain ⟨i, hi, rfl⟩ := List.mem_iff_getElem.1 hy
    exact (hq i _ (List.getElem?_eq_getElem hi)).2

theorem cells_u64 : Try.prog.cellsOf 48 = 1 := by kernel_rfl
theorem BeBack_open {H : Type} {enc : TypeId × Value → H} {W : World} {base : Nat} {v0 v1 : Value} {d0 d1 : DataW H} {p0 p1 : List MemPlace}
    (a0 : ArgIn enc Try.prog W base 45 v0 d0 p0) (a1 : ArgIn enc Try.prog W base 46 v1 d1 p1) :
    Calls Try.prog 5 #[v0, v1] W (Pure W (.bool true)) := by
  obtain ⟨_, _, _, f0, e0, t0⟩ := a0.slice Try.underlying45
  obtain ⟨A, n, c, l, e0', hn, hnc, hc, hl, hwl⟩ := open_nums Try.underlying45 Try.underlying48 cells_u64 t0
  obtain ⟨_, _, _, f1, e1, t1⟩ := a1.slice Try.underlying46
  obtain ⟨A', m, d, ss, e1', hm, hmd, hd, hs, hws⟩ := open_nums Try.underlying46 Try.underlying3 cells_int t1
  exact calls_args (BeBack_walk A A' n m c d l ss W hn hm hnc hmd hc hd hl hs (fun x hx => by have := bounds_u64 (hwl x hx); omega) (fun x hx => bounds_i64 (hws x hx))) (by rw [e0, e1, e0', e1'])

set_option maxRecDepth 100000 in
theorem BeBack_lifted (os : Os) (started : os.Started) (H : Type) (enc : TypeId × Value → H) :
    ReturnsInHanded {} Try.checked os 5 .any (Rows.beBackSpec.pre6 enc Try.prog Try.f5 Rows.beBackRow.domain false) (Rows.beBackSpec.post enc Try.prog Try.f5 false true false false) := by
  refine returnsInHanded_of_change (C := Try.checked) own started (by kernel_rfl) Try.func5
    (ChangeSpec.witness6 (enc := enc) (C := Try.checked) false ⟨#[], #[.slice none 0 0, .slice none 0 0], []⟩ 8 (by kernel_rfl) (by kernel_rfl) (by kernel_rfl) (by kernel_rfl)) ?_
  intro W base args ds gs before hval0 hW hcnd _
  have hval : ∀ (j : Nat) t v, Try.f5.params[j]? = some t → args[j]? = some v → Value.okWide Try.prog W .any base t v := hval0
  have hW' := hW
  obtain ⟨p, q, hA0, hV, rfl, hfz, hnd⟩ := hW
  have hA : DataW.TrodAll enc Try.prog W 0 (fun _ => true) true Try.f5.params.toList args.toList ds p := hA0
  rw [Try.params5] at hA hval
  obtain ⟨v0, vs0, d0, ds0, p0, q0, hargs, rfl, rfl, h0, r0⟩ := trodAll_cons hA
  obtain ⟨v1, vs1, d1, ds1, p1, q1, rfl, rfl, rfl, h1, r1⟩ := trodAll_cons r0
  obtain ⟨rfl, rfl, rfl⟩ := trodAll_nil r1
  obtain rfl : args = #[v0, v1] := by cases args; simp_all
  obtain ⟨rfl, rfl⟩ := trodVars_none hV
  have lt0 : ∀ x ∈ p0, x.block < W.heap.size := by obtain ⟨m, hm⟩ := h0; exact DataW.trod_lt m _ _ _ hm
  have lt1 : ∀ x ∈ p1, x.block < W.heap.size := by obtain ⟨m, hm⟩ := h1; exact DataW.trod_lt m _ _ _ hm
  clear hA0 hval0
  refine (BeBack_open ⟨hval 0 45 v0 rfl rfl, h0⟩ ⟨hval 1 46 v1 rfl rfl, h1⟩).mono fun e W' ⟨he, bel⟩ => ?_
  subst he
  exact ⟨_, rfl, _, _, _, [], _, [], hW', trodAll_mk1 (shut_bool Try.underlying4 _), (trodAll_cons_mk (Below.trod laidOut (by kernel_rfl) (of_decide_eq_true (by kernel_rfl)) h0 bel lt0) (trodAll_cons_mk (Below.trod laidOut (by kernel_rfl) (of_decide_eq_true (by kernel_rfl)) h1 bel lt1) trodAll_mk0)), rfl, bel.frame _, fun h => by cases h⟩

theorem BeBack_holds : Rows.BeBackSaid :=
  OpenClaim.holds_of_wide 5 Try.f5 rfl rfl rfl rfl rfl rfl rfl ⟨rfl, rfl, rfl, rfl, rfl⟩ rfl rfl rfl rfl rfl (by kernel_rfl) Try.func5 (by kernel_rfl)
    (of_decide_eq_true (by kernel_rfl)) (by unfold Func.isWrapper; rw [if_neg (of_decide_eq_false (by kernel_rfl))]; exact ⟨rfl, rfl⟩)
    (fun os started H enc _ => BeBack_lifted os started H enc)
#print axioms BeBack_holds
end Go.Proofs.Ytnbokpfkcfhgbaa
