/- Walks of the reference's Put and Num, of be's Get16, Get32, and of slices.Clone of bytes. -/
import Derived.Test.YtnbokpfkcfhgbaaReader
import Derived.Lib.SliceRun
import Derived.Laws.MakeOwn
namespace Go.Proofs.Ytnbokpfkcfhgbaa
open Go Go.RowKit
attribute [local go_sem ↓] Go.wp_at_zero Go.wp_at_succ

/-- New memory that holds just these bytes. -/
def NewB (w : World) (L : List Int) (e : Ending) (w' : World) : Prop := ∃ v', e = .returned v' ∧ OwnB w' w.heap.size v' L ∧ Below w.heap.size w w'
theorem nums_map (k : IntKind) (L : List Int) : (nums k L).flatten = L.map (Value.int k) := nums_flat k L
theorem own_appS {w : World} {B n m : Nat} {v : Value} {L M : List Int} (h : w.ownsRow B 5 1 v (n + m) (L.map (Value.int .u8) ++ (nums .u8 M).flatten)) (hn : L.length = n) (hm : M.length = m) : OwnB w B v (L ++ M) := by
  rw [nums_flat] at h
  exact own_len h (by omega)

theorem elems_nil_of {w : World} {size : Nat} {xs : List (List Value)} (h : Elems w none size xs) : xs = [] := by
  cases xs with
  | nil => rfl
  | cons x xs =>
    obtain ⟨b, o, e, _⟩ := h 0 x rfl
    cases e

set_option maxHeartbeats 1000000 in
theorem cloneB_any (A : Option Addr) (n c : Nat) (L : List Int) (w : World) (hn : L.length = n) (hl : n ≤ 1000000000000) (hA : Elems w A 1 (nums .u8 L)) :
    Calls Try.prog 39 #[.slice A n c] w (NewB w L) := by
  have hnil := fun W : World => Lib.run_eql_slice_nil (P := Try.prog) W 27 5 A n c 0 0 Try.underlying27
  cases A with
  | none =>
    have e := elems_nil_of hA
    have e2 : L = [] := by
      cases L with
      | nil => rfl
      | cons x L => simp [nums] at e
    subst e2
    clear e hA hn
    go_enter Try.func39, Try.ntmps39
    go_wp2_with fail
    go_ret
    exact ⟨_, rfl, World.ownsRow_nil _ _ _ _, Below.refl _ _⟩
  | some ad =>
    have hx1 : 0 + n ≤ maxLen := by unfold maxLen; omega
    have hx2 : (0 + n) * 1 ≤ 140737488355328 := by omega
    have hN : (nums .u8 L).length = n := by rw [nums_length]; exact hn
    have HN := Lib.hid hN
    have HL := Lib.hid hn
    have own0 := World.ownsRow_lit (base := w.heap.size) (e := 5) (size := 1) w #[] 0 (Nat.le_refl _) (by simp [maxLen]) rfl
    have hA1 := hA.keep ((Below.refl _ _).alloc (Nat.le_refl _) (.cells #[] 5))
    clear hN hn
    go_enter Try.func39, Try.ntmps39
    go_wp2_with (at_builtin; refine wpList_appS rfl _ _ _ rfl w.heap.size 5 _ 1 1 ei_byte _ 0 _ (by rfl) own0 (some ad) n c (nums .u8 L) rfl hA1 HN.out (nums_one _ _) (nums_cells_one _ _) hx1 hx2 (by simp) ?_; intro v' wa hown' hga)
    go_ret
    exact ⟨v', rfl, own_appS (L := []) hown' rfl HL.out, hga.below own0 ((Below.refl _ _).alloc (Nat.le_refl _) _) (by simp)⟩

set_option maxHeartbeats 1000000 in
theorem refNum_any (A : Option Addr) (n c : Nat) (L : List Int) (w : World) (hn : L.length = n) (hl : n ≤ 8) (hB : IsB L) (hA : Elems w A 1 (nums .u8 L)) :
    Calls Try.prog 43 #[.slice A n c] w fun e w' => e = .returned (.int .u64 (numL L)) ∧ w = w' := by
  have HN := Lib.hid hn
  clear hn
  go_enter Try.func43, Try.ntmps43
  go_wp2
  go_loop [3, 4] (fun nv iv => ∃ k : Nat, k ≤ n ∧ iv = .int .i64 k ∧ nv = .int .u64 (numL (L.take k))) (fun _ iv => n - (intOf iv).toNat)
  case atStart => exact ⟨0, by omega, rfl, rfl⟩
  case round =>
    obtain ⟨k, hk, rfl, rfl⟩ := hrel
    by_cases hks : k < n
    · have hx : L[k]? = some (L[k]'(by rw [HN.out]; omega)) := List.getElem?_eq_getElem _
      generalize L[k]'(by rw [HN.out]; omega) = x at hx
      obtain ⟨b', o', eA, hh⟩ := hA k _ (nums_get hx)
      subst eA
      obtain ⟨x0, x1⟩ := hB.get hx
      simp only [elemL, Holds.cons, Holds.nil, and_true, Nat.mul_one] at hh
      have hlk : (L.take k).length = k := by simp [HN.out]; omega
      obtain ⟨q0, q1⟩ := numL_range k _ hlk (hB.take k)
      rw [hlk] at q1
      have q2 : (256 : Int) ^ k ≤ 72057594037927936 := by
        have h1 : (256 : Nat) ^ k ≤ 256 ^ 7 := Nat.pow_le_pow_right (by omega) (by omega)
        have h2 : ((256 ^ k : Nat) : Int) ≤ ((256 ^ 7 : Nat) : Int) := by exact_mod_cast h1
        rw [Int.natCast_pow] at h2
        exact h2
      have hsn : Hid (L.take (k + 1) = L.take k ++ [x]) := by
        rw [List.take_add_one, hx]
        simp [Hid]
      have HX := Lib.hid hx
      clear hx hlk
      have hnx : Hid (numL (L.take (k + 1)) = 256 * numL (L.take k) + x) := by rw [hsn.out]; exact numL_snoc _ _
      generalize numL (L.take k) = m at *
      have hwr : IntKind.u64.wrap (IntKind.u64.wrap (256 * m) + x) = 256 * m + x := by
        rw [IntWalk.u64_in (256 * m) (by omega)]
        exact IntWalk.u64_in _ (by omega)
      have hwr2 : IntKind.u64.wrap (256 * m) = 256 * m := IntWalk.u64_in _ (by omega)
      have hwr3 : IntKind.u64.wrap (256 * m + x) = 256 * m + x := IntWalk.u64_in _ (by omega)
      clear q2
      go_wp2_with fail
      go_round
      case rel => exact ⟨k + 1, by omega, by go_num, by rw [hnx.out]⟩
      case measure => simp [intOf]; omega
    · obtain rfl : k = n := by omega
      have ht : L.take k = L := List.take_of_length_le (by rw [HN.out]; exact Nat.le_refl _)
      rw [ht]
      clear ht
      go_wp2
      go_ret
      exact ⟨rfl, rfl⟩

set_option maxHeartbeats 1000000 in
theorem Get16_any (A : Option Addr) (n c : Nat) (L : List Int) (w : World) (hn : L.length = n) (hnc : n ≤ c) (hm : n ≤ 1000000000000) (hB : IsB L) (hA : Elems w A 1 (nums .u8 L)) :
    Calls Try.prog 44 #[.slice A n c] w (Pure w (.int .u16 (if n < 2 then 0 else numL (L.take 2)))) := by
  by_cases h2 : n < 2
  · have e : Hid ((if n < 2 then 0 else numL (L.take 2)) = 0) := if_pos h2
    rw [e.out]
    clear hn
    go_enter Try.func44, Try.ntmps44
    go_wp2
    go_ret
    exact ⟨rfl, Below.refl _ _⟩
  · have e : Hid ((if n < 2 then 0 else numL (L.take 2)) = numL (L.take 2)) := if_neg h2
    rw [e.out]
    match L, hn with
    | [], hn => simp at hn; omega
    | [_], hn => simp at hn; omega
    | x :: y :: M, hn =>
      obtain ⟨x0, x1⟩ := hB x (by simp)
      obtain ⟨y0, y1⟩ := hB y (by simp)
      obtain ⟨b, o, eA, h0⟩ := hA 0 _ (nums_get (x := x) rfl)
      subst eA
      obtain ⟨b', o', eA', h1⟩ := hA 1 _ (nums_get (x := y) rfl)
      cases eA'
      have hor := u16_join x y x0 x1 y0 y1
      have hfin : Hid (numL ((x :: y :: M).take 2) = 256 * x + y) := by simp [Hid, numL]
      rw [hfin.out]
      have hp0 : (0 : Int) < (n : Int) := by omega
      have hp1 : (1 : Int) < (n : Int) := by omega
      have hL := Holds.append h0 h1
      simp only [Nat.zero_mul, Nat.one_mul, Nat.add_zero] at hL
      clear hn hA h0 h1
      go_enter Try.func44, Try.ntmps44
      go_wp2
      refine wp_region_calm _ hL (by kernel_rfl) (by kernel_rfl) (fun hS => ?_)
      simp only [elemL, List.cons_append, List.nil_append, Holds.cons, Holds.nil, and_true, Nat.add_zero] at hS
      repeat (go_big_quiet_step ((fail)))
      refine wpQuiet_nil ?_
      clear hS
      intro w1 hb1 hS1
      simp only [elemL, List.cons_append, List.nil_append, Holds.cons, Holds.nil, and_true, Nat.add_zero] at hS1
      go_wp2
      go_ret
      exact ⟨rfl, hb1⟩

theorem calm_val {P : Program} {f : FuncId} {args : Array Value} {w : World} {e : More} {v v' : Value} (h : Calls P f args (ext w e) (Pure (ext w e) v)) (hv : v = v') :
    Calls P f args (ext w e) fun en w'' => en = .returned v' ∧ ∃ e2, w'' = ext w e2 := hv ▸ calm_of h

set_option maxHeartbeats 1000000 in
theorem Get32_any (A : Option Addr) (n c : Nat) (L : List Int) (w : World) (hn : L.length = n) (hnc : n ≤ c) (hm : n ≤ 1000000000000) (hB : IsB L) (hA : Elems w A 1 (nums .u8 L)) :
    Calls Try.prog 45 #[.slice A n c] w (Pure w (.int .u32 (if n < 4 then 0 else numL (L.take 4)))) := by
  by_cases h4 : n < 4
  · have e : Hid ((if n < 4 then 0 else numL (L.take 4)) = 0) := if_pos h4
    rw [e.out]
    clear hn
    go_enter Try.func45, Try.ntmps45
    go_wp2
    go_ret
    exact ⟨rfl, Below.refl _ _⟩
  · have e : Hid ((if n < 4 then 0 else numL (L.take 4)) = numL (L.take 4)) := if_neg h4
    rw [e.out]
    have hlt : ∀ k, k ≤ 4 → (L.take k).length = k := fun k hk => by simp [hn]; omega
    obtain ⟨a0, a1⟩ := numL_range 2 (L.take 2) (hlt 2 (by omega)) (hB.take 2)
    have hl2 : ((L.drop 2).take 2).length = 2 := by simp [hn]; omega
    obtain ⟨b0, b1⟩ := numL_range 2 ((L.drop 2).take 2) hl2 ((hB.drop 2).take 2)
    rw [hlt 2 (by omega)] at a1
    rw [hl2] at b1
    have hsp : Hid (numL (L.take 4) = 65536 * numL (L.take 2) + numL ((L.drop 2).take 2)) := by
      show _ = _
      match L, hn with
      | [], hn => simp at hn; omega
      | [_], hn => simp at hn; omega
      | [_, _], hn => simp at hn; omega
      | [_, _, _], hn => simp at hn; omega
      | x :: y :: z :: t :: M, hn => simp [numL]; omega
    have hcut := hA.cut (cap := c) (k := 2) (by rw [nums_length]; omega)
    have hdl : (L.drop 2).length = n - 2 := by simp [hn]
    have hnd : (nums .u8 L).drop 2 = nums .u8 (L.drop 2) := by simp [nums]
    rw [hnd] at hcut
    have hc2 : ¬ c = 2 := by omega
    rw [if_neg hc2] at hcut
    have g1 := fun W hW => Get16_any A n c L W hn hnc hm hB hW
    have g2 := fun W hW => Get16_any (A.map (·.add (2 * 1))) (n - 2) (c - 2) (L.drop 2) W hdl (by omega) (by omega) (hB.drop 2) hW
    rw [if_neg (by omega)] at g1 g2
    rw [hsp.out]
    generalize numL (L.take 2) = p at *
    generalize numL ((L.drop 2).take 2) = q at *
    have hor := u32_join p q a0 (by simpa using a1) b0 (by simpa using b1)
    have h1 : ∀ e, Calls Try.prog 44 #[.slice A n c] (ext w e) (Pure (ext w e) (.int .u16 p)) := fun e => g1 _ (hA.keep (below_ext w e))
    have h2 : ∀ e, Calls Try.prog 44 #[.slice (A.map (·.add 2)) (n - 2) (c - 2)] (ext w e) (Pure (ext w e) (.int .u16 q)) := fun e => g2 _ (hcut.keep (below_ext w e))
    have hwr : IntKind.u32.wrap (p * 65536) = p * 65536 := IntWalk.u32_in _ (by omega)
    have hp2 : (2 : Int) ≤ (n : Int) := by omega
    have HH1 := Lib.hid h1
    have HH2 := Lib.hid h2
    clear g1 g2 h1 h2 hcut hn hsp hdl hnd hlt hl2 e hA
    go_enter Try.func45, Try.ntmps45
    go_wp2
    refine wp_region_calm [] (by simp [Holds.nil]) (by kernel_rfl) (by kernel_rfl) (fun _ => ?_)
    repeat (go_big_quiet_step ((first | (go_at_call_of 44 (Value.slice A n c); exact calm_of (HH1.out _)) | (go_at_call 44; exact calm_of (HH2.out _)))))
    refine wpQuiet_nil ?_
    intro w1 hb1 _
    go_wp2
    go_ret
    exact ⟨rfl, hb1⟩

theorem set_beL (n : Int) {s i : Nat} (hi : i < s) : ((List.replicate (s - i) (0 : Int)) ++ beL n i).set (s - 1 - i) (n / 256 ^ i % 256) = List.replicate (s - (i + 1)) 0 ++ beL n (i + 1) := by
  obtain ⟨d, rfl⟩ : ∃ d, s = d + 1 + i := ⟨s - 1 - i, by omega⟩
  rw [show d + 1 + i - i = d + 1 from by omega, show d + 1 + i - 1 - i = d from by omega, show d + 1 + i - (i + 1) = d from by omega, List.replicate_succ', List.append_assoc, List.set_append_right _ _ (by simp)]
  simp [beL]

set_option maxRecDepth 100000 in
set_option maxHeartbeats 4000000 in
theorem refPut_any (A : Option Addr) (k c : Nat) (L : List Int) (n size : Int) (w : World) (hk : L.length = k) (hl : k ≤ 1000000000) (hA : Elems w A 1 (nums .u8 L)) (h0 : 0 ≤ n) (h1 : n < 18446744073709551616) :
    Calls Try.prog 40 #[.slice A k c, .int .u64 n, .int .i64 size] w (NewB w (L ++ if size < 1 ∨ 8 < size then [] else beL n size.toNat)) := by
  have hx1 : 0 + k ≤ maxLen := by unfold maxLen; omega
  have hx2 : (0 + k) * 1 ≤ 140737488355328 := by omega
  have HN := Lib.hid (show (nums .u8 L).length = k by rw [nums_length]; exact hk)
  have HL := Lib.hid hk
  have own0 := World.ownsRow_lit (base := w.heap.size) (e := 5) (size := 1) w #[] 0 (Nat.le_refl _) (by simp [maxLen]) rfl
  have hA1 := hA.keep ((Below.refl _ _).alloc (Nat.le_refl _) (.cells #[] 5))
  clear hk
  by_cases hs : size < 1 ∨ 8 < size
  · have e : Hid ((if size < 1 ∨ 8 < size then [] else beL n size.toNat) = []) := if_pos hs
    rw [e.out, List.append_nil]
    rcases hs with hs | hs
    · go_enter Try.func40, Try.ntmps40
      go_wp2_with (at_builtin; refine wpList_appS rfl _ _ _ rfl w.heap.size 5 _ 1 1 ei_byte _ 0 _ (by rfl) own0 A k c (nums .u8 L) rfl hA1 HN.out (nums_one _ _) (nums_cells_one _ _) hx1 hx2 (by simp) ?_; intro v' wa hown' hga)
      go_ret
      exact ⟨v', rfl, own_appS (L := []) hown' rfl HL.out, hga.below own0 ((Below.refl _ _).alloc (Nat.le_refl _) _) (by simp)⟩
    · have hd : decide (size < 1) = false := by simp; omega
      go_enter Try.func40, Try.ntmps40
      go_wp2_with (at_builtin; refine wpList_appS rfl _ _ _ rfl w.heap.size 5 _ 1 1 ei_byte _ 0 _ (by rfl) own0 A k c (nums .u8 L) rfl hA1 HN.out (nums_one _ _) (nums_cells_one _ _) hx1 hx2 (by simp) ?_; intro v' wa hown' hga)
      go_ret
      exact ⟨v', rfl, own_appS (L := []) hown' rfl HL.out, hga.below own0 ((Below.refl _ _).alloc (Nat.le_refl _) _) (by simp)⟩
  · have e : Hid ((if size < 1 ∨ 8 < size then [] else beL n size.toNat) = beL n size.toNat) := if_neg hs
    rw [e.out]
    obtain ⟨s, rfl⟩ : ∃ s : Nat, size = s := ⟨size.toNat, by omega⟩
    have hd1 : decide ((s : Int) < 1) = false := by simp; omega
    have hd8 : decide ((8 : Int) < (s : Int)) = false := by simp; omega
    rw [show (s : Int).toNat = s from rfl]
    obtain ⟨i0, hi0, hz0, hz1, hz2⟩ := ei_byte.info
    have hb2 : i0.bytes * s ≤ 281474976710656 := by rw [hz2]; omega
    have hb3 : s ≤ maxLen := by unfold maxLen; omega
    have hrepl : Hid ((madeCells (Value.int IntKind.u8 0).cells (s * 1)).toList = (List.replicate s (0 : Int)).map (Value.int .u8)) := by
      show _ = _
      rw [Nat.mul_one, show (Value.int IntKind.u8 0).cells = #[Value.int IntKind.u8 0] from rfl, toList_madeCells_one]
      simp
    go_enter Try.func40, Try.ntmps40
    go_wp2_with (first
      | (at_builtin; refine wpList_appS rfl _ _ _ rfl w.heap.size 5 _ 1 1 ei_byte _ 0 _ (by rfl) own0 A k c (nums .u8 L) rfl hA1 HN.out (nums_one _ _) (nums_cells_one _ _) hx1 hx2 (by simp) ?_; intro v' wa hown' hga; have hbwa : Below w.heap.size w wa := hga.below own0 ((Below.refl _ _).alloc (Nat.le_refl _) _) (by simp))
      | (at_make; refine wpList_make_full _ rfl _ _ _ rfl w.heap.size 5 i0 _ 1 Try.underlying27 hi0 hz0 hz1 _ _ _ _ s (by rfl) (by rfl) rfl rfl hb2 hb3 hbwa.size ?_; intro wb hownT hgb))
    have hownL : OwnB wa w.heap.size v' L := own_appS (L := []) hown' rfl HL.out
    clear hown' hga own0 hA1
    have hne : v'.ownBlock ≠ some wa.heap.size := fun e => by have := (hownL.lt _ e).2; omega
    have hbwb : Below w.heap.size w wb := hbwa.grown hgb hbwa.size (by intro k hk; cases hk)
    have hbab : Below wa.heap.size wa wb := ⟨hgb.os, hgb.tape, hgb.output, hgb.size, fun k hk => hgb.block k hk (by simp)⟩
    have hownLb : OwnB wb w.heap.size v' L := own_below hownL hbab
    have hwaw := hbwa.size
    have hgab := hgb.size
    obtain ⟨g, hg⟩ : ∃ g, g = wa.heap.size := ⟨_, rfl⟩
    rw [hrepl.out, ← hg] at hownT
    rw [← hg]
    rw [← hg] at hne hwaw
    clear hbwa hownL hgb hbab hgab hg
    go_loopw [1, 9] (fun nv iv wr => ∃ i : Nat, i ≤ s ∧ iv = .int .i64 i ∧ nv = .int .u64 (n / 256 ^ i) ∧ wr.ownsRow w.heap.size 5 1 (.slice (some ⟨g, 0, none⟩) s s) s ((List.replicate (s - i) (0 : Int) ++ beL n i).map (Value.int .u8)) ∧ OwnB wr w.heap.size v' L ∧ Below w.heap.size w wr) (fun _ iv _ => s - (intOf iv).toNat)
    case atStart => exact ⟨0, by omega, rfl, by simp, by simpa [beL] using hownT, hownLb, hbwb⟩
    case round =>
      clear hownT hownLb hbwb
      obtain ⟨i, hi, rfl, rfl, hownT, hownL, hb⟩ := hrel
      by_cases his : i < s
      · have hp := pow256_pos i
        have hN0 : 0 ≤ n / 256 ^ i := Int.ediv_nonneg h0 (by omega)
        have hN1 : n / 256 ^ i ≤ n := Int.ediv_le_self _ h0
        have hN2 : n / 256 ^ (i + 1) = n / 256 ^ i / 256 := by rw [Int.pow_succ, Int.ediv_ediv_of_nonneg (by omega)]
        have hset := set_beL n his
        have HN2 := Lib.hid hN2
        have HSET := Lib.hid hset
        have hcell := hownT.cellAt (s - 1 - i) (by omega)
        have hfroz := hownT.frozenAt (s - 1 - i)
        have hzero : ((List.replicate (s - i) (0 : Int) ++ beL n i).map (Value.int .u8))[s - 1 - i]? = some (.int .u8 0) := by
          rw [List.getElem?_map, List.getElem?_append_left (by simp; omega), List.getElem?_replicate, if_pos (by omega)]
          rfl
        rw [hzero] at hcell
        clear hN2 hset hzero
        generalize n / 256 ^ i = N at *
        go_wp2_with fail
        go_roundw
        case rel =>
          have hst := hownT.stored (s - 1 - i) (.int .u8 (N % 256))
          rw [← List.map_set, HSET.out] at hst
          exact ⟨i + 1, by omega, by go_num, by rw [HN2.out], hst.1, hownL.kept hst.2 (.inr hne), hb.setCell (p := ⟨g, s - 1 - i, none⟩) hwaw _⟩
        case measure => simp [intOf]; omega
      · obtain rfl : i = s := by omega
        rw [Nat.sub_self] at hownT
        have hownT2 : wr.ownsRow w.heap.size 5 1 (.slice (some ⟨g, 0, none⟩) i i) i (nums .u8 (beL n i)).flatten := by
          rw [nums_flat]
          simpa using hownT
        obtain ⟨A', c', e', _, _, hE⟩ := own_elems hownT2 (nums_one _ _) (by rw [nums_length, beL_len])
        cases e'
        have HBL := Lib.hid (show (nums .u8 (beL n i)).length = i by rw [nums_length, beL_len])
        have hy1 : L.length + i ≤ maxLen := by unfold maxLen; rw [HL.out]; omega
        have hy2 : (L.length + i) * 1 ≤ 140737488355328 := by rw [HL.out]; omega
        clear hownT hownT2
        go_wp2_with (at_builtin; refine wpList_appS rfl _ _ _ rfl w.heap.size 5 _ 1 1 ei_byte _ L.length _ (by rfl) hownL (some ⟨g, 0, none⟩) i i (nums .u8 (beL n i)) rfl hE HBL.out (nums_one _ _) (nums_cells_one _ _) hy1 hy2 hb.size ?_; intro v2 w2 hown2 hg2)
        go_ret
        exact ⟨v2, rfl, own_appS hown2 rfl (beL_len n i), hg2.below hownL hb hb.size⟩
end Go.Proofs.Ytnbokpfkcfhgbaa
